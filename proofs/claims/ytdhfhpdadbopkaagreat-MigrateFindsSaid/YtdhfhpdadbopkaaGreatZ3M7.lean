/-
  Migrate: nothing is lost by a change with a certificate.
-/
import Derived.Test.YtdhfhpdadbopkaaGreatZ3M6
set_option linter.all false
namespace Go.Proofs.YtdhfhpdadbopkaaGreat
open Go.K Go.M
abbrev Ms:Type:=List (List Int)
def qkk(l:Ms)(y:List Int):Bool:=l.any fun z=>decide (y=z)
def zx(l:Ms)(y:List Int):Ms:=bif qkk l y then l else l++[y]
theorem jhu{l:Ms}{y:List Int}:qkk l y=true↔y∈l:=by
 unfold qkk;rw[List.any_eq_true];constructor
 ·rintro⟨z,hz,h⟩;rw[of_decide_eq_true h];exact hz
 ·intro h;exact⟨y,h,decide_eq_true rfl⟩
theorem jg3{l:Ms}{y z:List Int}:z∈zx l y↔z∈l∨z=y:=by
 unfold zx;cases h:qkk l y with
 |true=>
  have:=jhu.1 h;constructor
  ·exact .inl
  ·rintro(h|rfl)
   ·exact h
   ·exact this
 |false=>simp[List.mem_append]
theorem jg2(l:Ms)(y:List Int):(zx l y).length≤l.length+1:=by
 unfold zx;cases qkk l y<;>simp
theorem jjp(l:Ms)(y:List Int):l.length≤(zx l y).length:=by
 unfold zx;cases qkk l y<;>simp
theorem jjo(l:Ms)(y:List Int){i:Nat}(hi:i<l.length):(zx l y).getD i []=l.getD i []:=by
 unfold zx;cases qkk l y with
 |true=>rfl
 |false=>
  show(l++[y]).getD i []=_;rw[List.getD_eq_getElem?_getD,List.getD_eq_getElem?_getD,List.getElem?_append_left hi]
def mt{α:Type}(c:α→Bool)(g:α→List Int)(o:Ms)(ts:List α):Ms:=ts.foldl (fun o t=>bif c t then zx o (g t)else o) o
theorem qm6{α:Type}(c:α→Bool)(g:α→List Int)(o:Ms)(ts:List α)(t:α):mt c g o (ts++[t])=bif c t then zx (mt c g o ts) (g t)else mt c g o ts:=by
 unfold mt;rw[List.foldl_append];rfl
theorem qh{α:Type}{c:α→Bool}{g:α→List Int}{z:List Int}:∀{ts:List α} {o:Ms},z∈mt c g o ts↔z∈o∨∃t∈ts,c t=true∧z=g t
 |[],o=>by simp[mt]
 |t::ts,o=>by
  have e:mt c g o (t::ts)=mt c g (bif c t then zx o (g t)else o) ts:=rfl;rw[e,qh];cases h:c t with
  |true=>
   rw[cond_true,jg3];simp only[List.mem_cons,exists_eq_or_imp,h,true_and,or_assoc]
  |false=>simp[h]
theorem ni{α:Type}(c:α→Bool)(g:α→List Int):∀(ts:List α) (o:Ms),(mt c g o ts).length≤o.length+ts.length
 |[],o=>by simp[mt]
 |t::ts,o=>by
  have e:mt c g o (t::ts)=mt c g (bif c t then zx o (g t)else o) ts:=rfl;have h1:=ni c g ts (bif c t then zx o (g t)else o);have h2:=jg2 o (g t);rw[e];cases h:c t with
  |true=>rw[h,cond_true]at h1;simp only[List.length_cons,cond_true];omega
  |false=>rw[h,cond_false]at h1;simp only[List.length_cons,cond_false];omega
theorem jdp{α:Type}(c:α→Bool)(g:α→List Int):∀(ts:List α) (o:Ms),o.length≤(mt c g o ts).length∧∀i,i<o.length→(mt c g o ts).getD i []=o.getD i []
 |[],o=>⟨Nat.le_refl _,fun _ _=>rfl⟩
 |t::ts,o=>by
  have e:mt c g o (t::ts)=mt c g (bif c t then zx o (g t)else o) ts:=rfl;obtain⟨h1,h2⟩:=jdp c g ts (bif c t then zx o (g t)else o);have h3:=jjp o (g t);rw[e];cases h:c t with
  |true=>
   rw[h,cond_true]at h1 h2;exact⟨by rw[cond_true];omega,fun i hi=>by rw[cond_true,h2 i (by omega),jjo _ _ hi]⟩
  |false=>rw[h,cond_false]at h1 h2;exact⟨h1,h2⟩
def qv(n:a7)(l:Ms):Prop:=∀m∈l,bq n.1 m=true
end Go.Proofs.YtdhfhpdadbopkaaGreat
