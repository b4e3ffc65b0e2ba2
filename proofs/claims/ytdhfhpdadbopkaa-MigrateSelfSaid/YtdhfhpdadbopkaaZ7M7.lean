/-
  Migrate: nothing is lost by a change with a certificate.
-/
import Derived.Test.YtdhfhpdadbopkaaZ7M6
set_option linter.all false
namespace Go.Proofs.Ytdhfhpdadbopkaa
open Go.K Go.M
abbrev Ms:Type:=List (List Int)
def qme(l:Ms)(y:List Int):Bool:=l.any fun z=>decide (y=z)
def us(l:Ms)(y:List Int):Ms:=bif qme l y then l else l++[y]
theorem qjz{l:Ms}{y:List Int}:qme l y=true↔y∈l:=by
 unfold qme;rw[List.any_eq_true];constructor
 ·rintro⟨z,hz,h⟩;rw[of_decide_eq_true h];exact hz
 ·intro h;exact⟨y,h,decide_eq_true rfl⟩
theorem qpd{l:Ms}{y z:List Int}:z∈us l y↔z∈l∨z=y:=by
 unfold us;cases h:qme l y with
 |true=>
  have:=qjz.1 h;constructor
  ·exact .inl
  ·rintro(h|rfl)
   ·exact h
   ·exact this
 |false=>simp[List.mem_append]
theorem q5g(l:Ms)(y:List Int):(us l y).length≤l.length+1:=by
 unfold us;cases qme l y<;>simp
theorem q9l(l:Ms)(y:List Int):l.length≤(us l y).length:=by
 unfold us;cases qme l y<;>simp
theorem q9k(l:Ms)(y:List Int){i:Nat}(hi:i<l.length):(us l y).getD i []=l.getD i []:=by
 unfold us;cases qme l y with
 |true=>rfl
 |false=>
  show(l++[y]).getD i []=_;rw[List.getD_eq_getElem?_getD,List.getD_eq_getElem?_getD,List.getElem?_append_left hi]
def pp{α:Type}(c:α→Bool)(g:α→List Int)(o:Ms)(ts:List α):Ms:=ts.foldl (fun o t=>bif c t then us o (g t)else o) o
theorem q1k{α:Type}(c:α→Bool)(g:α→List Int)(o:Ms)(ts:List α)(t:α):pp c g o (ts++[t])=bif c t then us (pp c g o ts) (g t)else pp c g o ts:=by
 unfold pp;rw[List.foldl_append];rfl
theorem qf{α:Type}{c:α→Bool}{g:α→List Int}{z:List Int}:∀{ts:List α} {o:Ms},z∈pp c g o ts↔z∈o∨∃t∈ts,c t=true∧z=g t
 |[],o=>by simp[pp]
 |t::ts,o=>by
  have e:pp c g o (t::ts)=pp c g (bif c t then us o (g t)else o) ts:=rfl;rw[e,qf];cases h:c t with
  |true=>
   rw[cond_true,qpd];simp only[List.mem_cons,exists_eq_or_imp,h,true_and,or_assoc]
  |false=>simp[h]
theorem qba{α:Type}(c:α→Bool)(g:α→List Int):∀(ts:List α) (o:Ms),(pp c g o ts).length≤o.length+ts.length
 |[],o=>by simp[pp]
 |t::ts,o=>by
  have e:pp c g o (t::ts)=pp c g (bif c t then us o (g t)else o) ts:=rfl;have h1:=qba c g ts (bif c t then us o (g t)else o);have h2:=q5g o (g t);rw[e];cases h:c t with
  |true=>rw[h,cond_true]at h1;simp only[List.length_cons,cond_true];omega
  |false=>rw[h,cond_false]at h1;simp only[List.length_cons,cond_false];omega
theorem q9j{α:Type}(c:α→Bool)(g:α→List Int):∀(ts:List α) (o:Ms),o.length≤(pp c g o ts).length∧∀i,i<o.length→(pp c g o ts).getD i []=o.getD i []
 |[],o=>⟨Nat.le_refl _,fun _ _=>rfl⟩
 |t::ts,o=>by
  have e:pp c g o (t::ts)=pp c g (bif c t then us o (g t)else o) ts:=rfl;obtain⟨h1,h2⟩:=q9j c g ts (bif c t then us o (g t)else o);have h3:=q9l o (g t);rw[e];cases h:c t with
  |true=>
   rw[h,cond_true]at h1 h2;exact⟨by rw[cond_true];omega,fun i hi=>by rw[cond_true,h2 i (by omega),q9k _ _ hi]⟩
  |false=>rw[h,cond_false]at h1 h2;exact⟨h1,h2⟩
def rv(n:az)(l:Ms):Prop:=∀m∈l,bu n.1 m=true
end Go.Proofs.Ytdhfhpdadbopkaa
