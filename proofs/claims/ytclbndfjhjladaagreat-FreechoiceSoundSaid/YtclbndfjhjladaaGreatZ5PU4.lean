/-
  Siphon: names, lists of places, nets: the program and the reference reckon alike.
-/
import Derived.Test.YtclbndfjhjladaaGreatZ5PQ8
set_option linter.all false
namespace Go.Proofs.YtclbndfjhjladaaGreat
open Go.K Go.M
def qnp(a b:List Int):Bool:=a.any fun p=>dj b p
end Go.Proofs.YtclbndfjhjladaaGreat
set_option linter.all false
namespace Go.Proofs.YtclbndfjhjladaaGreat
open Go.K Go.M
def jyx(t:ae)(trap:Bool):List Int:=bif trap then t.2.1 else t.2.2.1
def jyy(t:ae)(trap:Bool):List Int:=bif trap then t.2.2.1 else t.2.1
def q09(trap:Bool)(l:List Int)(t:ae):Bool:=qnp (jyx t trap) l&& !qnp (jyy t trap) l
def q3w(ts:List ae)(trap:Bool)(l:List Int):Bool:= !ts.any (q09 trap l)
structure SmallT (ts : List ae) : Prop where
 trans : ts.length ≤ 100
 ins : ∀ t ∈ ts, t.2.1.length ≤ 60
 outs : ∀ t ∈ ts, t.2.2.1.length ≤ 60
theorem Small.T{n:bp}(h:Small n):SmallT n.2.1:=⟨h.trans,h.ins,h.outs⟩
theorem SmallT.a{ts:List ae}(h:SmallT ts){t:ae}(ht:t∈ts)(trap:Bool):(jyx t trap).length≤60:=by
 cases trap
 ·exact h.outs t ht
 ·exact h.ins t ht
theorem SmallT.b{ts:List ae}(h:SmallT ts){t:ae}(ht:t∈ts)(trap:Bool):(jyy t trap).length≤60:=by
 cases trap
 ·exact h.ins t ht
 ·exact h.outs t ht
def xd(ts:List ae)(trap:Bool)(W:List Int):Prop:=q3w ts trap W=true
theorem qfo{a b:List Int}:qnp a b=true↔∃p,p∈a∧p∈b:=by
 unfold qnp;rw[List.any_eq_true];constructor
 ·rintro⟨p,hp,h⟩;exact⟨p,hp,f9.1 h⟩
 ·rintro⟨p,hp,h⟩;exact⟨p,hp,f9.2 h⟩
theorem qs8{ts:List ae}{trap:Bool}{W:List Int}:xd ts trap W↔∀t∈ts,(∃p,p∈jyx t trap∧p∈W)→∃p,p∈jyy t trap∧p∈W:=by
 unfold xd q3w;rw[Bool.not_eq_true',List.any_eq_false];constructor
 ·intro h t ht hA;have:=h t ht;unfold q09 at this;rw[Bool.and_eq_true,Bool.not_eq_true',not_and]at this;have h2:=this (qfo.2 hA);exact qfo.1 (by simpa using h2)
 ·intro h t ht hc;unfold q09 at hc;rw[Bool.and_eq_true,Bool.not_eq_true']at hc;have:=qfo.2 (h t ht (qfo.1 hc.1));rw[hc.2]at this;cases this
end Go.Proofs.YtclbndfjhjladaaGreat
set_option linter.all false
namespace Go.Proofs.YtclbndfjhjladaaGreat
open Go.K Go.M
end Go.Proofs.YtclbndfjhjladaaGreat
set_option linter.all false
namespace Go.Proofs.YtclbndfjhjladaaGreat
open Go.K Go.M
def jiy(k:Int):Bool:=decide (k<0)||decide (100<k)
def mt(N:Int)(m:List Int):Bool:=decide ((m.length:Int)=N)&& !m.any jiy
theorem sr{N:Int}{m:List Int}:mt N m=true↔(m.length:Int)=N∧∀i,i<m.length→0≤m.getD i 0∧m.getD i 0≤100:=by
 unfold mt;rw[Bool.and_eq_true,decide_eq_true_eq,Bool.not_eq_true',List.any_eq_false];constructor
 ·rintro⟨h1,h2⟩;refine⟨h1,fun i hi=> ?_⟩;have:=h2 _ (au 0 hi);unfold jiy at this;simp only[Bool.or_eq_true,decide_eq_true_eq,not_or]at this;omega
 ·rintro⟨h1,h2⟩;refine⟨h1,fun x hx=> ?_⟩;obtain⟨i,hi,rfl⟩:=t8 0 hx;have:=h2 i hi;unfold jiy;simp only[Bool.or_eq_true,decide_eq_true_eq,not_or];omega
theorem qsy(n:bp)(m:List Int)(hm:m.length≤1000000):wh n m=some (mt n.1 m):=by
 have hL:qnt m 0=some (bif m.any jiy then .inr false else .inl ()):=by
  refine na m 0 jiy false (by omega) (fun i hi=> ?_) ?_
  ·unfold jiy;simp(disch:=omega)only[uz,rs];rw[ah];cases decide (m.getD i 0<0)<;>cases decide (100<m.getD i 0)<;>rfl
  ·simp(disch:=omega)only[uz,rs]
 unfold wh mt;rw[hL];cases decide ((m.length:Int)=n.1)<;>cases m.any jiy<;>rfl
theorem qms{n:bp}(hv:ck n=true){t:ae}(ht:t∈n.2.1):qor n.1 t.2.1=true∧qor n.1 t.2.2.1=true:=by
 unfold ck at hv;simp only[Bool.and_eq_true,Bool.not_eq_true']at hv;have:=List.any_eq_false.1 hv.1.1.2 t ht;unfold q1y at this;simp only[Bool.or_eq_true,Bool.not_eq_true',not_or,Bool.not_eq_false]at this;exact⟨this.1.2,this.2⟩
def qd4(t:ae)(m:List Int):Bool:= !t.2.1.any fun p=>decide (m.getD p.toNat 0=0)
end Go.Proofs.YtclbndfjhjladaaGreat
