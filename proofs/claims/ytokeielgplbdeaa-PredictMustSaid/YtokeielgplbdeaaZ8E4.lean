/-
  Predict: runs along walks, and their times.
-/
import Derived.Test.YtokeielgplbdeaaZ8E2
set_option linter.all false
namespace Go.Proofs.Ytokeielgplbdeaa
open Go.K Go.M
section
variable {n : cj} {m : List Int} {M : Nat} {σ : pb} {N g : Nat} {nE : List Eg} {c : Mk}
theorem GG.edge(h:GG n m M σ N g nE c){e:Eg}(he:e∈nE):jm (oi n e.2.2) (c7 σ e.1)=true∧ca (oi n e.2.2) (c7 σ e.1)=c7 σ e.2.1:=by
 rw[h.eE]at he;obtain⟨x,hx,hxe⟩:=List.mem_map.1 (show e∈σ.2.2.map fun x=>(x.1.toNat,x.2.1.toNat,x.2.2.1.toNat)from he);obtain⟨a,b,t,rfl,h1,h2,h3,h4,h5⟩:=h.ok.mv x hx;subst hxe;simp only[mvA,Int.toNat_natCast];exact⟨h4,h5⟩
theorem GG.mark(h:GG n m M σ N g nE c){i:Nat}(hi:i<N):c8 n.1 (c7 σ i)=true:=h.ok.sp.mks _ (aw [] (by rw[←h.eN];exact hi))
end
abbrev jk0(ts:List af)(l:List Eg):Bool:=l.any fun e=>opT ts e.2.2
end Go.Proofs.Ytokeielgplbdeaa
