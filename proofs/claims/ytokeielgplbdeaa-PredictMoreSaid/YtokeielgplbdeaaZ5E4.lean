/-
  Predict: runs along walks, and their times.
-/
import Derived.Test.YtokeielgplbdeaaZ5E2
set_option linter.all false
namespace Go.Proofs.Ytokeielgplbdeaa
open Go.K Go.M
section
variable {n : dr} {m : List Int} {M : Nat} {σ : qq} {N g : Nat} {nE : List Eg} {c : Mk}
theorem GG.edge(h:GG n m M σ N g nE c){e:Eg}(he:e∈nE):kq (trA n e.2.2) (dj σ e.1)=true∧da (trA n e.2.2) (dj σ e.1)=dj σ e.2.1:=by
 rw[h.eE]at he;obtain⟨x,hx,hxe⟩:=List.mem_map.1 (show e∈σ.2.2.map fun x=>(x.1.toNat,x.2.1.toNat,x.2.2.1.toNat)from he);obtain⟨a,b,t,rfl,h1,h2,h3,h4,h5⟩:=h.ok.mv x hx;subst hxe;simp only[mvA,Int.toNat_natCast];exact⟨h4,h5⟩
theorem GG.mark(h:GG n m M σ N g nE c){i:Nat}(hi:i<N):dg n.1 (dj σ i)=true:=h.ok.sp.mks _ (ba [] (by rw[←h.eN];exact hi))
end
end Go.Proofs.Ytokeielgplbdeaa
