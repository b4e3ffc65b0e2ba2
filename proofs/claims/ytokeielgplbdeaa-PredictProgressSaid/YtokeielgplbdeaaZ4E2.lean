/-
  Predict: longer times leave no less.
-/
import Derived.Test.YtokeielgplbdeaaZ4E1
set_option linter.all false
namespace Go.Proofs.Ytokeielgplbdeaa
open Go.K Go.M
structure Longer (T : Nat) (ts ts' : List af) : Prop where
 l : ∀ t, t < T → (ts.getD t af.z).1 ≤ (ts'.getD t af.z).1
 g : ∀ t, t < T → (ts.getD t af.z).2.1 ≤ (ts'.getD t af.z).2.1
 o : ∀ t, t < T → opT ts' t = opT ts t
section
variable {n : c8} {m : List Int} {M : Nat} {σ : ox} {N g : Nat} {nE : List Eg} {c : Mk} {ts ts' : List af}
theorem q73{d:pp}{TT:Nat}{v:wi}(hd:DistOK σ N g nE c TT ts false d)(h0:d 0=some v){l:List Eg}(hl:sw (fun e=>e∈nE) 0 l g):v.1≤tz (gg ts false) l:=by
 obtain⟨v',h1,h2⟩:=hd.opt 0 _ (qaa hl);rw[h0]at h1;cases h1;unfold leV sg at h2;simp at h2;omega
theorem jhf{d:pp}{TT:Nat}{v:wi}(hd:DistOK σ N g nE c TT ts true d)(h0:d 0=some v){l:List Eg}(hl:sw (fun e=>e∈nE) 0 l g):tz (gg ts true) l≤v.1:=by
 obtain⟨v',h1,h2⟩:=hd.opt 0 _ (qaa hl);rw[h0]at h1;cases h1;unfold leV sg at h2;simp at h2;omega
theorem q1g{d:pp}{TT:Nat}{v:wi}{sl:Bool}(hd:DistOK σ N g nE c TT ts sl d)(h0:d 0=some v):∃l,sw (fun e=>e∈nE) 0 l g∧v.1=tz (gg ts sl) l:=by
 obtain⟨l,h1,h2⟩:=qe3 (hd.snd 0 v h0);exact⟨l,h1,congrArg (fun x:wi=>x.1) h2⟩
structure MoreOK (a b : af) : Prop where
 l : a.1 ≤ b.1
 o : a.2.2.1 = true → b.2.2.1 = true
 g : a.2.2.1 = false → b.2.2.1 = false → a.2.1 ≤ b.2.1
end
end Go.Proofs.Ytokeielgplbdeaa
