/-
  Predict: longer times leave no less.
-/
import Derived.Test.YtokeielgplbdeaaZ6E1
set_option linter.all false
namespace Go.Proofs.Ytokeielgplbdeaa
open Go.K Go.M
structure Longer (T : Nat) (ts ts' : List af) : Prop where
 l : ∀ t, t < T → (ts.getD t af.z).1 ≤ (ts'.getD t af.z).1
 g : ∀ t, t < T → (ts.getD t af.z).2.1 ≤ (ts'.getD t af.z).2.1
 o : ∀ t, t < T → opT ts' t = opT ts t
section
variable {n : c9} {m : List Int} {M : Nat} {σ : p2} {N g : Nat} {nE : List Eg} {c : Mk} {ts ts' : List af}
structure MoreOK (a b : af) : Prop where
 l : a.1 ≤ b.1
 o : a.2.2.1 = true → b.2.2.1 = true
 g : a.2.2.1 = false → b.2.2.1 = false → a.2.1 ≤ b.2.1
end
end Go.Proofs.Ytokeielgplbdeaa
