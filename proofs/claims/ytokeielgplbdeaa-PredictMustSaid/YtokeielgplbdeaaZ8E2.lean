/-
  Predict: longer times leave no less.
-/
import Derived.Test.YtokeielgplbdeaaZ8E1
set_option linter.all false
namespace Go.Proofs.Ytokeielgplbdeaa
open Go.K Go.M
structure Longer (T : Nat) (ts ts' : List af) : Prop where
 l : ∀ t, t < T → (ts.getD t af.z).1 ≤ (ts'.getD t af.z).1
 g : ∀ t, t < T → (ts.getD t af.z).2.1 ≤ (ts'.getD t af.z).2.1
 o : ∀ t, t < T → opT ts' t = opT ts t
section
variable {n : cj} {m : List Int} {M : Nat} {σ : pb} {N g : Nat} {nE : List Eg} {c : Mk} {ts ts' : List af}
theorem ja5{d:p0}{TT:Nat}{v:xf}(hd:DistOK σ N g nE c TT ts false d)(h0:d 0=some v){l:List Eg}(hl:tj (fun e=>e∈nE) 0 l g):v.1≤wtL (kd ts false) l:=by
 obtain⟨v',h1,h2⟩:=hd.opt 0 _ (qaq hl);rw[h0]at h1;cases h1;unfold leV sg at h2;simp at h2;omega
theorem jkb{d:p0}{TT:Nat}{v:xf}(hd:DistOK σ N g nE c TT ts true d)(h0:d 0=some v){l:List Eg}(hl:tj (fun e=>e∈nE) 0 l g):wtL (kd ts true) l≤v.1:=by
 obtain⟨v',h1,h2⟩:=hd.opt 0 _ (qaq hl);rw[h0]at h1;cases h1;unfold leV sg at h2;simp at h2;omega
theorem q30{d:p0}{TT:Nat}{v:xf}{sl:Bool}(hd:DistOK σ N g nE c TT ts sl d)(h0:d 0=some v):∃l,tj (fun e=>e∈nE) 0 l g∧v.1=wtL (kd ts sl) l:=by
 obtain⟨l,h1,h2⟩:=qfb (hd.snd 0 v h0);exact⟨l,h1,congrArg (fun x:xf=>x.1) h2⟩
structure MoreOK (a b : af) : Prop where
 l : a.1 ≤ b.1
 o : a.2.2.1 = true → b.2.2.1 = true
 g : a.2.2.1 = false → b.2.2.1 = false → a.2.1 ≤ b.2.1
end
end Go.Proofs.Ytokeielgplbdeaa
