/-
  Roles: counting bits.
-/
import Derived.Test.YtmlfmeffjodhmaaZ8S6
import Derived.KernelRfl
set_option linter.all false
namespace Go.Proofs.Ytmlfmeffjodhmaa
open Go.K Go.M
def pc (x : Nat) : Nat := (elems x 12).length
def onesOk (x : Nat) : Bool := match bits_OnesCount64 (x : Int) with | some y => decide (y = (pc x : Int)) | none => false
def allTo (f : Nat → Bool) : Nat → Bool
  | 0 => true
  | n + 1 => f n && allTo f n
theorem allTo_at {f : Nat → Bool} : ∀ {n : Nat}, allTo f n = true → ∀ x, x < n → f x = true
  | n + 1, h, x, hx => by
    simp only [allTo, Bool.and_eq_true] at h
    rcases Nat.lt_or_ge x n with h' | h'
    · exact allTo_at h.2 x h'
    · obtain rfl : x = n := by omega
      exact h.1
theorem ones_check : allTo onesOk 4096 = true := by kernel_rfl
theorem ones_eq (x : Nat) (h : x < 4096) : bits_OnesCount64 (x : Int) = some (pc x : Int) := by
  have := allTo_at ones_check x h
  unfold onesOk at this
  split at this
  · rename_i y e
    rw [e, of_decide_eq_true this]
  · cases this
end Go.Proofs.Ytmlfmeffjodhmaa
