/-
  Sorting rows of numbers: broken patterns, the rounds, the whole.
-/
import Derived.Test.YthakmiiaejhlbaaZ6V4
import Derived.KernelRfl
set_option linter.all false
namespace Go.Proofs.Ythakmiiaejhlbaa
open Go.K Go.M
def allN (f:Nat→Bool):Nat→Bool
 | 0 => true
 | n + 1 => f n&&allN f n
theorem q11m {f:Nat→Bool}:∀ {n:Nat},allN f n=true→∀ x,x < n→f x=true
 | n + 1, h, x, hx => by
   simp only [allN,Bool.and_eq_true] at h
   rcases Nat.lt_or_ge x n with h' | h'
   · exact q11m h.2 x h'
   · obtain rfl:x=n:=by omega
     exact h.1
def tabOk (B:ByteArray) (q:Nat):Bool:=decide (((ByteArray.data B).getD q 0).toNat≤8)&&(decide (q=0)||decide (2 ^ ((ByteArray.data B).getD q 0).toNat≤2*q))
theorem q13v:allN (tabOk bytes0) 256=true:=by kernel_rfl
theorem tab_at (q:Nat) (h:q < 256):((ByteArray.data bytes0).getD q 0).toNat≤8∧(1≤q→2 ^ ((ByteArray.data bytes0).getD q 0).toNat≤2*q):=by
 have:=q11m q13v q h
 generalize bytes0=B at this ⊢
 unfold tabOk at this
 simp only [Bool.and_eq_true,Bool.or_eq_true,decide_eq_true_eq] at this
 exact ⟨this.1,fun h1=>this.2.resolve_left (by omega)⟩
end Go.Proofs.Ythakmiiaejhlbaa
