/-
  Flow: sums of products, bounds; the law FlowBounds.
-/
import Derived.Test.YthakmiiaejhlbaaZ5F9
set_option linter.all false
namespace Go.Proofs.Ythakmiiaejhlbaa
open Go.K Go.M
theorem qxk {f:Nat→Int} {b:Int} (hb:0≤b) {n i:Nat} (hi:i≤n) (h:∀ k,k < n → -b≤f k∧f k≤b) : -((n:Int)*b)≤sumN f i∧sumN f i≤(n:Int)*b:=by
 have h1:=qpq i fun k hk=>h k (by omega)
 have h2:(i:Int)*b≤(n:Int)*b:=Int.mul_le_mul_of_nonneg_right (by omega) hb
 omega
end Go.Proofs.Ythakmiiaejhlbaa
