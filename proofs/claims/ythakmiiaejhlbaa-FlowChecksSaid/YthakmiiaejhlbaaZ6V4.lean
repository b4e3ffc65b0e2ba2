/-
  Sorting rows of numbers: partial insertion, the pivot, broken patterns.
-/
import Derived.Test.YthakmiiaejhlbaaZ6V3
import Derived.KernelRfl
set_option linter.all false
namespace Go.Proofs.Ythakmiiaejhlbaa
open Go.K Go.M
end Go.Proofs.Ythakmiiaejhlbaa
