/-
  Sorting rows of numbers: the heap; reversing.
-/
import Derived.Test.YthakmiiaejhlbaaZ6V1
set_option linter.all false
namespace Go.Proofs.Ythakmiiaejhlbaa
open Go.K Go.M
end Go.Proofs.Ythakmiiaejhlbaa
