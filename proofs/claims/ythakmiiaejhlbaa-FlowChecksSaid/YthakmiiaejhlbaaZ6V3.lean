/-
  Sorting rows of numbers: the partitions, partial insertion.
-/
import Derived.Test.YthakmiiaejhlbaaZ6V2
set_option linter.all false
namespace Go.Proofs.Ythakmiiaejhlbaa
open Go.K Go.M
end Go.Proofs.Ythakmiiaejhlbaa
