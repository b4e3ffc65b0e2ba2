/-
  Flow: the program's elimination of a column.
-/
import Derived.Test.YthakmiiaejhlbaaZ6F4
set_option linter.all false
namespace Go.Proofs.Ythakmiiaejhlbaa
open Go.K Go.M
end Go.Proofs.Ythakmiiaejhlbaa
