/-
  Flow: the program's elimination is elimE.
-/
import Derived.Test.YthakmiiaejhlbaaZ6F3
set_option linter.all false
namespace Go.Proofs.Ythakmiiaejhlbaa
open Go.K Go.M
end Go.Proofs.Ythakmiiaejhlbaa
