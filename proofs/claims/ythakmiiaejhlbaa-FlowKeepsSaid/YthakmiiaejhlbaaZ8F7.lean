/-
  Flow: the reference's elimination is elimE too.
-/
import Derived.Test.YthakmiiaejhlbaaZ8F6
set_option linter.all false
namespace Go.Proofs.Ythakmiiaejhlbaa
open Go.K Go.M
end Go.Proofs.Ythakmiiaejhlbaa
