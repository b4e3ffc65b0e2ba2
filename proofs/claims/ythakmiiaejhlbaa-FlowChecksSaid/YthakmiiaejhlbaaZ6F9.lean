/-
  Flow: which places are covered; the law FlowInvariants.
-/
import Derived.Test.YthakmiiaejhlbaaZ6F8
set_option linter.all false
namespace Go.Proofs.Ythakmiiaejhlbaa
open Go.K Go.M
end Go.Proofs.Ythakmiiaejhlbaa
