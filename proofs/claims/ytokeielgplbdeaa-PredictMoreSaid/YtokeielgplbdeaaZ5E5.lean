/-
  Predict: Ends.
-/
import Derived.Test.YtokeielgplbdeaaZ5E4
set_option linter.all false
namespace Go.Proofs.Ytokeielgplbdeaa
open Go.K Go.M
end Go.Proofs.Ytokeielgplbdeaa
