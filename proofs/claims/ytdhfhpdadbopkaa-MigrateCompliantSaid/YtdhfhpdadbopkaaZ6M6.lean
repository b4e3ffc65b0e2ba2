/-
  Migrate: certificates go together.
-/
import Derived.Test.YtdhfhpdadbopkaaZ6M5
set_option linter.all false
namespace Go.Proofs.Ytdhfhpdadbopkaa
open Go.K Go.M
end Go.Proofs.Ytdhfhpdadbopkaa
