/-
  Sorting rows of numbers: partial insertion, the pivot, broken patterns.
-/
import Derived.Test.YtjhojmninmipcaaZ4V3
import Derived.KernelRfl
set_option linter.all false
namespace Go.Proofs.Ytjhojmninmipcaa
open Go.K Go.M
end Go.Proofs.Ytjhojmninmipcaa
