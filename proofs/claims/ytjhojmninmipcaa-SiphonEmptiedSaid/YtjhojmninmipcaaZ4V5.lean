/-
  Sorting rows of numbers: broken patterns, the rounds, the whole.
-/
import Derived.Test.YtjhojmninmipcaaZ4V4
import Derived.KernelRfl
set_option linter.all false
namespace Go.Proofs.Ytjhojmninmipcaa
open Go.K Go.M
end Go.Proofs.Ytjhojmninmipcaa
