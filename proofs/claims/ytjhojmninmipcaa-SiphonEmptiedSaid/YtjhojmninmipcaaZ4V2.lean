/-
  Sorting rows of numbers: the heap; reversing.
-/
import Derived.Test.YtjhojmninmipcaaZ4V1
set_option linter.all false
namespace Go.Proofs.Ytjhojmninmipcaa
open Go.K Go.M
end Go.Proofs.Ytjhojmninmipcaa
