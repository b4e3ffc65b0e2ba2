/-
  Sorting rows of numbers: the partitions, partial insertion.
-/
import Derived.Test.YtjhojmninmipcaaZ4V2
set_option linter.all false
namespace Go.Proofs.Ytjhojmninmipcaa
open Go.K Go.M
end Go.Proofs.Ytjhojmninmipcaa
