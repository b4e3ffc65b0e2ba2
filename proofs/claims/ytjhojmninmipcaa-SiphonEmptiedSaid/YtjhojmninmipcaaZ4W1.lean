/-
  Siphon: sets of places as bits.
-/
import Derived.Test.YtjhojmninmipcaaZ4U4
import Derived.Test.YtjhojmninmipcaaZ4V6
set_option linter.all false
namespace Go.Proofs.Ytjhojmninmipcaa
open Go.K Go.M
end Go.Proofs.Ytjhojmninmipcaa
