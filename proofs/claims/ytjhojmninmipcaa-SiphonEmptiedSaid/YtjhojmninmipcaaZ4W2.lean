/-
  Siphon: the minimal siphons as the program finds them.
-/
import Derived.Test.YtjhojmninmipcaaZ4W1
set_option linter.all false
namespace Go.Proofs.Ytjhojmninmipcaa
open Go.K Go.M
end Go.Proofs.Ytjhojmninmipcaa
