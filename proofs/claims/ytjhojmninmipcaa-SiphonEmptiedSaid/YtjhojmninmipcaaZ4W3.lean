/-
  Siphon: Minimal as the program gives it; the reference's bits and order.
-/
import Derived.Test.YtjhojmninmipcaaZ4W2
set_option linter.all false
namespace Go.Proofs.Ytjhojmninmipcaa
open Go.K Go.M
end Go.Proofs.Ytjhojmninmipcaa
