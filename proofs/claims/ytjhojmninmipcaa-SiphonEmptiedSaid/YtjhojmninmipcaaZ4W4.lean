/-
  Siphon: Minimal as the reference gives it; the law SiphonMinimal.
-/
import Derived.Test.YtjhojmninmipcaaZ4W3
set_option linter.all false
namespace Go.Proofs.Ytjhojmninmipcaa
open Go.K Go.M
end Go.Proofs.Ytjhojmninmipcaa
