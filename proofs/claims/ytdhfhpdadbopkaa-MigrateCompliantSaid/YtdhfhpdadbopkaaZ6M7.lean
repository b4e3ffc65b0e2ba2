/-
  Migrate: nothing is lost by a change with a certificate.
-/
import Derived.Test.YtdhfhpdadbopkaaZ6M6
set_option linter.all false
namespace Go.Proofs.Ytdhfhpdadbopkaa
open Go.K Go.M
abbrev Ms:Type:=List (List Int)
def qxx(n:az)(l:Ms):Prop:=∀m∈l,fa n.1 m=true
end Go.Proofs.Ytdhfhpdadbopkaa
