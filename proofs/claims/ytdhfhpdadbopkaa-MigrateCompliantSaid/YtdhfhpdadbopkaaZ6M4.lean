/-
  Migrate: which pair is the first one that is not as a simulation asks; the law MigrateSimulates.
-/
import Derived.Test.YtdhfhpdadbopkaaZ6M3
set_option linter.all false
namespace Go.Proofs.Ytdhfhpdadbopkaa
open Go.K Go.M
def PM(old new:az)(l:List Pr):Prop:=∀p∈l,fa old.1 p.1=true∧fa new.1 p.2.1=true
end Go.Proofs.Ytdhfhpdadbopkaa
