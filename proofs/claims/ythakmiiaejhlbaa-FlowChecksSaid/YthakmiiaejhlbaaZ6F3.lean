/-
  Flow: the program's elimination, step by step.
-/
import Derived.Test.YthakmiiaejhlbaaZ6V6
import Derived.Test.YthakmiiaejhlbaaZ6F2
import Derived.Test.YthakmiiaejhlbaaZ6X5
set_option linter.all false
namespace Go.Proofs.Ythakmiiaejhlbaa
open Go.K Go.M
def mdE (S:List RowE):Rw:=S.map fun r=>r.2
end Go.Proofs.Ythakmiiaejhlbaa
