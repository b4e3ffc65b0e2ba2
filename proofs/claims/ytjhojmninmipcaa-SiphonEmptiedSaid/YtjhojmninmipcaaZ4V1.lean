/-
  Sorting rows of numbers: the order, arrays and lists, insertion and heap.
-/
import Derived.Sort.AssemblyPlain
import Derived.Test.YtjhojmninmipcaaZ4Md
import Derived.Test.YtjhojmninmipcaaZ4KE
set_option linter.all false
namespace Go.Proofs.Ytjhojmninmipcaa
open Go.K Go.M
abbrev Rw:Type:=List (List Int)
def ltL:List Int→List Int→Bool
 | _, [] => false
 | [], _ :: _ => true
 | a :: l, b :: m => if a=b then ltL l m else decide (a < b)
def Sh (d:Rw):Prop:=∀ i,(d.getD i []).length≤1000000
theorem q113 {d d':Rw} {a b:Nat} (hp:Sort.PermIn a b d.toArray d'.toArray):d'.length=d.length:=by
 have:=hp.1
 simpa using this
end Go.Proofs.Ytjhojmninmipcaa
