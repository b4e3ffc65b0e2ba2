/-
  Siphon: Commoner; the law SiphonCommoner.
-/
import Derived.Test.YtdhfhpdadbopkaaZ6U4
set_option linter.all false
namespace Go.Proofs.Ytdhfhpdadbopkaa
open Go.K Go.M
def enN(n:az)(m:List Int)(i:Nat):List Nat:=(List.range i).filter fun j=>qs9 (n.2.1.getD j af.z) m
def enL(n:az)(m:List Int):List Int:=(enN n m n.2.1.length).map fun(j:Nat)=>(j:Int)
end Go.Proofs.Ytdhfhpdadbopkaa
