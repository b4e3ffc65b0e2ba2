/-
  Flow: the reference's invariants; FlowInvariants.
-/
import Derived.Test.YthakmiiaejhlbaaZ6F7
set_option linter.all false
namespace Go.Proofs.Ythakmiiaejhlbaa
open Go.K Go.M
structure OutOK (n:Nat) (r:Rw×Int):Prop where
 len:r.1.length≤1000
 row:∀ x∈r.1,x.length=n∧∀ i,0≤x.getD i 0∧x.getD i 0≤1048576
 err:r.2≠0→r.1=[]
end Go.Proofs.Ythakmiiaejhlbaa
