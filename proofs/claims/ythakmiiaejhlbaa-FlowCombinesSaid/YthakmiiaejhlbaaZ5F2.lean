/-
  Flow: markings, firing, the reversed net.
-/
import Derived.Test.YthakmiiaejhlbaaZ5F1
set_option linter.all false
namespace Go.Proofs.Ythakmiiaejhlbaa
open Go.K Go.M
theorem filt_f {α:Type} {p:α→Bool} {x:α} (h:p x=false):[x].filter p=[]:=by rw [List.filter_cons,h]; rfl
theorem filt_t {α:Type} {p:α→Bool} {x:α} (h:p x=true):[x].filter p=[x]:=by rw [List.filter_cons,h]; rfl
def tokB (k:Int):Bool:=decide (k < 0)||decide (100 < k)
def markB (N:Int) (m:List Int):Bool:=decide ((m.length:Int)=N)&&!m.any tokB
structure Fired (n:Net) (m:List Int) (t:Trans) (x:List Int):Prop where
 mem:t∈n.2.1
 can:∀ p∈t.2.1,1≤m.getD p.toNat 0
 len:x.length=m.length
 at_:∀ q:Nat,x.getD q 0=m.getD q 0+(if (q:Int)∈t.2.1 then -1 else 0)+(if (q:Int)∈t.2.2.1 then 1 else 0)
 mark:markB n.1 x=true
end Go.Proofs.Ythakmiiaejhlbaa
