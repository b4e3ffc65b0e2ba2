/-
  Flow: Places and Transitions of the program.
-/
import Derived.Test.YthakmiiaejhlbaaZ6F5
set_option linter.all false
namespace Go.Proofs.Ythakmiiaejhlbaa
open Go.K Go.M
def bigL (l:List Int):Bool:=l.any fun k=>decide (1048576 < k)
def resE (d:Rw):Rw×Int:=bif decide (1000 < d.length) then ([],5) else bif (srt d).any bigL then ([],6) else (srt d,0)
def AP (n:Net) (p j:Nat):Int:=incB (n.2.1.getD j Trans.z) (p:Int)
def plE (n:Net):List RowE:=elimsE n.1.toNat n.2.1.length (startE n.1.toNat n.2.1.length (AP n))
def largeB (n:Net):Bool:=decide (20 < n.1)||decide (20 < n.2.1.length)
def outP (n:Net):Rw×Int:=bif !validN n then ([],1) else bif largeB n then ([],5) else resE (mdE (plE n))
def FewN (n:Net):Prop:=(n.1≤12∧n.2.1.length≤14)∨20 < n.1∨20 < n.2.1.length
theorem qhn {n:Net} (hv:validN n=true):1≤n.1∧n.1≤40∧n.2.1.length≤60:=by
 unfold validN at hv
 simp only [Bool.and_eq_true,decide_eq_true_eq] at hv
 omega
end Go.Proofs.Ythakmiiaejhlbaa
