/-
  slices.SortFunc by the library's contract, at this program's numbers.
-/
import Derived.Shelf.SlSortCmp.NoneTotal
import Derived.KernelRfl
import Derived.Test.YtemahcdcacmgdaaGreatDoorChecked
set_option linter.all false
namespace Go.Proofs.YtemahcdcacmgdaaGreatDoor
open Go.Shelf Go.RowKit
def j3l:Ren:=⟨fun|6=>106|14=>158|15=>159|20=>194|21=>195|22=>196|23=>197|24=>198|25=>199|26=>200|27=>201|28=>202|29=>203|46=>219|47=>220|48=>221|49=>222|50=>223|57=>231|n=>n,fun|22=>28|24=>25|25=>91|39=>128|45=>230|46=>231|50=>71|53=>158|55=>238|66=>257|70=>261|76=>269|77=>95|n=>n,fun n=>n⟩
theorem brs{P:Program}{f:Nat}{F B:Func}(h:P.funcs[f]? =some F)(hn:(F.name== "runtime.NumGoroutine")=false:=by kernel_rfl)(e:F={B with name:=F.name}:=by kernel_rfl):Bears P f B:=⟨F.name,hn,h.trans (congrArg some e)⟩
theorem brf{P:Program}{f:Nat}{F B:Func}(h:P.funcs[f]? =some F)(e:F=B:=by kernel_rfl):P.funcs[f]? =some B:=h.trans (congrArg some e)
theorem juq:SlLaysF.n6 Tryz.prog j3l:=⟨by kernel_rfl,brs Tryz.func106,brs Tryz.func158,brf Tryz.func159,brs Tryz.func194,brs Tryz.func195,brs Tryz.func196,brs Tryz.func197,brs Tryz.func198,brs Tryz.func199,brs Tryz.func200,brs Tryz.func201,brf Tryz.func202,brf Tryz.func203,brs Tryz.func219,brf Tryz.func220,brf Tryz.func221,brs Tryz.func222,brs Tryz.func223,brs Tryz.func231,Tryz.underlying0,Tryz.isAgg0,Tryz.sizeOf0,Tryz.zeroValue0,Tryz.underlying3,Tryz.isAgg3,Tryz.sizeOf3,Tryz.zeroValue3,Tryz.underlying4,Tryz.isAgg4,Tryz.sizeOf4,Tryz.zeroValue4,Tryz.underlying5,Tryz.isAgg5,Tryz.sizeOf5,Tryz.zeroValue5,Tryz.underlying9,Tryz.isAgg9,Tryz.sizeOf9,Tryz.zeroValue9,Tryz.underlying28,Tryz.isAgg28,Tryz.sizeOf28,Tryz.zeroValue28,Tryz.isAgg25,Tryz.sizeOf25,Tryz.underlying91,Tryz.isAgg91,Tryz.sizeOf91,Tryz.zeroValue91,Tryz.underlying128,Tryz.isAgg128,Tryz.sizeOf128,Tryz.zeroValue128,Tryz.underlying230,Tryz.isAgg230,Tryz.sizeOf230,Tryz.zeroValue230,Tryz.underlying231,Tryz.isAgg231,Tryz.sizeOf231,Tryz.zeroValue231,Tryz.underlying71,Tryz.isAgg71,Tryz.sizeOf71,Tryz.zeroValue71,Tryz.underlying158,Tryz.isAgg158,Tryz.sizeOf158,Tryz.zeroValue158,Tryz.underlying238,Tryz.isAgg238,Tryz.sizeOf238,Tryz.zeroValue238,Tryz.underlying257,Tryz.isAgg257,Tryz.sizeOf257,Tryz.zeroValue257,Tryz.underlying261,Tryz.isAgg261,Tryz.sizeOf261,Tryz.zeroValue261,Tryz.underlying269,Tryz.isAgg269,Tryz.sizeOf269,Tryz.zeroValue269,Tryz.underlying95,Tryz.isAgg95,Tryz.sizeOf95,Tryz.zeroValue95⟩
end Go.Proofs.YtemahcdcacmgdaaGreatDoor
