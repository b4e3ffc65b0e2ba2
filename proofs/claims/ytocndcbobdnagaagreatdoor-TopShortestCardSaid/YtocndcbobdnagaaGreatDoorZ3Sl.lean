/-
  slices.SortFunc by the library's contract, at this program's numbers.
-/
import Derived.Shelf.SlSortCmp.NoneTotal
import Derived.KernelRfl
import Derived.Test.YtocndcbobdnagaaGreatDoorChecked
set_option linter.all false
namespace Go.Proofs.YtocndcbobdnagaaGreatDoor
open Go.Shelf Go.RowKit
def zas:Ren:=⟨fun|6=>142|14=>210|15=>211|20=>248|21=>249|22=>250|23=>251|24=>252|25=>253|26=>254|27=>255|28=>256|29=>257|46=>270|47=>271|48=>272|49=>273|50=>274|57=>280|n=>n,fun|22=>54|24=>27|25=>218|39=>246|45=>307|46=>308|50=>90|53=>216|55=>293|66=>321|70=>325|76=>331|77=>114|n=>n,fun n=>n⟩
theorem brs{P:Program}{f:Nat}{F B:Func}(h:P.funcs[f]? =some F)(hn:(F.name== "runtime.NumGoroutine")=false:=by kernel_rfl)(e:F={B with name:=F.name}:=by kernel_rfl):Bears P f B:=⟨F.name,hn,h.trans (congrArg some e)⟩
theorem brf{P:Program}{f:Nat}{F B:Func}(h:P.funcs[f]? =some F)(e:F=B:=by kernel_rfl):P.funcs[f]? =some B:=h.trans (congrArg some e)
theorem j0b:SlLaysF.n6 Tryz.prog zas:=⟨by kernel_rfl,brs Tryz.func142,brs Tryz.func210,brf Tryz.func211,brs Tryz.func248,brs Tryz.func249,brs Tryz.func250,brs Tryz.func251,brs Tryz.func252,brs Tryz.func253,brs Tryz.func254,brs Tryz.func255,brf Tryz.func256,brf Tryz.func257,brs Tryz.func270,brf Tryz.func271,brf Tryz.func272,brs Tryz.func273,brs Tryz.func274,brs Tryz.func280,Tryz.underlying0,Tryz.isAgg0,Tryz.sizeOf0,Tryz.zeroValue0,Tryz.underlying3,Tryz.isAgg3,Tryz.sizeOf3,Tryz.zeroValue3,Tryz.underlying4,Tryz.isAgg4,Tryz.sizeOf4,Tryz.zeroValue4,Tryz.underlying5,Tryz.isAgg5,Tryz.sizeOf5,Tryz.zeroValue5,Tryz.underlying9,Tryz.isAgg9,Tryz.sizeOf9,Tryz.zeroValue9,Tryz.underlying54,Tryz.isAgg54,Tryz.sizeOf54,Tryz.zeroValue54,Tryz.isAgg27,Tryz.sizeOf27,Tryz.underlying218,Tryz.isAgg218,Tryz.sizeOf218,Tryz.zeroValue218,Tryz.underlying246,Tryz.isAgg246,Tryz.sizeOf246,Tryz.zeroValue246,Tryz.underlying307,Tryz.isAgg307,Tryz.sizeOf307,Tryz.zeroValue307,Tryz.underlying308,Tryz.isAgg308,Tryz.sizeOf308,Tryz.zeroValue308,Tryz.underlying90,Tryz.isAgg90,Tryz.sizeOf90,Tryz.zeroValue90,Tryz.underlying216,Tryz.isAgg216,Tryz.sizeOf216,Tryz.zeroValue216,Tryz.underlying293,Tryz.isAgg293,Tryz.sizeOf293,Tryz.zeroValue293,Tryz.underlying321,Tryz.isAgg321,Tryz.sizeOf321,Tryz.zeroValue321,Tryz.underlying325,Tryz.isAgg325,Tryz.sizeOf325,Tryz.zeroValue325,Tryz.underlying331,Tryz.isAgg331,Tryz.sizeOf331,Tryz.zeroValue331,Tryz.underlying114,Tryz.isAgg114,Tryz.sizeOf114,Tryz.zeroValue114⟩
end Go.Proofs.YtocndcbobdnagaaGreatDoor
