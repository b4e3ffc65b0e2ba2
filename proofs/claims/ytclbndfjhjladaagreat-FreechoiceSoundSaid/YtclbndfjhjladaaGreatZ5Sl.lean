/-
  slices.SortFunc by the library's contract, at this program's numbers.
-/
import Derived.Shelf.SlSortCmp.NoneTotal
import Derived.KernelRfl
import Derived.Test.YtclbndfjhjladaaGreatChecked
set_option linter.all false
namespace Go.Proofs.YtclbndfjhjladaaGreat
open Go.Shelf Go.RowKit
def j2b:Ren:=⟨fun|6=>108|14=>147|15=>148|20=>169|21=>170|22=>171|23=>172|24=>173|25=>174|26=>175|27=>176|28=>177|29=>178|46=>186|47=>187|48=>188|49=>189|50=>190|57=>192|n=>n,fun|22=>42|24=>48|25=>123|39=>149|45=>161|46=>162|50=>105|53=>121|55=>169|66=>172|70=>176|76=>178|77=>117|n=>n,fun n=>n⟩
theorem brs{P:Program}{f:Nat}{F B:Func}(h:P.funcs[f]? =some F)(hn:(F.name== "runtime.NumGoroutine")=false:=by kernel_rfl)(e:F={B with name:=F.name}:=by kernel_rfl):Bears P f B:=⟨F.name,hn,h.trans (congrArg some e)⟩
theorem brf{P:Program}{f:Nat}{F B:Func}(h:P.funcs[f]? =some F)(e:F=B:=by kernel_rfl):P.funcs[f]? =some B:=h.trans (congrArg some e)
theorem jrd:SlLaysF.n6 Tryz.prog j2b:=⟨by kernel_rfl,brs Tryz.func108,brs Tryz.func147,brf Tryz.func148,brs Tryz.func169,brs Tryz.func170,brs Tryz.func171,brs Tryz.func172,brs Tryz.func173,brs Tryz.func174,brs Tryz.func175,brs Tryz.func176,brf Tryz.func177,brf Tryz.func178,brs Tryz.func186,brf Tryz.func187,brf Tryz.func188,brs Tryz.func189,brs Tryz.func190,brs Tryz.func192,Tryz.underlying0,Tryz.isAgg0,Tryz.sizeOf0,Tryz.zeroValue0,Tryz.underlying3,Tryz.isAgg3,Tryz.sizeOf3,Tryz.zeroValue3,Tryz.underlying4,Tryz.isAgg4,Tryz.sizeOf4,Tryz.zeroValue4,Tryz.underlying5,Tryz.isAgg5,Tryz.sizeOf5,Tryz.zeroValue5,Tryz.underlying9,Tryz.isAgg9,Tryz.sizeOf9,Tryz.zeroValue9,Tryz.underlying42,Tryz.isAgg42,Tryz.sizeOf42,Tryz.zeroValue42,Tryz.isAgg48,Tryz.sizeOf48,Tryz.underlying123,Tryz.isAgg123,Tryz.sizeOf123,Tryz.zeroValue123,Tryz.underlying149,Tryz.isAgg149,Tryz.sizeOf149,Tryz.zeroValue149,Tryz.underlying161,Tryz.isAgg161,Tryz.sizeOf161,Tryz.zeroValue161,Tryz.underlying162,Tryz.isAgg162,Tryz.sizeOf162,Tryz.zeroValue162,Tryz.underlying105,Tryz.isAgg105,Tryz.sizeOf105,Tryz.zeroValue105,Tryz.underlying121,Tryz.isAgg121,Tryz.sizeOf121,Tryz.zeroValue121,Tryz.underlying169,Tryz.isAgg169,Tryz.sizeOf169,Tryz.zeroValue169,Tryz.underlying172,Tryz.isAgg172,Tryz.sizeOf172,Tryz.zeroValue172,Tryz.underlying176,Tryz.isAgg176,Tryz.sizeOf176,Tryz.zeroValue176,Tryz.underlying178,Tryz.isAgg178,Tryz.sizeOf178,Tryz.zeroValue178,Tryz.underlying117,Tryz.isAgg117,Tryz.sizeOf117,Tryz.zeroValue117⟩
end Go.Proofs.YtclbndfjhjladaaGreat
