/-
  The program's strings.Builder: the library's contracts at this program's numbers.
-/
import Derived.Shelf.Strings.Builder1
import Derived.KernelRfl
import Derived.Test.YtdhfhpdadbopkaaChecked
set_option linter.all false
namespace Go.Proofs.Ytdhfhpdadbopkaa
open Go.Shelf Go.RowKit
def jjw:Ren:=⟨fun|167=>113|169=>114|240=>121|276=>122|n=>n,fun|37=>144|70=>143|72=>146|75=>148|80=>151|127=>155|164=>156|n=>n,fun n=>n⟩
theorem jgi:Lays.n167 Try.prog jjw:={mixed:=by kernel_rfl,f167:=by kernel_rfl,f240:=by kernel_rfl,f276:=by kernel_rfl,t0:=by kernel_rfl,a0:=fun _=>by kernel_rfl,z0:=fun _=>by kernel_rfl,v0:=fun _=>by kernel_rfl,t4:=by kernel_rfl,a4:=fun _=>by kernel_rfl,z4:=fun _=>by kernel_rfl,v4:=fun _=>by kernel_rfl,t5:=by kernel_rfl,a5:=fun _=>by kernel_rfl,z5:=fun _=>by kernel_rfl,v5:=fun _=>by kernel_rfl,t9:=by kernel_rfl,a9:=fun _=>by kernel_rfl,z9:=fun _=>by kernel_rfl,v9:=fun _=>by kernel_rfl,t20:=by kernel_rfl,a20:=fun _=>by kernel_rfl,z20:=fun _=>by kernel_rfl,v20:=fun _=>by kernel_rfl,t37:=by kernel_rfl,a37:=fun _=>by kernel_rfl,z37:=fun _=>by kernel_rfl,v37:=fun _=>by kernel_rfl,t70:=by kernel_rfl,a70:=fun _=>by kernel_rfl,z70:=fun _=>by kernel_rfl,v70:=fun _=>by kernel_rfl,t72:=by kernel_rfl,a72:=fun _=>by kernel_rfl,z72:=fun _=>by kernel_rfl,v72:=fun _=>by kernel_rfl,t75:=by kernel_rfl,a75:=fun _=>by kernel_rfl,z75:=fun _=>by kernel_rfl,v75:=fun _=>by kernel_rfl,t164:=by kernel_rfl,a164:=fun _=>by kernel_rfl,z164:=fun _=>by kernel_rfl,v164:=fun _=>by kernel_rfl}
theorem jgj:Lays.n169 Try.prog jjw:={mixed:=by kernel_rfl,f169:=by kernel_rfl,t0:=by kernel_rfl,a0:=fun _=>by kernel_rfl,z0:=fun _=>by kernel_rfl,v0:=fun _=>by kernel_rfl,t3:=by kernel_rfl,a3:=fun _=>by kernel_rfl,z3:=fun _=>by kernel_rfl,v3:=fun _=>by kernel_rfl,t9:=by kernel_rfl,a9:=fun _=>by kernel_rfl,z9:=fun _=>by kernel_rfl,v9:=fun _=>by kernel_rfl,t37:=by kernel_rfl,a37:=fun _=>by kernel_rfl,z37:=fun _=>by kernel_rfl,v37:=fun _=>by kernel_rfl,t70:=by kernel_rfl,a70:=fun _=>by kernel_rfl,z70:=fun _=>by kernel_rfl,v70:=fun _=>by kernel_rfl,t72:=by kernel_rfl,a72:=fun _=>by kernel_rfl,z72:=fun _=>by kernel_rfl,v72:=fun _=>by kernel_rfl,t127:=by kernel_rfl,a127:=fun _=>by kernel_rfl,z127:=fun _=>by kernel_rfl,v127:=fun _=>by kernel_rfl}
theorem jmx:Builder.Extra Try.prog jjw:={sizeBuilder:=by kernel_rfl,liesBuilder:=by kernel_rfl,t5:=by kernel_rfl,a5:=fun _=>by kernel_rfl,z5:=fun _=>by kernel_rfl,v5:=fun _=>by kernel_rfl,infoByte:=by kernel_rfl,cellsByte:=by kernel_rfl,sizeByte:=by kernel_rfl,neB5:=by decide}
theorem jjj(B b:Nat)(bs:List Value)(c:Int)(w:World)(h:Lib.IsBuilder 146 5 B b bs w)(hlen:bs.length+1≤140737488355328)(hBw:B≤w.heap.size):
 Calls Try.prog 113 #[.pointer (some ⟨b,0,none⟩), .int .u8 c] w fun e w' =>e= .returned .nilIface∧(Lib.BuilderAt 146 5 B b (.pointer (some ⟨b,0,none⟩)) (bs++[.int .u8 c]) w' ∧Below B w w'):=Any.Builder_WriteByte jgi jmx B b bs c w h hlen hBw
theorem jfx(B b:Nat)(l:List UInt8)(w:World)(h:Lib.IsBuilder 146 5 B b (Lib.byteCells l) w)(hBw:B≤w.heap.size):
 Calls Try.prog 114 #[.pointer (some ⟨b,0,none⟩)] w fun e w' =>e= .returned (.string ⟨l.toArray⟩)∧Below B w w' :=Any.Builder_String_any jgj jmx B b l w h hBw
end Go.Proofs.Ytdhfhpdadbopkaa
