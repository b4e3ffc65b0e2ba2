/-
  The types of this seat's program: a row a type (its kind, cells, bytes, the cells of its zero value), and that each row is the program's own. Made by program out of the translation.
-/
import Derived.Test.YtemahcdcacmgdaaGreatDoorZ3KE
import Derived.Test.YtemahcdcacmgdaaGreatDoorProg
import Derived.KernelRfl
set_option linter.all false
namespace Go.Proofs.YtemahcdcacmgdaaGreatDoor
open Go.K Go.M
theorem j2f{P:Program}{t:TypeId}{k:TK}{sz by_:Nat}{zs:List Value}{z:Value}{d:TypeDesc}(h1:(P.info? t).map (fun i=>(i.zero,i.size,i.bytes))=some (some z,sz,by_))(h2:P.underlying t=some d)(h3:TK.of d=k.plain)(h4:z.cells.toList=zs)(h5:k.cmp=true→Cmp P t)(h6:k.one=true→zs=[z]):aq P t ⟨k,sz,by_,zs⟩:=by
 cases hi:P.info? t with
 |none=>simp[hi]at h1
 |some i=>
  simp only[hi,Option.map_some,Option.some.injEq,Prod.mk.injEq]at h1;exact⟨⟨i,d,z,hi,h2,h3,h1.2.1,h1.2.2,h1.1,h4⟩,h5,fun e=>⟨i,z,hi,h1.1,h6 e⟩⟩
theorem fA{t:TypeId}{k:TK}{sz by_:Nat}{zs:List Value}{d:TypeDesc}(z:Value)(h2:Tryz.prog.underlying t=some d)(h1:(Tryz.prog.info? t).map (fun i=>(i.zero,i.size,i.bytes))=some (some z,sz,by_):=by kernel_rfl)(h3:TK.of d=k.plain:=by rfl)(h4:z.cells.toList=zs:=by rfl)(h5:k.cmp=true→Cmp Tryz.prog t:=by intro h;cases h)(h6:k.one=true→zs=[z]:=by first|exact fun _=>rfl|(intro h;cases h)):aq Tryz.prog t ⟨k,sz,by_,zs⟩:=j2f h1 h2 h3 h4 h5 h6
abbrev oF:TI:=⟨.other,1,8,[.nilFunc]⟩
def ti1:TI:=oF
def ti2:TI:=⟨.int .i64,1,8,[(.int .i64 0)]⟩
def ti3:TI:=⟨.int .i64,1,8,[(.int .i64 0)]⟩
def ti4:TI:=⟨.bool,1,1,[(.bool false)]⟩
def ti5:TI:=⟨.int .u8,1,1,[(.int .u8 0)]⟩
def ti6:TI:=⟨.int .u8,1,1,[(.int .u8 0)]⟩
def ti7:TI:=⟨.strct false [(0,2),(1,3),(2,4),(3,6)],4,24,[(.int .i64 0),(.int .i64 0),(.bool false),(.int .u8 0)]⟩
def ti9:TI:=⟨.str,1,16,[(.string ⟨#[]⟩)]⟩
def j5p:TI:=⟨.slice 47,1,24,[(.slice none 0 0)]⟩
def j5q:TI:=⟨.strct false [(0,3),(1,22),(2,3),(3,3)],4,48,[(.int .i64 0),(.slice none 0 0),(.int .i64 0),(.int .i64 0)]⟩
def j5r:TI:=⟨.strct false [(0,3),(1,22),(2,3),(3,3)],4,48,[(.int .i64 0),(.slice none 0 0),(.int .i64 0),(.int .i64 0)]⟩
def j5s:TI:=⟨.slice 3,1,24,[(.slice none 0 0)]⟩
def j5t:TI:=oF
def j5u:TI:=⟨.slice 25,1,24,[(.slice none 0 0)]⟩
def j5v:TI:=⟨.slice 73,1,24,[(.slice none 0 0)]⟩
def j5w:TI:=⟨.strct false [(0,28),(1,29),(2,4)],3,56,[(.slice none 0 0),(.slice none 0 0),(.bool false)]⟩
def j5x:TI:=⟨.strct false [(0,28),(1,29),(2,4)],3,56,[(.slice none 0 0),(.slice none 0 0),(.bool false)]⟩
def j5y:TI:=⟨.int .i64,1,8,[(.int .i64 0)]⟩
def j5z:TI:=oF
def j50:TI:=⟨.strct false [(0,3),(1,3),(2,25),(3,25),(4,28),(5,29),(6,28),(7,28)],8,160,[(.int .i64 0),(.int .i64 0),(.slice none 0 0),(.slice none 0 0),(.slice none 0 0),(.slice none 0 0),(.slice none 0 0),(.slice none 0 0)]⟩
def j51:TI:=⟨.strct false [(0,3),(1,3),(2,25),(3,25),(4,28),(5,29),(6,28),(7,28)],8,160,[(.int .i64 0),(.int .i64 0),(.slice none 0 0),(.slice none 0 0),(.slice none 0 0),(.slice none 0 0),(.slice none 0 0),(.slice none 0 0)]⟩
def j52:TI:=⟨.strct false [(0,9),(1,25),(2,25)],3,64,[(.string ⟨#[]⟩),(.slice none 0 0),(.slice none 0 0)]⟩
def j53:TI:=⟨.strct false [(0,9),(1,25),(2,25)],3,64,[(.string ⟨#[]⟩),(.slice none 0 0),(.slice none 0 0)]⟩
def j54:TI:=⟨.slice 53,1,24,[(.slice none 0 0)]⟩
def j55:TI:=⟨.strct false [(0,3),(1,9),(2,51)],3,48,[(.int .i64 0),(.string ⟨#[]⟩),(.slice none 0 0)]⟩
def j56:TI:=⟨.strct false [(0,3),(1,9),(2,51)],3,48,[(.int .i64 0),(.string ⟨#[]⟩),(.slice none 0 0)]⟩
def j57:TI:=⟨.strct true [(0,3),(1,3),(2,4)],3,24,[(.int .i64 0),(.int .i64 0),(.bool false)]⟩
def j58:TI:=⟨.strct true [(0,3),(1,3),(2,4)],3,24,[(.int .i64 0),(.int .i64 0),(.bool false)]⟩
def j59:TI:=oF
def j6a:TI:=⟨.map 9 3,1,8,[(.map none)]⟩
def j6b:TI:=⟨.strct true [(0,3),(1,3),(2,3)],3,24,[(.int .i64 0),(.int .i64 0),(.int .i64 0)]⟩
def j6c:TI:=⟨.strct true [(0,3),(1,3),(2,3)],3,24,[(.int .i64 0),(.int .i64 0),(.int .i64 0)]⟩
def j6d:TI:=⟨.other,1,8,[(.pointer none)]⟩
def j6e:TI:=⟨.slice 82,1,24,[(.slice none 0 0)]⟩
def j6f:TI:=⟨.strct false [(0,78),(1,28)],2,48,[(.slice none 0 0),(.slice none 0 0)]⟩
def j6g:TI:=⟨.strct false [(0,78),(1,28)],2,48,[(.slice none 0 0),(.slice none 0 0)]⟩
def j6h:TI:=⟨.strct false [(0,25),(1,25),(2,3),(3,3),(4,3),(5,3),(6,4),(7,4)],8,88,[(.slice none 0 0),(.slice none 0 0),(.int .i64 0),(.int .i64 0),(.int .i64 0),(.int .i64 0),(.bool false),(.bool false)]⟩
def j6i:TI:=⟨.strct false [(0,25),(1,25),(2,3),(3,3),(4,3),(5,3),(6,4),(7,4)],8,88,[(.slice none 0 0),(.slice none 0 0),(.int .i64 0),(.int .i64 0),(.int .i64 0),(.int .i64 0),(.bool false),(.bool false)]⟩
def j6j:TI:=oF
def j6k:TI:=⟨.other,1,8,[(.pointer none)]⟩
def jyb:TI:=⟨.other,1,8,[(.pointer none)]⟩
def jyc:TI:=⟨.slice 110,1,24,[(.slice none 0 0)]⟩
def jyd:TI:=⟨.strct false [(0,24),(4,106),(5,4)],6,80,[(.int .i64 0),(.slice none 0 0),(.int .i64 0),(.int .i64 0),(.slice none 0 0),(.bool false)]⟩
def jye:TI:=⟨.strct false [(0,24),(4,106),(5,4)],6,80,[(.int .i64 0),(.slice none 0 0),(.int .i64 0),(.int .i64 0),(.slice none 0 0),(.bool false)]⟩
def jyf:TI:=⟨.strct false [(0,25),(1,25),(2,53)],5,96,[(.slice none 0 0),(.slice none 0 0),(.int .i64 0),(.string ⟨#[]⟩),(.slice none 0 0)]⟩
def jyg:TI:=⟨.strct false [(0,25),(1,25),(2,53)],5,96,[(.slice none 0 0),(.slice none 0 0),(.int .i64 0),(.string ⟨#[]⟩),(.slice none 0 0)]⟩
def jyh:TI:=⟨.arr false 4 26,4,32,[.nilFunc, .nilFunc, .nilFunc, .nilFunc]⟩
def jyi:TI:=⟨.other,1,8,[(.pointer none)]⟩
def jyj:TI:=⟨.slice 5,1,24,[(.slice none 0 0)]⟩
def jyk:TI:=⟨.strct false [(0,113),(1,114)],2,32,[(.pointer none),(.slice none 0 0)]⟩
def jyl:TI:=⟨.strct false [(0,113),(1,114)],2,32,[(.pointer none),(.slice none 0 0)]⟩
def jym:TI:=⟨.slice 59,1,24,[(.slice none 0 0)]⟩
def jyn:TI:=⟨.int .u64,1,8,[(.int .u64 0)]⟩
def jyo:TI:=⟨.map 9 4,1,8,[(.map none)]⟩
def jyp:TI:=⟨.slice 29,1,24,[(.slice none 0 0)]⟩
def jyq:TI:=⟨.strct false [(0,24),(4,31),(7,25),(8,136)],9,152,[(.int .i64 0),(.slice none 0 0),(.int .i64 0),(.int .i64 0),(.slice none 0 0),(.slice none 0 0),(.bool false),(.slice none 0 0),(.slice none 0 0)]⟩
def jyr:TI:=⟨.strct false [(0,24),(4,31),(7,25),(8,136)],9,152,[(.int .i64 0),(.slice none 0 0),(.int .i64 0),(.int .i64 0),(.slice none 0 0),(.slice none 0 0),(.bool false),(.slice none 0 0),(.slice none 0 0)]⟩
def jys:TI:=oF
def jyt:TI:=⟨.slice 4,1,24,[(.slice none 0 0)]⟩
def jyu:TI:=oF
def jyv:TI:=oF
def jyw:TI:=⟨.slice 206,1,24,[(.slice none 0 0)]⟩
def jyx:TI:=⟨.slice 26,1,24,[(.slice none 0 0)]⟩
def jyy:TI:=oF
def jyz:TI:=⟨.slice 158,1,24,[(.slice none 0 0)]⟩
def jy0:TI:=⟨.int .u32,1,4,[(.int .u32 0)]⟩
def jy1:TI:=⟨.other,1,8,[(.pointer none)]⟩
def jy2:TI:=⟨.map 3 217,1,8,[(.map none)]⟩
def jy3:TI:=⟨.strct false [(0,175),(1,3),(2,3)],3,24,[(.map none),(.int .i64 0),(.int .i64 0)]⟩
def jy4:TI:=⟨.strct false [(0,175),(1,3),(2,3)],3,24,[(.map none),(.int .i64 0),(.int .i64 0)]⟩
def jy5:TI:=⟨.other,1,8,[(.pointer none)]⟩
def jy6:TI:=⟨.strct false [(0,28),(1,28)],2,48,[(.slice none 0 0),(.slice none 0 0)]⟩
def jy7:TI:=⟨.strct false [(0,28),(1,28)],2,48,[(.slice none 0 0),(.slice none 0 0)]⟩
def jy8:TI:=⟨.other,1,8,[(.pointer none)]⟩
def jy9:TI:=⟨.strct false [(0,3),(1,25)],2,32,[(.int .i64 0),(.slice none 0 0)]⟩
def jza:TI:=⟨.strct false [(0,3),(1,25)],2,32,[(.int .i64 0),(.slice none 0 0)]⟩
def jzb:TI:=⟨.strct false [(0,28),(1,25),(2,3),(3,3)],4,64,[(.slice none 0 0),(.slice none 0 0),(.int .i64 0),(.int .i64 0)]⟩
def jzc:TI:=⟨.strct false [(0,28),(1,25),(2,3),(3,3)],4,64,[(.slice none 0 0),(.slice none 0 0),(.int .i64 0),(.int .i64 0)]⟩
def jzd:TI:=⟨.map 3 3,1,8,[(.map none)]⟩
def jze:TI:=⟨.arr false 2 25,2,48,[(.slice none 0 0),(.slice none 0 0)]⟩
def jzf:TI:=⟨.slice 246,1,24,[(.slice none 0 0)]⟩
def jzg:TI:=⟨.strct true [(0,4),(1,3),(2,3)],3,24,[(.bool false),(.int .i64 0),(.int .i64 0)]⟩
def jzh:TI:=⟨.strct true [(0,4),(1,3),(2,3)],3,24,[(.bool false),(.int .i64 0),(.int .i64 0)]⟩
def jzi:TI:=⟨.slice 219,1,24,[(.slice none 0 0)]⟩
def jzj:TI:=⟨.int .i64,1,8,[(.int .i64 0)]⟩
def jzk:TI:=⟨.int .u64,1,8,[(.int .u64 0)]⟩
def jzl:TI:=⟨.other,1,8,[(.pointer none)]⟩
def jzm:TI:=oF
def jzn:TI:=⟨.strct true [(0,3),(1,3)],2,16,[(.int .i64 0),(.int .i64 0)]⟩
def jzo:TI:=⟨.strct true [(0,3),(1,3)],2,16,[(.int .i64 0),(.int .i64 0)]⟩
def jzp:TI:=⟨.map 3 4,1,8,[(.map none)]⟩
def jzq:TI:=⟨.int .u64,1,8,[(.int .u64 0)]⟩
def jzr:TI:=⟨.other,1,8,[(.pointer none)]⟩
def jzs:TI:=⟨.arr true 24 5,24,24,[(.int .u8 0),(.int .u8 0),(.int .u8 0),(.int .u8 0),(.int .u8 0),(.int .u8 0),(.int .u8 0),(.int .u8 0),(.int .u8 0),(.int .u8 0),(.int .u8 0),(.int .u8 0),(.int .u8 0),(.int .u8 0),(.int .u8 0),(.int .u8 0),(.int .u8 0),(.int .u8 0),(.int .u8 0),(.int .u8 0),(.int .u8 0),(.int .u8 0),(.int .u8 0),(.int .u8 0)]⟩
def jzt:TI:=oF
def jzu:TI:=oF
def jzv:TI:=⟨.arr true 20 238,20,160,[(.int .u64 0),(.int .u64 0),(.int .u64 0),(.int .u64 0),(.int .u64 0),(.int .u64 0),(.int .u64 0),(.int .u64 0),(.int .u64 0),(.int .u64 0),(.int .u64 0),(.int .u64 0),(.int .u64 0),(.int .u64 0),(.int .u64 0),(.int .u64 0),(.int .u64 0),(.int .u64 0),(.int .u64 0),(.int .u64 0)]⟩
def jzw:TI:=⟨.arr true 32 5,32,32,[(.int .u8 0),(.int .u8 0),(.int .u8 0),(.int .u8 0),(.int .u8 0),(.int .u8 0),(.int .u8 0),(.int .u8 0),(.int .u8 0),(.int .u8 0),(.int .u8 0),(.int .u8 0),(.int .u8 0),(.int .u8 0),(.int .u8 0),(.int .u8 0),(.int .u8 0),(.int .u8 0),(.int .u8 0),(.int .u8 0),(.int .u8 0),(.int .u8 0),(.int .u8 0),(.int .u8 0),(.int .u8 0),(.int .u8 0),(.int .u8 0),(.int .u8 0),(.int .u8 0),(.int .u8 0),(.int .u8 0),(.int .u8 0)]⟩
def tt:TT
 |1=>some ti1
 |2=>some ti2
 |3=>some ti3
 |4=>some ti4
 |5=>some ti5
 |6=>some ti6
 |7=>some ti7
 |9=>some ti9
 |22=>some j5p
 |23=>some j5q
 |24=>some j5r
 |25=>some j5s
 |26=>some j5t
 |28=>some j5u
 |29=>some j5v
 |30=>some j5w
 |31=>some j5x
 |32=>some j5y
 |36=>some j5z
 |37=>some j50
 |38=>some j51
 |46=>some j52
 |47=>some j53
 |51=>some j54
 |52=>some j55
 |53=>some j56
 |58=>some j57
 |59=>some j58
 |64=>some j59
 |69=>some j6a
 |72=>some j6b
 |73=>some j6c
 |75=>some j6d
 |78=>some j6e
 |79=>some j6f
 |80=>some j6g
 |81=>some j6h
 |82=>some j6i
 |91=>some j6j
 |92=>some j6k
 |105=>some jyb
 |106=>some jyc
 |107=>some jyd
 |108=>some jye
 |109=>some jyf
 |110=>some jyg
 |111=>some jyh
 |113=>some jyi
 |114=>some jyj
 |115=>some jyk
 |116=>some jyl
 |121=>some jym
 |128=>some jyn
 |131=>some jyo
 |136=>some jyp
 |137=>some jyq
 |138=>some jyr
 |141=>some jys
 |144=>some jyt
 |146=>some jyu
 |148=>some jyv
 |151=>some jyw
 |153=>some jyx
 |155=>some jyy
 |156=>some jyz
 |158=>some jy0
 |174=>some jy1
 |175=>some jy2
 |176=>some jy3
 |177=>some jy4
 |190=>some jy5
 |191=>some jy6
 |192=>some jy7
 |195=>some jy8
 |199=>some jy9
 |200=>some jza
 |202=>some jzb
 |203=>some jzc
 |205=>some jzd
 |206=>some jze
 |217=>some jzf
 |218=>some jzg
 |219=>some jzh
 |220=>some jzi
 |230=>some jzj
 |238=>some jzk
 |240=>some jzl
 |243=>some jzm
 |245=>some jzn
 |246=>some jzo
 |248=>some jzp
 |257=>some jzq
 |261=>some jzr
 |265=>some jzs
 |272=>some jzt
 |274=>some jzu
 |276=>some jzv
 |284=>some jzw
 |_=>none
theorem j68:aq Tryz.prog 1 ti1:=fA .nilFunc Tryz.underlying1
theorem j69:aq Tryz.prog 2 ti2:=fA ((.int .i64 0)) Tryz.underlying2
theorem j7a:aq Tryz.prog 3 ti3:=fA ((.int .i64 0)) Tryz.underlying3
theorem j7b:aq Tryz.prog 4 ti4:=fA ((.bool false)) Tryz.underlying4
theorem j7c:aq Tryz.prog 5 ti5:=fA ((.int .u8 0)) Tryz.underlying5
theorem j7d:aq Tryz.prog 6 ti6:=fA ((.int .u8 0)) Tryz.underlying6
theorem j7e:aq Tryz.prog 7 ti7:=fA (.agg #[(.int .i64 0),(.int .i64 0),(.bool false),(.int .u8 0)]) Tryz.underlying7
theorem j7f:aq Tryz.prog 9 ti9:=fA ((.string ⟨#[]⟩)) Tryz.underlying9
theorem j4i:aq Tryz.prog 22 j5p:=fA ((.slice none 0 0)) Tryz.underlying22
theorem j4j:aq Tryz.prog 23 j5q:=fA (.agg #[(.int .i64 0),(.slice none 0 0),(.int .i64 0),(.int .i64 0)]) Tryz.underlying23
theorem j4k:aq Tryz.prog 24 j5r:=fA (.agg #[(.int .i64 0),(.slice none 0 0),(.int .i64 0),(.int .i64 0)]) Tryz.underlying24
theorem j4l:aq Tryz.prog 25 j5s:=fA ((.slice none 0 0)) Tryz.underlying25
theorem j4m:aq Tryz.prog 26 j5t:=fA .nilFunc Tryz.underlying26
theorem j4n:aq Tryz.prog 28 j5u:=fA ((.slice none 0 0)) Tryz.underlying28
theorem j4o:aq Tryz.prog 29 j5v:=fA ((.slice none 0 0)) Tryz.underlying29
theorem j4p:aq Tryz.prog 30 j5w:=fA (.agg #[(.slice none 0 0),(.slice none 0 0),(.bool false)]) Tryz.underlying30
theorem j4q:aq Tryz.prog 31 j5x:=fA (.agg #[(.slice none 0 0),(.slice none 0 0),(.bool false)]) Tryz.underlying31
theorem j4r:aq Tryz.prog 32 j5y:=fA ((.int .i64 0)) Tryz.underlying32
theorem j4s:aq Tryz.prog 36 j5z:=fA .nilFunc Tryz.underlying36
theorem j4t:aq Tryz.prog 37 j50:=fA (.agg #[(.int .i64 0),(.int .i64 0),(.slice none 0 0),(.slice none 0 0),(.slice none 0 0),(.slice none 0 0),(.slice none 0 0),(.slice none 0 0)]) Tryz.underlying37
theorem j4u:aq Tryz.prog 38 j51:=fA (.agg #[(.int .i64 0),(.int .i64 0),(.slice none 0 0),(.slice none 0 0),(.slice none 0 0),(.slice none 0 0),(.slice none 0 0),(.slice none 0 0)]) Tryz.underlying38
theorem j4v:aq Tryz.prog 46 j52:=fA (.agg #[(.string ⟨#[]⟩),(.slice none 0 0),(.slice none 0 0)]) Tryz.underlying46
theorem j4w:aq Tryz.prog 47 j53:=fA (.agg #[(.string ⟨#[]⟩),(.slice none 0 0),(.slice none 0 0)]) Tryz.underlying47
theorem j4x:aq Tryz.prog 51 j54:=fA ((.slice none 0 0)) Tryz.underlying51
theorem j4y:aq Tryz.prog 52 j55:=fA (.agg #[(.int .i64 0),(.string ⟨#[]⟩),(.slice none 0 0)]) Tryz.underlying52
theorem j4z:aq Tryz.prog 53 j56:=fA (.agg #[(.int .i64 0),(.string ⟨#[]⟩),(.slice none 0 0)]) Tryz.underlying53
theorem j40:aq Tryz.prog 58 j57:=fA (.agg #[(.int .i64 0),(.int .i64 0),(.bool false)]) Tryz.underlying58 (h5:=fun _=>⟨by kernel_rfl,by kernel_rfl,by kernel_rfl⟩)
theorem j41:aq Tryz.prog 59 j58:=fA (.agg #[(.int .i64 0),(.int .i64 0),(.bool false)]) Tryz.underlying59 (h5:=fun _=>⟨by kernel_rfl,by kernel_rfl,by kernel_rfl⟩)
theorem j42:aq Tryz.prog 64 j59:=fA .nilFunc Tryz.underlying64
theorem j43:aq Tryz.prog 69 j6a:=fA ((.map none)) Tryz.underlying69
theorem j44:aq Tryz.prog 72 j6b:=fA (.agg #[(.int .i64 0),(.int .i64 0),(.int .i64 0)]) Tryz.underlying72 (h5:=fun _=>⟨by kernel_rfl,by kernel_rfl,by kernel_rfl⟩)
theorem j45:aq Tryz.prog 73 j6c:=fA (.agg #[(.int .i64 0),(.int .i64 0),(.int .i64 0)]) Tryz.underlying73 (h5:=fun _=>⟨by kernel_rfl,by kernel_rfl,by kernel_rfl⟩)
theorem j46:aq Tryz.prog 75 j6d:=fA ((.pointer none)) Tryz.underlying75
theorem j47:aq Tryz.prog 78 j6e:=fA ((.slice none 0 0)) Tryz.underlying78
theorem j48:aq Tryz.prog 79 j6f:=fA (.agg #[(.slice none 0 0),(.slice none 0 0)]) Tryz.underlying79
theorem j49:aq Tryz.prog 80 j6g:=fA (.agg #[(.slice none 0 0),(.slice none 0 0)]) Tryz.underlying80
theorem j5a:aq Tryz.prog 81 j6h:=fA (.agg #[(.slice none 0 0),(.slice none 0 0),(.int .i64 0),(.int .i64 0),(.int .i64 0),(.int .i64 0),(.bool false),(.bool false)]) Tryz.underlying81
theorem j5b:aq Tryz.prog 82 j6i:=fA (.agg #[(.slice none 0 0),(.slice none 0 0),(.int .i64 0),(.int .i64 0),(.int .i64 0),(.int .i64 0),(.bool false),(.bool false)]) Tryz.underlying82
theorem j5c:aq Tryz.prog 91 j6j:=fA .nilFunc Tryz.underlying91
theorem j5d:aq Tryz.prog 92 j6k:=fA ((.pointer none)) Tryz.underlying92
theorem j0t:aq Tryz.prog 105 jyb:=fA ((.pointer none)) Tryz.underlying105
theorem j0u:aq Tryz.prog 106 jyc:=fA ((.slice none 0 0)) Tryz.underlying106
theorem j0v:aq Tryz.prog 107 jyd:=fA (.agg #[(.int .i64 0),(.slice none 0 0),(.int .i64 0),(.int .i64 0),(.slice none 0 0),(.bool false)]) Tryz.underlying107
theorem j0w:aq Tryz.prog 108 jye:=fA (.agg #[(.int .i64 0),(.slice none 0 0),(.int .i64 0),(.int .i64 0),(.slice none 0 0),(.bool false)]) Tryz.underlying108
theorem j0x:aq Tryz.prog 109 jyf:=fA (.agg #[(.slice none 0 0),(.slice none 0 0),(.int .i64 0),(.string ⟨#[]⟩),(.slice none 0 0)]) Tryz.underlying109
theorem j0y:aq Tryz.prog 110 jyg:=fA (.agg #[(.slice none 0 0),(.slice none 0 0),(.int .i64 0),(.string ⟨#[]⟩),(.slice none 0 0)]) Tryz.underlying110
theorem j0z:aq Tryz.prog 111 jyh:=fA (.agg #[.nilFunc, .nilFunc, .nilFunc, .nilFunc]) Tryz.underlying111
theorem j00:aq Tryz.prog 113 jyi:=fA ((.pointer none)) Tryz.underlying113
theorem j01:aq Tryz.prog 114 jyj:=fA ((.slice none 0 0)) Tryz.underlying114
theorem j02:aq Tryz.prog 115 jyk:=fA (.agg #[(.pointer none),(.slice none 0 0)]) Tryz.underlying115
theorem j03:aq Tryz.prog 116 jyl:=fA (.agg #[(.pointer none),(.slice none 0 0)]) Tryz.underlying116
theorem j04:aq Tryz.prog 121 jym:=fA ((.slice none 0 0)) Tryz.underlying121
theorem j05:aq Tryz.prog 128 jyn:=fA ((.int .u64 0)) Tryz.underlying128
theorem j06:aq Tryz.prog 131 jyo:=fA ((.map none)) Tryz.underlying131
theorem j07:aq Tryz.prog 136 jyp:=fA ((.slice none 0 0)) Tryz.underlying136
theorem j08:aq Tryz.prog 137 jyq:=fA (.agg #[(.int .i64 0),(.slice none 0 0),(.int .i64 0),(.int .i64 0),(.slice none 0 0),(.slice none 0 0),(.bool false),(.slice none 0 0),(.slice none 0 0)]) Tryz.underlying137
theorem j09:aq Tryz.prog 138 jyr:=fA (.agg #[(.int .i64 0),(.slice none 0 0),(.int .i64 0),(.int .i64 0),(.slice none 0 0),(.slice none 0 0),(.bool false),(.slice none 0 0),(.slice none 0 0)]) Tryz.underlying138
theorem j1a:aq Tryz.prog 141 jys:=fA .nilFunc Tryz.underlying141
theorem j1b:aq Tryz.prog 144 jyt:=fA ((.slice none 0 0)) Tryz.underlying144
theorem j1c:aq Tryz.prog 146 jyu:=fA .nilFunc Tryz.underlying146
theorem j1d:aq Tryz.prog 148 jyv:=fA .nilFunc Tryz.underlying148
theorem j1e:aq Tryz.prog 151 jyw:=fA ((.slice none 0 0)) Tryz.underlying151
theorem j1f:aq Tryz.prog 153 jyx:=fA ((.slice none 0 0)) Tryz.underlying153
theorem j1g:aq Tryz.prog 155 jyy:=fA .nilFunc Tryz.underlying155
theorem j1h:aq Tryz.prog 156 jyz:=fA ((.slice none 0 0)) Tryz.underlying156
theorem j1i:aq Tryz.prog 158 jy0:=fA ((.int .u32 0)) Tryz.underlying158
theorem j1j:aq Tryz.prog 174 jy1:=fA ((.pointer none)) Tryz.underlying174
theorem j1k:aq Tryz.prog 175 jy2:=fA ((.map none)) Tryz.underlying175
theorem j1l:aq Tryz.prog 176 jy3:=fA (.agg #[(.map none),(.int .i64 0),(.int .i64 0)]) Tryz.underlying176
theorem j1m:aq Tryz.prog 177 jy4:=fA (.agg #[(.map none),(.int .i64 0),(.int .i64 0)]) Tryz.underlying177
theorem j1n:aq Tryz.prog 190 jy5:=fA ((.pointer none)) Tryz.underlying190
theorem j1o:aq Tryz.prog 191 jy6:=fA (.agg #[(.slice none 0 0),(.slice none 0 0)]) Tryz.underlying191
theorem j1p:aq Tryz.prog 192 jy7:=fA (.agg #[(.slice none 0 0),(.slice none 0 0)]) Tryz.underlying192
theorem j1q:aq Tryz.prog 195 jy8:=fA ((.pointer none)) Tryz.underlying195
theorem j1r:aq Tryz.prog 199 jy9:=fA (.agg #[(.int .i64 0),(.slice none 0 0)]) Tryz.underlying199
theorem j1s:aq Tryz.prog 200 jza:=fA (.agg #[(.int .i64 0),(.slice none 0 0)]) Tryz.underlying200
theorem j1t:aq Tryz.prog 202 jzb:=fA (.agg #[(.slice none 0 0),(.slice none 0 0),(.int .i64 0),(.int .i64 0)]) Tryz.underlying202
theorem j1u:aq Tryz.prog 203 jzc:=fA (.agg #[(.slice none 0 0),(.slice none 0 0),(.int .i64 0),(.int .i64 0)]) Tryz.underlying203
theorem j1v:aq Tryz.prog 205 jzd:=fA ((.map none)) Tryz.underlying205
theorem j1w:aq Tryz.prog 206 jze:=fA (.agg #[(.slice none 0 0),(.slice none 0 0)]) Tryz.underlying206
theorem j1x:aq Tryz.prog 217 jzf:=fA ((.slice none 0 0)) Tryz.underlying217
theorem j1y:aq Tryz.prog 218 jzg:=fA (.agg #[(.bool false),(.int .i64 0),(.int .i64 0)]) Tryz.underlying218 (h5:=fun _=>⟨by kernel_rfl,by kernel_rfl,by kernel_rfl⟩)
theorem j1z:aq Tryz.prog 219 jzh:=fA (.agg #[(.bool false),(.int .i64 0),(.int .i64 0)]) Tryz.underlying219 (h5:=fun _=>⟨by kernel_rfl,by kernel_rfl,by kernel_rfl⟩)
theorem j10:aq Tryz.prog 220 jzi:=fA ((.slice none 0 0)) Tryz.underlying220
theorem j11:aq Tryz.prog 230 jzj:=fA ((.int .i64 0)) Tryz.underlying230
theorem j12:aq Tryz.prog 238 jzk:=fA ((.int .u64 0)) Tryz.underlying238
theorem j13:aq Tryz.prog 240 jzl:=fA ((.pointer none)) Tryz.underlying240
theorem j14:aq Tryz.prog 243 jzm:=fA .nilFunc Tryz.underlying243
theorem j15:aq Tryz.prog 245 jzn:=fA (.agg #[(.int .i64 0),(.int .i64 0)]) Tryz.underlying245 (h5:=fun _=>⟨by kernel_rfl,by kernel_rfl,by kernel_rfl⟩)
theorem j16:aq Tryz.prog 246 jzo:=fA (.agg #[(.int .i64 0),(.int .i64 0)]) Tryz.underlying246 (h5:=fun _=>⟨by kernel_rfl,by kernel_rfl,by kernel_rfl⟩)
theorem j17:aq Tryz.prog 248 jzp:=fA ((.map none)) Tryz.underlying248
theorem j18:aq Tryz.prog 257 jzq:=fA ((.int .u64 0)) Tryz.underlying257
theorem j19:aq Tryz.prog 261 jzr:=fA ((.pointer none)) Tryz.underlying261
theorem j2a:aq Tryz.prog 265 jzs:=fA (.agg #[(.int .u8 0),(.int .u8 0),(.int .u8 0),(.int .u8 0),(.int .u8 0),(.int .u8 0),(.int .u8 0),(.int .u8 0),(.int .u8 0),(.int .u8 0),(.int .u8 0),(.int .u8 0),(.int .u8 0),(.int .u8 0),(.int .u8 0),(.int .u8 0),(.int .u8 0),(.int .u8 0),(.int .u8 0),(.int .u8 0),(.int .u8 0),(.int .u8 0),(.int .u8 0),(.int .u8 0)]) Tryz.underlying265 (h5:=fun _=>⟨by kernel_rfl,by kernel_rfl,by kernel_rfl⟩)
theorem j2b:aq Tryz.prog 272 jzt:=fA .nilFunc Tryz.underlying272
theorem j2c:aq Tryz.prog 274 jzu:=fA .nilFunc Tryz.underlying274
theorem j2d:aq Tryz.prog 276 jzv:=fA (.agg #[(.int .u64 0),(.int .u64 0),(.int .u64 0),(.int .u64 0),(.int .u64 0),(.int .u64 0),(.int .u64 0),(.int .u64 0),(.int .u64 0),(.int .u64 0),(.int .u64 0),(.int .u64 0),(.int .u64 0),(.int .u64 0),(.int .u64 0),(.int .u64 0),(.int .u64 0),(.int .u64 0),(.int .u64 0),(.int .u64 0)]) Tryz.underlying276 (h5:=fun _=>⟨by kernel_rfl,by kernel_rfl,by kernel_rfl⟩)
theorem j2e:aq Tryz.prog 284 jzw:=fA (.agg #[(.int .u8 0),(.int .u8 0),(.int .u8 0),(.int .u8 0),(.int .u8 0),(.int .u8 0),(.int .u8 0),(.int .u8 0),(.int .u8 0),(.int .u8 0),(.int .u8 0),(.int .u8 0),(.int .u8 0),(.int .u8 0),(.int .u8 0),(.int .u8 0),(.int .u8 0),(.int .u8 0),(.int .u8 0),(.int .u8 0),(.int .u8 0),(.int .u8 0),(.int .u8 0),(.int .u8 0),(.int .u8 0),(.int .u8 0),(.int .u8 0),(.int .u8 0),(.int .u8 0),(.int .u8 0),(.int .u8 0),(.int .u8 0)]) Tryz.underlying284 (h5:=fun _=>⟨by kernel_rfl,by kernel_rfl,by kernel_rfl⟩)
set_option maxRecDepth 100000 in
theorem fits:c9 Tryz.prog tt:=by
 intro t x h;unfold tt at h;split at h
 ·cases h;exact j68
 ·cases h;exact j69
 ·cases h;exact j7a
 ·cases h;exact j7b
 ·cases h;exact j7c
 ·cases h;exact j7d
 ·cases h;exact j7e
 ·cases h;exact j7f
 ·cases h;exact j4i
 ·cases h;exact j4j
 ·cases h;exact j4k
 ·cases h;exact j4l
 ·cases h;exact j4m
 ·cases h;exact j4n
 ·cases h;exact j4o
 ·cases h;exact j4p
 ·cases h;exact j4q
 ·cases h;exact j4r
 ·cases h;exact j4s
 ·cases h;exact j4t
 ·cases h;exact j4u
 ·cases h;exact j4v
 ·cases h;exact j4w
 ·cases h;exact j4x
 ·cases h;exact j4y
 ·cases h;exact j4z
 ·cases h;exact j40
 ·cases h;exact j41
 ·cases h;exact j42
 ·cases h;exact j43
 ·cases h;exact j44
 ·cases h;exact j45
 ·cases h;exact j46
 ·cases h;exact j47
 ·cases h;exact j48
 ·cases h;exact j49
 ·cases h;exact j5a
 ·cases h;exact j5b
 ·cases h;exact j5c
 ·cases h;exact j5d
 ·cases h;exact j0t
 ·cases h;exact j0u
 ·cases h;exact j0v
 ·cases h;exact j0w
 ·cases h;exact j0x
 ·cases h;exact j0y
 ·cases h;exact j0z
 ·cases h;exact j00
 ·cases h;exact j01
 ·cases h;exact j02
 ·cases h;exact j03
 ·cases h;exact j04
 ·cases h;exact j05
 ·cases h;exact j06
 ·cases h;exact j07
 ·cases h;exact j08
 ·cases h;exact j09
 ·cases h;exact j1a
 ·cases h;exact j1b
 ·cases h;exact j1c
 ·cases h;exact j1d
 ·cases h;exact j1e
 ·cases h;exact j1f
 ·cases h;exact j1g
 ·cases h;exact j1h
 ·cases h;exact j1i
 ·cases h;exact j1j
 ·cases h;exact j1k
 ·cases h;exact j1l
 ·cases h;exact j1m
 ·cases h;exact j1n
 ·cases h;exact j1o
 ·cases h;exact j1p
 ·cases h;exact j1q
 ·cases h;exact j1r
 ·cases h;exact j1s
 ·cases h;exact j1t
 ·cases h;exact j1u
 ·cases h;exact j1v
 ·cases h;exact j1w
 ·cases h;exact j1x
 ·cases h;exact j1y
 ·cases h;exact j1z
 ·cases h;exact j10
 ·cases h;exact j11
 ·cases h;exact j12
 ·cases h;exact j13
 ·cases h;exact j14
 ·cases h;exact j15
 ·cases h;exact j16
 ·cases h;exact j17
 ·cases h;exact j18
 ·cases h;exact j19
 ·cases h;exact j2a
 ·cases h;exact j2b
 ·cases h;exact j2c
 ·cases h;exact j2d
 ·cases h;exact j2e
 ·cases h
theorem mixed:Tryz.prog.follows .mixedOrders=true:=rfl
end Go.Proofs.YtemahcdcacmgdaaGreatDoor
