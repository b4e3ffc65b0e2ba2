/-
  The types of this seat's program: a row a type (its kind, cells, bytes, the cells of its zero value), and that each row is the program's own. Made by program out of the translation.
-/
import Derived.Test.YtclbndfjhjladaaGreatZ5KE
import Derived.Test.YtclbndfjhjladaaGreatProg
import Derived.KernelRfl
set_option linter.all false
namespace Go.Proofs.YtclbndfjhjladaaGreat
open Go.K Go.M
theorem j1k{P:Program}{t:TypeId}{k:TK}{sz by_:Nat}{zs:List Value}{z:Value}{d:TypeDesc}(h1:(P.info? t).map (fun i=>(i.zero,i.size,i.bytes))=some (some z,sz,by_))(h2:P.underlying t=some d)(h3:TK.of d=k.plain)(h4:z.cells.toList=zs)(h5:k.cmp=true→Cmp P t)(h6:k.one=true→zs=[z]):ak P t ⟨k,sz,by_,zs⟩:=by
 cases hi:P.info? t with
 |none=>simp[hi]at h1
 |some i=>
  simp only[hi,Option.map_some,Option.some.injEq,Prod.mk.injEq]at h1;exact⟨⟨i,d,z,hi,h2,h3,h1.2.1,h1.2.2,h1.1,h4⟩,h5,fun e=>⟨i,z,hi,h1.1,h6 e⟩⟩
theorem fA{t:TypeId}{k:TK}{sz by_:Nat}{zs:List Value}{d:TypeDesc}(z:Value)(h2:Tryz.prog.underlying t=some d)(h1:(Tryz.prog.info? t).map (fun i=>(i.zero,i.size,i.bytes))=some (some z,sz,by_):=by kernel_rfl)(h3:TK.of d=k.plain:=by rfl)(h4:z.cells.toList=zs:=by rfl)(h5:k.cmp=true→Cmp Tryz.prog t:=by intro h;cases h)(h6:k.one=true→zs=[z]:=by first|exact fun _=>rfl|(intro h;cases h)):ak Tryz.prog t ⟨k,sz,by_,zs⟩:=j1k h1 h2 h3 h4 h5 h6
abbrev oF:TI:=⟨.other,1,8,[.nilFunc]⟩
def ti1:TI:=oF
def ti2:TI:=⟨.int .i64,1,8,[(.int .i64 0)]⟩
def ti3:TI:=⟨.int .i64,1,8,[(.int .i64 0)]⟩
def ti4:TI:=⟨.bool,1,1,[(.bool false)]⟩
def ti5:TI:=⟨.int .u8,1,1,[(.int .u8 0)]⟩
def ti6:TI:=⟨.int .u8,1,1,[(.int .u8 0)]⟩
def ti7:TI:=⟨.strct true [(0,2),(1,3),(2,4),(3,6)],4,24,[(.int .i64 0),(.int .i64 0),(.bool false),(.int .u8 0)]⟩
def ti8:TI:=⟨.strct true [(0,2),(1,3),(2,4),(3,6)],4,24,[(.int .i64 0),(.int .i64 0),(.bool false),(.int .u8 0)]⟩
def ti9:TI:=⟨.str,1,16,[(.string ⟨#[]⟩)]⟩
def j5r:TI:=⟨.str,1,16,[(.string ⟨#[]⟩)]⟩
def j5s:TI:=⟨.str,1,16,[(.string ⟨#[]⟩)]⟩
def j5t:TI:=⟨.int .u64,1,8,[(.int .u64 0)]⟩
def j5u:TI:=⟨.strct false [(0,9),(1,12)],2,24,[(.string ⟨#[]⟩),(.int .u64 0)]⟩
def j5v:TI:=⟨.strct false [(0,9),(1,12)],2,24,[(.string ⟨#[]⟩),(.int .u64 0)]⟩
def j5w:TI:=⟨.other,1,8,[(.pointer none)]⟩
def j5x:TI:=⟨.other,1,8,[(.pointer none)]⟩
def j5y:TI:=⟨.other,1,8,[(.pointer none)]⟩
def j5z:TI:=⟨.strct false [(0,17)],1,8,[(.pointer none)]⟩
def j50:TI:=⟨.strct false [(0,17)],1,8,[(.pointer none)]⟩
def j51:TI:=⟨.other,1,16,[.nilIface]⟩
def j52:TI:=⟨.int .i32,1,4,[(.int .i32 0)]⟩
def j53:TI:=⟨.slice 64,1,24,[(.slice none 0 0)]⟩
def j54:TI:=⟨.strct false [(0,3),(1,22),(2,3),(3,3)],4,48,[(.int .i64 0),(.slice none 0 0),(.int .i64 0),(.int .i64 0)]⟩
def j55:TI:=⟨.strct false [(0,3),(1,22),(2,3),(3,3)],4,48,[(.int .i64 0),(.slice none 0 0),(.int .i64 0),(.int .i64 0)]⟩
def j56:TI:=oF
def j57:TI:=oF
def j58:TI:=⟨.int .i64,1,8,[(.int .i64 0)]⟩
def j59:TI:=oF
def j6a:TI:=⟨.slice 69,1,24,[(.slice none 0 0)]⟩
def j6b:TI:=oF
def j6c:TI:=oF
def j6d:TI:=oF
def j6e:TI:=oF
def j6f:TI:=oF
def j6g:TI:=oF
def j6h:TI:=oF
def j6i:TI:=⟨.slice 48,1,24,[(.slice none 0 0)]⟩
def j6j:TI:=⟨.slice 53,1,24,[(.slice none 0 0)]⟩
def j6k:TI:=⟨.strct false [(0,42),(1,43),(2,4)],3,56,[(.slice none 0 0),(.slice none 0 0),(.bool false)]⟩
def j6l:TI:=⟨.strct false [(0,42),(1,43),(2,4)],3,56,[(.slice none 0 0),(.slice none 0 0),(.bool false)]⟩
def j6m:TI:=oF
def j6n:TI:=⟨.slice 3,1,24,[(.slice none 0 0)]⟩
def j6o:TI:=oF
def j6p:TI:=⟨.slice 4,1,24,[(.slice none 0 0)]⟩
def j6q:TI:=oF
def j6r:TI:=⟨.strct true [(0,3),(1,3),(2,3)],3,24,[(.int .i64 0),(.int .i64 0),(.int .i64 0)]⟩
def j6s:TI:=⟨.strct true [(0,3),(1,3),(2,3)],3,24,[(.int .i64 0),(.int .i64 0),(.int .i64 0)]⟩
def j6t:TI:=oF
def j6u:TI:=oF
def j6v:TI:=oF
def j6w:TI:=oF
def j6x:TI:=oF
def j6y:TI:=oF
def j6z:TI:=oF
def j60:TI:=⟨.strct false [(0,9),(1,48),(2,48)],3,64,[(.string ⟨#[]⟩),(.slice none 0 0),(.slice none 0 0)]⟩
def j61:TI:=⟨.strct false [(0,9),(1,48),(2,48)],3,64,[(.string ⟨#[]⟩),(.slice none 0 0),(.slice none 0 0)]⟩
def j62:TI:=oF
def j63:TI:=oF
def j64:TI:=oF
def j65:TI:=⟨.arr false 2 48,2,48,[(.slice none 0 0),(.slice none 0 0)]⟩
def j66:TI:=oF
def j67:TI:=oF
def j68:TI:=oF
def j69:TI:=oF
def j7a:TI:=oF
def j7b:TI:=oF
def j7c:TI:=oF
def j7d:TI:=oF
def j7e:TI:=oF
def j7f:TI:=oF
def j7g:TI:=⟨.slice 25,1,24,[(.slice none 0 0)]⟩
def j7h:TI:=oF
def j7i:TI:=oF
def j7j:TI:=oF
def j7k:TI:=oF
def j7l:TI:=oF
def j7m:TI:=oF
def j7n:TI:=oF
def j7o:TI:=oF
def j7p:TI:=oF
def j7q:TI:=oF
def j7r:TI:=oF
def j7s:TI:=oF
def j7t:TI:=oF
def j7u:TI:=⟨.other,1,8,[(.pointer none)]⟩
def j7v:TI:=oF
def jvl:TI:=oF
def jvm:TI:=⟨.map 3 3,1,8,[(.map none)]⟩
def jvn:TI:=⟨.strct false [(0,3),(1,48)],2,32,[(.int .i64 0),(.slice none 0 0)]⟩
def jvo:TI:=⟨.strct false [(0,3),(1,48)],2,32,[(.int .i64 0),(.slice none 0 0)]⟩
def jvp:TI:=oF
def jvq:TI:=oF
def jvr:TI:=oF
def jvs:TI:=oF
def jvt:TI:=oF
def jvu:TI:=oF
def jvv:TI:=oF
def jvw:TI:=⟨.strct false [(0,42),(1,48),(2,3),(3,3)],4,64,[(.slice none 0 0),(.slice none 0 0),(.int .i64 0),(.int .i64 0)]⟩
def jvx:TI:=⟨.strct false [(0,42),(1,48),(2,3),(3,3)],4,64,[(.slice none 0 0),(.slice none 0 0),(.int .i64 0),(.int .i64 0)]⟩
def jvy:TI:=oF
def jvz:TI:=oF
def jv0:TI:=oF
def jv1:TI:=⟨.slice 121,1,24,[(.slice none 0 0)]⟩
def jv2:TI:=oF
def jv3:TI:=⟨.int .u32,1,4,[(.int .u32 0)]⟩
def jv4:TI:=oF
def jv5:TI:=oF
def jv6:TI:=oF
def jv7:TI:=oF
def jv8:TI:=oF
def jv9:TI:=oF
def jwa:TI:=oF
def jwb:TI:=oF
def jwc:TI:=oF
def jwd:TI:=oF
def jwe:TI:=⟨.other,1,8,[(.pointer none)]⟩
def jwf:TI:=⟨.strct false [(0,42),(1,42)],2,48,[(.slice none 0 0),(.slice none 0 0)]⟩
def jwg:TI:=⟨.strct false [(0,42),(1,42)],2,48,[(.slice none 0 0),(.slice none 0 0)]⟩
def jwh:TI:=⟨.slice 139,1,24,[(.slice none 0 0)]⟩
def jwi:TI:=oF
def jwj:TI:=⟨.strct false [(0,48),(1,48)],2,48,[(.slice none 0 0),(.slice none 0 0)]⟩
def jwk:TI:=⟨.strct false [(0,48),(1,48)],2,48,[(.slice none 0 0),(.slice none 0 0)]⟩
def jwl:TI:=oF
def jwm:TI:=oF
def jwn:TI:=⟨.strct false [(0,42),(1,48),(2,3),(3,3)],4,64,[(.slice none 0 0),(.slice none 0 0),(.int .i64 0),(.int .i64 0)]⟩
def jwo:TI:=⟨.strct false [(0,42),(1,48),(2,3),(3,3)],4,64,[(.slice none 0 0),(.slice none 0 0),(.int .i64 0),(.int .i64 0)]⟩
def jwp:TI:=oF
def jwq:TI:=oF
def jwr:TI:=oF
def jws:TI:=oF
def jwt:TI:=⟨.int .u64,1,8,[(.int .u64 0)]⟩
def jwu:TI:=oF
def jwv:TI:=oF
def jww:TI:=oF
def jwx:TI:=oF
def jwy:TI:=oF
def jwz:TI:=oF
def jw0:TI:=⟨.other,1,8,[(.pointer none)]⟩
def jw1:TI:=oF
def jw2:TI:=oF
def jw3:TI:=oF
def jw4:TI:=⟨.int .i64,1,8,[(.int .i64 0)]⟩
def jw5:TI:=oF
def jw6:TI:=oF
def jw7:TI:=oF
def jw8:TI:=oF
def jw9:TI:=oF
def jxa:TI:=oF
def jxb:TI:=⟨.int .u64,1,8,[(.int .u64 0)]⟩
def jxc:TI:=oF
def jxd:TI:=oF
def jxe:TI:=⟨.int .u64,1,8,[(.int .u64 0)]⟩
def jxf:TI:=oF
def jxg:TI:=oF
def jxh:TI:=oF
def jxi:TI:=⟨.other,1,8,[(.pointer none)]⟩
def jxj:TI:=oF
def jxk:TI:=⟨.other,1,8,[(.pointer none)]⟩
def jxl:TI:=oF
def jxm:TI:=oF
def jxn:TI:=⟨.strct false [(0,17),(1,17),(2,17),(3,9)],4,40,[(.pointer none),(.pointer none),(.pointer none),(.string ⟨#[]⟩)]⟩
def jxo:TI:=⟨.strct false [(0,17),(1,17),(2,17),(3,9)],4,40,[(.pointer none),(.pointer none),(.pointer none),(.string ⟨#[]⟩)]⟩
def jxp:TI:=⟨.arr false 0 16,0,0,[]⟩
def jxq:TI:=⟨.strct false [(0,183)],0,0,[]⟩
def jxr:TI:=⟨.strct false [(0,183)],0,0,[]⟩
def jxs:TI:=oF
def jxt:TI:=⟨.int .u8,1,1,[(.int .u8 0)]⟩
def jxu:TI:=⟨.int .u8,1,1,[(.int .u8 0)]⟩
def jxv:TI:=oF
def jxw:TI:=⟨.other,1,8,[(.pointer none)]⟩
def jxx:TI:=⟨.int .i32,1,4,[(.int .i32 0)]⟩
def jxy:TI:=⟨.int .i32,1,4,[(.int .i32 0)]⟩
def jxz:TI:=⟨.strct false [(0,12),(1,12),(2,121),(3,187),(4,5),(5,5),(6,188),(7,189),(8,190),(9,191),(10,192)],11,48,[(.int .u64 0),(.int .u64 0),(.int .u32 0),(.int .u8 0),(.int .u8 0),(.int .u8 0),(.int .u8 0), .nilFunc,(.pointer none),(.int .i32 0),(.int .i32 0)]⟩
def jx0:TI:=⟨.strct false [(0,12),(1,12),(2,121),(3,187),(4,5),(5,5),(6,188),(7,189),(8,190),(9,191),(10,192)],11,48,[(.int .u64 0),(.int .u64 0),(.int .u32 0),(.int .u8 0),(.int .u8 0),(.int .u8 0),(.int .u8 0), .nilFunc,(.pointer none),(.int .i32 0),(.int .i32 0)]⟩
def jx1:TI:=⟨.other,1,8,[(.pointer none)]⟩
def tt:TT
 |1=>some ti1
 |2=>some ti2
 |3=>some ti3
 |4=>some ti4
 |5=>some ti5
 |6=>some ti6
 |7=>some ti7
 |8=>some ti8
 |9=>some ti9
 |10=>some j5r
 |11=>some j5s
 |12=>some j5t
 |13=>some j5u
 |14=>some j5v
 |15=>some j5w
 |16=>some j5x
 |17=>some j5y
 |18=>some j5z
 |19=>some j50
 |20=>some j51
 |21=>some j52
 |22=>some j53
 |23=>some j54
 |24=>some j55
 |25=>some j56
 |26=>some j57
 |27=>some j58
 |29=>some j59
 |30=>some j6a
 |32=>some j6b
 |34=>some j6c
 |36=>some j6d
 |37=>some j6e
 |38=>some j6f
 |39=>some j6g
 |41=>some j6h
 |42=>some j6i
 |43=>some j6j
 |44=>some j6k
 |45=>some j6l
 |47=>some j6m
 |48=>some j6n
 |49=>some j6o
 |50=>some j6p
 |51=>some j6q
 |52=>some j6r
 |53=>some j6s
 |54=>some j6t
 |55=>some j6u
 |57=>some j6v
 |59=>some j6w
 |60=>some j6x
 |61=>some j6y
 |62=>some j6z
 |63=>some j60
 |64=>some j61
 |65=>some j62
 |67=>some j63
 |68=>some j64
 |69=>some j65
 |70=>some j66
 |71=>some j67
 |72=>some j68
 |73=>some j69
 |74=>some j7a
 |75=>some j7b
 |76=>some j7c
 |78=>some j7d
 |80=>some j7e
 |81=>some j7f
 |82=>some j7g
 |83=>some j7h
 |84=>some j7i
 |85=>some j7j
 |86=>some j7k
 |88=>some j7l
 |89=>some j7m
 |91=>some j7n
 |92=>some j7o
 |93=>some j7p
 |94=>some j7q
 |95=>some j7r
 |96=>some j7s
 |97=>some j7t
 |98=>some j7u
 |99=>some j7v
 |100=>some jvl
 |101=>some jvm
 |102=>some jvn
 |103=>some jvo
 |104=>some jvp
 |107=>some jvq
 |108=>some jvr
 |109=>some jvs
 |110=>some jvt
 |111=>some jvu
 |112=>some jvv
 |113=>some jvw
 |114=>some jvx
 |115=>some jvy
 |116=>some jvz
 |118=>some jv0
 |119=>some jv1
 |120=>some jv2
 |121=>some jv3
 |122=>some jv4
 |123=>some jv5
 |124=>some jv6
 |125=>some jv7
 |126=>some jv8
 |128=>some jv9
 |129=>some jwa
 |130=>some jwb
 |131=>some jwc
 |132=>some jwd
 |133=>some jwe
 |134=>some jwf
 |135=>some jwg
 |136=>some jwh
 |137=>some jwi
 |138=>some jwj
 |139=>some jwk
 |141=>some jwl
 |142=>some jwm
 |143=>some jwn
 |144=>some jwo
 |145=>some jwp
 |146=>some jwq
 |147=>some jwr
 |148=>some jws
 |149=>some jwt
 |150=>some jwu
 |151=>some jwv
 |153=>some jww
 |154=>some jwx
 |155=>some jwy
 |156=>some jwz
 |157=>some jw0
 |158=>some jw1
 |159=>some jw2
 |160=>some jw3
 |161=>some jw4
 |163=>some jw5
 |164=>some jw6
 |165=>some jw7
 |166=>some jw8
 |167=>some jw9
 |168=>some jxa
 |169=>some jxb
 |170=>some jxc
 |171=>some jxd
 |172=>some jxe
 |173=>some jxf
 |174=>some jxg
 |175=>some jxh
 |176=>some jxi
 |177=>some jxj
 |178=>some jxk
 |179=>some jxl
 |180=>some jxm
 |181=>some jxn
 |182=>some jxo
 |183=>some jxp
 |184=>some jxq
 |185=>some jxr
 |186=>some jxs
 |187=>some jxt
 |188=>some jxu
 |189=>some jxv
 |190=>some jxw
 |191=>some jxx
 |192=>some jxy
 |193=>some jxz
 |194=>some jx0
 |195=>some jx1
 |_=>none
theorem j8e:ak Tryz.prog 1 ti1:=fA .nilFunc Tryz.underlying1
theorem j8f:ak Tryz.prog 2 ti2:=fA ((.int .i64 0)) Tryz.underlying2
theorem j8g:ak Tryz.prog 3 ti3:=fA ((.int .i64 0)) Tryz.underlying3
theorem j8h:ak Tryz.prog 4 ti4:=fA ((.bool false)) Tryz.underlying4
theorem j8i:ak Tryz.prog 5 ti5:=fA ((.int .u8 0)) Tryz.underlying5
theorem j8j:ak Tryz.prog 6 ti6:=fA ((.int .u8 0)) Tryz.underlying6
theorem j8k:ak Tryz.prog 7 ti7:=fA (.agg #[(.int .i64 0),(.int .i64 0),(.bool false),(.int .u8 0)]) Tryz.underlying7 (h5:=fun _=>⟨by kernel_rfl,by kernel_rfl,by kernel_rfl⟩)
theorem j8l:ak Tryz.prog 8 ti8:=fA (.agg #[(.int .i64 0),(.int .i64 0),(.bool false),(.int .u8 0)]) Tryz.underlying8 (h5:=fun _=>⟨by kernel_rfl,by kernel_rfl,by kernel_rfl⟩)
theorem j8m:ak Tryz.prog 9 ti9:=fA ((.string ⟨#[]⟩)) Tryz.underlying9
theorem j3c:ak Tryz.prog 10 j5r:=fA ((.string ⟨#[]⟩)) Tryz.underlying10
theorem j3d:ak Tryz.prog 11 j5s:=fA ((.string ⟨#[]⟩)) Tryz.underlying11
theorem j3e:ak Tryz.prog 12 j5t:=fA ((.int .u64 0)) Tryz.underlying12
theorem j3f:ak Tryz.prog 13 j5u:=fA (.agg #[(.string ⟨#[]⟩),(.int .u64 0)]) Tryz.underlying13
theorem j3g:ak Tryz.prog 14 j5v:=fA (.agg #[(.string ⟨#[]⟩),(.int .u64 0)]) Tryz.underlying14
theorem j3h:ak Tryz.prog 15 j5w:=fA ((.pointer none)) Tryz.underlying15
theorem j3i:ak Tryz.prog 16 j5x:=fA ((.pointer none)) Tryz.underlying16
theorem j3j:ak Tryz.prog 17 j5y:=fA ((.pointer none)) Tryz.underlying17
theorem j3k:ak Tryz.prog 18 j5z:=fA (.agg #[(.pointer none)]) Tryz.underlying18
theorem j3l:ak Tryz.prog 19 j50:=fA (.agg #[(.pointer none)]) Tryz.underlying19
theorem j3m:ak Tryz.prog 20 j51:=fA (.nilIface) Tryz.underlying20
theorem j3n:ak Tryz.prog 21 j52:=fA ((.int .i32 0)) Tryz.underlying21
theorem j3o:ak Tryz.prog 22 j53:=fA ((.slice none 0 0)) Tryz.underlying22
theorem j3p:ak Tryz.prog 23 j54:=fA (.agg #[(.int .i64 0),(.slice none 0 0),(.int .i64 0),(.int .i64 0)]) Tryz.underlying23
theorem j3q:ak Tryz.prog 24 j55:=fA (.agg #[(.int .i64 0),(.slice none 0 0),(.int .i64 0),(.int .i64 0)]) Tryz.underlying24
theorem j3r:ak Tryz.prog 25 j56:=fA .nilFunc Tryz.underlying25
theorem j3s:ak Tryz.prog 26 j57:=fA .nilFunc Tryz.underlying26
theorem j3t:ak Tryz.prog 27 j58:=fA ((.int .i64 0)) Tryz.underlying27
theorem j3u:ak Tryz.prog 29 j59:=fA .nilFunc Tryz.underlying29
theorem j3v:ak Tryz.prog 30 j6a:=fA ((.slice none 0 0)) Tryz.underlying30
theorem j3w:ak Tryz.prog 32 j6b:=fA .nilFunc Tryz.underlying32
theorem j3x:ak Tryz.prog 34 j6c:=fA .nilFunc Tryz.underlying34
theorem j3y:ak Tryz.prog 36 j6d:=fA .nilFunc Tryz.underlying36
theorem j3z:ak Tryz.prog 37 j6e:=fA .nilFunc Tryz.underlying37
theorem j30:ak Tryz.prog 38 j6f:=fA .nilFunc Tryz.underlying38
theorem j31:ak Tryz.prog 39 j6g:=fA .nilFunc Tryz.underlying39
theorem j32:ak Tryz.prog 41 j6h:=fA .nilFunc Tryz.underlying41
theorem j33:ak Tryz.prog 42 j6i:=fA ((.slice none 0 0)) Tryz.underlying42
theorem j34:ak Tryz.prog 43 j6j:=fA ((.slice none 0 0)) Tryz.underlying43
theorem j35:ak Tryz.prog 44 j6k:=fA (.agg #[(.slice none 0 0),(.slice none 0 0),(.bool false)]) Tryz.underlying44
theorem j36:ak Tryz.prog 45 j6l:=fA (.agg #[(.slice none 0 0),(.slice none 0 0),(.bool false)]) Tryz.underlying45
theorem j37:ak Tryz.prog 47 j6m:=fA .nilFunc Tryz.underlying47
theorem j38:ak Tryz.prog 48 j6n:=fA ((.slice none 0 0)) Tryz.underlying48
theorem j39:ak Tryz.prog 49 j6o:=fA .nilFunc Tryz.underlying49
theorem j4a:ak Tryz.prog 50 j6p:=fA ((.slice none 0 0)) Tryz.underlying50
theorem j4b:ak Tryz.prog 51 j6q:=fA .nilFunc Tryz.underlying51
theorem j4c:ak Tryz.prog 52 j6r:=fA (.agg #[(.int .i64 0),(.int .i64 0),(.int .i64 0)]) Tryz.underlying52 (h5:=fun _=>⟨by kernel_rfl,by kernel_rfl,by kernel_rfl⟩)
theorem j4d:ak Tryz.prog 53 j6s:=fA (.agg #[(.int .i64 0),(.int .i64 0),(.int .i64 0)]) Tryz.underlying53 (h5:=fun _=>⟨by kernel_rfl,by kernel_rfl,by kernel_rfl⟩)
theorem j4e:ak Tryz.prog 54 j6t:=fA .nilFunc Tryz.underlying54
theorem j4f:ak Tryz.prog 55 j6u:=fA .nilFunc Tryz.underlying55
theorem j4g:ak Tryz.prog 57 j6v:=fA .nilFunc Tryz.underlying57
theorem j4h:ak Tryz.prog 59 j6w:=fA .nilFunc Tryz.underlying59
theorem j4i:ak Tryz.prog 60 j6x:=fA .nilFunc Tryz.underlying60
theorem j4j:ak Tryz.prog 61 j6y:=fA .nilFunc Tryz.underlying61
theorem j4k:ak Tryz.prog 62 j6z:=fA .nilFunc Tryz.underlying62
theorem j4l:ak Tryz.prog 63 j60:=fA (.agg #[(.string ⟨#[]⟩),(.slice none 0 0),(.slice none 0 0)]) Tryz.underlying63
theorem j4m:ak Tryz.prog 64 j61:=fA (.agg #[(.string ⟨#[]⟩),(.slice none 0 0),(.slice none 0 0)]) Tryz.underlying64
theorem j4n:ak Tryz.prog 65 j62:=fA .nilFunc Tryz.underlying65
theorem j4o:ak Tryz.prog 67 j63:=fA .nilFunc Tryz.underlying67
theorem j4p:ak Tryz.prog 68 j64:=fA .nilFunc Tryz.underlying68
theorem j4q:ak Tryz.prog 69 j65:=fA (.agg #[(.slice none 0 0),(.slice none 0 0)]) Tryz.underlying69
theorem j4r:ak Tryz.prog 70 j66:=fA .nilFunc Tryz.underlying70
theorem j4s:ak Tryz.prog 71 j67:=fA .nilFunc Tryz.underlying71
theorem j4t:ak Tryz.prog 72 j68:=fA .nilFunc Tryz.underlying72
theorem j4u:ak Tryz.prog 73 j69:=fA .nilFunc Tryz.underlying73
theorem j4v:ak Tryz.prog 74 j7a:=fA .nilFunc Tryz.underlying74
theorem j4w:ak Tryz.prog 75 j7b:=fA .nilFunc Tryz.underlying75
theorem j4x:ak Tryz.prog 76 j7c:=fA .nilFunc Tryz.underlying76
theorem j4y:ak Tryz.prog 78 j7d:=fA .nilFunc Tryz.underlying78
theorem j4z:ak Tryz.prog 80 j7e:=fA .nilFunc Tryz.underlying80
theorem j40:ak Tryz.prog 81 j7f:=fA .nilFunc Tryz.underlying81
theorem j41:ak Tryz.prog 82 j7g:=fA ((.slice none 0 0)) Tryz.underlying82
theorem j42:ak Tryz.prog 83 j7h:=fA .nilFunc Tryz.underlying83
theorem j43:ak Tryz.prog 84 j7i:=fA .nilFunc Tryz.underlying84
theorem j44:ak Tryz.prog 85 j7j:=fA .nilFunc Tryz.underlying85
theorem j45:ak Tryz.prog 86 j7k:=fA .nilFunc Tryz.underlying86
theorem j46:ak Tryz.prog 88 j7l:=fA .nilFunc Tryz.underlying88
theorem j47:ak Tryz.prog 89 j7m:=fA .nilFunc Tryz.underlying89
theorem j48:ak Tryz.prog 91 j7n:=fA .nilFunc Tryz.underlying91
theorem j49:ak Tryz.prog 92 j7o:=fA .nilFunc Tryz.underlying92
theorem j5a:ak Tryz.prog 93 j7p:=fA .nilFunc Tryz.underlying93
theorem j5b:ak Tryz.prog 94 j7q:=fA .nilFunc Tryz.underlying94
theorem j5c:ak Tryz.prog 95 j7r:=fA .nilFunc Tryz.underlying95
theorem j5d:ak Tryz.prog 96 j7s:=fA .nilFunc Tryz.underlying96
theorem j5e:ak Tryz.prog 97 j7t:=fA .nilFunc Tryz.underlying97
theorem j5f:ak Tryz.prog 98 j7u:=fA ((.pointer none)) Tryz.underlying98
theorem j5g:ak Tryz.prog 99 j7v:=fA .nilFunc Tryz.underlying99
theorem jy3:ak Tryz.prog 100 jvl:=fA .nilFunc Tryz.underlying100
theorem jy4:ak Tryz.prog 101 jvm:=fA ((.map none)) Tryz.underlying101
theorem jy5:ak Tryz.prog 102 jvn:=fA (.agg #[(.int .i64 0),(.slice none 0 0)]) Tryz.underlying102
theorem jy6:ak Tryz.prog 103 jvo:=fA (.agg #[(.int .i64 0),(.slice none 0 0)]) Tryz.underlying103
theorem jy7:ak Tryz.prog 104 jvp:=fA .nilFunc Tryz.underlying104
theorem jy8:ak Tryz.prog 107 jvq:=fA .nilFunc Tryz.underlying107
theorem jy9:ak Tryz.prog 108 jvr:=fA .nilFunc Tryz.underlying108
theorem jza:ak Tryz.prog 109 jvs:=fA .nilFunc Tryz.underlying109
theorem jzb:ak Tryz.prog 110 jvt:=fA .nilFunc Tryz.underlying110
theorem jzc:ak Tryz.prog 111 jvu:=fA .nilFunc Tryz.underlying111
theorem jzd:ak Tryz.prog 112 jvv:=fA .nilFunc Tryz.underlying112
theorem jze:ak Tryz.prog 113 jvw:=fA (.agg #[(.slice none 0 0),(.slice none 0 0),(.int .i64 0),(.int .i64 0)]) Tryz.underlying113
theorem jzf:ak Tryz.prog 114 jvx:=fA (.agg #[(.slice none 0 0),(.slice none 0 0),(.int .i64 0),(.int .i64 0)]) Tryz.underlying114
theorem jzg:ak Tryz.prog 115 jvy:=fA .nilFunc Tryz.underlying115
theorem jzh:ak Tryz.prog 116 jvz:=fA .nilFunc Tryz.underlying116
theorem jzi:ak Tryz.prog 118 jv0:=fA .nilFunc Tryz.underlying118
theorem jzj:ak Tryz.prog 119 jv1:=fA ((.slice none 0 0)) Tryz.underlying119
theorem jzk:ak Tryz.prog 120 jv2:=fA .nilFunc Tryz.underlying120
theorem jzl:ak Tryz.prog 121 jv3:=fA ((.int .u32 0)) Tryz.underlying121
theorem jzm:ak Tryz.prog 122 jv4:=fA .nilFunc Tryz.underlying122
theorem jzn:ak Tryz.prog 123 jv5:=fA .nilFunc Tryz.underlying123
theorem jzo:ak Tryz.prog 124 jv6:=fA .nilFunc Tryz.underlying124
theorem jzp:ak Tryz.prog 125 jv7:=fA .nilFunc Tryz.underlying125
theorem jzq:ak Tryz.prog 126 jv8:=fA .nilFunc Tryz.underlying126
theorem jzr:ak Tryz.prog 128 jv9:=fA .nilFunc Tryz.underlying128
theorem jzs:ak Tryz.prog 129 jwa:=fA .nilFunc Tryz.underlying129
theorem jzt:ak Tryz.prog 130 jwb:=fA .nilFunc Tryz.underlying130
theorem jzu:ak Tryz.prog 131 jwc:=fA .nilFunc Tryz.underlying131
theorem jzv:ak Tryz.prog 132 jwd:=fA .nilFunc Tryz.underlying132
theorem jzw:ak Tryz.prog 133 jwe:=fA ((.pointer none)) Tryz.underlying133
theorem jzx:ak Tryz.prog 134 jwf:=fA (.agg #[(.slice none 0 0),(.slice none 0 0)]) Tryz.underlying134
theorem jzy:ak Tryz.prog 135 jwg:=fA (.agg #[(.slice none 0 0),(.slice none 0 0)]) Tryz.underlying135
theorem jzz:ak Tryz.prog 136 jwh:=fA ((.slice none 0 0)) Tryz.underlying136
theorem jz0:ak Tryz.prog 137 jwi:=fA .nilFunc Tryz.underlying137
theorem jz1:ak Tryz.prog 138 jwj:=fA (.agg #[(.slice none 0 0),(.slice none 0 0)]) Tryz.underlying138
theorem jz2:ak Tryz.prog 139 jwk:=fA (.agg #[(.slice none 0 0),(.slice none 0 0)]) Tryz.underlying139
theorem jz3:ak Tryz.prog 141 jwl:=fA .nilFunc Tryz.underlying141
theorem jz4:ak Tryz.prog 142 jwm:=fA .nilFunc Tryz.underlying142
theorem jz5:ak Tryz.prog 143 jwn:=fA (.agg #[(.slice none 0 0),(.slice none 0 0),(.int .i64 0),(.int .i64 0)]) Tryz.underlying143
theorem jz6:ak Tryz.prog 144 jwo:=fA (.agg #[(.slice none 0 0),(.slice none 0 0),(.int .i64 0),(.int .i64 0)]) Tryz.underlying144
theorem jz7:ak Tryz.prog 145 jwp:=fA .nilFunc Tryz.underlying145
theorem jz8:ak Tryz.prog 146 jwq:=fA .nilFunc Tryz.underlying146
theorem jz9:ak Tryz.prog 147 jwr:=fA .nilFunc Tryz.underlying147
theorem j0a:ak Tryz.prog 148 jws:=fA .nilFunc Tryz.underlying148
theorem j0b:ak Tryz.prog 149 jwt:=fA ((.int .u64 0)) Tryz.underlying149
theorem j0c:ak Tryz.prog 150 jwu:=fA .nilFunc Tryz.underlying150
theorem j0d:ak Tryz.prog 151 jwv:=fA .nilFunc Tryz.underlying151
theorem j0e:ak Tryz.prog 153 jww:=fA .nilFunc Tryz.underlying153
theorem j0f:ak Tryz.prog 154 jwx:=fA .nilFunc Tryz.underlying154
theorem j0g:ak Tryz.prog 155 jwy:=fA .nilFunc Tryz.underlying155
theorem j0h:ak Tryz.prog 156 jwz:=fA .nilFunc Tryz.underlying156
theorem j0i:ak Tryz.prog 157 jw0:=fA ((.pointer none)) Tryz.underlying157
theorem j0j:ak Tryz.prog 158 jw1:=fA .nilFunc Tryz.underlying158
theorem j0k:ak Tryz.prog 159 jw2:=fA .nilFunc Tryz.underlying159
theorem j0l:ak Tryz.prog 160 jw3:=fA .nilFunc Tryz.underlying160
theorem j0m:ak Tryz.prog 161 jw4:=fA ((.int .i64 0)) Tryz.underlying161
theorem j0n:ak Tryz.prog 163 jw5:=fA .nilFunc Tryz.underlying163
theorem j0o:ak Tryz.prog 164 jw6:=fA .nilFunc Tryz.underlying164
theorem j0p:ak Tryz.prog 165 jw7:=fA .nilFunc Tryz.underlying165
theorem j0q:ak Tryz.prog 166 jw8:=fA .nilFunc Tryz.underlying166
theorem j0r:ak Tryz.prog 167 jw9:=fA .nilFunc Tryz.underlying167
theorem j0s:ak Tryz.prog 168 jxa:=fA .nilFunc Tryz.underlying168
theorem j0t:ak Tryz.prog 169 jxb:=fA ((.int .u64 0)) Tryz.underlying169
theorem j0u:ak Tryz.prog 170 jxc:=fA .nilFunc Tryz.underlying170
theorem j0v:ak Tryz.prog 171 jxd:=fA .nilFunc Tryz.underlying171
theorem j0w:ak Tryz.prog 172 jxe:=fA ((.int .u64 0)) Tryz.underlying172
theorem j0x:ak Tryz.prog 173 jxf:=fA .nilFunc Tryz.underlying173
theorem j0y:ak Tryz.prog 174 jxg:=fA .nilFunc Tryz.underlying174
theorem j0z:ak Tryz.prog 175 jxh:=fA .nilFunc Tryz.underlying175
theorem j00:ak Tryz.prog 176 jxi:=fA ((.pointer none)) Tryz.underlying176
theorem j01:ak Tryz.prog 177 jxj:=fA .nilFunc Tryz.underlying177
theorem j02:ak Tryz.prog 178 jxk:=fA ((.pointer none)) Tryz.underlying178
theorem j03:ak Tryz.prog 179 jxl:=fA .nilFunc Tryz.underlying179
theorem j04:ak Tryz.prog 180 jxm:=fA .nilFunc Tryz.underlying180
theorem j05:ak Tryz.prog 181 jxn:=fA (.agg #[(.pointer none),(.pointer none),(.pointer none),(.string ⟨#[]⟩)]) Tryz.underlying181
theorem j06:ak Tryz.prog 182 jxo:=fA (.agg #[(.pointer none),(.pointer none),(.pointer none),(.string ⟨#[]⟩)]) Tryz.underlying182
theorem j07:ak Tryz.prog 183 jxp:=fA (.agg #[]) Tryz.underlying183
theorem j08:ak Tryz.prog 184 jxq:=fA (.agg #[]) Tryz.underlying184
theorem j09:ak Tryz.prog 185 jxr:=fA (.agg #[]) Tryz.underlying185
theorem j1a:ak Tryz.prog 186 jxs:=fA .nilFunc Tryz.underlying186
theorem j1b:ak Tryz.prog 187 jxt:=fA ((.int .u8 0)) Tryz.underlying187
theorem j1c:ak Tryz.prog 188 jxu:=fA ((.int .u8 0)) Tryz.underlying188
theorem j1d:ak Tryz.prog 189 jxv:=fA .nilFunc Tryz.underlying189
theorem j1e:ak Tryz.prog 190 jxw:=fA ((.pointer none)) Tryz.underlying190
theorem j1f:ak Tryz.prog 191 jxx:=fA ((.int .i32 0)) Tryz.underlying191
theorem j1g:ak Tryz.prog 192 jxy:=fA ((.int .i32 0)) Tryz.underlying192
theorem j1h:ak Tryz.prog 193 jxz:=fA (.agg #[(.int .u64 0),(.int .u64 0),(.int .u32 0),(.int .u8 0),(.int .u8 0),(.int .u8 0),(.int .u8 0), .nilFunc,(.pointer none),(.int .i32 0),(.int .i32 0)]) Tryz.underlying193
theorem j1i:ak Tryz.prog 194 jx0:=fA (.agg #[(.int .u64 0),(.int .u64 0),(.int .u32 0),(.int .u8 0),(.int .u8 0),(.int .u8 0),(.int .u8 0), .nilFunc,(.pointer none),(.int .i32 0),(.int .i32 0)]) Tryz.underlying194
theorem j1j:ak Tryz.prog 195 jx1:=fA ((.pointer none)) Tryz.underlying195
set_option maxRecDepth 100000 in
theorem fits:dy Tryz.prog tt:=by
 intro t x h;unfold tt at h;split at h
 ·cases h;exact j8e
 ·cases h;exact j8f
 ·cases h;exact j8g
 ·cases h;exact j8h
 ·cases h;exact j8i
 ·cases h;exact j8j
 ·cases h;exact j8k
 ·cases h;exact j8l
 ·cases h;exact j8m
 ·cases h;exact j3c
 ·cases h;exact j3d
 ·cases h;exact j3e
 ·cases h;exact j3f
 ·cases h;exact j3g
 ·cases h;exact j3h
 ·cases h;exact j3i
 ·cases h;exact j3j
 ·cases h;exact j3k
 ·cases h;exact j3l
 ·cases h;exact j3m
 ·cases h;exact j3n
 ·cases h;exact j3o
 ·cases h;exact j3p
 ·cases h;exact j3q
 ·cases h;exact j3r
 ·cases h;exact j3s
 ·cases h;exact j3t
 ·cases h;exact j3u
 ·cases h;exact j3v
 ·cases h;exact j3w
 ·cases h;exact j3x
 ·cases h;exact j3y
 ·cases h;exact j3z
 ·cases h;exact j30
 ·cases h;exact j31
 ·cases h;exact j32
 ·cases h;exact j33
 ·cases h;exact j34
 ·cases h;exact j35
 ·cases h;exact j36
 ·cases h;exact j37
 ·cases h;exact j38
 ·cases h;exact j39
 ·cases h;exact j4a
 ·cases h;exact j4b
 ·cases h;exact j4c
 ·cases h;exact j4d
 ·cases h;exact j4e
 ·cases h;exact j4f
 ·cases h;exact j4g
 ·cases h;exact j4h
 ·cases h;exact j4i
 ·cases h;exact j4j
 ·cases h;exact j4k
 ·cases h;exact j4l
 ·cases h;exact j4m
 ·cases h;exact j4n
 ·cases h;exact j4o
 ·cases h;exact j4p
 ·cases h;exact j4q
 ·cases h;exact j4r
 ·cases h;exact j4s
 ·cases h;exact j4t
 ·cases h;exact j4u
 ·cases h;exact j4v
 ·cases h;exact j4w
 ·cases h;exact j4x
 ·cases h;exact j4y
 ·cases h;exact j4z
 ·cases h;exact j40
 ·cases h;exact j41
 ·cases h;exact j42
 ·cases h;exact j43
 ·cases h;exact j44
 ·cases h;exact j45
 ·cases h;exact j46
 ·cases h;exact j47
 ·cases h;exact j48
 ·cases h;exact j49
 ·cases h;exact j5a
 ·cases h;exact j5b
 ·cases h;exact j5c
 ·cases h;exact j5d
 ·cases h;exact j5e
 ·cases h;exact j5f
 ·cases h;exact j5g
 ·cases h;exact jy3
 ·cases h;exact jy4
 ·cases h;exact jy5
 ·cases h;exact jy6
 ·cases h;exact jy7
 ·cases h;exact jy8
 ·cases h;exact jy9
 ·cases h;exact jza
 ·cases h;exact jzb
 ·cases h;exact jzc
 ·cases h;exact jzd
 ·cases h;exact jze
 ·cases h;exact jzf
 ·cases h;exact jzg
 ·cases h;exact jzh
 ·cases h;exact jzi
 ·cases h;exact jzj
 ·cases h;exact jzk
 ·cases h;exact jzl
 ·cases h;exact jzm
 ·cases h;exact jzn
 ·cases h;exact jzo
 ·cases h;exact jzp
 ·cases h;exact jzq
 ·cases h;exact jzr
 ·cases h;exact jzs
 ·cases h;exact jzt
 ·cases h;exact jzu
 ·cases h;exact jzv
 ·cases h;exact jzw
 ·cases h;exact jzx
 ·cases h;exact jzy
 ·cases h;exact jzz
 ·cases h;exact jz0
 ·cases h;exact jz1
 ·cases h;exact jz2
 ·cases h;exact jz3
 ·cases h;exact jz4
 ·cases h;exact jz5
 ·cases h;exact jz6
 ·cases h;exact jz7
 ·cases h;exact jz8
 ·cases h;exact jz9
 ·cases h;exact j0a
 ·cases h;exact j0b
 ·cases h;exact j0c
 ·cases h;exact j0d
 ·cases h;exact j0e
 ·cases h;exact j0f
 ·cases h;exact j0g
 ·cases h;exact j0h
 ·cases h;exact j0i
 ·cases h;exact j0j
 ·cases h;exact j0k
 ·cases h;exact j0l
 ·cases h;exact j0m
 ·cases h;exact j0n
 ·cases h;exact j0o
 ·cases h;exact j0p
 ·cases h;exact j0q
 ·cases h;exact j0r
 ·cases h;exact j0s
 ·cases h;exact j0t
 ·cases h;exact j0u
 ·cases h;exact j0v
 ·cases h;exact j0w
 ·cases h;exact j0x
 ·cases h;exact j0y
 ·cases h;exact j0z
 ·cases h;exact j00
 ·cases h;exact j01
 ·cases h;exact j02
 ·cases h;exact j03
 ·cases h;exact j04
 ·cases h;exact j05
 ·cases h;exact j06
 ·cases h;exact j07
 ·cases h;exact j08
 ·cases h;exact j09
 ·cases h;exact j1a
 ·cases h;exact j1b
 ·cases h;exact j1c
 ·cases h;exact j1d
 ·cases h;exact j1e
 ·cases h;exact j1f
 ·cases h;exact j1g
 ·cases h;exact j1h
 ·cases h;exact j1i
 ·cases h;exact j1j
 ·cases h
theorem a9:Tryz.prog.follows .mixedOrders=true:=rfl
end Go.Proofs.YtclbndfjhjladaaGreat
