/-
  The types of this seat's program: a row a type (its kind, cells, bytes, the cells of its zero value), and that each row is the program's own. Made by program out of the translation.
-/
import Derived.Test.YtclbndfjhjladaaGreatZ4KE
import Derived.Test.YtclbndfjhjladaaGreatProg
import Derived.KernelRfl
set_option linter.all false
namespace Go.Proofs.YtclbndfjhjladaaGreat
open Go.K Go.M
theorem j8v{P:Program}{t:TypeId}{k:TK}{sz by_:Nat}{zs:List Value}{z:Value}{d:TypeDesc}(h1:(P.info? t).map (fun i=>(i.zero,i.size,i.bytes))=some (some z,sz,by_))(h2:P.underlying t=some d)(h3:TK.of d=k.plain)(h4:z.cells.toList=zs)(h5:k.cmp=true→Cmp P t)(h6:k.one=true→zs=[z]):ak P t ⟨k,sz,by_,zs⟩:=by
 cases hi:P.info? t with
 |none=>simp[hi]at h1
 |some i=>
  simp only[hi,Option.map_some,Option.some.injEq,Prod.mk.injEq]at h1;exact⟨⟨i,d,z,hi,h2,h3,h1.2.1,h1.2.2,h1.1,h4⟩,h5,fun e=>⟨i,z,hi,h1.1,h6 e⟩⟩
theorem fA{t:TypeId}{k:TK}{sz by_:Nat}{zs:List Value}{d:TypeDesc}(z:Value)(h2:Tryz.prog.underlying t=some d)(h1:(Tryz.prog.info? t).map (fun i=>(i.zero,i.size,i.bytes))=some (some z,sz,by_):=by kernel_rfl)(h3:TK.of d=k.plain:=by rfl)(h4:z.cells.toList=zs:=by rfl)(h5:k.cmp=true→Cmp Tryz.prog t:=by intro h;cases h)(h6:k.one=true→zs=[z]:=by first|exact fun _=>rfl|(intro h;cases h)):ak Tryz.prog t ⟨k,sz,by_,zs⟩:=j8v h1 h2 h3 h4 h5 h6
abbrev oF:TI:=⟨.other,1,8,[.nilFunc]⟩
def ti1:TI:=oF
def ti2:TI:=⟨.int .i64,1,8,[(.int .i64 0)]⟩
def ti3:TI:=⟨.int .i64,1,8,[(.int .i64 0)]⟩
def ti4:TI:=⟨.bool,1,1,[(.bool false)]⟩
def ti5:TI:=⟨.int .u8,1,1,[(.int .u8 0)]⟩
def ti6:TI:=⟨.int .u8,1,1,[(.int .u8 0)]⟩
def ti7:TI:=⟨.strct true [(0,2),(1,3),(2,4),(3,6)],4,24,[(.int .i64 0),(.int .i64 0),(.bool false),(.int .u8 0)]⟩
def ti8:TI:=⟨.strct true [(0,2),(1,3),(2,4),(3,6)],4,24,[(.int .i64 0),(.int .i64 0),(.bool false),(.int .u8 0)]⟩
def ti9:TI:=⟨.str,1,16,[(.string ⟨#[]⟩)]⟩
def zcm:TI:=⟨.str,1,16,[(.string ⟨#[]⟩)]⟩
def zcn:TI:=⟨.str,1,16,[(.string ⟨#[]⟩)]⟩
def zco:TI:=⟨.int .u64,1,8,[(.int .u64 0)]⟩
def zcp:TI:=⟨.strct false [(0,9),(1,12)],2,24,[(.string ⟨#[]⟩),(.int .u64 0)]⟩
def zcq:TI:=⟨.strct false [(0,9),(1,12)],2,24,[(.string ⟨#[]⟩),(.int .u64 0)]⟩
def zcr:TI:=⟨.other,1,8,[(.pointer none)]⟩
def zcs:TI:=⟨.other,1,8,[(.pointer none)]⟩
def zct:TI:=⟨.other,1,8,[(.pointer none)]⟩
def zcu:TI:=⟨.strct false [(0,17)],1,8,[(.pointer none)]⟩
def zcv:TI:=⟨.strct false [(0,17)],1,8,[(.pointer none)]⟩
def zcw:TI:=⟨.other,1,16,[.nilIface]⟩
def zcx:TI:=⟨.int .i32,1,4,[(.int .i32 0)]⟩
def zcy:TI:=⟨.slice 64,1,24,[(.slice none 0 0)]⟩
def zcz:TI:=⟨.strct false [(0,3),(1,22),(2,3),(3,3)],4,48,[(.int .i64 0),(.slice none 0 0),(.int .i64 0),(.int .i64 0)]⟩
def zc0:TI:=⟨.strct false [(0,3),(1,22),(2,3),(3,3)],4,48,[(.int .i64 0),(.slice none 0 0),(.int .i64 0),(.int .i64 0)]⟩
def zc1:TI:=oF
def zc2:TI:=oF
def zc3:TI:=⟨.int .i64,1,8,[(.int .i64 0)]⟩
def zc4:TI:=oF
def zc5:TI:=⟨.slice 69,1,24,[(.slice none 0 0)]⟩
def zc6:TI:=oF
def zc7:TI:=oF
def zc8:TI:=oF
def zc9:TI:=oF
def zda:TI:=oF
def zdb:TI:=oF
def zdc:TI:=oF
def zdd:TI:=⟨.slice 48,1,24,[(.slice none 0 0)]⟩
def zde:TI:=⟨.slice 53,1,24,[(.slice none 0 0)]⟩
def zdf:TI:=⟨.strct false [(0,42),(1,43),(2,4)],3,56,[(.slice none 0 0),(.slice none 0 0),(.bool false)]⟩
def zdg:TI:=⟨.strct false [(0,42),(1,43),(2,4)],3,56,[(.slice none 0 0),(.slice none 0 0),(.bool false)]⟩
def zdh:TI:=oF
def zdi:TI:=⟨.slice 3,1,24,[(.slice none 0 0)]⟩
def zdj:TI:=oF
def zdk:TI:=⟨.slice 4,1,24,[(.slice none 0 0)]⟩
def zdl:TI:=oF
def zdm:TI:=⟨.strct true [(0,3),(1,3),(2,3)],3,24,[(.int .i64 0),(.int .i64 0),(.int .i64 0)]⟩
def zdn:TI:=⟨.strct true [(0,3),(1,3),(2,3)],3,24,[(.int .i64 0),(.int .i64 0),(.int .i64 0)]⟩
def zdo:TI:=oF
def zdp:TI:=oF
def zdq:TI:=oF
def zdr:TI:=oF
def zds:TI:=oF
def zdt:TI:=oF
def zdu:TI:=oF
def zdv:TI:=⟨.strct false [(0,9),(1,48),(2,48)],3,64,[(.string ⟨#[]⟩),(.slice none 0 0),(.slice none 0 0)]⟩
def zdw:TI:=⟨.strct false [(0,9),(1,48),(2,48)],3,64,[(.string ⟨#[]⟩),(.slice none 0 0),(.slice none 0 0)]⟩
def zdx:TI:=oF
def zdy:TI:=oF
def zdz:TI:=oF
def zd0:TI:=⟨.arr false 2 48,2,48,[(.slice none 0 0),(.slice none 0 0)]⟩
def zd1:TI:=oF
def zd2:TI:=oF
def zd3:TI:=oF
def zd4:TI:=oF
def zd5:TI:=oF
def zd6:TI:=oF
def zd7:TI:=oF
def zd8:TI:=oF
def zd9:TI:=oF
def zea:TI:=oF
def zeb:TI:=⟨.slice 25,1,24,[(.slice none 0 0)]⟩
def zec:TI:=oF
def zed:TI:=oF
def zee:TI:=oF
def zef:TI:=oF
def zeg:TI:=oF
def zeh:TI:=oF
def zei:TI:=oF
def zej:TI:=oF
def zek:TI:=oF
def zel:TI:=oF
def zem:TI:=oF
def zen:TI:=oF
def zeo:TI:=oF
def zep:TI:=⟨.other,1,8,[(.pointer none)]⟩
def zeq:TI:=oF
def j2x:TI:=oF
def j2y:TI:=⟨.map 3 3,1,8,[(.map none)]⟩
def j2z:TI:=⟨.strct false [(0,3),(1,48)],2,32,[(.int .i64 0),(.slice none 0 0)]⟩
def j20:TI:=⟨.strct false [(0,3),(1,48)],2,32,[(.int .i64 0),(.slice none 0 0)]⟩
def j21:TI:=oF
def j22:TI:=oF
def j23:TI:=oF
def j24:TI:=oF
def j25:TI:=oF
def j26:TI:=oF
def j27:TI:=oF
def j28:TI:=⟨.strct false [(0,42),(1,48),(2,3),(3,3)],4,64,[(.slice none 0 0),(.slice none 0 0),(.int .i64 0),(.int .i64 0)]⟩
def j29:TI:=⟨.strct false [(0,42),(1,48),(2,3),(3,3)],4,64,[(.slice none 0 0),(.slice none 0 0),(.int .i64 0),(.int .i64 0)]⟩
def j3a:TI:=oF
def j3b:TI:=oF
def j3c:TI:=oF
def j3d:TI:=⟨.slice 121,1,24,[(.slice none 0 0)]⟩
def j3e:TI:=oF
def j3f:TI:=⟨.int .u32,1,4,[(.int .u32 0)]⟩
def j3g:TI:=oF
def j3h:TI:=oF
def j3i:TI:=oF
def j3j:TI:=oF
def j3k:TI:=oF
def j3l:TI:=oF
def j3m:TI:=oF
def j3n:TI:=oF
def j3o:TI:=oF
def j3p:TI:=oF
def j3q:TI:=⟨.other,1,8,[(.pointer none)]⟩
def j3r:TI:=⟨.strct false [(0,42),(1,42)],2,48,[(.slice none 0 0),(.slice none 0 0)]⟩
def j3s:TI:=⟨.strct false [(0,42),(1,42)],2,48,[(.slice none 0 0),(.slice none 0 0)]⟩
def j3t:TI:=⟨.slice 139,1,24,[(.slice none 0 0)]⟩
def j3u:TI:=oF
def j3v:TI:=⟨.strct false [(0,48),(1,48)],2,48,[(.slice none 0 0),(.slice none 0 0)]⟩
def j3w:TI:=⟨.strct false [(0,48),(1,48)],2,48,[(.slice none 0 0),(.slice none 0 0)]⟩
def j3x:TI:=oF
def j3y:TI:=oF
def j3z:TI:=⟨.strct false [(0,42),(1,48),(2,3),(3,3)],4,64,[(.slice none 0 0),(.slice none 0 0),(.int .i64 0),(.int .i64 0)]⟩
def j30:TI:=⟨.strct false [(0,42),(1,48),(2,3),(3,3)],4,64,[(.slice none 0 0),(.slice none 0 0),(.int .i64 0),(.int .i64 0)]⟩
def j31:TI:=oF
def j32:TI:=oF
def j33:TI:=oF
def j34:TI:=oF
def j35:TI:=⟨.int .u64,1,8,[(.int .u64 0)]⟩
def j36:TI:=oF
def j37:TI:=oF
def j38:TI:=oF
def j39:TI:=oF
def j4a:TI:=oF
def j4b:TI:=oF
def j4c:TI:=⟨.other,1,8,[(.pointer none)]⟩
def j4d:TI:=oF
def j4e:TI:=oF
def j4f:TI:=oF
def j4g:TI:=⟨.int .i64,1,8,[(.int .i64 0)]⟩
def j4h:TI:=oF
def j4i:TI:=oF
def j4j:TI:=oF
def j4k:TI:=oF
def j4l:TI:=oF
def j4m:TI:=oF
def j4n:TI:=⟨.int .u64,1,8,[(.int .u64 0)]⟩
def j4o:TI:=oF
def j4p:TI:=oF
def j4q:TI:=⟨.int .u64,1,8,[(.int .u64 0)]⟩
def j4r:TI:=oF
def j4s:TI:=oF
def j4t:TI:=oF
def j4u:TI:=⟨.other,1,8,[(.pointer none)]⟩
def j4v:TI:=oF
def j4w:TI:=⟨.other,1,8,[(.pointer none)]⟩
def j4x:TI:=oF
def j4y:TI:=oF
def j4z:TI:=⟨.strct false [(0,17),(1,17),(2,17),(3,9)],4,40,[(.pointer none),(.pointer none),(.pointer none),(.string ⟨#[]⟩)]⟩
def j40:TI:=⟨.strct false [(0,17),(1,17),(2,17),(3,9)],4,40,[(.pointer none),(.pointer none),(.pointer none),(.string ⟨#[]⟩)]⟩
def j41:TI:=⟨.arr false 0 16,0,0,[]⟩
def j42:TI:=⟨.strct false [(0,183)],0,0,[]⟩
def j43:TI:=⟨.strct false [(0,183)],0,0,[]⟩
def j44:TI:=oF
def j45:TI:=⟨.int .u8,1,1,[(.int .u8 0)]⟩
def j46:TI:=⟨.int .u8,1,1,[(.int .u8 0)]⟩
def j47:TI:=oF
def j48:TI:=⟨.other,1,8,[(.pointer none)]⟩
def j49:TI:=⟨.int .i32,1,4,[(.int .i32 0)]⟩
def j5a:TI:=⟨.int .i32,1,4,[(.int .i32 0)]⟩
def j5b:TI:=⟨.strct false [(0,12),(1,12),(2,121),(3,187),(4,5),(5,5),(6,188),(7,189),(8,190),(9,191),(10,192)],11,48,[(.int .u64 0),(.int .u64 0),(.int .u32 0),(.int .u8 0),(.int .u8 0),(.int .u8 0),(.int .u8 0), .nilFunc,(.pointer none),(.int .i32 0),(.int .i32 0)]⟩
def j5c:TI:=⟨.strct false [(0,12),(1,12),(2,121),(3,187),(4,5),(5,5),(6,188),(7,189),(8,190),(9,191),(10,192)],11,48,[(.int .u64 0),(.int .u64 0),(.int .u32 0),(.int .u8 0),(.int .u8 0),(.int .u8 0),(.int .u8 0), .nilFunc,(.pointer none),(.int .i32 0),(.int .i32 0)]⟩
def j5d:TI:=⟨.other,1,8,[(.pointer none)]⟩
def tt:TT
 |1=>some ti1
 |2=>some ti2
 |3=>some ti3
 |4=>some ti4
 |5=>some ti5
 |6=>some ti6
 |7=>some ti7
 |8=>some ti8
 |9=>some ti9
 |10=>some zcm
 |11=>some zcn
 |12=>some zco
 |13=>some zcp
 |14=>some zcq
 |15=>some zcr
 |16=>some zcs
 |17=>some zct
 |18=>some zcu
 |19=>some zcv
 |20=>some zcw
 |21=>some zcx
 |22=>some zcy
 |23=>some zcz
 |24=>some zc0
 |25=>some zc1
 |26=>some zc2
 |27=>some zc3
 |29=>some zc4
 |30=>some zc5
 |32=>some zc6
 |34=>some zc7
 |36=>some zc8
 |37=>some zc9
 |38=>some zda
 |39=>some zdb
 |41=>some zdc
 |42=>some zdd
 |43=>some zde
 |44=>some zdf
 |45=>some zdg
 |47=>some zdh
 |48=>some zdi
 |49=>some zdj
 |50=>some zdk
 |51=>some zdl
 |52=>some zdm
 |53=>some zdn
 |54=>some zdo
 |55=>some zdp
 |57=>some zdq
 |59=>some zdr
 |60=>some zds
 |61=>some zdt
 |62=>some zdu
 |63=>some zdv
 |64=>some zdw
 |65=>some zdx
 |67=>some zdy
 |68=>some zdz
 |69=>some zd0
 |70=>some zd1
 |71=>some zd2
 |72=>some zd3
 |73=>some zd4
 |74=>some zd5
 |75=>some zd6
 |76=>some zd7
 |78=>some zd8
 |80=>some zd9
 |81=>some zea
 |82=>some zeb
 |83=>some zec
 |84=>some zed
 |85=>some zee
 |86=>some zef
 |88=>some zeg
 |89=>some zeh
 |91=>some zei
 |92=>some zej
 |93=>some zek
 |94=>some zel
 |95=>some zem
 |96=>some zen
 |97=>some zeo
 |98=>some zep
 |99=>some zeq
 |100=>some j2x
 |101=>some j2y
 |102=>some j2z
 |103=>some j20
 |104=>some j21
 |107=>some j22
 |108=>some j23
 |109=>some j24
 |110=>some j25
 |111=>some j26
 |112=>some j27
 |113=>some j28
 |114=>some j29
 |115=>some j3a
 |116=>some j3b
 |118=>some j3c
 |119=>some j3d
 |120=>some j3e
 |121=>some j3f
 |122=>some j3g
 |123=>some j3h
 |124=>some j3i
 |125=>some j3j
 |126=>some j3k
 |128=>some j3l
 |129=>some j3m
 |130=>some j3n
 |131=>some j3o
 |132=>some j3p
 |133=>some j3q
 |134=>some j3r
 |135=>some j3s
 |136=>some j3t
 |137=>some j3u
 |138=>some j3v
 |139=>some j3w
 |141=>some j3x
 |142=>some j3y
 |143=>some j3z
 |144=>some j30
 |145=>some j31
 |146=>some j32
 |147=>some j33
 |148=>some j34
 |149=>some j35
 |150=>some j36
 |151=>some j37
 |153=>some j38
 |154=>some j39
 |155=>some j4a
 |156=>some j4b
 |157=>some j4c
 |158=>some j4d
 |159=>some j4e
 |160=>some j4f
 |161=>some j4g
 |163=>some j4h
 |164=>some j4i
 |165=>some j4j
 |166=>some j4k
 |167=>some j4l
 |168=>some j4m
 |169=>some j4n
 |170=>some j4o
 |171=>some j4p
 |172=>some j4q
 |173=>some j4r
 |174=>some j4s
 |175=>some j4t
 |176=>some j4u
 |177=>some j4v
 |178=>some j4w
 |179=>some j4x
 |180=>some j4y
 |181=>some j4z
 |182=>some j40
 |183=>some j41
 |184=>some j42
 |185=>some j43
 |186=>some j44
 |187=>some j45
 |188=>some j46
 |189=>some j47
 |190=>some j48
 |191=>some j49
 |192=>some j5a
 |193=>some j5b
 |194=>some j5c
 |195=>some j5d
 |_=>none
theorem zfc:ak Tryz.prog 1 ti1:=fA .nilFunc Tryz.underlying1
theorem zfd:ak Tryz.prog 2 ti2:=fA ((.int .i64 0)) Tryz.underlying2
theorem zfe:ak Tryz.prog 3 ti3:=fA ((.int .i64 0)) Tryz.underlying3
theorem zff:ak Tryz.prog 4 ti4:=fA ((.bool false)) Tryz.underlying4
theorem zfg:ak Tryz.prog 5 ti5:=fA ((.int .u8 0)) Tryz.underlying5
theorem zfh:ak Tryz.prog 6 ti6:=fA ((.int .u8 0)) Tryz.underlying6
theorem zfi:ak Tryz.prog 7 ti7:=fA (.agg #[(.int .i64 0),(.int .i64 0),(.bool false),(.int .u8 0)]) Tryz.underlying7 (h5:=fun _=>⟨by kernel_rfl,by kernel_rfl,by kernel_rfl⟩)
theorem zfj:ak Tryz.prog 8 ti8:=fA (.agg #[(.int .i64 0),(.int .i64 0),(.bool false),(.int .u8 0)]) Tryz.underlying8 (h5:=fun _=>⟨by kernel_rfl,by kernel_rfl,by kernel_rfl⟩)
theorem zfk:ak Tryz.prog 9 ti9:=fA ((.string ⟨#[]⟩)) Tryz.underlying9
theorem j98:ak Tryz.prog 10 zcm:=fA ((.string ⟨#[]⟩)) Tryz.underlying10
theorem j99:ak Tryz.prog 11 zcn:=fA ((.string ⟨#[]⟩)) Tryz.underlying11
theorem zaa:ak Tryz.prog 12 zco:=fA ((.int .u64 0)) Tryz.underlying12
theorem zab:ak Tryz.prog 13 zcp:=fA (.agg #[(.string ⟨#[]⟩),(.int .u64 0)]) Tryz.underlying13
theorem zac:ak Tryz.prog 14 zcq:=fA (.agg #[(.string ⟨#[]⟩),(.int .u64 0)]) Tryz.underlying14
theorem zad:ak Tryz.prog 15 zcr:=fA ((.pointer none)) Tryz.underlying15
theorem zae:ak Tryz.prog 16 zcs:=fA ((.pointer none)) Tryz.underlying16
theorem zaf:ak Tryz.prog 17 zct:=fA ((.pointer none)) Tryz.underlying17
theorem zag:ak Tryz.prog 18 zcu:=fA (.agg #[(.pointer none)]) Tryz.underlying18
theorem zah:ak Tryz.prog 19 zcv:=fA (.agg #[(.pointer none)]) Tryz.underlying19
theorem zai:ak Tryz.prog 20 zcw:=fA (.nilIface) Tryz.underlying20
theorem zaj:ak Tryz.prog 21 zcx:=fA ((.int .i32 0)) Tryz.underlying21
theorem zak:ak Tryz.prog 22 zcy:=fA ((.slice none 0 0)) Tryz.underlying22
theorem zal:ak Tryz.prog 23 zcz:=fA (.agg #[(.int .i64 0),(.slice none 0 0),(.int .i64 0),(.int .i64 0)]) Tryz.underlying23
theorem zam:ak Tryz.prog 24 zc0:=fA (.agg #[(.int .i64 0),(.slice none 0 0),(.int .i64 0),(.int .i64 0)]) Tryz.underlying24
theorem zan:ak Tryz.prog 25 zc1:=fA .nilFunc Tryz.underlying25
theorem zao:ak Tryz.prog 26 zc2:=fA .nilFunc Tryz.underlying26
theorem zap:ak Tryz.prog 27 zc3:=fA ((.int .i64 0)) Tryz.underlying27
theorem zaq:ak Tryz.prog 29 zc4:=fA .nilFunc Tryz.underlying29
theorem zar:ak Tryz.prog 30 zc5:=fA ((.slice none 0 0)) Tryz.underlying30
theorem zas:ak Tryz.prog 32 zc6:=fA .nilFunc Tryz.underlying32
theorem zat:ak Tryz.prog 34 zc7:=fA .nilFunc Tryz.underlying34
theorem zau:ak Tryz.prog 36 zc8:=fA .nilFunc Tryz.underlying36
theorem zav:ak Tryz.prog 37 zc9:=fA .nilFunc Tryz.underlying37
theorem zaw:ak Tryz.prog 38 zda:=fA .nilFunc Tryz.underlying38
theorem zax:ak Tryz.prog 39 zdb:=fA .nilFunc Tryz.underlying39
theorem zay:ak Tryz.prog 41 zdc:=fA .nilFunc Tryz.underlying41
theorem zaz:ak Tryz.prog 42 zdd:=fA ((.slice none 0 0)) Tryz.underlying42
theorem za0:ak Tryz.prog 43 zde:=fA ((.slice none 0 0)) Tryz.underlying43
theorem za1:ak Tryz.prog 44 zdf:=fA (.agg #[(.slice none 0 0),(.slice none 0 0),(.bool false)]) Tryz.underlying44
theorem za2:ak Tryz.prog 45 zdg:=fA (.agg #[(.slice none 0 0),(.slice none 0 0),(.bool false)]) Tryz.underlying45
theorem za3:ak Tryz.prog 47 zdh:=fA .nilFunc Tryz.underlying47
theorem za4:ak Tryz.prog 48 zdi:=fA ((.slice none 0 0)) Tryz.underlying48
theorem za5:ak Tryz.prog 49 zdj:=fA .nilFunc Tryz.underlying49
theorem za6:ak Tryz.prog 50 zdk:=fA ((.slice none 0 0)) Tryz.underlying50
theorem za7:ak Tryz.prog 51 zdl:=fA .nilFunc Tryz.underlying51
theorem za8:ak Tryz.prog 52 zdm:=fA (.agg #[(.int .i64 0),(.int .i64 0),(.int .i64 0)]) Tryz.underlying52 (h5:=fun _=>⟨by kernel_rfl,by kernel_rfl,by kernel_rfl⟩)
theorem za9:ak Tryz.prog 53 zdn:=fA (.agg #[(.int .i64 0),(.int .i64 0),(.int .i64 0)]) Tryz.underlying53 (h5:=fun _=>⟨by kernel_rfl,by kernel_rfl,by kernel_rfl⟩)
theorem zba:ak Tryz.prog 54 zdo:=fA .nilFunc Tryz.underlying54
theorem zbb:ak Tryz.prog 55 zdp:=fA .nilFunc Tryz.underlying55
theorem zbc:ak Tryz.prog 57 zdq:=fA .nilFunc Tryz.underlying57
theorem zbd:ak Tryz.prog 59 zdr:=fA .nilFunc Tryz.underlying59
theorem zbe:ak Tryz.prog 60 zds:=fA .nilFunc Tryz.underlying60
theorem zbf:ak Tryz.prog 61 zdt:=fA .nilFunc Tryz.underlying61
theorem zbg:ak Tryz.prog 62 zdu:=fA .nilFunc Tryz.underlying62
theorem zbh:ak Tryz.prog 63 zdv:=fA (.agg #[(.string ⟨#[]⟩),(.slice none 0 0),(.slice none 0 0)]) Tryz.underlying63
theorem zbi:ak Tryz.prog 64 zdw:=fA (.agg #[(.string ⟨#[]⟩),(.slice none 0 0),(.slice none 0 0)]) Tryz.underlying64
theorem zbj:ak Tryz.prog 65 zdx:=fA .nilFunc Tryz.underlying65
theorem zbk:ak Tryz.prog 67 zdy:=fA .nilFunc Tryz.underlying67
theorem zbl:ak Tryz.prog 68 zdz:=fA .nilFunc Tryz.underlying68
theorem zbm:ak Tryz.prog 69 zd0:=fA (.agg #[(.slice none 0 0),(.slice none 0 0)]) Tryz.underlying69
theorem zbn:ak Tryz.prog 70 zd1:=fA .nilFunc Tryz.underlying70
theorem zbo:ak Tryz.prog 71 zd2:=fA .nilFunc Tryz.underlying71
theorem zbp:ak Tryz.prog 72 zd3:=fA .nilFunc Tryz.underlying72
theorem zbq:ak Tryz.prog 73 zd4:=fA .nilFunc Tryz.underlying73
theorem zbr:ak Tryz.prog 74 zd5:=fA .nilFunc Tryz.underlying74
theorem zbs:ak Tryz.prog 75 zd6:=fA .nilFunc Tryz.underlying75
theorem zbt:ak Tryz.prog 76 zd7:=fA .nilFunc Tryz.underlying76
theorem zbu:ak Tryz.prog 78 zd8:=fA .nilFunc Tryz.underlying78
theorem zbv:ak Tryz.prog 80 zd9:=fA .nilFunc Tryz.underlying80
theorem zbw:ak Tryz.prog 81 zea:=fA .nilFunc Tryz.underlying81
theorem zbx:ak Tryz.prog 82 zeb:=fA ((.slice none 0 0)) Tryz.underlying82
theorem zby:ak Tryz.prog 83 zec:=fA .nilFunc Tryz.underlying83
theorem zbz:ak Tryz.prog 84 zed:=fA .nilFunc Tryz.underlying84
theorem zb0:ak Tryz.prog 85 zee:=fA .nilFunc Tryz.underlying85
theorem zb1:ak Tryz.prog 86 zef:=fA .nilFunc Tryz.underlying86
theorem zb2:ak Tryz.prog 88 zeg:=fA .nilFunc Tryz.underlying88
theorem zb3:ak Tryz.prog 89 zeh:=fA .nilFunc Tryz.underlying89
theorem zb4:ak Tryz.prog 91 zei:=fA .nilFunc Tryz.underlying91
theorem zb5:ak Tryz.prog 92 zej:=fA .nilFunc Tryz.underlying92
theorem zb6:ak Tryz.prog 93 zek:=fA .nilFunc Tryz.underlying93
theorem zb7:ak Tryz.prog 94 zel:=fA .nilFunc Tryz.underlying94
theorem zb8:ak Tryz.prog 95 zem:=fA .nilFunc Tryz.underlying95
theorem zb9:ak Tryz.prog 96 zen:=fA .nilFunc Tryz.underlying96
theorem zca:ak Tryz.prog 97 zeo:=fA .nilFunc Tryz.underlying97
theorem zcb:ak Tryz.prog 98 zep:=fA ((.pointer none)) Tryz.underlying98
theorem zcc:ak Tryz.prog 99 zeq:=fA .nilFunc Tryz.underlying99
theorem j6e:ak Tryz.prog 100 j2x:=fA .nilFunc Tryz.underlying100
theorem j6f:ak Tryz.prog 101 j2y:=fA ((.map none)) Tryz.underlying101
theorem j6g:ak Tryz.prog 102 j2z:=fA (.agg #[(.int .i64 0),(.slice none 0 0)]) Tryz.underlying102
theorem j6h:ak Tryz.prog 103 j20:=fA (.agg #[(.int .i64 0),(.slice none 0 0)]) Tryz.underlying103
theorem j6i:ak Tryz.prog 104 j21:=fA .nilFunc Tryz.underlying104
theorem j6j:ak Tryz.prog 107 j22:=fA .nilFunc Tryz.underlying107
theorem j6k:ak Tryz.prog 108 j23:=fA .nilFunc Tryz.underlying108
theorem j6l:ak Tryz.prog 109 j24:=fA .nilFunc Tryz.underlying109
theorem j6m:ak Tryz.prog 110 j25:=fA .nilFunc Tryz.underlying110
theorem j6n:ak Tryz.prog 111 j26:=fA .nilFunc Tryz.underlying111
theorem j6o:ak Tryz.prog 112 j27:=fA .nilFunc Tryz.underlying112
theorem j6p:ak Tryz.prog 113 j28:=fA (.agg #[(.slice none 0 0),(.slice none 0 0),(.int .i64 0),(.int .i64 0)]) Tryz.underlying113
theorem j6q:ak Tryz.prog 114 j29:=fA (.agg #[(.slice none 0 0),(.slice none 0 0),(.int .i64 0),(.int .i64 0)]) Tryz.underlying114
theorem j6r:ak Tryz.prog 115 j3a:=fA .nilFunc Tryz.underlying115
theorem j6s:ak Tryz.prog 116 j3b:=fA .nilFunc Tryz.underlying116
theorem j6t:ak Tryz.prog 118 j3c:=fA .nilFunc Tryz.underlying118
theorem j6u:ak Tryz.prog 119 j3d:=fA ((.slice none 0 0)) Tryz.underlying119
theorem j6v:ak Tryz.prog 120 j3e:=fA .nilFunc Tryz.underlying120
theorem j6w:ak Tryz.prog 121 j3f:=fA ((.int .u32 0)) Tryz.underlying121
theorem j6x:ak Tryz.prog 122 j3g:=fA .nilFunc Tryz.underlying122
theorem j6y:ak Tryz.prog 123 j3h:=fA .nilFunc Tryz.underlying123
theorem j6z:ak Tryz.prog 124 j3i:=fA .nilFunc Tryz.underlying124
theorem j60:ak Tryz.prog 125 j3j:=fA .nilFunc Tryz.underlying125
theorem j61:ak Tryz.prog 126 j3k:=fA .nilFunc Tryz.underlying126
theorem j62:ak Tryz.prog 128 j3l:=fA .nilFunc Tryz.underlying128
theorem j63:ak Tryz.prog 129 j3m:=fA .nilFunc Tryz.underlying129
theorem j64:ak Tryz.prog 130 j3n:=fA .nilFunc Tryz.underlying130
theorem j65:ak Tryz.prog 131 j3o:=fA .nilFunc Tryz.underlying131
theorem j66:ak Tryz.prog 132 j3p:=fA .nilFunc Tryz.underlying132
theorem j67:ak Tryz.prog 133 j3q:=fA ((.pointer none)) Tryz.underlying133
theorem j68:ak Tryz.prog 134 j3r:=fA (.agg #[(.slice none 0 0),(.slice none 0 0)]) Tryz.underlying134
theorem j69:ak Tryz.prog 135 j3s:=fA (.agg #[(.slice none 0 0),(.slice none 0 0)]) Tryz.underlying135
theorem j7a:ak Tryz.prog 136 j3t:=fA ((.slice none 0 0)) Tryz.underlying136
theorem j7b:ak Tryz.prog 137 j3u:=fA .nilFunc Tryz.underlying137
theorem j7c:ak Tryz.prog 138 j3v:=fA (.agg #[(.slice none 0 0),(.slice none 0 0)]) Tryz.underlying138
theorem j7d:ak Tryz.prog 139 j3w:=fA (.agg #[(.slice none 0 0),(.slice none 0 0)]) Tryz.underlying139
theorem j7e:ak Tryz.prog 141 j3x:=fA .nilFunc Tryz.underlying141
theorem j7f:ak Tryz.prog 142 j3y:=fA .nilFunc Tryz.underlying142
theorem j7g:ak Tryz.prog 143 j3z:=fA (.agg #[(.slice none 0 0),(.slice none 0 0),(.int .i64 0),(.int .i64 0)]) Tryz.underlying143
theorem j7h:ak Tryz.prog 144 j30:=fA (.agg #[(.slice none 0 0),(.slice none 0 0),(.int .i64 0),(.int .i64 0)]) Tryz.underlying144
theorem j7i:ak Tryz.prog 145 j31:=fA .nilFunc Tryz.underlying145
theorem j7j:ak Tryz.prog 146 j32:=fA .nilFunc Tryz.underlying146
theorem j7k:ak Tryz.prog 147 j33:=fA .nilFunc Tryz.underlying147
theorem j7l:ak Tryz.prog 148 j34:=fA .nilFunc Tryz.underlying148
theorem j7m:ak Tryz.prog 149 j35:=fA ((.int .u64 0)) Tryz.underlying149
theorem j7n:ak Tryz.prog 150 j36:=fA .nilFunc Tryz.underlying150
theorem j7o:ak Tryz.prog 151 j37:=fA .nilFunc Tryz.underlying151
theorem j7p:ak Tryz.prog 153 j38:=fA .nilFunc Tryz.underlying153
theorem j7q:ak Tryz.prog 154 j39:=fA .nilFunc Tryz.underlying154
theorem j7r:ak Tryz.prog 155 j4a:=fA .nilFunc Tryz.underlying155
theorem j7s:ak Tryz.prog 156 j4b:=fA .nilFunc Tryz.underlying156
theorem j7t:ak Tryz.prog 157 j4c:=fA ((.pointer none)) Tryz.underlying157
theorem j7u:ak Tryz.prog 158 j4d:=fA .nilFunc Tryz.underlying158
theorem j7v:ak Tryz.prog 159 j4e:=fA .nilFunc Tryz.underlying159
theorem j7w:ak Tryz.prog 160 j4f:=fA .nilFunc Tryz.underlying160
theorem j7x:ak Tryz.prog 161 j4g:=fA ((.int .i64 0)) Tryz.underlying161
theorem j7y:ak Tryz.prog 163 j4h:=fA .nilFunc Tryz.underlying163
theorem j7z:ak Tryz.prog 164 j4i:=fA .nilFunc Tryz.underlying164
theorem j70:ak Tryz.prog 165 j4j:=fA .nilFunc Tryz.underlying165
theorem j71:ak Tryz.prog 166 j4k:=fA .nilFunc Tryz.underlying166
theorem j72:ak Tryz.prog 167 j4l:=fA .nilFunc Tryz.underlying167
theorem j73:ak Tryz.prog 168 j4m:=fA .nilFunc Tryz.underlying168
theorem j74:ak Tryz.prog 169 j4n:=fA ((.int .u64 0)) Tryz.underlying169
theorem j75:ak Tryz.prog 170 j4o:=fA .nilFunc Tryz.underlying170
theorem j76:ak Tryz.prog 171 j4p:=fA .nilFunc Tryz.underlying171
theorem j77:ak Tryz.prog 172 j4q:=fA ((.int .u64 0)) Tryz.underlying172
theorem j78:ak Tryz.prog 173 j4r:=fA .nilFunc Tryz.underlying173
theorem j79:ak Tryz.prog 174 j4s:=fA .nilFunc Tryz.underlying174
theorem j8a:ak Tryz.prog 175 j4t:=fA .nilFunc Tryz.underlying175
theorem j8b:ak Tryz.prog 176 j4u:=fA ((.pointer none)) Tryz.underlying176
theorem j8c:ak Tryz.prog 177 j4v:=fA .nilFunc Tryz.underlying177
theorem j8d:ak Tryz.prog 178 j4w:=fA ((.pointer none)) Tryz.underlying178
theorem j8e:ak Tryz.prog 179 j4x:=fA .nilFunc Tryz.underlying179
theorem j8f:ak Tryz.prog 180 j4y:=fA .nilFunc Tryz.underlying180
theorem j8g:ak Tryz.prog 181 j4z:=fA (.agg #[(.pointer none),(.pointer none),(.pointer none),(.string ⟨#[]⟩)]) Tryz.underlying181
theorem j8h:ak Tryz.prog 182 j40:=fA (.agg #[(.pointer none),(.pointer none),(.pointer none),(.string ⟨#[]⟩)]) Tryz.underlying182
theorem j8i:ak Tryz.prog 183 j41:=fA (.agg #[]) Tryz.underlying183
theorem j8j:ak Tryz.prog 184 j42:=fA (.agg #[]) Tryz.underlying184
theorem j8k:ak Tryz.prog 185 j43:=fA (.agg #[]) Tryz.underlying185
theorem j8l:ak Tryz.prog 186 j44:=fA .nilFunc Tryz.underlying186
theorem j8m:ak Tryz.prog 187 j45:=fA ((.int .u8 0)) Tryz.underlying187
theorem j8n:ak Tryz.prog 188 j46:=fA ((.int .u8 0)) Tryz.underlying188
theorem j8o:ak Tryz.prog 189 j47:=fA .nilFunc Tryz.underlying189
theorem j8p:ak Tryz.prog 190 j48:=fA ((.pointer none)) Tryz.underlying190
theorem j8q:ak Tryz.prog 191 j49:=fA ((.int .i32 0)) Tryz.underlying191
theorem j8r:ak Tryz.prog 192 j5a:=fA ((.int .i32 0)) Tryz.underlying192
theorem j8s:ak Tryz.prog 193 j5b:=fA (.agg #[(.int .u64 0),(.int .u64 0),(.int .u32 0),(.int .u8 0),(.int .u8 0),(.int .u8 0),(.int .u8 0), .nilFunc,(.pointer none),(.int .i32 0),(.int .i32 0)]) Tryz.underlying193
theorem j8t:ak Tryz.prog 194 j5c:=fA (.agg #[(.int .u64 0),(.int .u64 0),(.int .u32 0),(.int .u8 0),(.int .u8 0),(.int .u8 0),(.int .u8 0), .nilFunc,(.pointer none),(.int .i32 0),(.int .i32 0)]) Tryz.underlying194
theorem j8u:ak Tryz.prog 195 j5d:=fA ((.pointer none)) Tryz.underlying195
set_option maxRecDepth 100000 in
theorem fits:dl Tryz.prog tt:=by
 intro t x h;unfold tt at h;split at h
 ·cases h;exact zfc
 ·cases h;exact zfd
 ·cases h;exact zfe
 ·cases h;exact zff
 ·cases h;exact zfg
 ·cases h;exact zfh
 ·cases h;exact zfi
 ·cases h;exact zfj
 ·cases h;exact zfk
 ·cases h;exact j98
 ·cases h;exact j99
 ·cases h;exact zaa
 ·cases h;exact zab
 ·cases h;exact zac
 ·cases h;exact zad
 ·cases h;exact zae
 ·cases h;exact zaf
 ·cases h;exact zag
 ·cases h;exact zah
 ·cases h;exact zai
 ·cases h;exact zaj
 ·cases h;exact zak
 ·cases h;exact zal
 ·cases h;exact zam
 ·cases h;exact zan
 ·cases h;exact zao
 ·cases h;exact zap
 ·cases h;exact zaq
 ·cases h;exact zar
 ·cases h;exact zas
 ·cases h;exact zat
 ·cases h;exact zau
 ·cases h;exact zav
 ·cases h;exact zaw
 ·cases h;exact zax
 ·cases h;exact zay
 ·cases h;exact zaz
 ·cases h;exact za0
 ·cases h;exact za1
 ·cases h;exact za2
 ·cases h;exact za3
 ·cases h;exact za4
 ·cases h;exact za5
 ·cases h;exact za6
 ·cases h;exact za7
 ·cases h;exact za8
 ·cases h;exact za9
 ·cases h;exact zba
 ·cases h;exact zbb
 ·cases h;exact zbc
 ·cases h;exact zbd
 ·cases h;exact zbe
 ·cases h;exact zbf
 ·cases h;exact zbg
 ·cases h;exact zbh
 ·cases h;exact zbi
 ·cases h;exact zbj
 ·cases h;exact zbk
 ·cases h;exact zbl
 ·cases h;exact zbm
 ·cases h;exact zbn
 ·cases h;exact zbo
 ·cases h;exact zbp
 ·cases h;exact zbq
 ·cases h;exact zbr
 ·cases h;exact zbs
 ·cases h;exact zbt
 ·cases h;exact zbu
 ·cases h;exact zbv
 ·cases h;exact zbw
 ·cases h;exact zbx
 ·cases h;exact zby
 ·cases h;exact zbz
 ·cases h;exact zb0
 ·cases h;exact zb1
 ·cases h;exact zb2
 ·cases h;exact zb3
 ·cases h;exact zb4
 ·cases h;exact zb5
 ·cases h;exact zb6
 ·cases h;exact zb7
 ·cases h;exact zb8
 ·cases h;exact zb9
 ·cases h;exact zca
 ·cases h;exact zcb
 ·cases h;exact zcc
 ·cases h;exact j6e
 ·cases h;exact j6f
 ·cases h;exact j6g
 ·cases h;exact j6h
 ·cases h;exact j6i
 ·cases h;exact j6j
 ·cases h;exact j6k
 ·cases h;exact j6l
 ·cases h;exact j6m
 ·cases h;exact j6n
 ·cases h;exact j6o
 ·cases h;exact j6p
 ·cases h;exact j6q
 ·cases h;exact j6r
 ·cases h;exact j6s
 ·cases h;exact j6t
 ·cases h;exact j6u
 ·cases h;exact j6v
 ·cases h;exact j6w
 ·cases h;exact j6x
 ·cases h;exact j6y
 ·cases h;exact j6z
 ·cases h;exact j60
 ·cases h;exact j61
 ·cases h;exact j62
 ·cases h;exact j63
 ·cases h;exact j64
 ·cases h;exact j65
 ·cases h;exact j66
 ·cases h;exact j67
 ·cases h;exact j68
 ·cases h;exact j69
 ·cases h;exact j7a
 ·cases h;exact j7b
 ·cases h;exact j7c
 ·cases h;exact j7d
 ·cases h;exact j7e
 ·cases h;exact j7f
 ·cases h;exact j7g
 ·cases h;exact j7h
 ·cases h;exact j7i
 ·cases h;exact j7j
 ·cases h;exact j7k
 ·cases h;exact j7l
 ·cases h;exact j7m
 ·cases h;exact j7n
 ·cases h;exact j7o
 ·cases h;exact j7p
 ·cases h;exact j7q
 ·cases h;exact j7r
 ·cases h;exact j7s
 ·cases h;exact j7t
 ·cases h;exact j7u
 ·cases h;exact j7v
 ·cases h;exact j7w
 ·cases h;exact j7x
 ·cases h;exact j7y
 ·cases h;exact j7z
 ·cases h;exact j70
 ·cases h;exact j71
 ·cases h;exact j72
 ·cases h;exact j73
 ·cases h;exact j74
 ·cases h;exact j75
 ·cases h;exact j76
 ·cases h;exact j77
 ·cases h;exact j78
 ·cases h;exact j79
 ·cases h;exact j8a
 ·cases h;exact j8b
 ·cases h;exact j8c
 ·cases h;exact j8d
 ·cases h;exact j8e
 ·cases h;exact j8f
 ·cases h;exact j8g
 ·cases h;exact j8h
 ·cases h;exact j8i
 ·cases h;exact j8j
 ·cases h;exact j8k
 ·cases h;exact j8l
 ·cases h;exact j8m
 ·cases h;exact j8n
 ·cases h;exact j8o
 ·cases h;exact j8p
 ·cases h;exact j8q
 ·cases h;exact j8r
 ·cases h;exact j8s
 ·cases h;exact j8t
 ·cases h;exact j8u
 ·cases h
theorem ax:Tryz.prog.follows .mixedOrders=true:=rfl
end Go.Proofs.YtclbndfjhjladaaGreat
