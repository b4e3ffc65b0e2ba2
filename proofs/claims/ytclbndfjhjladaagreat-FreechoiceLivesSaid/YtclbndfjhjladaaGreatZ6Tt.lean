/-
  The types of this seat's program: a row a type (its kind, cells, bytes, the cells of its zero value), and that each row is the program's own. Made by program out of the translation.
-/
import Derived.Test.YtclbndfjhjladaaGreatZ6KE
import Derived.Test.YtclbndfjhjladaaGreatProg
import Derived.KernelRfl
set_option linter.all false
namespace Go.Proofs.YtclbndfjhjladaaGreat
open Go.K Go.M
theorem bk{P:Program}{t:TypeId}{k:TK}{sz by_:Nat}{zs:List Value}{z:Value}{d:TypeDesc}(h1:(P.info? t).map (fun i=>(i.zero,i.size,i.bytes))=some (some z,sz,by_))(h2:P.underlying t=some d)(h3:TK.of d=k.plain)(h4:z.cells.toList=zs)(h5:k.cmp=true→Cmp P t)(h6:k.one=true→zs=[z]):bi P t ⟨k,sz,by_,zs⟩:=by
 cases hi:P.info? t with
 |none=>simp[hi]at h1
 |some i=>
  simp only[hi,Option.map_some,Option.some.injEq,Prod.mk.injEq]at h1;exact⟨⟨i,d,z,hi,h2,h3,h1.2.1,h1.2.2,h1.1,h4⟩,h5,fun e=>⟨i,z,hi,h1.1,h6 e⟩⟩
def ti1:TI:=⟨.other,1,8,[.nilFunc]⟩
def ti2:TI:=⟨.int .i64,1,8,[(.int .i64 0)]⟩
def ti3:TI:=⟨.int .i64,1,8,[(.int .i64 0)]⟩
def ti4:TI:=⟨.bool,1,1,[(.bool false)]⟩
def ti5:TI:=⟨.int .u8,1,1,[(.int .u8 0)]⟩
def ti6:TI:=⟨.int .u8,1,1,[(.int .u8 0)]⟩
def ti7:TI:=⟨.strct true [(0,2),(1,3),(2,4),(3,6)],4,24,[(.int .i64 0),(.int .i64 0),(.bool false),(.int .u8 0)]⟩
def ti8:TI:=⟨.strct true [(0,2),(1,3),(2,4),(3,6)],4,24,[(.int .i64 0),(.int .i64 0),(.bool false),(.int .u8 0)]⟩
def ti9:TI:=⟨.str,1,16,[(.string ⟨#[]⟩)]⟩
def zcm:TI:=⟨.str,1,16,[(.string ⟨#[]⟩)]⟩
def zcn:TI:=⟨.str,1,16,[(.string ⟨#[]⟩)]⟩
def zco:TI:=⟨.int .u64,1,8,[(.int .u64 0)]⟩
def zcp:TI:=⟨.strct false [(0,9),(1,12)],2,24,[(.string ⟨#[]⟩),(.int .u64 0)]⟩
def zcq:TI:=⟨.strct false [(0,9),(1,12)],2,24,[(.string ⟨#[]⟩),(.int .u64 0)]⟩
def zcr:TI:=⟨.other,1,8,[(.pointer none)]⟩
def zcs:TI:=⟨.other,1,8,[(.pointer none)]⟩
def zct:TI:=⟨.other,1,8,[(.pointer none)]⟩
def zcu:TI:=⟨.strct false [(0,17)],1,8,[(.pointer none)]⟩
def zcv:TI:=⟨.strct false [(0,17)],1,8,[(.pointer none)]⟩
def zcw:TI:=⟨.other,1,16,[.nilIface]⟩
def zcx:TI:=⟨.int .i32,1,4,[(.int .i32 0)]⟩
def zcy:TI:=⟨.slice 64,1,24,[(.slice none 0 0)]⟩
def zcz:TI:=⟨.strct false [(0,3),(1,22),(2,3),(3,3)],4,48,[(.int .i64 0),(.slice none 0 0),(.int .i64 0),(.int .i64 0)]⟩
def zc0:TI:=⟨.strct false [(0,3),(1,22),(2,3),(3,3)],4,48,[(.int .i64 0),(.slice none 0 0),(.int .i64 0),(.int .i64 0)]⟩
def zc1:TI:=⟨.other,1,8,[.nilFunc]⟩
def zc2:TI:=⟨.other,1,8,[.nilFunc]⟩
def zc3:TI:=⟨.int .i64,1,8,[(.int .i64 0)]⟩
def zc4:TI:=⟨.other,1,8,[.nilFunc]⟩
def zc5:TI:=⟨.slice 69,1,24,[(.slice none 0 0)]⟩
def zc6:TI:=⟨.other,1,8,[.nilFunc]⟩
def zc7:TI:=⟨.other,1,8,[.nilFunc]⟩
def zc8:TI:=⟨.other,1,8,[.nilFunc]⟩
def zc9:TI:=⟨.other,1,8,[.nilFunc]⟩
def zda:TI:=⟨.other,1,8,[.nilFunc]⟩
def zdb:TI:=⟨.other,1,8,[.nilFunc]⟩
def zdc:TI:=⟨.other,1,8,[.nilFunc]⟩
def zdd:TI:=⟨.slice 48,1,24,[(.slice none 0 0)]⟩
def zde:TI:=⟨.slice 53,1,24,[(.slice none 0 0)]⟩
def zdf:TI:=⟨.strct false [(0,42),(1,43),(2,4)],3,56,[(.slice none 0 0),(.slice none 0 0),(.bool false)]⟩
def zdg:TI:=⟨.strct false [(0,42),(1,43),(2,4)],3,56,[(.slice none 0 0),(.slice none 0 0),(.bool false)]⟩
def zdh:TI:=⟨.other,1,8,[.nilFunc]⟩
def zdi:TI:=⟨.slice 3,1,24,[(.slice none 0 0)]⟩
def zdj:TI:=⟨.other,1,8,[.nilFunc]⟩
def zdk:TI:=⟨.slice 4,1,24,[(.slice none 0 0)]⟩
def zdl:TI:=⟨.other,1,8,[.nilFunc]⟩
def zdm:TI:=⟨.strct true [(0,3),(1,3),(2,3)],3,24,[(.int .i64 0),(.int .i64 0),(.int .i64 0)]⟩
def zdn:TI:=⟨.strct true [(0,3),(1,3),(2,3)],3,24,[(.int .i64 0),(.int .i64 0),(.int .i64 0)]⟩
def zdo:TI:=⟨.other,1,8,[.nilFunc]⟩
def zdp:TI:=⟨.other,1,8,[.nilFunc]⟩
def zdq:TI:=⟨.other,1,8,[.nilFunc]⟩
def zdr:TI:=⟨.other,1,8,[.nilFunc]⟩
def zds:TI:=⟨.other,1,8,[.nilFunc]⟩
def zdt:TI:=⟨.other,1,8,[.nilFunc]⟩
def zdu:TI:=⟨.other,1,8,[.nilFunc]⟩
def zdv:TI:=⟨.strct false [(0,9),(1,48),(2,48)],3,64,[(.string ⟨#[]⟩),(.slice none 0 0),(.slice none 0 0)]⟩
def zdw:TI:=⟨.strct false [(0,9),(1,48),(2,48)],3,64,[(.string ⟨#[]⟩),(.slice none 0 0),(.slice none 0 0)]⟩
def zdx:TI:=⟨.other,1,8,[.nilFunc]⟩
def zdy:TI:=⟨.other,1,8,[.nilFunc]⟩
def zdz:TI:=⟨.other,1,8,[.nilFunc]⟩
def zd0:TI:=⟨.arr false 2 48,2,48,[(.slice none 0 0),(.slice none 0 0)]⟩
def zd1:TI:=⟨.other,1,8,[.nilFunc]⟩
def zd2:TI:=⟨.other,1,8,[.nilFunc]⟩
def zd3:TI:=⟨.other,1,8,[.nilFunc]⟩
def zd4:TI:=⟨.other,1,8,[.nilFunc]⟩
def zd5:TI:=⟨.other,1,8,[.nilFunc]⟩
def zd6:TI:=⟨.other,1,8,[.nilFunc]⟩
def zd7:TI:=⟨.other,1,8,[.nilFunc]⟩
def zd8:TI:=⟨.other,1,8,[.nilFunc]⟩
def zd9:TI:=⟨.other,1,8,[.nilFunc]⟩
def zea:TI:=⟨.other,1,8,[.nilFunc]⟩
def zeb:TI:=⟨.slice 25,1,24,[(.slice none 0 0)]⟩
def zec:TI:=⟨.other,1,8,[.nilFunc]⟩
def zed:TI:=⟨.other,1,8,[.nilFunc]⟩
def zee:TI:=⟨.other,1,8,[.nilFunc]⟩
def zef:TI:=⟨.other,1,8,[.nilFunc]⟩
def zeg:TI:=⟨.other,1,8,[.nilFunc]⟩
def zeh:TI:=⟨.other,1,8,[.nilFunc]⟩
def zei:TI:=⟨.other,1,8,[.nilFunc]⟩
def zej:TI:=⟨.other,1,8,[.nilFunc]⟩
def zek:TI:=⟨.other,1,8,[.nilFunc]⟩
def zel:TI:=⟨.other,1,8,[.nilFunc]⟩
def zem:TI:=⟨.other,1,8,[.nilFunc]⟩
def zen:TI:=⟨.other,1,8,[.nilFunc]⟩
def zeo:TI:=⟨.other,1,8,[.nilFunc]⟩
def zep:TI:=⟨.other,1,8,[(.pointer none)]⟩
def zeq:TI:=⟨.other,1,8,[.nilFunc]⟩
def j3b:TI:=⟨.other,1,8,[.nilFunc]⟩
def j3c:TI:=⟨.map 3 3,1,8,[(.map none)]⟩
def j3d:TI:=⟨.strct false [(0,3),(1,48)],2,32,[(.int .i64 0),(.slice none 0 0)]⟩
def j3e:TI:=⟨.strct false [(0,3),(1,48)],2,32,[(.int .i64 0),(.slice none 0 0)]⟩
def j3f:TI:=⟨.other,1,8,[.nilFunc]⟩
def j3g:TI:=⟨.other,1,8,[.nilFunc]⟩
def j3h:TI:=⟨.other,1,8,[.nilFunc]⟩
def j3i:TI:=⟨.other,1,8,[.nilFunc]⟩
def j3j:TI:=⟨.other,1,8,[.nilFunc]⟩
def j3k:TI:=⟨.other,1,8,[.nilFunc]⟩
def j3l:TI:=⟨.other,1,8,[.nilFunc]⟩
def j3m:TI:=⟨.strct false [(0,42),(1,48),(2,3),(3,3)],4,64,[(.slice none 0 0),(.slice none 0 0),(.int .i64 0),(.int .i64 0)]⟩
def j3n:TI:=⟨.strct false [(0,42),(1,48),(2,3),(3,3)],4,64,[(.slice none 0 0),(.slice none 0 0),(.int .i64 0),(.int .i64 0)]⟩
def j3o:TI:=⟨.other,1,8,[.nilFunc]⟩
def j3p:TI:=⟨.other,1,8,[.nilFunc]⟩
def j3q:TI:=⟨.other,1,8,[.nilFunc]⟩
def j3r:TI:=⟨.slice 121,1,24,[(.slice none 0 0)]⟩
def j3s:TI:=⟨.other,1,8,[.nilFunc]⟩
def j3t:TI:=⟨.int .u32,1,4,[(.int .u32 0)]⟩
def j3u:TI:=⟨.other,1,8,[.nilFunc]⟩
def j3v:TI:=⟨.other,1,8,[.nilFunc]⟩
def j3w:TI:=⟨.other,1,8,[.nilFunc]⟩
def j3x:TI:=⟨.other,1,8,[.nilFunc]⟩
def j3y:TI:=⟨.other,1,8,[.nilFunc]⟩
def j3z:TI:=⟨.other,1,8,[.nilFunc]⟩
def j30:TI:=⟨.other,1,8,[.nilFunc]⟩
def j31:TI:=⟨.other,1,8,[.nilFunc]⟩
def j32:TI:=⟨.other,1,8,[.nilFunc]⟩
def j33:TI:=⟨.other,1,8,[.nilFunc]⟩
def j34:TI:=⟨.other,1,8,[(.pointer none)]⟩
def j35:TI:=⟨.strct false [(0,42),(1,42)],2,48,[(.slice none 0 0),(.slice none 0 0)]⟩
def j36:TI:=⟨.strct false [(0,42),(1,42)],2,48,[(.slice none 0 0),(.slice none 0 0)]⟩
def j37:TI:=⟨.slice 139,1,24,[(.slice none 0 0)]⟩
def j38:TI:=⟨.other,1,8,[.nilFunc]⟩
def j39:TI:=⟨.strct false [(0,48),(1,48)],2,48,[(.slice none 0 0),(.slice none 0 0)]⟩
def j4a:TI:=⟨.strct false [(0,48),(1,48)],2,48,[(.slice none 0 0),(.slice none 0 0)]⟩
def j4b:TI:=⟨.other,1,8,[.nilFunc]⟩
def j4c:TI:=⟨.other,1,8,[.nilFunc]⟩
def j4d:TI:=⟨.strct false [(0,42),(1,48),(2,3),(3,3)],4,64,[(.slice none 0 0),(.slice none 0 0),(.int .i64 0),(.int .i64 0)]⟩
def j4e:TI:=⟨.strct false [(0,42),(1,48),(2,3),(3,3)],4,64,[(.slice none 0 0),(.slice none 0 0),(.int .i64 0),(.int .i64 0)]⟩
def j4f:TI:=⟨.other,1,8,[.nilFunc]⟩
def j4g:TI:=⟨.other,1,8,[.nilFunc]⟩
def j4h:TI:=⟨.other,1,8,[.nilFunc]⟩
def j4i:TI:=⟨.other,1,8,[.nilFunc]⟩
def j4j:TI:=⟨.int .u64,1,8,[(.int .u64 0)]⟩
def j4k:TI:=⟨.other,1,8,[.nilFunc]⟩
def j4l:TI:=⟨.other,1,8,[.nilFunc]⟩
def j4m:TI:=⟨.other,1,8,[.nilFunc]⟩
def j4n:TI:=⟨.other,1,8,[.nilFunc]⟩
def j4o:TI:=⟨.other,1,8,[.nilFunc]⟩
def j4p:TI:=⟨.other,1,8,[.nilFunc]⟩
def j4q:TI:=⟨.other,1,8,[(.pointer none)]⟩
def j4r:TI:=⟨.other,1,8,[.nilFunc]⟩
def j4s:TI:=⟨.other,1,8,[.nilFunc]⟩
def j4t:TI:=⟨.other,1,8,[.nilFunc]⟩
def j4u:TI:=⟨.int .i64,1,8,[(.int .i64 0)]⟩
def j4v:TI:=⟨.other,1,8,[.nilFunc]⟩
def j4w:TI:=⟨.other,1,8,[.nilFunc]⟩
def j4x:TI:=⟨.other,1,8,[.nilFunc]⟩
def j4y:TI:=⟨.other,1,8,[.nilFunc]⟩
def j4z:TI:=⟨.other,1,8,[.nilFunc]⟩
def j40:TI:=⟨.other,1,8,[.nilFunc]⟩
def j41:TI:=⟨.int .u64,1,8,[(.int .u64 0)]⟩
def j42:TI:=⟨.other,1,8,[.nilFunc]⟩
def j43:TI:=⟨.other,1,8,[.nilFunc]⟩
def j44:TI:=⟨.int .u64,1,8,[(.int .u64 0)]⟩
def j45:TI:=⟨.other,1,8,[.nilFunc]⟩
def j46:TI:=⟨.other,1,8,[.nilFunc]⟩
def j47:TI:=⟨.other,1,8,[.nilFunc]⟩
def j48:TI:=⟨.other,1,8,[(.pointer none)]⟩
def j49:TI:=⟨.other,1,8,[.nilFunc]⟩
def j5a:TI:=⟨.other,1,8,[(.pointer none)]⟩
def j5b:TI:=⟨.other,1,8,[.nilFunc]⟩
def j5c:TI:=⟨.other,1,8,[.nilFunc]⟩
def j5d:TI:=⟨.strct false [(0,17),(1,17),(2,17),(3,9)],4,40,[(.pointer none),(.pointer none),(.pointer none),(.string ⟨#[]⟩)]⟩
def j5e:TI:=⟨.strct false [(0,17),(1,17),(2,17),(3,9)],4,40,[(.pointer none),(.pointer none),(.pointer none),(.string ⟨#[]⟩)]⟩
def j5f:TI:=⟨.arr false 0 16,0,0,[]⟩
def j5g:TI:=⟨.strct false [(0,183)],0,0,[]⟩
def j5h:TI:=⟨.strct false [(0,183)],0,0,[]⟩
def j5i:TI:=⟨.other,1,8,[.nilFunc]⟩
def j5j:TI:=⟨.int .u8,1,1,[(.int .u8 0)]⟩
def j5k:TI:=⟨.int .u8,1,1,[(.int .u8 0)]⟩
def j5l:TI:=⟨.other,1,8,[.nilFunc]⟩
def j5m:TI:=⟨.other,1,8,[(.pointer none)]⟩
def j5n:TI:=⟨.int .i32,1,4,[(.int .i32 0)]⟩
def j5o:TI:=⟨.int .i32,1,4,[(.int .i32 0)]⟩
def j5p:TI:=⟨.strct false [(0,12),(1,12),(2,121),(3,187),(4,5),(5,5),(6,188),(7,189),(8,190),(9,191),(10,192)],11,48,[(.int .u64 0),(.int .u64 0),(.int .u32 0),(.int .u8 0),(.int .u8 0),(.int .u8 0),(.int .u8 0), .nilFunc,(.pointer none),(.int .i32 0),(.int .i32 0)]⟩
def j5q:TI:=⟨.strct false [(0,12),(1,12),(2,121),(3,187),(4,5),(5,5),(6,188),(7,189),(8,190),(9,191),(10,192)],11,48,[(.int .u64 0),(.int .u64 0),(.int .u32 0),(.int .u8 0),(.int .u8 0),(.int .u8 0),(.int .u8 0), .nilFunc,(.pointer none),(.int .i32 0),(.int .i32 0)]⟩
def j5r:TI:=⟨.other,1,8,[(.pointer none)]⟩
def tt:TT
 |1=>some ti1
 |2=>some ti2
 |3=>some ti3
 |4=>some ti4
 |5=>some ti5
 |6=>some ti6
 |7=>some ti7
 |8=>some ti8
 |9=>some ti9
 |10=>some zcm
 |11=>some zcn
 |12=>some zco
 |13=>some zcp
 |14=>some zcq
 |15=>some zcr
 |16=>some zcs
 |17=>some zct
 |18=>some zcu
 |19=>some zcv
 |20=>some zcw
 |21=>some zcx
 |22=>some zcy
 |23=>some zcz
 |24=>some zc0
 |25=>some zc1
 |26=>some zc2
 |27=>some zc3
 |29=>some zc4
 |30=>some zc5
 |32=>some zc6
 |34=>some zc7
 |36=>some zc8
 |37=>some zc9
 |38=>some zda
 |39=>some zdb
 |41=>some zdc
 |42=>some zdd
 |43=>some zde
 |44=>some zdf
 |45=>some zdg
 |47=>some zdh
 |48=>some zdi
 |49=>some zdj
 |50=>some zdk
 |51=>some zdl
 |52=>some zdm
 |53=>some zdn
 |54=>some zdo
 |55=>some zdp
 |57=>some zdq
 |59=>some zdr
 |60=>some zds
 |61=>some zdt
 |62=>some zdu
 |63=>some zdv
 |64=>some zdw
 |65=>some zdx
 |67=>some zdy
 |68=>some zdz
 |69=>some zd0
 |70=>some zd1
 |71=>some zd2
 |72=>some zd3
 |73=>some zd4
 |74=>some zd5
 |75=>some zd6
 |76=>some zd7
 |78=>some zd8
 |80=>some zd9
 |81=>some zea
 |82=>some zeb
 |83=>some zec
 |84=>some zed
 |85=>some zee
 |86=>some zef
 |88=>some zeg
 |89=>some zeh
 |91=>some zei
 |92=>some zej
 |93=>some zek
 |94=>some zel
 |95=>some zem
 |96=>some zen
 |97=>some zeo
 |98=>some zep
 |99=>some zeq
 |100=>some j3b
 |101=>some j3c
 |102=>some j3d
 |103=>some j3e
 |104=>some j3f
 |107=>some j3g
 |108=>some j3h
 |109=>some j3i
 |110=>some j3j
 |111=>some j3k
 |112=>some j3l
 |113=>some j3m
 |114=>some j3n
 |115=>some j3o
 |116=>some j3p
 |118=>some j3q
 |119=>some j3r
 |120=>some j3s
 |121=>some j3t
 |122=>some j3u
 |123=>some j3v
 |124=>some j3w
 |125=>some j3x
 |126=>some j3y
 |128=>some j3z
 |129=>some j30
 |130=>some j31
 |131=>some j32
 |132=>some j33
 |133=>some j34
 |134=>some j35
 |135=>some j36
 |136=>some j37
 |137=>some j38
 |138=>some j39
 |139=>some j4a
 |141=>some j4b
 |142=>some j4c
 |143=>some j4d
 |144=>some j4e
 |145=>some j4f
 |146=>some j4g
 |147=>some j4h
 |148=>some j4i
 |149=>some j4j
 |150=>some j4k
 |151=>some j4l
 |153=>some j4m
 |154=>some j4n
 |155=>some j4o
 |156=>some j4p
 |157=>some j4q
 |158=>some j4r
 |159=>some j4s
 |160=>some j4t
 |161=>some j4u
 |163=>some j4v
 |164=>some j4w
 |165=>some j4x
 |166=>some j4y
 |167=>some j4z
 |168=>some j40
 |169=>some j41
 |170=>some j42
 |171=>some j43
 |172=>some j44
 |173=>some j45
 |174=>some j46
 |175=>some j47
 |176=>some j48
 |177=>some j49
 |178=>some j5a
 |179=>some j5b
 |180=>some j5c
 |181=>some j5d
 |182=>some j5e
 |183=>some j5f
 |184=>some j5g
 |185=>some j5h
 |186=>some j5i
 |187=>some j5j
 |188=>some j5k
 |189=>some j5l
 |190=>some j5m
 |191=>some j5n
 |192=>some j5o
 |193=>some j5p
 |194=>some j5q
 |195=>some j5r
 |_=>none
theorem zhq:bi Tryz.prog 1 ti1:=bk (z:= .nilFunc) (by kernel_rfl) Tryz.underlying1 rfl rfl (by intro h;cases h) (fun h=>by cases h)
theorem tt1:tt 1=some ⟨.other,1,8,[.nilFunc]⟩:=rfl
theorem zhr:bi Tryz.prog 2 ti2:=bk (z:=(.int .i64 0)) (by kernel_rfl) Tryz.underlying2 rfl rfl (by intro h;cases h) (fun _=>rfl)
theorem tt2:tt 2=some ⟨.int .i64,1,8,[(.int .i64 0)]⟩:=rfl
theorem zhs:bi Tryz.prog 3 ti3:=bk (z:=(.int .i64 0)) (by kernel_rfl) Tryz.underlying3 rfl rfl (by intro h;cases h) (fun _=>rfl)
theorem tt3:tt 3=some ⟨.int .i64,1,8,[(.int .i64 0)]⟩:=rfl
theorem zht:bi Tryz.prog 4 ti4:=bk (z:=(.bool false)) (by kernel_rfl) Tryz.underlying4 rfl rfl (by intro h;cases h) (fun _=>rfl)
theorem tt4:tt 4=some ⟨.bool,1,1,[(.bool false)]⟩:=rfl
theorem zhu:bi Tryz.prog 5 ti5:=bk (z:=(.int .u8 0)) (by kernel_rfl) Tryz.underlying5 rfl rfl (by intro h;cases h) (fun _=>rfl)
theorem tt5:tt 5=some ⟨.int .u8,1,1,[(.int .u8 0)]⟩:=rfl
theorem zhv:bi Tryz.prog 6 ti6:=bk (z:=(.int .u8 0)) (by kernel_rfl) Tryz.underlying6 rfl rfl (by intro h;cases h) (fun _=>rfl)
theorem tt6:tt 6=some ⟨.int .u8,1,1,[(.int .u8 0)]⟩:=rfl
theorem zhw:bi Tryz.prog 7 ti7:=bk (z:= .agg #[(.int .i64 0),(.int .i64 0),(.bool false),(.int .u8 0)]) (by kernel_rfl) Tryz.underlying7 rfl rfl (by exact fun _=>⟨by kernel_rfl,by kernel_rfl,by kernel_rfl⟩) (fun h=>by cases h)
theorem tt7:tt 7=some ⟨.strct true [(0,2),(1,3),(2,4),(3,6)],4,24,[(.int .i64 0),(.int .i64 0),(.bool false),(.int .u8 0)]⟩:=rfl
theorem zhx:bi Tryz.prog 8 ti8:=bk (z:= .agg #[(.int .i64 0),(.int .i64 0),(.bool false),(.int .u8 0)]) (by kernel_rfl) Tryz.underlying8 rfl rfl (by exact fun _=>⟨by kernel_rfl,by kernel_rfl,by kernel_rfl⟩) (fun h=>by cases h)
theorem tt8:tt 8=some ⟨.strct true [(0,2),(1,3),(2,4),(3,6)],4,24,[(.int .i64 0),(.int .i64 0),(.bool false),(.int .u8 0)]⟩:=rfl
theorem zhy:bi Tryz.prog 9 ti9:=bk (z:=(.string ⟨#[]⟩)) (by kernel_rfl) Tryz.underlying9 rfl rfl (by intro h;cases h) (fun _=>rfl)
theorem tt9:tt 9=some ⟨.str,1,16,[(.string ⟨#[]⟩)]⟩:=rfl
theorem j92:bi Tryz.prog 10 zcm:=bk (z:=(.string ⟨#[]⟩)) (by kernel_rfl) Tryz.underlying10 rfl rfl (by intro h;cases h) (fun _=>rfl)
theorem zh5:tt 10=some ⟨.str,1,16,[(.string ⟨#[]⟩)]⟩:=rfl
theorem j93:bi Tryz.prog 11 zcn:=bk (z:=(.string ⟨#[]⟩)) (by kernel_rfl) Tryz.underlying11 rfl rfl (by intro h;cases h) (fun _=>rfl)
theorem zh6:tt 11=some ⟨.str,1,16,[(.string ⟨#[]⟩)]⟩:=rfl
theorem j94:bi Tryz.prog 12 zco:=bk (z:=(.int .u64 0)) (by kernel_rfl) Tryz.underlying12 rfl rfl (by intro h;cases h) (fun _=>rfl)
theorem zh7:tt 12=some ⟨.int .u64,1,8,[(.int .u64 0)]⟩:=rfl
theorem j95:bi Tryz.prog 13 zcp:=bk (z:= .agg #[(.string ⟨#[]⟩),(.int .u64 0)]) (by kernel_rfl) Tryz.underlying13 rfl rfl (by intro h;cases h) (fun h=>by cases h)
theorem zh8:tt 13=some ⟨.strct false [(0,9),(1,12)],2,24,[(.string ⟨#[]⟩),(.int .u64 0)]⟩:=rfl
theorem j96:bi Tryz.prog 14 zcq:=bk (z:= .agg #[(.string ⟨#[]⟩),(.int .u64 0)]) (by kernel_rfl) Tryz.underlying14 rfl rfl (by intro h;cases h) (fun h=>by cases h)
theorem zh9:tt 14=some ⟨.strct false [(0,9),(1,12)],2,24,[(.string ⟨#[]⟩),(.int .u64 0)]⟩:=rfl
theorem j97:bi Tryz.prog 15 zcr:=bk (z:=(.pointer none)) (by kernel_rfl) Tryz.underlying15 rfl rfl (by intro h;cases h) (fun h=>by cases h)
theorem zia:tt 15=some ⟨.other,1,8,[(.pointer none)]⟩:=rfl
theorem j98:bi Tryz.prog 16 zcs:=bk (z:=(.pointer none)) (by kernel_rfl) Tryz.underlying16 rfl rfl (by intro h;cases h) (fun h=>by cases h)
theorem zib:tt 16=some ⟨.other,1,8,[(.pointer none)]⟩:=rfl
theorem j99:bi Tryz.prog 17 zct:=bk (z:=(.pointer none)) (by kernel_rfl) Tryz.underlying17 rfl rfl (by intro h;cases h) (fun h=>by cases h)
theorem zic:tt 17=some ⟨.other,1,8,[(.pointer none)]⟩:=rfl
theorem zaa:bi Tryz.prog 18 zcu:=bk (z:= .agg #[(.pointer none)]) (by kernel_rfl) Tryz.underlying18 rfl rfl (by intro h;cases h) (fun h=>by cases h)
theorem zid:tt 18=some ⟨.strct false [(0,17)],1,8,[(.pointer none)]⟩:=rfl
theorem zab:bi Tryz.prog 19 zcv:=bk (z:= .agg #[(.pointer none)]) (by kernel_rfl) Tryz.underlying19 rfl rfl (by intro h;cases h) (fun h=>by cases h)
theorem zie:tt 19=some ⟨.strct false [(0,17)],1,8,[(.pointer none)]⟩:=rfl
theorem zac:bi Tryz.prog 20 zcw:=bk (z:= .nilIface) (by kernel_rfl) Tryz.underlying20 rfl rfl (by intro h;cases h) (fun h=>by cases h)
theorem zif:tt 20=some ⟨.other,1,16,[.nilIface]⟩:=rfl
theorem zad:bi Tryz.prog 21 zcx:=bk (z:=(.int .i32 0)) (by kernel_rfl) Tryz.underlying21 rfl rfl (by intro h;cases h) (fun _=>rfl)
theorem zig:tt 21=some ⟨.int .i32,1,4,[(.int .i32 0)]⟩:=rfl
theorem zae:bi Tryz.prog 22 zcy:=bk (z:=(.slice none 0 0)) (by kernel_rfl) Tryz.underlying22 rfl rfl (by intro h;cases h) (fun h=>by cases h)
theorem zih:tt 22=some ⟨.slice 64,1,24,[(.slice none 0 0)]⟩:=rfl
theorem zaf:bi Tryz.prog 23 zcz:=bk (z:= .agg #[(.int .i64 0),(.slice none 0 0),(.int .i64 0),(.int .i64 0)]) (by kernel_rfl) Tryz.underlying23 rfl rfl (by intro h;cases h) (fun h=>by cases h)
theorem zii:tt 23=some ⟨.strct false [(0,3),(1,22),(2,3),(3,3)],4,48,[(.int .i64 0),(.slice none 0 0),(.int .i64 0),(.int .i64 0)]⟩:=rfl
theorem zag:bi Tryz.prog 24 zc0:=bk (z:= .agg #[(.int .i64 0),(.slice none 0 0),(.int .i64 0),(.int .i64 0)]) (by kernel_rfl) Tryz.underlying24 rfl rfl (by intro h;cases h) (fun h=>by cases h)
theorem zij:tt 24=some ⟨.strct false [(0,3),(1,22),(2,3),(3,3)],4,48,[(.int .i64 0),(.slice none 0 0),(.int .i64 0),(.int .i64 0)]⟩:=rfl
theorem zah:bi Tryz.prog 25 zc1:=bk (z:= .nilFunc) (by kernel_rfl) Tryz.underlying25 rfl rfl (by intro h;cases h) (fun h=>by cases h)
theorem zik:tt 25=some ⟨.other,1,8,[.nilFunc]⟩:=rfl
theorem zai:bi Tryz.prog 26 zc2:=bk (z:= .nilFunc) (by kernel_rfl) Tryz.underlying26 rfl rfl (by intro h;cases h) (fun h=>by cases h)
theorem zil:tt 26=some ⟨.other,1,8,[.nilFunc]⟩:=rfl
theorem zaj:bi Tryz.prog 27 zc3:=bk (z:=(.int .i64 0)) (by kernel_rfl) Tryz.underlying27 rfl rfl (by intro h;cases h) (fun _=>rfl)
theorem zim:tt 27=some ⟨.int .i64,1,8,[(.int .i64 0)]⟩:=rfl
theorem zak:bi Tryz.prog 29 zc4:=bk (z:= .nilFunc) (by kernel_rfl) Tryz.underlying29 rfl rfl (by intro h;cases h) (fun h=>by cases h)
theorem zin:tt 29=some ⟨.other,1,8,[.nilFunc]⟩:=rfl
theorem zal:bi Tryz.prog 30 zc5:=bk (z:=(.slice none 0 0)) (by kernel_rfl) Tryz.underlying30 rfl rfl (by intro h;cases h) (fun h=>by cases h)
theorem zio:tt 30=some ⟨.slice 69,1,24,[(.slice none 0 0)]⟩:=rfl
theorem zam:bi Tryz.prog 32 zc6:=bk (z:= .nilFunc) (by kernel_rfl) Tryz.underlying32 rfl rfl (by intro h;cases h) (fun h=>by cases h)
theorem zip:tt 32=some ⟨.other,1,8,[.nilFunc]⟩:=rfl
theorem zan:bi Tryz.prog 34 zc7:=bk (z:= .nilFunc) (by kernel_rfl) Tryz.underlying34 rfl rfl (by intro h;cases h) (fun h=>by cases h)
theorem ziq:tt 34=some ⟨.other,1,8,[.nilFunc]⟩:=rfl
theorem zao:bi Tryz.prog 36 zc8:=bk (z:= .nilFunc) (by kernel_rfl) Tryz.underlying36 rfl rfl (by intro h;cases h) (fun h=>by cases h)
theorem zir:tt 36=some ⟨.other,1,8,[.nilFunc]⟩:=rfl
theorem zap:bi Tryz.prog 37 zc9:=bk (z:= .nilFunc) (by kernel_rfl) Tryz.underlying37 rfl rfl (by intro h;cases h) (fun h=>by cases h)
theorem zis:tt 37=some ⟨.other,1,8,[.nilFunc]⟩:=rfl
theorem zaq:bi Tryz.prog 38 zda:=bk (z:= .nilFunc) (by kernel_rfl) Tryz.underlying38 rfl rfl (by intro h;cases h) (fun h=>by cases h)
theorem zit:tt 38=some ⟨.other,1,8,[.nilFunc]⟩:=rfl
theorem zar:bi Tryz.prog 39 zdb:=bk (z:= .nilFunc) (by kernel_rfl) Tryz.underlying39 rfl rfl (by intro h;cases h) (fun h=>by cases h)
theorem ziu:tt 39=some ⟨.other,1,8,[.nilFunc]⟩:=rfl
theorem zas:bi Tryz.prog 41 zdc:=bk (z:= .nilFunc) (by kernel_rfl) Tryz.underlying41 rfl rfl (by intro h;cases h) (fun h=>by cases h)
theorem ziv:tt 41=some ⟨.other,1,8,[.nilFunc]⟩:=rfl
theorem zat:bi Tryz.prog 42 zdd:=bk (z:=(.slice none 0 0)) (by kernel_rfl) Tryz.underlying42 rfl rfl (by intro h;cases h) (fun h=>by cases h)
theorem ziw:tt 42=some ⟨.slice 48,1,24,[(.slice none 0 0)]⟩:=rfl
theorem zau:bi Tryz.prog 43 zde:=bk (z:=(.slice none 0 0)) (by kernel_rfl) Tryz.underlying43 rfl rfl (by intro h;cases h) (fun h=>by cases h)
theorem zix:tt 43=some ⟨.slice 53,1,24,[(.slice none 0 0)]⟩:=rfl
theorem zav:bi Tryz.prog 44 zdf:=bk (z:= .agg #[(.slice none 0 0),(.slice none 0 0),(.bool false)]) (by kernel_rfl) Tryz.underlying44 rfl rfl (by intro h;cases h) (fun h=>by cases h)
theorem ziy:tt 44=some ⟨.strct false [(0,42),(1,43),(2,4)],3,56,[(.slice none 0 0),(.slice none 0 0),(.bool false)]⟩:=rfl
theorem zaw:bi Tryz.prog 45 zdg:=bk (z:= .agg #[(.slice none 0 0),(.slice none 0 0),(.bool false)]) (by kernel_rfl) Tryz.underlying45 rfl rfl (by intro h;cases h) (fun h=>by cases h)
theorem ziz:tt 45=some ⟨.strct false [(0,42),(1,43),(2,4)],3,56,[(.slice none 0 0),(.slice none 0 0),(.bool false)]⟩:=rfl
theorem zax:bi Tryz.prog 47 zdh:=bk (z:= .nilFunc) (by kernel_rfl) Tryz.underlying47 rfl rfl (by intro h;cases h) (fun h=>by cases h)
theorem zi0:tt 47=some ⟨.other,1,8,[.nilFunc]⟩:=rfl
theorem zay:bi Tryz.prog 48 zdi:=bk (z:=(.slice none 0 0)) (by kernel_rfl) Tryz.underlying48 rfl rfl (by intro h;cases h) (fun h=>by cases h)
theorem zi1:tt 48=some ⟨.slice 3,1,24,[(.slice none 0 0)]⟩:=rfl
theorem zaz:bi Tryz.prog 49 zdj:=bk (z:= .nilFunc) (by kernel_rfl) Tryz.underlying49 rfl rfl (by intro h;cases h) (fun h=>by cases h)
theorem zi2:tt 49=some ⟨.other,1,8,[.nilFunc]⟩:=rfl
theorem za0:bi Tryz.prog 50 zdk:=bk (z:=(.slice none 0 0)) (by kernel_rfl) Tryz.underlying50 rfl rfl (by intro h;cases h) (fun h=>by cases h)
theorem zi3:tt 50=some ⟨.slice 4,1,24,[(.slice none 0 0)]⟩:=rfl
theorem za1:bi Tryz.prog 51 zdl:=bk (z:= .nilFunc) (by kernel_rfl) Tryz.underlying51 rfl rfl (by intro h;cases h) (fun h=>by cases h)
theorem zi4:tt 51=some ⟨.other,1,8,[.nilFunc]⟩:=rfl
theorem za2:bi Tryz.prog 52 zdm:=bk (z:= .agg #[(.int .i64 0),(.int .i64 0),(.int .i64 0)]) (by kernel_rfl) Tryz.underlying52 rfl rfl (by exact fun _=>⟨by kernel_rfl,by kernel_rfl,by kernel_rfl⟩) (fun h=>by cases h)
theorem zi5:tt 52=some ⟨.strct true [(0,3),(1,3),(2,3)],3,24,[(.int .i64 0),(.int .i64 0),(.int .i64 0)]⟩:=rfl
theorem za3:bi Tryz.prog 53 zdn:=bk (z:= .agg #[(.int .i64 0),(.int .i64 0),(.int .i64 0)]) (by kernel_rfl) Tryz.underlying53 rfl rfl (by exact fun _=>⟨by kernel_rfl,by kernel_rfl,by kernel_rfl⟩) (fun h=>by cases h)
theorem zi6:tt 53=some ⟨.strct true [(0,3),(1,3),(2,3)],3,24,[(.int .i64 0),(.int .i64 0),(.int .i64 0)]⟩:=rfl
theorem za4:bi Tryz.prog 54 zdo:=bk (z:= .nilFunc) (by kernel_rfl) Tryz.underlying54 rfl rfl (by intro h;cases h) (fun h=>by cases h)
theorem zi7:tt 54=some ⟨.other,1,8,[.nilFunc]⟩:=rfl
theorem za5:bi Tryz.prog 55 zdp:=bk (z:= .nilFunc) (by kernel_rfl) Tryz.underlying55 rfl rfl (by intro h;cases h) (fun h=>by cases h)
theorem zi8:tt 55=some ⟨.other,1,8,[.nilFunc]⟩:=rfl
theorem za6:bi Tryz.prog 57 zdq:=bk (z:= .nilFunc) (by kernel_rfl) Tryz.underlying57 rfl rfl (by intro h;cases h) (fun h=>by cases h)
theorem zi9:tt 57=some ⟨.other,1,8,[.nilFunc]⟩:=rfl
theorem za7:bi Tryz.prog 59 zdr:=bk (z:= .nilFunc) (by kernel_rfl) Tryz.underlying59 rfl rfl (by intro h;cases h) (fun h=>by cases h)
theorem zja:tt 59=some ⟨.other,1,8,[.nilFunc]⟩:=rfl
theorem za8:bi Tryz.prog 60 zds:=bk (z:= .nilFunc) (by kernel_rfl) Tryz.underlying60 rfl rfl (by intro h;cases h) (fun h=>by cases h)
theorem zjb:tt 60=some ⟨.other,1,8,[.nilFunc]⟩:=rfl
theorem za9:bi Tryz.prog 61 zdt:=bk (z:= .nilFunc) (by kernel_rfl) Tryz.underlying61 rfl rfl (by intro h;cases h) (fun h=>by cases h)
theorem zjc:tt 61=some ⟨.other,1,8,[.nilFunc]⟩:=rfl
theorem zba:bi Tryz.prog 62 zdu:=bk (z:= .nilFunc) (by kernel_rfl) Tryz.underlying62 rfl rfl (by intro h;cases h) (fun h=>by cases h)
theorem zjd:tt 62=some ⟨.other,1,8,[.nilFunc]⟩:=rfl
theorem zbb:bi Tryz.prog 63 zdv:=bk (z:= .agg #[(.string ⟨#[]⟩),(.slice none 0 0),(.slice none 0 0)]) (by kernel_rfl) Tryz.underlying63 rfl rfl (by intro h;cases h) (fun h=>by cases h)
theorem zje:tt 63=some ⟨.strct false [(0,9),(1,48),(2,48)],3,64,[(.string ⟨#[]⟩),(.slice none 0 0),(.slice none 0 0)]⟩:=rfl
theorem zbc:bi Tryz.prog 64 zdw:=bk (z:= .agg #[(.string ⟨#[]⟩),(.slice none 0 0),(.slice none 0 0)]) (by kernel_rfl) Tryz.underlying64 rfl rfl (by intro h;cases h) (fun h=>by cases h)
theorem zjf:tt 64=some ⟨.strct false [(0,9),(1,48),(2,48)],3,64,[(.string ⟨#[]⟩),(.slice none 0 0),(.slice none 0 0)]⟩:=rfl
theorem zbd:bi Tryz.prog 65 zdx:=bk (z:= .nilFunc) (by kernel_rfl) Tryz.underlying65 rfl rfl (by intro h;cases h) (fun h=>by cases h)
theorem zjg:tt 65=some ⟨.other,1,8,[.nilFunc]⟩:=rfl
theorem zbe:bi Tryz.prog 67 zdy:=bk (z:= .nilFunc) (by kernel_rfl) Tryz.underlying67 rfl rfl (by intro h;cases h) (fun h=>by cases h)
theorem zjh:tt 67=some ⟨.other,1,8,[.nilFunc]⟩:=rfl
theorem zbf:bi Tryz.prog 68 zdz:=bk (z:= .nilFunc) (by kernel_rfl) Tryz.underlying68 rfl rfl (by intro h;cases h) (fun h=>by cases h)
theorem zji:tt 68=some ⟨.other,1,8,[.nilFunc]⟩:=rfl
theorem zbg:bi Tryz.prog 69 zd0:=bk (z:= .agg #[(.slice none 0 0),(.slice none 0 0)]) (by kernel_rfl) Tryz.underlying69 rfl rfl (by intro h;cases h) (fun h=>by cases h)
theorem zjj:tt 69=some ⟨.arr false 2 48,2,48,[(.slice none 0 0),(.slice none 0 0)]⟩:=rfl
theorem zbh:bi Tryz.prog 70 zd1:=bk (z:= .nilFunc) (by kernel_rfl) Tryz.underlying70 rfl rfl (by intro h;cases h) (fun h=>by cases h)
theorem zjk:tt 70=some ⟨.other,1,8,[.nilFunc]⟩:=rfl
theorem zbi:bi Tryz.prog 71 zd2:=bk (z:= .nilFunc) (by kernel_rfl) Tryz.underlying71 rfl rfl (by intro h;cases h) (fun h=>by cases h)
theorem zjl:tt 71=some ⟨.other,1,8,[.nilFunc]⟩:=rfl
theorem zbj:bi Tryz.prog 72 zd3:=bk (z:= .nilFunc) (by kernel_rfl) Tryz.underlying72 rfl rfl (by intro h;cases h) (fun h=>by cases h)
theorem zjm:tt 72=some ⟨.other,1,8,[.nilFunc]⟩:=rfl
theorem zbk:bi Tryz.prog 73 zd4:=bk (z:= .nilFunc) (by kernel_rfl) Tryz.underlying73 rfl rfl (by intro h;cases h) (fun h=>by cases h)
theorem zjn:tt 73=some ⟨.other,1,8,[.nilFunc]⟩:=rfl
theorem zbl:bi Tryz.prog 74 zd5:=bk (z:= .nilFunc) (by kernel_rfl) Tryz.underlying74 rfl rfl (by intro h;cases h) (fun h=>by cases h)
theorem zjo:tt 74=some ⟨.other,1,8,[.nilFunc]⟩:=rfl
theorem zbm:bi Tryz.prog 75 zd6:=bk (z:= .nilFunc) (by kernel_rfl) Tryz.underlying75 rfl rfl (by intro h;cases h) (fun h=>by cases h)
theorem zjp:tt 75=some ⟨.other,1,8,[.nilFunc]⟩:=rfl
theorem zbn:bi Tryz.prog 76 zd7:=bk (z:= .nilFunc) (by kernel_rfl) Tryz.underlying76 rfl rfl (by intro h;cases h) (fun h=>by cases h)
theorem zjq:tt 76=some ⟨.other,1,8,[.nilFunc]⟩:=rfl
theorem zbo:bi Tryz.prog 78 zd8:=bk (z:= .nilFunc) (by kernel_rfl) Tryz.underlying78 rfl rfl (by intro h;cases h) (fun h=>by cases h)
theorem zjr:tt 78=some ⟨.other,1,8,[.nilFunc]⟩:=rfl
theorem zbp:bi Tryz.prog 80 zd9:=bk (z:= .nilFunc) (by kernel_rfl) Tryz.underlying80 rfl rfl (by intro h;cases h) (fun h=>by cases h)
theorem zjs:tt 80=some ⟨.other,1,8,[.nilFunc]⟩:=rfl
theorem zbq:bi Tryz.prog 81 zea:=bk (z:= .nilFunc) (by kernel_rfl) Tryz.underlying81 rfl rfl (by intro h;cases h) (fun h=>by cases h)
theorem zjt:tt 81=some ⟨.other,1,8,[.nilFunc]⟩:=rfl
theorem zbr:bi Tryz.prog 82 zeb:=bk (z:=(.slice none 0 0)) (by kernel_rfl) Tryz.underlying82 rfl rfl (by intro h;cases h) (fun h=>by cases h)
theorem zju:tt 82=some ⟨.slice 25,1,24,[(.slice none 0 0)]⟩:=rfl
theorem zbs:bi Tryz.prog 83 zec:=bk (z:= .nilFunc) (by kernel_rfl) Tryz.underlying83 rfl rfl (by intro h;cases h) (fun h=>by cases h)
theorem zjv:tt 83=some ⟨.other,1,8,[.nilFunc]⟩:=rfl
theorem zbt:bi Tryz.prog 84 zed:=bk (z:= .nilFunc) (by kernel_rfl) Tryz.underlying84 rfl rfl (by intro h;cases h) (fun h=>by cases h)
theorem zjw:tt 84=some ⟨.other,1,8,[.nilFunc]⟩:=rfl
theorem zbu:bi Tryz.prog 85 zee:=bk (z:= .nilFunc) (by kernel_rfl) Tryz.underlying85 rfl rfl (by intro h;cases h) (fun h=>by cases h)
theorem zjx:tt 85=some ⟨.other,1,8,[.nilFunc]⟩:=rfl
theorem zbv:bi Tryz.prog 86 zef:=bk (z:= .nilFunc) (by kernel_rfl) Tryz.underlying86 rfl rfl (by intro h;cases h) (fun h=>by cases h)
theorem zjy:tt 86=some ⟨.other,1,8,[.nilFunc]⟩:=rfl
theorem zbw:bi Tryz.prog 88 zeg:=bk (z:= .nilFunc) (by kernel_rfl) Tryz.underlying88 rfl rfl (by intro h;cases h) (fun h=>by cases h)
theorem zjz:tt 88=some ⟨.other,1,8,[.nilFunc]⟩:=rfl
theorem zbx:bi Tryz.prog 89 zeh:=bk (z:= .nilFunc) (by kernel_rfl) Tryz.underlying89 rfl rfl (by intro h;cases h) (fun h=>by cases h)
theorem zj0:tt 89=some ⟨.other,1,8,[.nilFunc]⟩:=rfl
theorem zby:bi Tryz.prog 91 zei:=bk (z:= .nilFunc) (by kernel_rfl) Tryz.underlying91 rfl rfl (by intro h;cases h) (fun h=>by cases h)
theorem zj1:tt 91=some ⟨.other,1,8,[.nilFunc]⟩:=rfl
theorem zbz:bi Tryz.prog 92 zej:=bk (z:= .nilFunc) (by kernel_rfl) Tryz.underlying92 rfl rfl (by intro h;cases h) (fun h=>by cases h)
theorem zj2:tt 92=some ⟨.other,1,8,[.nilFunc]⟩:=rfl
theorem zb0:bi Tryz.prog 93 zek:=bk (z:= .nilFunc) (by kernel_rfl) Tryz.underlying93 rfl rfl (by intro h;cases h) (fun h=>by cases h)
theorem zj3:tt 93=some ⟨.other,1,8,[.nilFunc]⟩:=rfl
theorem zb1:bi Tryz.prog 94 zel:=bk (z:= .nilFunc) (by kernel_rfl) Tryz.underlying94 rfl rfl (by intro h;cases h) (fun h=>by cases h)
theorem zj4:tt 94=some ⟨.other,1,8,[.nilFunc]⟩:=rfl
theorem zb2:bi Tryz.prog 95 zem:=bk (z:= .nilFunc) (by kernel_rfl) Tryz.underlying95 rfl rfl (by intro h;cases h) (fun h=>by cases h)
theorem zj5:tt 95=some ⟨.other,1,8,[.nilFunc]⟩:=rfl
theorem zb3:bi Tryz.prog 96 zen:=bk (z:= .nilFunc) (by kernel_rfl) Tryz.underlying96 rfl rfl (by intro h;cases h) (fun h=>by cases h)
theorem zj6:tt 96=some ⟨.other,1,8,[.nilFunc]⟩:=rfl
theorem zb4:bi Tryz.prog 97 zeo:=bk (z:= .nilFunc) (by kernel_rfl) Tryz.underlying97 rfl rfl (by intro h;cases h) (fun h=>by cases h)
theorem zj7:tt 97=some ⟨.other,1,8,[.nilFunc]⟩:=rfl
theorem zb5:bi Tryz.prog 98 zep:=bk (z:=(.pointer none)) (by kernel_rfl) Tryz.underlying98 rfl rfl (by intro h;cases h) (fun h=>by cases h)
theorem zj8:tt 98=some ⟨.other,1,8,[(.pointer none)]⟩:=rfl
theorem zb6:bi Tryz.prog 99 zeq:=bk (z:= .nilFunc) (by kernel_rfl) Tryz.underlying99 rfl rfl (by intro h;cases h) (fun h=>by cases h)
theorem zj9:tt 99=some ⟨.other,1,8,[.nilFunc]⟩:=rfl
theorem j6d:bi Tryz.prog 100 j3b:=bk (z:= .nilFunc) (by kernel_rfl) Tryz.underlying100 rfl rfl (by intro h;cases h) (fun h=>by cases h)
theorem zes:tt 100=some ⟨.other,1,8,[.nilFunc]⟩:=rfl
theorem j6e:bi Tryz.prog 101 j3c:=bk (z:=(.map none)) (by kernel_rfl) Tryz.underlying101 rfl rfl (by intro h;cases h) (fun h=>by cases h)
theorem zet:tt 101=some ⟨.map 3 3,1,8,[(.map none)]⟩:=rfl
theorem j6f:bi Tryz.prog 102 j3d:=bk (z:= .agg #[(.int .i64 0),(.slice none 0 0)]) (by kernel_rfl) Tryz.underlying102 rfl rfl (by intro h;cases h) (fun h=>by cases h)
theorem zeu:tt 102=some ⟨.strct false [(0,3),(1,48)],2,32,[(.int .i64 0),(.slice none 0 0)]⟩:=rfl
theorem j6g:bi Tryz.prog 103 j3e:=bk (z:= .agg #[(.int .i64 0),(.slice none 0 0)]) (by kernel_rfl) Tryz.underlying103 rfl rfl (by intro h;cases h) (fun h=>by cases h)
theorem zev:tt 103=some ⟨.strct false [(0,3),(1,48)],2,32,[(.int .i64 0),(.slice none 0 0)]⟩:=rfl
theorem j6h:bi Tryz.prog 104 j3f:=bk (z:= .nilFunc) (by kernel_rfl) Tryz.underlying104 rfl rfl (by intro h;cases h) (fun h=>by cases h)
theorem zew:tt 104=some ⟨.other,1,8,[.nilFunc]⟩:=rfl
theorem j6i:bi Tryz.prog 107 j3g:=bk (z:= .nilFunc) (by kernel_rfl) Tryz.underlying107 rfl rfl (by intro h;cases h) (fun h=>by cases h)
theorem zex:tt 107=some ⟨.other,1,8,[.nilFunc]⟩:=rfl
theorem j6j:bi Tryz.prog 108 j3h:=bk (z:= .nilFunc) (by kernel_rfl) Tryz.underlying108 rfl rfl (by intro h;cases h) (fun h=>by cases h)
theorem zey:tt 108=some ⟨.other,1,8,[.nilFunc]⟩:=rfl
theorem j6k:bi Tryz.prog 109 j3i:=bk (z:= .nilFunc) (by kernel_rfl) Tryz.underlying109 rfl rfl (by intro h;cases h) (fun h=>by cases h)
theorem zez:tt 109=some ⟨.other,1,8,[.nilFunc]⟩:=rfl
theorem j6l:bi Tryz.prog 110 j3j:=bk (z:= .nilFunc) (by kernel_rfl) Tryz.underlying110 rfl rfl (by intro h;cases h) (fun h=>by cases h)
theorem ze0:tt 110=some ⟨.other,1,8,[.nilFunc]⟩:=rfl
theorem j6m:bi Tryz.prog 111 j3k:=bk (z:= .nilFunc) (by kernel_rfl) Tryz.underlying111 rfl rfl (by intro h;cases h) (fun h=>by cases h)
theorem ze1:tt 111=some ⟨.other,1,8,[.nilFunc]⟩:=rfl
theorem j6n:bi Tryz.prog 112 j3l:=bk (z:= .nilFunc) (by kernel_rfl) Tryz.underlying112 rfl rfl (by intro h;cases h) (fun h=>by cases h)
theorem ze2:tt 112=some ⟨.other,1,8,[.nilFunc]⟩:=rfl
theorem j6o:bi Tryz.prog 113 j3m:=bk (z:= .agg #[(.slice none 0 0),(.slice none 0 0),(.int .i64 0),(.int .i64 0)]) (by kernel_rfl) Tryz.underlying113 rfl rfl (by intro h;cases h) (fun h=>by cases h)
theorem ze3:tt 113=some ⟨.strct false [(0,42),(1,48),(2,3),(3,3)],4,64,[(.slice none 0 0),(.slice none 0 0),(.int .i64 0),(.int .i64 0)]⟩:=rfl
theorem j6p:bi Tryz.prog 114 j3n:=bk (z:= .agg #[(.slice none 0 0),(.slice none 0 0),(.int .i64 0),(.int .i64 0)]) (by kernel_rfl) Tryz.underlying114 rfl rfl (by intro h;cases h) (fun h=>by cases h)
theorem ze4:tt 114=some ⟨.strct false [(0,42),(1,48),(2,3),(3,3)],4,64,[(.slice none 0 0),(.slice none 0 0),(.int .i64 0),(.int .i64 0)]⟩:=rfl
theorem j6q:bi Tryz.prog 115 j3o:=bk (z:= .nilFunc) (by kernel_rfl) Tryz.underlying115 rfl rfl (by intro h;cases h) (fun h=>by cases h)
theorem ze5:tt 115=some ⟨.other,1,8,[.nilFunc]⟩:=rfl
theorem j6r:bi Tryz.prog 116 j3p:=bk (z:= .nilFunc) (by kernel_rfl) Tryz.underlying116 rfl rfl (by intro h;cases h) (fun h=>by cases h)
theorem ze6:tt 116=some ⟨.other,1,8,[.nilFunc]⟩:=rfl
theorem j6s:bi Tryz.prog 118 j3q:=bk (z:= .nilFunc) (by kernel_rfl) Tryz.underlying118 rfl rfl (by intro h;cases h) (fun h=>by cases h)
theorem ze7:tt 118=some ⟨.other,1,8,[.nilFunc]⟩:=rfl
theorem j6t:bi Tryz.prog 119 j3r:=bk (z:=(.slice none 0 0)) (by kernel_rfl) Tryz.underlying119 rfl rfl (by intro h;cases h) (fun h=>by cases h)
theorem ze8:tt 119=some ⟨.slice 121,1,24,[(.slice none 0 0)]⟩:=rfl
theorem j6u:bi Tryz.prog 120 j3s:=bk (z:= .nilFunc) (by kernel_rfl) Tryz.underlying120 rfl rfl (by intro h;cases h) (fun h=>by cases h)
theorem ze9:tt 120=some ⟨.other,1,8,[.nilFunc]⟩:=rfl
theorem j6v:bi Tryz.prog 121 j3t:=bk (z:=(.int .u32 0)) (by kernel_rfl) Tryz.underlying121 rfl rfl (by intro h;cases h) (fun _=>rfl)
theorem zfa:tt 121=some ⟨.int .u32,1,4,[(.int .u32 0)]⟩:=rfl
theorem j6w:bi Tryz.prog 122 j3u:=bk (z:= .nilFunc) (by kernel_rfl) Tryz.underlying122 rfl rfl (by intro h;cases h) (fun h=>by cases h)
theorem zfb:tt 122=some ⟨.other,1,8,[.nilFunc]⟩:=rfl
theorem j6x:bi Tryz.prog 123 j3v:=bk (z:= .nilFunc) (by kernel_rfl) Tryz.underlying123 rfl rfl (by intro h;cases h) (fun h=>by cases h)
theorem zfc:tt 123=some ⟨.other,1,8,[.nilFunc]⟩:=rfl
theorem j6y:bi Tryz.prog 124 j3w:=bk (z:= .nilFunc) (by kernel_rfl) Tryz.underlying124 rfl rfl (by intro h;cases h) (fun h=>by cases h)
theorem zfd:tt 124=some ⟨.other,1,8,[.nilFunc]⟩:=rfl
theorem j6z:bi Tryz.prog 125 j3x:=bk (z:= .nilFunc) (by kernel_rfl) Tryz.underlying125 rfl rfl (by intro h;cases h) (fun h=>by cases h)
theorem zfe:tt 125=some ⟨.other,1,8,[.nilFunc]⟩:=rfl
theorem j60:bi Tryz.prog 126 j3y:=bk (z:= .nilFunc) (by kernel_rfl) Tryz.underlying126 rfl rfl (by intro h;cases h) (fun h=>by cases h)
theorem zff:tt 126=some ⟨.other,1,8,[.nilFunc]⟩:=rfl
theorem j61:bi Tryz.prog 128 j3z:=bk (z:= .nilFunc) (by kernel_rfl) Tryz.underlying128 rfl rfl (by intro h;cases h) (fun h=>by cases h)
theorem zfg:tt 128=some ⟨.other,1,8,[.nilFunc]⟩:=rfl
theorem j62:bi Tryz.prog 129 j30:=bk (z:= .nilFunc) (by kernel_rfl) Tryz.underlying129 rfl rfl (by intro h;cases h) (fun h=>by cases h)
theorem zfh:tt 129=some ⟨.other,1,8,[.nilFunc]⟩:=rfl
theorem j63:bi Tryz.prog 130 j31:=bk (z:= .nilFunc) (by kernel_rfl) Tryz.underlying130 rfl rfl (by intro h;cases h) (fun h=>by cases h)
theorem zfi:tt 130=some ⟨.other,1,8,[.nilFunc]⟩:=rfl
theorem j64:bi Tryz.prog 131 j32:=bk (z:= .nilFunc) (by kernel_rfl) Tryz.underlying131 rfl rfl (by intro h;cases h) (fun h=>by cases h)
theorem zfj:tt 131=some ⟨.other,1,8,[.nilFunc]⟩:=rfl
theorem j65:bi Tryz.prog 132 j33:=bk (z:= .nilFunc) (by kernel_rfl) Tryz.underlying132 rfl rfl (by intro h;cases h) (fun h=>by cases h)
theorem zfk:tt 132=some ⟨.other,1,8,[.nilFunc]⟩:=rfl
theorem j66:bi Tryz.prog 133 j34:=bk (z:=(.pointer none)) (by kernel_rfl) Tryz.underlying133 rfl rfl (by intro h;cases h) (fun h=>by cases h)
theorem zfl:tt 133=some ⟨.other,1,8,[(.pointer none)]⟩:=rfl
theorem j67:bi Tryz.prog 134 j35:=bk (z:= .agg #[(.slice none 0 0),(.slice none 0 0)]) (by kernel_rfl) Tryz.underlying134 rfl rfl (by intro h;cases h) (fun h=>by cases h)
theorem zfm:tt 134=some ⟨.strct false [(0,42),(1,42)],2,48,[(.slice none 0 0),(.slice none 0 0)]⟩:=rfl
theorem j68:bi Tryz.prog 135 j36:=bk (z:= .agg #[(.slice none 0 0),(.slice none 0 0)]) (by kernel_rfl) Tryz.underlying135 rfl rfl (by intro h;cases h) (fun h=>by cases h)
theorem zfn:tt 135=some ⟨.strct false [(0,42),(1,42)],2,48,[(.slice none 0 0),(.slice none 0 0)]⟩:=rfl
theorem j69:bi Tryz.prog 136 j37:=bk (z:=(.slice none 0 0)) (by kernel_rfl) Tryz.underlying136 rfl rfl (by intro h;cases h) (fun h=>by cases h)
theorem zfo:tt 136=some ⟨.slice 139,1,24,[(.slice none 0 0)]⟩:=rfl
theorem j7a:bi Tryz.prog 137 j38:=bk (z:= .nilFunc) (by kernel_rfl) Tryz.underlying137 rfl rfl (by intro h;cases h) (fun h=>by cases h)
theorem zfp:tt 137=some ⟨.other,1,8,[.nilFunc]⟩:=rfl
theorem j7b:bi Tryz.prog 138 j39:=bk (z:= .agg #[(.slice none 0 0),(.slice none 0 0)]) (by kernel_rfl) Tryz.underlying138 rfl rfl (by intro h;cases h) (fun h=>by cases h)
theorem zfq:tt 138=some ⟨.strct false [(0,48),(1,48)],2,48,[(.slice none 0 0),(.slice none 0 0)]⟩:=rfl
theorem j7c:bi Tryz.prog 139 j4a:=bk (z:= .agg #[(.slice none 0 0),(.slice none 0 0)]) (by kernel_rfl) Tryz.underlying139 rfl rfl (by intro h;cases h) (fun h=>by cases h)
theorem zfr:tt 139=some ⟨.strct false [(0,48),(1,48)],2,48,[(.slice none 0 0),(.slice none 0 0)]⟩:=rfl
theorem j7d:bi Tryz.prog 141 j4b:=bk (z:= .nilFunc) (by kernel_rfl) Tryz.underlying141 rfl rfl (by intro h;cases h) (fun h=>by cases h)
theorem zfs:tt 141=some ⟨.other,1,8,[.nilFunc]⟩:=rfl
theorem j7e:bi Tryz.prog 142 j4c:=bk (z:= .nilFunc) (by kernel_rfl) Tryz.underlying142 rfl rfl (by intro h;cases h) (fun h=>by cases h)
theorem zft:tt 142=some ⟨.other,1,8,[.nilFunc]⟩:=rfl
theorem j7f:bi Tryz.prog 143 j4d:=bk (z:= .agg #[(.slice none 0 0),(.slice none 0 0),(.int .i64 0),(.int .i64 0)]) (by kernel_rfl) Tryz.underlying143 rfl rfl (by intro h;cases h) (fun h=>by cases h)
theorem zfu:tt 143=some ⟨.strct false [(0,42),(1,48),(2,3),(3,3)],4,64,[(.slice none 0 0),(.slice none 0 0),(.int .i64 0),(.int .i64 0)]⟩:=rfl
theorem j7g:bi Tryz.prog 144 j4e:=bk (z:= .agg #[(.slice none 0 0),(.slice none 0 0),(.int .i64 0),(.int .i64 0)]) (by kernel_rfl) Tryz.underlying144 rfl rfl (by intro h;cases h) (fun h=>by cases h)
theorem zfv:tt 144=some ⟨.strct false [(0,42),(1,48),(2,3),(3,3)],4,64,[(.slice none 0 0),(.slice none 0 0),(.int .i64 0),(.int .i64 0)]⟩:=rfl
theorem j7h:bi Tryz.prog 145 j4f:=bk (z:= .nilFunc) (by kernel_rfl) Tryz.underlying145 rfl rfl (by intro h;cases h) (fun h=>by cases h)
theorem zfw:tt 145=some ⟨.other,1,8,[.nilFunc]⟩:=rfl
theorem j7i:bi Tryz.prog 146 j4g:=bk (z:= .nilFunc) (by kernel_rfl) Tryz.underlying146 rfl rfl (by intro h;cases h) (fun h=>by cases h)
theorem zfx:tt 146=some ⟨.other,1,8,[.nilFunc]⟩:=rfl
theorem j7j:bi Tryz.prog 147 j4h:=bk (z:= .nilFunc) (by kernel_rfl) Tryz.underlying147 rfl rfl (by intro h;cases h) (fun h=>by cases h)
theorem zfy:tt 147=some ⟨.other,1,8,[.nilFunc]⟩:=rfl
theorem j7k:bi Tryz.prog 148 j4i:=bk (z:= .nilFunc) (by kernel_rfl) Tryz.underlying148 rfl rfl (by intro h;cases h) (fun h=>by cases h)
theorem zfz:tt 148=some ⟨.other,1,8,[.nilFunc]⟩:=rfl
theorem j7l:bi Tryz.prog 149 j4j:=bk (z:=(.int .u64 0)) (by kernel_rfl) Tryz.underlying149 rfl rfl (by intro h;cases h) (fun _=>rfl)
theorem zf0:tt 149=some ⟨.int .u64,1,8,[(.int .u64 0)]⟩:=rfl
theorem j7m:bi Tryz.prog 150 j4k:=bk (z:= .nilFunc) (by kernel_rfl) Tryz.underlying150 rfl rfl (by intro h;cases h) (fun h=>by cases h)
theorem zf1:tt 150=some ⟨.other,1,8,[.nilFunc]⟩:=rfl
theorem j7n:bi Tryz.prog 151 j4l:=bk (z:= .nilFunc) (by kernel_rfl) Tryz.underlying151 rfl rfl (by intro h;cases h) (fun h=>by cases h)
theorem zf2:tt 151=some ⟨.other,1,8,[.nilFunc]⟩:=rfl
theorem j7o:bi Tryz.prog 153 j4m:=bk (z:= .nilFunc) (by kernel_rfl) Tryz.underlying153 rfl rfl (by intro h;cases h) (fun h=>by cases h)
theorem zf3:tt 153=some ⟨.other,1,8,[.nilFunc]⟩:=rfl
theorem j7p:bi Tryz.prog 154 j4n:=bk (z:= .nilFunc) (by kernel_rfl) Tryz.underlying154 rfl rfl (by intro h;cases h) (fun h=>by cases h)
theorem zf4:tt 154=some ⟨.other,1,8,[.nilFunc]⟩:=rfl
theorem j7q:bi Tryz.prog 155 j4o:=bk (z:= .nilFunc) (by kernel_rfl) Tryz.underlying155 rfl rfl (by intro h;cases h) (fun h=>by cases h)
theorem zf5:tt 155=some ⟨.other,1,8,[.nilFunc]⟩:=rfl
theorem j7r:bi Tryz.prog 156 j4p:=bk (z:= .nilFunc) (by kernel_rfl) Tryz.underlying156 rfl rfl (by intro h;cases h) (fun h=>by cases h)
theorem zf6:tt 156=some ⟨.other,1,8,[.nilFunc]⟩:=rfl
theorem j7s:bi Tryz.prog 157 j4q:=bk (z:=(.pointer none)) (by kernel_rfl) Tryz.underlying157 rfl rfl (by intro h;cases h) (fun h=>by cases h)
theorem zf7:tt 157=some ⟨.other,1,8,[(.pointer none)]⟩:=rfl
theorem j7t:bi Tryz.prog 158 j4r:=bk (z:= .nilFunc) (by kernel_rfl) Tryz.underlying158 rfl rfl (by intro h;cases h) (fun h=>by cases h)
theorem zf8:tt 158=some ⟨.other,1,8,[.nilFunc]⟩:=rfl
theorem j7u:bi Tryz.prog 159 j4s:=bk (z:= .nilFunc) (by kernel_rfl) Tryz.underlying159 rfl rfl (by intro h;cases h) (fun h=>by cases h)
theorem zf9:tt 159=some ⟨.other,1,8,[.nilFunc]⟩:=rfl
theorem j7v:bi Tryz.prog 160 j4t:=bk (z:= .nilFunc) (by kernel_rfl) Tryz.underlying160 rfl rfl (by intro h;cases h) (fun h=>by cases h)
theorem zga:tt 160=some ⟨.other,1,8,[.nilFunc]⟩:=rfl
theorem j7w:bi Tryz.prog 161 j4u:=bk (z:=(.int .i64 0)) (by kernel_rfl) Tryz.underlying161 rfl rfl (by intro h;cases h) (fun _=>rfl)
theorem zgb:tt 161=some ⟨.int .i64,1,8,[(.int .i64 0)]⟩:=rfl
theorem j7x:bi Tryz.prog 163 j4v:=bk (z:= .nilFunc) (by kernel_rfl) Tryz.underlying163 rfl rfl (by intro h;cases h) (fun h=>by cases h)
theorem zgc:tt 163=some ⟨.other,1,8,[.nilFunc]⟩:=rfl
theorem j7y:bi Tryz.prog 164 j4w:=bk (z:= .nilFunc) (by kernel_rfl) Tryz.underlying164 rfl rfl (by intro h;cases h) (fun h=>by cases h)
theorem zgd:tt 164=some ⟨.other,1,8,[.nilFunc]⟩:=rfl
theorem j7z:bi Tryz.prog 165 j4x:=bk (z:= .nilFunc) (by kernel_rfl) Tryz.underlying165 rfl rfl (by intro h;cases h) (fun h=>by cases h)
theorem zge:tt 165=some ⟨.other,1,8,[.nilFunc]⟩:=rfl
theorem j70:bi Tryz.prog 166 j4y:=bk (z:= .nilFunc) (by kernel_rfl) Tryz.underlying166 rfl rfl (by intro h;cases h) (fun h=>by cases h)
theorem zgf:tt 166=some ⟨.other,1,8,[.nilFunc]⟩:=rfl
theorem j71:bi Tryz.prog 167 j4z:=bk (z:= .nilFunc) (by kernel_rfl) Tryz.underlying167 rfl rfl (by intro h;cases h) (fun h=>by cases h)
theorem zgg:tt 167=some ⟨.other,1,8,[.nilFunc]⟩:=rfl
theorem j72:bi Tryz.prog 168 j40:=bk (z:= .nilFunc) (by kernel_rfl) Tryz.underlying168 rfl rfl (by intro h;cases h) (fun h=>by cases h)
theorem zgh:tt 168=some ⟨.other,1,8,[.nilFunc]⟩:=rfl
theorem j73:bi Tryz.prog 169 j41:=bk (z:=(.int .u64 0)) (by kernel_rfl) Tryz.underlying169 rfl rfl (by intro h;cases h) (fun _=>rfl)
theorem zgi:tt 169=some ⟨.int .u64,1,8,[(.int .u64 0)]⟩:=rfl
theorem j74:bi Tryz.prog 170 j42:=bk (z:= .nilFunc) (by kernel_rfl) Tryz.underlying170 rfl rfl (by intro h;cases h) (fun h=>by cases h)
theorem zgj:tt 170=some ⟨.other,1,8,[.nilFunc]⟩:=rfl
theorem j75:bi Tryz.prog 171 j43:=bk (z:= .nilFunc) (by kernel_rfl) Tryz.underlying171 rfl rfl (by intro h;cases h) (fun h=>by cases h)
theorem zgk:tt 171=some ⟨.other,1,8,[.nilFunc]⟩:=rfl
theorem j76:bi Tryz.prog 172 j44:=bk (z:=(.int .u64 0)) (by kernel_rfl) Tryz.underlying172 rfl rfl (by intro h;cases h) (fun _=>rfl)
theorem zgl:tt 172=some ⟨.int .u64,1,8,[(.int .u64 0)]⟩:=rfl
theorem j77:bi Tryz.prog 173 j45:=bk (z:= .nilFunc) (by kernel_rfl) Tryz.underlying173 rfl rfl (by intro h;cases h) (fun h=>by cases h)
theorem zgm:tt 173=some ⟨.other,1,8,[.nilFunc]⟩:=rfl
theorem j78:bi Tryz.prog 174 j46:=bk (z:= .nilFunc) (by kernel_rfl) Tryz.underlying174 rfl rfl (by intro h;cases h) (fun h=>by cases h)
theorem zgn:tt 174=some ⟨.other,1,8,[.nilFunc]⟩:=rfl
theorem j79:bi Tryz.prog 175 j47:=bk (z:= .nilFunc) (by kernel_rfl) Tryz.underlying175 rfl rfl (by intro h;cases h) (fun h=>by cases h)
theorem zgo:tt 175=some ⟨.other,1,8,[.nilFunc]⟩:=rfl
theorem j8a:bi Tryz.prog 176 j48:=bk (z:=(.pointer none)) (by kernel_rfl) Tryz.underlying176 rfl rfl (by intro h;cases h) (fun h=>by cases h)
theorem zgp:tt 176=some ⟨.other,1,8,[(.pointer none)]⟩:=rfl
theorem j8b:bi Tryz.prog 177 j49:=bk (z:= .nilFunc) (by kernel_rfl) Tryz.underlying177 rfl rfl (by intro h;cases h) (fun h=>by cases h)
theorem zgq:tt 177=some ⟨.other,1,8,[.nilFunc]⟩:=rfl
theorem j8c:bi Tryz.prog 178 j5a:=bk (z:=(.pointer none)) (by kernel_rfl) Tryz.underlying178 rfl rfl (by intro h;cases h) (fun h=>by cases h)
theorem zgr:tt 178=some ⟨.other,1,8,[(.pointer none)]⟩:=rfl
theorem j8d:bi Tryz.prog 179 j5b:=bk (z:= .nilFunc) (by kernel_rfl) Tryz.underlying179 rfl rfl (by intro h;cases h) (fun h=>by cases h)
theorem zgs:tt 179=some ⟨.other,1,8,[.nilFunc]⟩:=rfl
theorem j8e:bi Tryz.prog 180 j5c:=bk (z:= .nilFunc) (by kernel_rfl) Tryz.underlying180 rfl rfl (by intro h;cases h) (fun h=>by cases h)
theorem zgt:tt 180=some ⟨.other,1,8,[.nilFunc]⟩:=rfl
theorem j8f:bi Tryz.prog 181 j5d:=bk (z:= .agg #[(.pointer none),(.pointer none),(.pointer none),(.string ⟨#[]⟩)]) (by kernel_rfl) Tryz.underlying181 rfl rfl (by intro h;cases h) (fun h=>by cases h)
theorem zgu:tt 181=some ⟨.strct false [(0,17),(1,17),(2,17),(3,9)],4,40,[(.pointer none),(.pointer none),(.pointer none),(.string ⟨#[]⟩)]⟩:=rfl
theorem j8g:bi Tryz.prog 182 j5e:=bk (z:= .agg #[(.pointer none),(.pointer none),(.pointer none),(.string ⟨#[]⟩)]) (by kernel_rfl) Tryz.underlying182 rfl rfl (by intro h;cases h) (fun h=>by cases h)
theorem zgv:tt 182=some ⟨.strct false [(0,17),(1,17),(2,17),(3,9)],4,40,[(.pointer none),(.pointer none),(.pointer none),(.string ⟨#[]⟩)]⟩:=rfl
theorem j8h:bi Tryz.prog 183 j5f:=bk (z:= .agg #[]) (by kernel_rfl) Tryz.underlying183 rfl rfl (by intro h;cases h) (fun h=>by cases h)
theorem zgw:tt 183=some ⟨.arr false 0 16,0,0,[]⟩:=rfl
theorem j8i:bi Tryz.prog 184 j5g:=bk (z:= .agg #[]) (by kernel_rfl) Tryz.underlying184 rfl rfl (by intro h;cases h) (fun h=>by cases h)
theorem zgx:tt 184=some ⟨.strct false [(0,183)],0,0,[]⟩:=rfl
theorem j8j:bi Tryz.prog 185 j5h:=bk (z:= .agg #[]) (by kernel_rfl) Tryz.underlying185 rfl rfl (by intro h;cases h) (fun h=>by cases h)
theorem zgy:tt 185=some ⟨.strct false [(0,183)],0,0,[]⟩:=rfl
theorem j8k:bi Tryz.prog 186 j5i:=bk (z:= .nilFunc) (by kernel_rfl) Tryz.underlying186 rfl rfl (by intro h;cases h) (fun h=>by cases h)
theorem zgz:tt 186=some ⟨.other,1,8,[.nilFunc]⟩:=rfl
theorem j8l:bi Tryz.prog 187 j5j:=bk (z:=(.int .u8 0)) (by kernel_rfl) Tryz.underlying187 rfl rfl (by intro h;cases h) (fun _=>rfl)
theorem zg0:tt 187=some ⟨.int .u8,1,1,[(.int .u8 0)]⟩:=rfl
theorem j8m:bi Tryz.prog 188 j5k:=bk (z:=(.int .u8 0)) (by kernel_rfl) Tryz.underlying188 rfl rfl (by intro h;cases h) (fun _=>rfl)
theorem zg1:tt 188=some ⟨.int .u8,1,1,[(.int .u8 0)]⟩:=rfl
theorem j8n:bi Tryz.prog 189 j5l:=bk (z:= .nilFunc) (by kernel_rfl) Tryz.underlying189 rfl rfl (by intro h;cases h) (fun h=>by cases h)
theorem zg2:tt 189=some ⟨.other,1,8,[.nilFunc]⟩:=rfl
theorem j8o:bi Tryz.prog 190 j5m:=bk (z:=(.pointer none)) (by kernel_rfl) Tryz.underlying190 rfl rfl (by intro h;cases h) (fun h=>by cases h)
theorem zg3:tt 190=some ⟨.other,1,8,[(.pointer none)]⟩:=rfl
theorem j8p:bi Tryz.prog 191 j5n:=bk (z:=(.int .i32 0)) (by kernel_rfl) Tryz.underlying191 rfl rfl (by intro h;cases h) (fun _=>rfl)
theorem zg4:tt 191=some ⟨.int .i32,1,4,[(.int .i32 0)]⟩:=rfl
theorem j8q:bi Tryz.prog 192 j5o:=bk (z:=(.int .i32 0)) (by kernel_rfl) Tryz.underlying192 rfl rfl (by intro h;cases h) (fun _=>rfl)
theorem zg5:tt 192=some ⟨.int .i32,1,4,[(.int .i32 0)]⟩:=rfl
theorem j8r:bi Tryz.prog 193 j5p:=bk (z:= .agg #[(.int .u64 0),(.int .u64 0),(.int .u32 0),(.int .u8 0),(.int .u8 0),(.int .u8 0),(.int .u8 0), .nilFunc,(.pointer none),(.int .i32 0),(.int .i32 0)]) (by kernel_rfl) Tryz.underlying193 rfl rfl (by intro h;cases h) (fun h=>by cases h)
theorem zg6:tt 193=some ⟨.strct false [(0,12),(1,12),(2,121),(3,187),(4,5),(5,5),(6,188),(7,189),(8,190),(9,191),(10,192)],11,48,[(.int .u64 0),(.int .u64 0),(.int .u32 0),(.int .u8 0),(.int .u8 0),(.int .u8 0),(.int .u8 0), .nilFunc,(.pointer none),(.int .i32 0),(.int .i32 0)]⟩:=rfl
theorem j8s:bi Tryz.prog 194 j5q:=bk (z:= .agg #[(.int .u64 0),(.int .u64 0),(.int .u32 0),(.int .u8 0),(.int .u8 0),(.int .u8 0),(.int .u8 0), .nilFunc,(.pointer none),(.int .i32 0),(.int .i32 0)]) (by kernel_rfl) Tryz.underlying194 rfl rfl (by intro h;cases h) (fun h=>by cases h)
theorem zg7:tt 194=some ⟨.strct false [(0,12),(1,12),(2,121),(3,187),(4,5),(5,5),(6,188),(7,189),(8,190),(9,191),(10,192)],11,48,[(.int .u64 0),(.int .u64 0),(.int .u32 0),(.int .u8 0),(.int .u8 0),(.int .u8 0),(.int .u8 0), .nilFunc,(.pointer none),(.int .i32 0),(.int .i32 0)]⟩:=rfl
theorem j8t:bi Tryz.prog 195 j5r:=bk (z:=(.pointer none)) (by kernel_rfl) Tryz.underlying195 rfl rfl (by intro h;cases h) (fun h=>by cases h)
theorem zg8:tt 195=some ⟨.other,1,8,[(.pointer none)]⟩:=rfl
set_option maxRecDepth 100000 in
theorem fits:ib Tryz.prog tt:=by
 intro t x h;unfold tt at h;split at h
 ·cases h;exact zhq
 ·cases h;exact zhr
 ·cases h;exact zhs
 ·cases h;exact zht
 ·cases h;exact zhu
 ·cases h;exact zhv
 ·cases h;exact zhw
 ·cases h;exact zhx
 ·cases h;exact zhy
 ·cases h;exact j92
 ·cases h;exact j93
 ·cases h;exact j94
 ·cases h;exact j95
 ·cases h;exact j96
 ·cases h;exact j97
 ·cases h;exact j98
 ·cases h;exact j99
 ·cases h;exact zaa
 ·cases h;exact zab
 ·cases h;exact zac
 ·cases h;exact zad
 ·cases h;exact zae
 ·cases h;exact zaf
 ·cases h;exact zag
 ·cases h;exact zah
 ·cases h;exact zai
 ·cases h;exact zaj
 ·cases h;exact zak
 ·cases h;exact zal
 ·cases h;exact zam
 ·cases h;exact zan
 ·cases h;exact zao
 ·cases h;exact zap
 ·cases h;exact zaq
 ·cases h;exact zar
 ·cases h;exact zas
 ·cases h;exact zat
 ·cases h;exact zau
 ·cases h;exact zav
 ·cases h;exact zaw
 ·cases h;exact zax
 ·cases h;exact zay
 ·cases h;exact zaz
 ·cases h;exact za0
 ·cases h;exact za1
 ·cases h;exact za2
 ·cases h;exact za3
 ·cases h;exact za4
 ·cases h;exact za5
 ·cases h;exact za6
 ·cases h;exact za7
 ·cases h;exact za8
 ·cases h;exact za9
 ·cases h;exact zba
 ·cases h;exact zbb
 ·cases h;exact zbc
 ·cases h;exact zbd
 ·cases h;exact zbe
 ·cases h;exact zbf
 ·cases h;exact zbg
 ·cases h;exact zbh
 ·cases h;exact zbi
 ·cases h;exact zbj
 ·cases h;exact zbk
 ·cases h;exact zbl
 ·cases h;exact zbm
 ·cases h;exact zbn
 ·cases h;exact zbo
 ·cases h;exact zbp
 ·cases h;exact zbq
 ·cases h;exact zbr
 ·cases h;exact zbs
 ·cases h;exact zbt
 ·cases h;exact zbu
 ·cases h;exact zbv
 ·cases h;exact zbw
 ·cases h;exact zbx
 ·cases h;exact zby
 ·cases h;exact zbz
 ·cases h;exact zb0
 ·cases h;exact zb1
 ·cases h;exact zb2
 ·cases h;exact zb3
 ·cases h;exact zb4
 ·cases h;exact zb5
 ·cases h;exact zb6
 ·cases h;exact j6d
 ·cases h;exact j6e
 ·cases h;exact j6f
 ·cases h;exact j6g
 ·cases h;exact j6h
 ·cases h;exact j6i
 ·cases h;exact j6j
 ·cases h;exact j6k
 ·cases h;exact j6l
 ·cases h;exact j6m
 ·cases h;exact j6n
 ·cases h;exact j6o
 ·cases h;exact j6p
 ·cases h;exact j6q
 ·cases h;exact j6r
 ·cases h;exact j6s
 ·cases h;exact j6t
 ·cases h;exact j6u
 ·cases h;exact j6v
 ·cases h;exact j6w
 ·cases h;exact j6x
 ·cases h;exact j6y
 ·cases h;exact j6z
 ·cases h;exact j60
 ·cases h;exact j61
 ·cases h;exact j62
 ·cases h;exact j63
 ·cases h;exact j64
 ·cases h;exact j65
 ·cases h;exact j66
 ·cases h;exact j67
 ·cases h;exact j68
 ·cases h;exact j69
 ·cases h;exact j7a
 ·cases h;exact j7b
 ·cases h;exact j7c
 ·cases h;exact j7d
 ·cases h;exact j7e
 ·cases h;exact j7f
 ·cases h;exact j7g
 ·cases h;exact j7h
 ·cases h;exact j7i
 ·cases h;exact j7j
 ·cases h;exact j7k
 ·cases h;exact j7l
 ·cases h;exact j7m
 ·cases h;exact j7n
 ·cases h;exact j7o
 ·cases h;exact j7p
 ·cases h;exact j7q
 ·cases h;exact j7r
 ·cases h;exact j7s
 ·cases h;exact j7t
 ·cases h;exact j7u
 ·cases h;exact j7v
 ·cases h;exact j7w
 ·cases h;exact j7x
 ·cases h;exact j7y
 ·cases h;exact j7z
 ·cases h;exact j70
 ·cases h;exact j71
 ·cases h;exact j72
 ·cases h;exact j73
 ·cases h;exact j74
 ·cases h;exact j75
 ·cases h;exact j76
 ·cases h;exact j77
 ·cases h;exact j78
 ·cases h;exact j79
 ·cases h;exact j8a
 ·cases h;exact j8b
 ·cases h;exact j8c
 ·cases h;exact j8d
 ·cases h;exact j8e
 ·cases h;exact j8f
 ·cases h;exact j8g
 ·cases h;exact j8h
 ·cases h;exact j8i
 ·cases h;exact j8j
 ·cases h;exact j8k
 ·cases h;exact j8l
 ·cases h;exact j8m
 ·cases h;exact j8n
 ·cases h;exact j8o
 ·cases h;exact j8p
 ·cases h;exact j8q
 ·cases h;exact j8r
 ·cases h;exact j8s
 ·cases h;exact j8t
 ·cases h
theorem bt:Tryz.prog.follows .mixedOrders=true:=rfl
attribute [go_sem] tt1 tt2 tt3 tt4 tt5 tt6 tt7 tt8 tt9 zh5 zh6 zh7 zh8 zh9 zia zib zic zid zie zif zig zih zii zij zik zil zim zin zio zip ziq zir zis zit ziu ziv ziw zix ziy ziz zi0 zi1 zi2 zi3 zi4 zi5 zi6 zi7 zi8 zi9 zja zjb zjc zjd zje zjf zjg zjh zji zjj zjk zjl zjm zjn zjo zjp zjq zjr zjs zjt zju zjv zjw zjx zjy zjz zj0 zj1 zj2 zj3 zj4 zj5 zj6 zj7 zj8 zj9 zes zet zeu zev zew zex zey zez ze0 ze1 ze2 ze3 ze4 ze5 ze6 ze7 ze8 ze9 zfa zfb zfc zfd zfe zff zfg zfh zfi zfj zfk zfl zfm zfn zfo zfp zfq zfr zfs zft zfu zfv zfw zfx zfy zfz zf0 zf1 zf2 zf3 zf4 zf5 zf6 zf7 zf8 zf9 zga zgb zgc zgd zge zgf zgg zgh zgi zgj zgk zgl zgm zgn zgo zgp zgq zgr zgs zgt zgu zgv zgw zgx zgy zgz zg0 zg1 zg2 zg3 zg4 zg5 zg6 zg7 zg8
end Go.Proofs.YtclbndfjhjladaaGreat
