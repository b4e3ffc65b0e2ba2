/-
  The types of this seat's program: a row a type (its kind, cells, bytes, the cells of its zero value), and that each row is the program's own. Made by program out of the translation.
-/
import Derived.Test.YtclbndfjhjladaaGreatZ7KE
import Derived.Test.YtclbndfjhjladaaGreatProg
import Derived.KernelRfl
set_option linter.all false
namespace Go.Proofs.YtclbndfjhjladaaGreat
open Go.K Go.M
theorem zdl{P:Program}{t:TypeId}{k:TK}{sz by_:Nat}{zs:List Value}{z:Value}{d:TypeDesc}(h1:(P.info? t).map (fun i=>(i.zero,i.size,i.bytes))=some (some z,sz,by_))(h2:P.underlying t=some d)(h3:TK.of d=k.plain)(h4:z.cells.toList=zs)(h5:k.cmp=true→Cmp P t)(h6:k.one=true→zs=[z]):am P t ⟨k,sz,by_,zs⟩:=by
 cases hi:P.info? t with
 |none=>simp[hi]at h1
 |some i=>
  simp only[hi,Option.map_some,Option.some.injEq,Prod.mk.injEq]at h1;exact⟨⟨i,d,z,hi,h2,h3,h1.2.1,h1.2.2,h1.1,h4⟩,h5,fun e=>⟨i,z,hi,h1.1,h6 e⟩⟩
theorem fA{t:TypeId}{k:TK}{sz by_:Nat}{zs:List Value}{d:TypeDesc}(z:Value)(h2:Tryz.prog.underlying t=some d)(h1:(Tryz.prog.info? t).map (fun i=>(i.zero,i.size,i.bytes))=some (some z,sz,by_):=by kernel_rfl)(h3:TK.of d=k.plain:=by rfl)(h4:z.cells.toList=zs:=by rfl)(h5:k.cmp=true→Cmp Tryz.prog t:=by intro h;cases h)(h6:k.one=true→zs=[z]:=by first|exact fun _=>rfl|(intro h;cases h)):am Tryz.prog t ⟨k,sz,by_,zs⟩:=zdl h1 h2 h3 h4 h5 h6
abbrev oF:TI:=⟨.other,1,8,[.nilFunc]⟩
def ti1:TI:=oF
def ti2:TI:=⟨.int .i64,1,8,[(.int .i64 0)]⟩
def ti3:TI:=⟨.int .i64,1,8,[(.int .i64 0)]⟩
def ti4:TI:=⟨.bool,1,1,[(.bool false)]⟩
def ti5:TI:=⟨.int .u8,1,1,[(.int .u8 0)]⟩
def ti6:TI:=⟨.int .u8,1,1,[(.int .u8 0)]⟩
def ti7:TI:=⟨.strct true [(0,2),(1,3),(2,4),(3,6)],4,24,[(.int .i64 0),(.int .i64 0),(.bool false),(.int .u8 0)]⟩
def ti8:TI:=⟨.strct true [(0,2),(1,3),(2,4),(3,6)],4,24,[(.int .i64 0),(.int .i64 0),(.bool false),(.int .u8 0)]⟩
def ti9:TI:=⟨.str,1,16,[(.string ⟨#[]⟩)]⟩
def zho:TI:=⟨.str,1,16,[(.string ⟨#[]⟩)]⟩
def zhp:TI:=⟨.str,1,16,[(.string ⟨#[]⟩)]⟩
def zhq:TI:=⟨.int .u64,1,8,[(.int .u64 0)]⟩
def zhr:TI:=⟨.strct false [(0,9),(1,12)],2,24,[(.string ⟨#[]⟩),(.int .u64 0)]⟩
def zhs:TI:=⟨.strct false [(0,9),(1,12)],2,24,[(.string ⟨#[]⟩),(.int .u64 0)]⟩
def zht:TI:=⟨.other,1,8,[(.pointer none)]⟩
def zhu:TI:=⟨.other,1,8,[(.pointer none)]⟩
def zhv:TI:=⟨.other,1,8,[(.pointer none)]⟩
def zhw:TI:=⟨.strct false [(0,17)],1,8,[(.pointer none)]⟩
def zhx:TI:=⟨.strct false [(0,17)],1,8,[(.pointer none)]⟩
def zhy:TI:=⟨.other,1,16,[.nilIface]⟩
def zhz:TI:=⟨.int .i32,1,4,[(.int .i32 0)]⟩
def zh0:TI:=⟨.slice 64,1,24,[(.slice none 0 0)]⟩
def zh1:TI:=⟨.strct false [(0,3),(1,22),(2,3),(3,3)],4,48,[(.int .i64 0),(.slice none 0 0),(.int .i64 0),(.int .i64 0)]⟩
def zh2:TI:=⟨.strct false [(0,3),(1,22),(2,3),(3,3)],4,48,[(.int .i64 0),(.slice none 0 0),(.int .i64 0),(.int .i64 0)]⟩
def zh3:TI:=oF
def zh4:TI:=oF
def zh5:TI:=⟨.int .i64,1,8,[(.int .i64 0)]⟩
def zh6:TI:=oF
def zh7:TI:=⟨.slice 69,1,24,[(.slice none 0 0)]⟩
def zh8:TI:=oF
def zh9:TI:=oF
def zia:TI:=oF
def zib:TI:=oF
def zic:TI:=oF
def zid:TI:=oF
def zie:TI:=oF
def zif:TI:=⟨.slice 48,1,24,[(.slice none 0 0)]⟩
def zig:TI:=⟨.slice 53,1,24,[(.slice none 0 0)]⟩
def zih:TI:=⟨.strct false [(0,42),(1,43),(2,4)],3,56,[(.slice none 0 0),(.slice none 0 0),(.bool false)]⟩
def zii:TI:=⟨.strct false [(0,42),(1,43),(2,4)],3,56,[(.slice none 0 0),(.slice none 0 0),(.bool false)]⟩
def zij:TI:=oF
def zik:TI:=⟨.slice 3,1,24,[(.slice none 0 0)]⟩
def zil:TI:=oF
def zim:TI:=⟨.slice 4,1,24,[(.slice none 0 0)]⟩
def zin:TI:=oF
def zio:TI:=⟨.strct true [(0,3),(1,3),(2,3)],3,24,[(.int .i64 0),(.int .i64 0),(.int .i64 0)]⟩
def ziq:TI:=⟨.strct true [(0,3),(1,3),(2,3)],3,24,[(.int .i64 0),(.int .i64 0),(.int .i64 0)]⟩
def zir:TI:=oF
def zis:TI:=oF
def zit:TI:=oF
def ziu:TI:=oF
def ziv:TI:=oF
def ziw:TI:=oF
def zix:TI:=oF
def ziy:TI:=⟨.strct false [(0,9),(1,48),(2,48)],3,64,[(.string ⟨#[]⟩),(.slice none 0 0),(.slice none 0 0)]⟩
def ziz:TI:=⟨.strct false [(0,9),(1,48),(2,48)],3,64,[(.string ⟨#[]⟩),(.slice none 0 0),(.slice none 0 0)]⟩
def zi0:TI:=oF
def zi1:TI:=oF
def zi2:TI:=oF
def zi3:TI:=⟨.arr false 2 48,2,48,[(.slice none 0 0),(.slice none 0 0)]⟩
def zi4:TI:=oF
def zi5:TI:=oF
def zi6:TI:=oF
def zi7:TI:=oF
def zi8:TI:=oF
def zi9:TI:=oF
def zja:TI:=oF
def zjb:TI:=oF
def zjc:TI:=oF
def zjd:TI:=oF
def zje:TI:=⟨.slice 25,1,24,[(.slice none 0 0)]⟩
def zjf:TI:=oF
def zjg:TI:=oF
def zjh:TI:=oF
def zji:TI:=oF
def zjj:TI:=oF
def zjk:TI:=oF
def zjl:TI:=oF
def zjm:TI:=oF
def zjn:TI:=oF
def zjo:TI:=oF
def zjp:TI:=oF
def zjq:TI:=oF
def zjr:TI:=oF
def zjs:TI:=⟨.other,1,8,[(.pointer none)]⟩
def zjt:TI:=oF
def j7v:TI:=oF
def j7w:TI:=⟨.map 3 3,1,8,[(.map none)]⟩
def j7x:TI:=⟨.strct false [(0,3),(1,48)],2,32,[(.int .i64 0),(.slice none 0 0)]⟩
def j7y:TI:=⟨.strct false [(0,3),(1,48)],2,32,[(.int .i64 0),(.slice none 0 0)]⟩
def j7z:TI:=oF
def j70:TI:=oF
def j71:TI:=oF
def j72:TI:=oF
def j73:TI:=oF
def j74:TI:=oF
def j75:TI:=oF
def j76:TI:=⟨.strct false [(0,42),(1,48),(2,3),(3,3)],4,64,[(.slice none 0 0),(.slice none 0 0),(.int .i64 0),(.int .i64 0)]⟩
def j77:TI:=⟨.strct false [(0,42),(1,48),(2,3),(3,3)],4,64,[(.slice none 0 0),(.slice none 0 0),(.int .i64 0),(.int .i64 0)]⟩
def j78:TI:=oF
def j79:TI:=oF
def j8a:TI:=oF
def j8b:TI:=⟨.slice 121,1,24,[(.slice none 0 0)]⟩
def j8c:TI:=oF
def j8d:TI:=⟨.int .u32,1,4,[(.int .u32 0)]⟩
def j8e:TI:=oF
def j8f:TI:=oF
def j8g:TI:=oF
def j8h:TI:=oF
def j8i:TI:=oF
def j8j:TI:=oF
def j8k:TI:=oF
def j8l:TI:=oF
def j8m:TI:=oF
def j8n:TI:=oF
def j8o:TI:=⟨.other,1,8,[(.pointer none)]⟩
def j8p:TI:=⟨.strct false [(0,42),(1,42)],2,48,[(.slice none 0 0),(.slice none 0 0)]⟩
def j8q:TI:=⟨.strct false [(0,42),(1,42)],2,48,[(.slice none 0 0),(.slice none 0 0)]⟩
def j8r:TI:=⟨.slice 139,1,24,[(.slice none 0 0)]⟩
def j8s:TI:=oF
def j8t:TI:=⟨.strct false [(0,48),(1,48)],2,48,[(.slice none 0 0),(.slice none 0 0)]⟩
def j8u:TI:=⟨.strct false [(0,48),(1,48)],2,48,[(.slice none 0 0),(.slice none 0 0)]⟩
def j8v:TI:=oF
def j8w:TI:=oF
def j8x:TI:=⟨.strct false [(0,42),(1,48),(2,3),(3,3)],4,64,[(.slice none 0 0),(.slice none 0 0),(.int .i64 0),(.int .i64 0)]⟩
def j8y:TI:=⟨.strct false [(0,42),(1,48),(2,3),(3,3)],4,64,[(.slice none 0 0),(.slice none 0 0),(.int .i64 0),(.int .i64 0)]⟩
def j8z:TI:=oF
def j80:TI:=oF
def j81:TI:=oF
def j82:TI:=oF
def j83:TI:=⟨.int .u64,1,8,[(.int .u64 0)]⟩
def j84:TI:=oF
def j85:TI:=oF
def j86:TI:=oF
def j87:TI:=oF
def j88:TI:=oF
def j89:TI:=oF
def j9a:TI:=⟨.other,1,8,[(.pointer none)]⟩
def j9b:TI:=oF
def j9c:TI:=oF
def j9d:TI:=oF
def j9e:TI:=⟨.int .i64,1,8,[(.int .i64 0)]⟩
def j9f:TI:=oF
def j9g:TI:=oF
def j9h:TI:=oF
def j9i:TI:=oF
def j9j:TI:=oF
def j9k:TI:=oF
def j9l:TI:=⟨.int .u64,1,8,[(.int .u64 0)]⟩
def j9m:TI:=oF
def j9n:TI:=oF
def j9o:TI:=⟨.int .u64,1,8,[(.int .u64 0)]⟩
def j9p:TI:=oF
def j9q:TI:=oF
def j9r:TI:=oF
def j9s:TI:=⟨.other,1,8,[(.pointer none)]⟩
def j9t:TI:=oF
def j9u:TI:=⟨.other,1,8,[(.pointer none)]⟩
def j9v:TI:=oF
def j9w:TI:=oF
def j9x:TI:=⟨.strct false [(0,17),(1,17),(2,17),(3,9)],4,40,[(.pointer none),(.pointer none),(.pointer none),(.string ⟨#[]⟩)]⟩
def j9y:TI:=⟨.strct false [(0,17),(1,17),(2,17),(3,9)],4,40,[(.pointer none),(.pointer none),(.pointer none),(.string ⟨#[]⟩)]⟩
def j9z:TI:=⟨.arr false 0 16,0,0,[]⟩
def j90:TI:=⟨.strct false [(0,183)],0,0,[]⟩
def j91:TI:=⟨.strct false [(0,183)],0,0,[]⟩
def j92:TI:=oF
def j93:TI:=⟨.int .u8,1,1,[(.int .u8 0)]⟩
def j94:TI:=⟨.int .u8,1,1,[(.int .u8 0)]⟩
def j95:TI:=oF
def j96:TI:=⟨.other,1,8,[(.pointer none)]⟩
def j97:TI:=⟨.int .i32,1,4,[(.int .i32 0)]⟩
def j98:TI:=⟨.int .i32,1,4,[(.int .i32 0)]⟩
def j99:TI:=⟨.strct false [(0,12),(1,12),(2,121),(3,187),(4,5),(5,5),(6,188),(7,189),(8,190),(9,191),(10,192)],11,48,[(.int .u64 0),(.int .u64 0),(.int .u32 0),(.int .u8 0),(.int .u8 0),(.int .u8 0),(.int .u8 0), .nilFunc,(.pointer none),(.int .i32 0),(.int .i32 0)]⟩
def zaa:TI:=⟨.strct false [(0,12),(1,12),(2,121),(3,187),(4,5),(5,5),(6,188),(7,189),(8,190),(9,191),(10,192)],11,48,[(.int .u64 0),(.int .u64 0),(.int .u32 0),(.int .u8 0),(.int .u8 0),(.int .u8 0),(.int .u8 0), .nilFunc,(.pointer none),(.int .i32 0),(.int .i32 0)]⟩
def zab:TI:=⟨.other,1,8,[(.pointer none)]⟩
def tt:TT
 |1=>some ti1
 |2=>some ti2
 |3=>some ti3
 |4=>some ti4
 |5=>some ti5
 |6=>some ti6
 |7=>some ti7
 |8=>some ti8
 |9=>some ti9
 |10=>some zho
 |11=>some zhp
 |12=>some zhq
 |13=>some zhr
 |14=>some zhs
 |15=>some zht
 |16=>some zhu
 |17=>some zhv
 |18=>some zhw
 |19=>some zhx
 |20=>some zhy
 |21=>some zhz
 |22=>some zh0
 |23=>some zh1
 |24=>some zh2
 |25=>some zh3
 |26=>some zh4
 |27=>some zh5
 |29=>some zh6
 |30=>some zh7
 |32=>some zh8
 |34=>some zh9
 |36=>some zia
 |37=>some zib
 |38=>some zic
 |39=>some zid
 |41=>some zie
 |42=>some zif
 |43=>some zig
 |44=>some zih
 |45=>some zii
 |47=>some zij
 |48=>some zik
 |49=>some zil
 |50=>some zim
 |51=>some zin
 |52=>some zio
 |53=>some ziq
 |54=>some zir
 |55=>some zis
 |57=>some zit
 |59=>some ziu
 |60=>some ziv
 |61=>some ziw
 |62=>some zix
 |63=>some ziy
 |64=>some ziz
 |65=>some zi0
 |67=>some zi1
 |68=>some zi2
 |69=>some zi3
 |70=>some zi4
 |71=>some zi5
 |72=>some zi6
 |73=>some zi7
 |74=>some zi8
 |75=>some zi9
 |76=>some zja
 |78=>some zjb
 |80=>some zjc
 |81=>some zjd
 |82=>some zje
 |83=>some zjf
 |84=>some zjg
 |85=>some zjh
 |86=>some zji
 |88=>some zjj
 |89=>some zjk
 |91=>some zjl
 |92=>some zjm
 |93=>some zjn
 |94=>some zjo
 |95=>some zjp
 |96=>some zjq
 |97=>some zjr
 |98=>some zjs
 |99=>some zjt
 |100=>some j7v
 |101=>some j7w
 |102=>some j7x
 |103=>some j7y
 |104=>some j7z
 |107=>some j70
 |108=>some j71
 |109=>some j72
 |110=>some j73
 |111=>some j74
 |112=>some j75
 |113=>some j76
 |114=>some j77
 |115=>some j78
 |116=>some j79
 |118=>some j8a
 |119=>some j8b
 |120=>some j8c
 |121=>some j8d
 |122=>some j8e
 |123=>some j8f
 |124=>some j8g
 |125=>some j8h
 |126=>some j8i
 |128=>some j8j
 |129=>some j8k
 |130=>some j8l
 |131=>some j8m
 |132=>some j8n
 |133=>some j8o
 |134=>some j8p
 |135=>some j8q
 |136=>some j8r
 |137=>some j8s
 |138=>some j8t
 |139=>some j8u
 |141=>some j8v
 |142=>some j8w
 |143=>some j8x
 |144=>some j8y
 |145=>some j8z
 |146=>some j80
 |147=>some j81
 |148=>some j82
 |149=>some j83
 |150=>some j84
 |151=>some j85
 |153=>some j86
 |154=>some j87
 |155=>some j88
 |156=>some j89
 |157=>some j9a
 |158=>some j9b
 |159=>some j9c
 |160=>some j9d
 |161=>some j9e
 |163=>some j9f
 |164=>some j9g
 |165=>some j9h
 |166=>some j9i
 |167=>some j9j
 |168=>some j9k
 |169=>some j9l
 |170=>some j9m
 |171=>some j9n
 |172=>some j9o
 |173=>some j9p
 |174=>some j9q
 |175=>some j9r
 |176=>some j9s
 |177=>some j9t
 |178=>some j9u
 |179=>some j9v
 |180=>some j9w
 |181=>some j9x
 |182=>some j9y
 |183=>some j9z
 |184=>some j90
 |185=>some j91
 |186=>some j92
 |187=>some j93
 |188=>some j94
 |189=>some j95
 |190=>some j96
 |191=>some j97
 |192=>some j98
 |193=>some j99
 |194=>some zaa
 |195=>some zab
 |_=>none
theorem zj9:am Tryz.prog 1 ti1:=fA .nilFunc Tryz.underlying1
theorem zka:am Tryz.prog 2 ti2:=fA ((.int .i64 0)) Tryz.underlying2
theorem zkb:am Tryz.prog 3 ti3:=fA ((.int .i64 0)) Tryz.underlying3
theorem zkc:am Tryz.prog 4 ti4:=fA ((.bool false)) Tryz.underlying4
theorem zkd:am Tryz.prog 5 ti5:=fA ((.int .u8 0)) Tryz.underlying5
theorem zke:am Tryz.prog 6 ti6:=fA ((.int .u8 0)) Tryz.underlying6
theorem zkf:am Tryz.prog 7 ti7:=fA (.agg #[(.int .i64 0),(.int .i64 0),(.bool false),(.int .u8 0)]) Tryz.underlying7 (h5:=fun _=>⟨by kernel_rfl,by kernel_rfl,by kernel_rfl⟩)
theorem zkg:am Tryz.prog 8 ti8:=fA (.agg #[(.int .i64 0),(.int .i64 0),(.bool false),(.int .u8 0)]) Tryz.underlying8 (h5:=fun _=>⟨by kernel_rfl,by kernel_rfl,by kernel_rfl⟩)
theorem zkh:am Tryz.prog 9 ti9:=fA ((.string ⟨#[]⟩)) Tryz.underlying9
theorem ze2:am Tryz.prog 10 zho:=fA ((.string ⟨#[]⟩)) Tryz.underlying10
theorem ze3:am Tryz.prog 11 zhp:=fA ((.string ⟨#[]⟩)) Tryz.underlying11
theorem ze4:am Tryz.prog 12 zhq:=fA ((.int .u64 0)) Tryz.underlying12
theorem ze5:am Tryz.prog 13 zhr:=fA (.agg #[(.string ⟨#[]⟩),(.int .u64 0)]) Tryz.underlying13
theorem ze6:am Tryz.prog 14 zhs:=fA (.agg #[(.string ⟨#[]⟩),(.int .u64 0)]) Tryz.underlying14
theorem ze7:am Tryz.prog 15 zht:=fA ((.pointer none)) Tryz.underlying15
theorem ze8:am Tryz.prog 16 zhu:=fA ((.pointer none)) Tryz.underlying16
theorem ze9:am Tryz.prog 17 zhv:=fA ((.pointer none)) Tryz.underlying17
theorem zfa:am Tryz.prog 18 zhw:=fA (.agg #[(.pointer none)]) Tryz.underlying18
theorem zfb:am Tryz.prog 19 zhx:=fA (.agg #[(.pointer none)]) Tryz.underlying19
theorem zfc:am Tryz.prog 20 zhy:=fA (.nilIface) Tryz.underlying20
theorem zfd:am Tryz.prog 21 zhz:=fA ((.int .i32 0)) Tryz.underlying21
theorem zfe:am Tryz.prog 22 zh0:=fA ((.slice none 0 0)) Tryz.underlying22
theorem zff:am Tryz.prog 23 zh1:=fA (.agg #[(.int .i64 0),(.slice none 0 0),(.int .i64 0),(.int .i64 0)]) Tryz.underlying23
theorem zfg:am Tryz.prog 24 zh2:=fA (.agg #[(.int .i64 0),(.slice none 0 0),(.int .i64 0),(.int .i64 0)]) Tryz.underlying24
theorem zfh:am Tryz.prog 25 zh3:=fA .nilFunc Tryz.underlying25
theorem zfi:am Tryz.prog 26 zh4:=fA .nilFunc Tryz.underlying26
theorem zfj:am Tryz.prog 27 zh5:=fA ((.int .i64 0)) Tryz.underlying27
theorem zfk:am Tryz.prog 29 zh6:=fA .nilFunc Tryz.underlying29
theorem zfl:am Tryz.prog 30 zh7:=fA ((.slice none 0 0)) Tryz.underlying30
theorem zfm:am Tryz.prog 32 zh8:=fA .nilFunc Tryz.underlying32
theorem zfn:am Tryz.prog 34 zh9:=fA .nilFunc Tryz.underlying34
theorem zfo:am Tryz.prog 36 zia:=fA .nilFunc Tryz.underlying36
theorem zfp:am Tryz.prog 37 zib:=fA .nilFunc Tryz.underlying37
theorem zfq:am Tryz.prog 38 zic:=fA .nilFunc Tryz.underlying38
theorem zfr:am Tryz.prog 39 zid:=fA .nilFunc Tryz.underlying39
theorem zfs:am Tryz.prog 41 zie:=fA .nilFunc Tryz.underlying41
theorem zft:am Tryz.prog 42 zif:=fA ((.slice none 0 0)) Tryz.underlying42
theorem zfu:am Tryz.prog 43 zig:=fA ((.slice none 0 0)) Tryz.underlying43
theorem zfv:am Tryz.prog 44 zih:=fA (.agg #[(.slice none 0 0),(.slice none 0 0),(.bool false)]) Tryz.underlying44
theorem zfw:am Tryz.prog 45 zii:=fA (.agg #[(.slice none 0 0),(.slice none 0 0),(.bool false)]) Tryz.underlying45
theorem zfx:am Tryz.prog 47 zij:=fA .nilFunc Tryz.underlying47
theorem zfy:am Tryz.prog 48 zik:=fA ((.slice none 0 0)) Tryz.underlying48
theorem zfz:am Tryz.prog 49 zil:=fA .nilFunc Tryz.underlying49
theorem zf0:am Tryz.prog 50 zim:=fA ((.slice none 0 0)) Tryz.underlying50
theorem zf1:am Tryz.prog 51 zin:=fA .nilFunc Tryz.underlying51
theorem zf2:am Tryz.prog 52 zio:=fA (.agg #[(.int .i64 0),(.int .i64 0),(.int .i64 0)]) Tryz.underlying52 (h5:=fun _=>⟨by kernel_rfl,by kernel_rfl,by kernel_rfl⟩)
theorem zf3:am Tryz.prog 53 ziq:=fA (.agg #[(.int .i64 0),(.int .i64 0),(.int .i64 0)]) Tryz.underlying53 (h5:=fun _=>⟨by kernel_rfl,by kernel_rfl,by kernel_rfl⟩)
theorem zf4:am Tryz.prog 54 zir:=fA .nilFunc Tryz.underlying54
theorem zf5:am Tryz.prog 55 zis:=fA .nilFunc Tryz.underlying55
theorem zf6:am Tryz.prog 57 zit:=fA .nilFunc Tryz.underlying57
theorem zf7:am Tryz.prog 59 ziu:=fA .nilFunc Tryz.underlying59
theorem zf8:am Tryz.prog 60 ziv:=fA .nilFunc Tryz.underlying60
theorem zf9:am Tryz.prog 61 ziw:=fA .nilFunc Tryz.underlying61
theorem zga:am Tryz.prog 62 zix:=fA .nilFunc Tryz.underlying62
theorem zgb:am Tryz.prog 63 ziy:=fA (.agg #[(.string ⟨#[]⟩),(.slice none 0 0),(.slice none 0 0)]) Tryz.underlying63
theorem zgc:am Tryz.prog 64 ziz:=fA (.agg #[(.string ⟨#[]⟩),(.slice none 0 0),(.slice none 0 0)]) Tryz.underlying64
theorem zgd:am Tryz.prog 65 zi0:=fA .nilFunc Tryz.underlying65
theorem zge:am Tryz.prog 67 zi1:=fA .nilFunc Tryz.underlying67
theorem zgf:am Tryz.prog 68 zi2:=fA .nilFunc Tryz.underlying68
theorem zgg:am Tryz.prog 69 zi3:=fA (.agg #[(.slice none 0 0),(.slice none 0 0)]) Tryz.underlying69
theorem zgh:am Tryz.prog 70 zi4:=fA .nilFunc Tryz.underlying70
theorem zgi:am Tryz.prog 71 zi5:=fA .nilFunc Tryz.underlying71
theorem zgj:am Tryz.prog 72 zi6:=fA .nilFunc Tryz.underlying72
theorem zgk:am Tryz.prog 73 zi7:=fA .nilFunc Tryz.underlying73
theorem zgl:am Tryz.prog 74 zi8:=fA .nilFunc Tryz.underlying74
theorem zgm:am Tryz.prog 75 zi9:=fA .nilFunc Tryz.underlying75
theorem zgn:am Tryz.prog 76 zja:=fA .nilFunc Tryz.underlying76
theorem zgo:am Tryz.prog 78 zjb:=fA .nilFunc Tryz.underlying78
theorem zgp:am Tryz.prog 80 zjc:=fA .nilFunc Tryz.underlying80
theorem zgq:am Tryz.prog 81 zjd:=fA .nilFunc Tryz.underlying81
theorem zgr:am Tryz.prog 82 zje:=fA ((.slice none 0 0)) Tryz.underlying82
theorem zgs:am Tryz.prog 83 zjf:=fA .nilFunc Tryz.underlying83
theorem zgt:am Tryz.prog 84 zjg:=fA .nilFunc Tryz.underlying84
theorem zgu:am Tryz.prog 85 zjh:=fA .nilFunc Tryz.underlying85
theorem zgv:am Tryz.prog 86 zji:=fA .nilFunc Tryz.underlying86
theorem zgw:am Tryz.prog 88 zjj:=fA .nilFunc Tryz.underlying88
theorem zgx:am Tryz.prog 89 zjk:=fA .nilFunc Tryz.underlying89
theorem zgy:am Tryz.prog 91 zjl:=fA .nilFunc Tryz.underlying91
theorem zgz:am Tryz.prog 92 zjm:=fA .nilFunc Tryz.underlying92
theorem zg0:am Tryz.prog 93 zjn:=fA .nilFunc Tryz.underlying93
theorem zg1:am Tryz.prog 94 zjo:=fA .nilFunc Tryz.underlying94
theorem zg2:am Tryz.prog 95 zjp:=fA .nilFunc Tryz.underlying95
theorem zg3:am Tryz.prog 96 zjq:=fA .nilFunc Tryz.underlying96
theorem zg4:am Tryz.prog 97 zjr:=fA .nilFunc Tryz.underlying97
theorem zg5:am Tryz.prog 98 zjs:=fA ((.pointer none)) Tryz.underlying98
theorem zg6:am Tryz.prog 99 zjt:=fA .nilFunc Tryz.underlying99
theorem za4:am Tryz.prog 100 j7v:=fA .nilFunc Tryz.underlying100
theorem za5:am Tryz.prog 101 j7w:=fA ((.map none)) Tryz.underlying101
theorem za6:am Tryz.prog 102 j7x:=fA (.agg #[(.int .i64 0),(.slice none 0 0)]) Tryz.underlying102
theorem za7:am Tryz.prog 103 j7y:=fA (.agg #[(.int .i64 0),(.slice none 0 0)]) Tryz.underlying103
theorem za8:am Tryz.prog 104 j7z:=fA .nilFunc Tryz.underlying104
theorem za9:am Tryz.prog 107 j70:=fA .nilFunc Tryz.underlying107
theorem zba:am Tryz.prog 108 j71:=fA .nilFunc Tryz.underlying108
theorem zbb:am Tryz.prog 109 j72:=fA .nilFunc Tryz.underlying109
theorem zbc:am Tryz.prog 110 j73:=fA .nilFunc Tryz.underlying110
theorem zbd:am Tryz.prog 111 j74:=fA .nilFunc Tryz.underlying111
theorem zbe:am Tryz.prog 112 j75:=fA .nilFunc Tryz.underlying112
theorem zbf:am Tryz.prog 113 j76:=fA (.agg #[(.slice none 0 0),(.slice none 0 0),(.int .i64 0),(.int .i64 0)]) Tryz.underlying113
theorem zbg:am Tryz.prog 114 j77:=fA (.agg #[(.slice none 0 0),(.slice none 0 0),(.int .i64 0),(.int .i64 0)]) Tryz.underlying114
theorem zbh:am Tryz.prog 115 j78:=fA .nilFunc Tryz.underlying115
theorem zbi:am Tryz.prog 116 j79:=fA .nilFunc Tryz.underlying116
theorem zbj:am Tryz.prog 118 j8a:=fA .nilFunc Tryz.underlying118
theorem zbk:am Tryz.prog 119 j8b:=fA ((.slice none 0 0)) Tryz.underlying119
theorem zbl:am Tryz.prog 120 j8c:=fA .nilFunc Tryz.underlying120
theorem zbm:am Tryz.prog 121 j8d:=fA ((.int .u32 0)) Tryz.underlying121
theorem zbn:am Tryz.prog 122 j8e:=fA .nilFunc Tryz.underlying122
theorem zbo:am Tryz.prog 123 j8f:=fA .nilFunc Tryz.underlying123
theorem zbp:am Tryz.prog 124 j8g:=fA .nilFunc Tryz.underlying124
theorem zbq:am Tryz.prog 125 j8h:=fA .nilFunc Tryz.underlying125
theorem zbr:am Tryz.prog 126 j8i:=fA .nilFunc Tryz.underlying126
theorem zbs:am Tryz.prog 128 j8j:=fA .nilFunc Tryz.underlying128
theorem zbt:am Tryz.prog 129 j8k:=fA .nilFunc Tryz.underlying129
theorem zbu:am Tryz.prog 130 j8l:=fA .nilFunc Tryz.underlying130
theorem zbv:am Tryz.prog 131 j8m:=fA .nilFunc Tryz.underlying131
theorem zbw:am Tryz.prog 132 j8n:=fA .nilFunc Tryz.underlying132
theorem zbx:am Tryz.prog 133 j8o:=fA ((.pointer none)) Tryz.underlying133
theorem zby:am Tryz.prog 134 j8p:=fA (.agg #[(.slice none 0 0),(.slice none 0 0)]) Tryz.underlying134
theorem zbz:am Tryz.prog 135 j8q:=fA (.agg #[(.slice none 0 0),(.slice none 0 0)]) Tryz.underlying135
theorem zb0:am Tryz.prog 136 j8r:=fA ((.slice none 0 0)) Tryz.underlying136
theorem zb1:am Tryz.prog 137 j8s:=fA .nilFunc Tryz.underlying137
theorem zb2:am Tryz.prog 138 j8t:=fA (.agg #[(.slice none 0 0),(.slice none 0 0)]) Tryz.underlying138
theorem zb3:am Tryz.prog 139 j8u:=fA (.agg #[(.slice none 0 0),(.slice none 0 0)]) Tryz.underlying139
theorem zb4:am Tryz.prog 141 j8v:=fA .nilFunc Tryz.underlying141
theorem zb5:am Tryz.prog 142 j8w:=fA .nilFunc Tryz.underlying142
theorem zb6:am Tryz.prog 143 j8x:=fA (.agg #[(.slice none 0 0),(.slice none 0 0),(.int .i64 0),(.int .i64 0)]) Tryz.underlying143
theorem zb7:am Tryz.prog 144 j8y:=fA (.agg #[(.slice none 0 0),(.slice none 0 0),(.int .i64 0),(.int .i64 0)]) Tryz.underlying144
theorem zb8:am Tryz.prog 145 j8z:=fA .nilFunc Tryz.underlying145
theorem zb9:am Tryz.prog 146 j80:=fA .nilFunc Tryz.underlying146
theorem zca:am Tryz.prog 147 j81:=fA .nilFunc Tryz.underlying147
theorem zcb:am Tryz.prog 148 j82:=fA .nilFunc Tryz.underlying148
theorem zcc:am Tryz.prog 149 j83:=fA ((.int .u64 0)) Tryz.underlying149
theorem zcd:am Tryz.prog 150 j84:=fA .nilFunc Tryz.underlying150
theorem zce:am Tryz.prog 151 j85:=fA .nilFunc Tryz.underlying151
theorem zcf:am Tryz.prog 153 j86:=fA .nilFunc Tryz.underlying153
theorem zcg:am Tryz.prog 154 j87:=fA .nilFunc Tryz.underlying154
theorem zch:am Tryz.prog 155 j88:=fA .nilFunc Tryz.underlying155
theorem zci:am Tryz.prog 156 j89:=fA .nilFunc Tryz.underlying156
theorem zcj:am Tryz.prog 157 j9a:=fA ((.pointer none)) Tryz.underlying157
theorem zck:am Tryz.prog 158 j9b:=fA .nilFunc Tryz.underlying158
theorem zcl:am Tryz.prog 159 j9c:=fA .nilFunc Tryz.underlying159
theorem zcm:am Tryz.prog 160 j9d:=fA .nilFunc Tryz.underlying160
theorem zcn:am Tryz.prog 161 j9e:=fA ((.int .i64 0)) Tryz.underlying161
theorem zco:am Tryz.prog 163 j9f:=fA .nilFunc Tryz.underlying163
theorem zcp:am Tryz.prog 164 j9g:=fA .nilFunc Tryz.underlying164
theorem zcq:am Tryz.prog 165 j9h:=fA .nilFunc Tryz.underlying165
theorem zcr:am Tryz.prog 166 j9i:=fA .nilFunc Tryz.underlying166
theorem zcs:am Tryz.prog 167 j9j:=fA .nilFunc Tryz.underlying167
theorem zct:am Tryz.prog 168 j9k:=fA .nilFunc Tryz.underlying168
theorem zcu:am Tryz.prog 169 j9l:=fA ((.int .u64 0)) Tryz.underlying169
theorem zcv:am Tryz.prog 170 j9m:=fA .nilFunc Tryz.underlying170
theorem zcw:am Tryz.prog 171 j9n:=fA .nilFunc Tryz.underlying171
theorem zcx:am Tryz.prog 172 j9o:=fA ((.int .u64 0)) Tryz.underlying172
theorem zcy:am Tryz.prog 173 j9p:=fA .nilFunc Tryz.underlying173
theorem zcz:am Tryz.prog 174 j9q:=fA .nilFunc Tryz.underlying174
theorem zc0:am Tryz.prog 175 j9r:=fA .nilFunc Tryz.underlying175
theorem zc1:am Tryz.prog 176 j9s:=fA ((.pointer none)) Tryz.underlying176
theorem zc2:am Tryz.prog 177 j9t:=fA .nilFunc Tryz.underlying177
theorem zc3:am Tryz.prog 178 j9u:=fA ((.pointer none)) Tryz.underlying178
theorem zc4:am Tryz.prog 179 j9v:=fA .nilFunc Tryz.underlying179
theorem zc5:am Tryz.prog 180 j9w:=fA .nilFunc Tryz.underlying180
theorem zc6:am Tryz.prog 181 j9x:=fA (.agg #[(.pointer none),(.pointer none),(.pointer none),(.string ⟨#[]⟩)]) Tryz.underlying181
theorem zc7:am Tryz.prog 182 j9y:=fA (.agg #[(.pointer none),(.pointer none),(.pointer none),(.string ⟨#[]⟩)]) Tryz.underlying182
theorem zc8:am Tryz.prog 183 j9z:=fA (.agg #[]) Tryz.underlying183
theorem zc9:am Tryz.prog 184 j90:=fA (.agg #[]) Tryz.underlying184
theorem zda:am Tryz.prog 185 j91:=fA (.agg #[]) Tryz.underlying185
theorem zdb:am Tryz.prog 186 j92:=fA .nilFunc Tryz.underlying186
theorem zdc:am Tryz.prog 187 j93:=fA ((.int .u8 0)) Tryz.underlying187
theorem zdd:am Tryz.prog 188 j94:=fA ((.int .u8 0)) Tryz.underlying188
theorem zde:am Tryz.prog 189 j95:=fA .nilFunc Tryz.underlying189
theorem zdf:am Tryz.prog 190 j96:=fA ((.pointer none)) Tryz.underlying190
theorem zdg:am Tryz.prog 191 j97:=fA ((.int .i32 0)) Tryz.underlying191
theorem zdh:am Tryz.prog 192 j98:=fA ((.int .i32 0)) Tryz.underlying192
theorem zdi:am Tryz.prog 193 j99:=fA (.agg #[(.int .u64 0),(.int .u64 0),(.int .u32 0),(.int .u8 0),(.int .u8 0),(.int .u8 0),(.int .u8 0), .nilFunc,(.pointer none),(.int .i32 0),(.int .i32 0)]) Tryz.underlying193
theorem zdj:am Tryz.prog 194 zaa:=fA (.agg #[(.int .u64 0),(.int .u64 0),(.int .u32 0),(.int .u8 0),(.int .u8 0),(.int .u8 0),(.int .u8 0), .nilFunc,(.pointer none),(.int .i32 0),(.int .i32 0)]) Tryz.underlying194
theorem zdk:am Tryz.prog 195 zab:=fA ((.pointer none)) Tryz.underlying195
set_option maxRecDepth 100000 in
theorem fits:gc Tryz.prog tt:=by
 intro t x h;unfold tt at h;split at h
 ·cases h;exact zj9
 ·cases h;exact zka
 ·cases h;exact zkb
 ·cases h;exact zkc
 ·cases h;exact zkd
 ·cases h;exact zke
 ·cases h;exact zkf
 ·cases h;exact zkg
 ·cases h;exact zkh
 ·cases h;exact ze2
 ·cases h;exact ze3
 ·cases h;exact ze4
 ·cases h;exact ze5
 ·cases h;exact ze6
 ·cases h;exact ze7
 ·cases h;exact ze8
 ·cases h;exact ze9
 ·cases h;exact zfa
 ·cases h;exact zfb
 ·cases h;exact zfc
 ·cases h;exact zfd
 ·cases h;exact zfe
 ·cases h;exact zff
 ·cases h;exact zfg
 ·cases h;exact zfh
 ·cases h;exact zfi
 ·cases h;exact zfj
 ·cases h;exact zfk
 ·cases h;exact zfl
 ·cases h;exact zfm
 ·cases h;exact zfn
 ·cases h;exact zfo
 ·cases h;exact zfp
 ·cases h;exact zfq
 ·cases h;exact zfr
 ·cases h;exact zfs
 ·cases h;exact zft
 ·cases h;exact zfu
 ·cases h;exact zfv
 ·cases h;exact zfw
 ·cases h;exact zfx
 ·cases h;exact zfy
 ·cases h;exact zfz
 ·cases h;exact zf0
 ·cases h;exact zf1
 ·cases h;exact zf2
 ·cases h;exact zf3
 ·cases h;exact zf4
 ·cases h;exact zf5
 ·cases h;exact zf6
 ·cases h;exact zf7
 ·cases h;exact zf8
 ·cases h;exact zf9
 ·cases h;exact zga
 ·cases h;exact zgb
 ·cases h;exact zgc
 ·cases h;exact zgd
 ·cases h;exact zge
 ·cases h;exact zgf
 ·cases h;exact zgg
 ·cases h;exact zgh
 ·cases h;exact zgi
 ·cases h;exact zgj
 ·cases h;exact zgk
 ·cases h;exact zgl
 ·cases h;exact zgm
 ·cases h;exact zgn
 ·cases h;exact zgo
 ·cases h;exact zgp
 ·cases h;exact zgq
 ·cases h;exact zgr
 ·cases h;exact zgs
 ·cases h;exact zgt
 ·cases h;exact zgu
 ·cases h;exact zgv
 ·cases h;exact zgw
 ·cases h;exact zgx
 ·cases h;exact zgy
 ·cases h;exact zgz
 ·cases h;exact zg0
 ·cases h;exact zg1
 ·cases h;exact zg2
 ·cases h;exact zg3
 ·cases h;exact zg4
 ·cases h;exact zg5
 ·cases h;exact zg6
 ·cases h;exact za4
 ·cases h;exact za5
 ·cases h;exact za6
 ·cases h;exact za7
 ·cases h;exact za8
 ·cases h;exact za9
 ·cases h;exact zba
 ·cases h;exact zbb
 ·cases h;exact zbc
 ·cases h;exact zbd
 ·cases h;exact zbe
 ·cases h;exact zbf
 ·cases h;exact zbg
 ·cases h;exact zbh
 ·cases h;exact zbi
 ·cases h;exact zbj
 ·cases h;exact zbk
 ·cases h;exact zbl
 ·cases h;exact zbm
 ·cases h;exact zbn
 ·cases h;exact zbo
 ·cases h;exact zbp
 ·cases h;exact zbq
 ·cases h;exact zbr
 ·cases h;exact zbs
 ·cases h;exact zbt
 ·cases h;exact zbu
 ·cases h;exact zbv
 ·cases h;exact zbw
 ·cases h;exact zbx
 ·cases h;exact zby
 ·cases h;exact zbz
 ·cases h;exact zb0
 ·cases h;exact zb1
 ·cases h;exact zb2
 ·cases h;exact zb3
 ·cases h;exact zb4
 ·cases h;exact zb5
 ·cases h;exact zb6
 ·cases h;exact zb7
 ·cases h;exact zb8
 ·cases h;exact zb9
 ·cases h;exact zca
 ·cases h;exact zcb
 ·cases h;exact zcc
 ·cases h;exact zcd
 ·cases h;exact zce
 ·cases h;exact zcf
 ·cases h;exact zcg
 ·cases h;exact zch
 ·cases h;exact zci
 ·cases h;exact zcj
 ·cases h;exact zck
 ·cases h;exact zcl
 ·cases h;exact zcm
 ·cases h;exact zcn
 ·cases h;exact zco
 ·cases h;exact zcp
 ·cases h;exact zcq
 ·cases h;exact zcr
 ·cases h;exact zcs
 ·cases h;exact zct
 ·cases h;exact zcu
 ·cases h;exact zcv
 ·cases h;exact zcw
 ·cases h;exact zcx
 ·cases h;exact zcy
 ·cases h;exact zcz
 ·cases h;exact zc0
 ·cases h;exact zc1
 ·cases h;exact zc2
 ·cases h;exact zc3
 ·cases h;exact zc4
 ·cases h;exact zc5
 ·cases h;exact zc6
 ·cases h;exact zc7
 ·cases h;exact zc8
 ·cases h;exact zc9
 ·cases h;exact zda
 ·cases h;exact zdb
 ·cases h;exact zdc
 ·cases h;exact zdd
 ·cases h;exact zde
 ·cases h;exact zdf
 ·cases h;exact zdg
 ·cases h;exact zdh
 ·cases h;exact zdi
 ·cases h;exact zdj
 ·cases h;exact zdk
 ·cases h
theorem ax:Tryz.prog.follows .mixedOrders=true:=rfl
end Go.Proofs.YtclbndfjhjladaaGreat
