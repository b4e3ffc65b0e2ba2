/-
  The types of this seat's program: a row a type (its kind, cells, bytes, the cells of its zero value), and that each row is the program's own. Made by program out of the translation.
-/
import Derived.Test.YtocndcbobdnagaaGreatDoorZ3KE
import Derived.Test.YtocndcbobdnagaaGreatDoorProg
import Derived.KernelRfl
set_option linter.all false
namespace Go.Proofs.YtocndcbobdnagaaGreatDoor
open Go.K Go.M
theorem j9v{P:Program}{t:TypeId}{k:TK}{sz by_:Nat}{zs:List Value}{z:Value}{d:TypeDesc}(h1:(P.info? t).map (fun i=>(i.zero,i.size,i.bytes))=some (some z,sz,by_))(h2:P.underlying t=some d)(h3:TK.of d=k.plain)(h4:z.cells.toList=zs)(h5:k.cmp=true->Cmp P t)(h6:k.one=true->zs=[z]):ao P t ⟨k,sz,by_,zs⟩:=by
 cases hi:P.info? t with
 |none=>simp[hi]at h1
 |some i=>
  simp only[hi,Wd,Wb,Wj]at h1;exact⟨⟨i,d,z,hi,h2,h3,h1.2.1,h1.2.2,h1.1,h4⟩,h5,fun e=>⟨i,z,hi,h1.1,h6 e⟩⟩
theorem fA{t:TypeId}{k:TK}{sz by_:Nat}{zs:List Value}{d:TypeDesc}(z:Value)(h2:Tryz.prog.underlying t=some d)(h1:(Tryz.prog.info? t).map (fun i=>(i.zero,i.size,i.bytes))=some (some z,sz,by_):=by kernel_rfl)(h3:TK.of d=k.plain:=by rfl)(h4:z.cells.toList=zs:=by rfl)(h5:k.cmp=true->Cmp Tryz.prog t:=by intro h;cases h)(h6:k.one=true->zs=[z]:=by first|exact fun _=>rfl|(intro h;cases h)):ao Tryz.prog t ⟨k,sz,by_,zs⟩:=j9v h1 h2 h3 h4 h5 h6
abbrev oF:TI:=⟨.other,1,8,[.nilFunc]⟩
def ti1:TI:=oF
def ti2:TI:=⟨.int .i64,1,8,[(.int .i64 0)]⟩
def ti3:TI:=⟨.int .i64,1,8,[(.int .i64 0)]⟩
def ti4:TI:=⟨.bool,1,1,[(.bool false)]⟩
def ti5:TI:=⟨.int .u8,1,1,[(.int .u8 0)]⟩
def ti6:TI:=⟨.int .u8,1,1,[(.int .u8 0)]⟩
def ti7:TI:=⟨.strct true [(0,2),(1,3),(2,4),(3,6)],4,24,[(.int .i64 0),(.int .i64 0),(.bool false),(.int .u8 0)]⟩
def ti8:TI:=⟨.strct true [(0,2),(1,3),(2,4),(3,6)],4,24,[(.int .i64 0),(.int .i64 0),(.bool false),(.int .u8 0)]⟩
def ti9:TI:=⟨.str,1,16,[(.string ⟨#[]⟩)]⟩
def zc7:TI:=⟨.other,1,16,[.nilIface]⟩
def zc8:TI:=⟨.slice 46,1,24,[(.slice none 0 0)]⟩
def zc9:TI:=⟨.strct false [(0,3),(1,22),(2,3),(3,3)],4,48,[(.int .i64 0),(.slice none 0 0),(.int .i64 0),(.int .i64 0)]⟩
def zda:TI:=⟨.strct false [(0,3),(1,22),(2,3),(3,3)],4,48,[(.int .i64 0),(.slice none 0 0),(.int .i64 0),(.int .i64 0)]⟩
def zdb:TI:=oF
def zdc:TI:=⟨.slice 3,1,24,[(.slice none 0 0)]⟩
def zdd:TI:=⟨.int .i64,1,8,[(.int .i64 0)]⟩
def zde:TI:=⟨.strct true [(0,3),(1,3),(2,4)],3,24,[(.int .i64 0),(.int .i64 0),(.bool false)]⟩
def zdf:TI:=⟨.strct true [(0,3),(1,3),(2,4)],3,24,[(.int .i64 0),(.int .i64 0),(.bool false)]⟩
def zdg:TI:=⟨.strct true [(0,3),(1,3),(2,3)],3,24,[(.int .i64 0),(.int .i64 0),(.int .i64 0)]⟩
def zdh:TI:=⟨.strct true [(0,3),(1,3),(2,3)],3,24,[(.int .i64 0),(.int .i64 0),(.int .i64 0)]⟩
def zdi:TI:=⟨.slice 32,1,24,[(.slice none 0 0)]⟩
def zdj:TI:=⟨.slice 9,1,24,[(.slice none 0 0)]⟩
def zdk:TI:=⟨.slice 48,1,24,[(.slice none 0 0)]⟩
def zdl:TI:=⟨.strct false [(0,9),(1,27),(2,27)],3,64,[(.string ⟨#[]⟩),(.slice none 0 0),(.slice none 0 0)]⟩
def zdm:TI:=⟨.strct false [(0,9),(1,27),(2,27)],3,64,[(.string ⟨#[]⟩),(.slice none 0 0),(.slice none 0 0)]⟩
def zdn:TI:=⟨.strct true [(0,3),(1,3),(2,9)],3,32,[(.int .i64 0),(.int .i64 0),(.string ⟨#[]⟩)]⟩
def zdo:TI:=⟨.strct true [(0,3),(1,3),(2,9)],3,32,[(.int .i64 0),(.int .i64 0),(.string ⟨#[]⟩)]⟩
def zdp:TI:=⟨.strct false [(0,44),(1,3)],2,32,[(.slice none 0 0),(.int .i64 0)]⟩
def zdq:TI:=⟨.strct false [(0,44),(1,3)],2,32,[(.slice none 0 0),(.int .i64 0)]⟩
def zdr:TI:=⟨.slice 27,1,24,[(.slice none 0 0)]⟩
def zds:TI:=⟨.slice 174,1,24,[(.slice none 0 0)]⟩
def zdt:TI:=⟨.strct false [(0,3),(1,3),(2,27),(3,27),(4,54),(5,55),(6,54),(7,54)],8,160,[(.int .i64 0),(.int .i64 0),(.slice none 0 0),(.slice none 0 0),(.slice none 0 0),(.slice none 0 0),(.slice none 0 0),(.slice none 0 0)]⟩
def zdu:TI:=⟨.strct false [(0,3),(1,3),(2,27),(3,27),(4,54),(5,55),(6,54),(7,54)],8,160,[(.int .i64 0),(.int .i64 0),(.slice none 0 0),(.slice none 0 0),(.slice none 0 0),(.slice none 0 0),(.slice none 0 0),(.slice none 0 0)]⟩
def zdv:TI:=⟨.slice 63,1,24,[(.slice none 0 0)]⟩
def zdw:TI:=⟨.strct false [(0,3),(1,9),(2,61)],3,48,[(.int .i64 0),(.string ⟨#[]⟩),(.slice none 0 0)]⟩
def zdx:TI:=⟨.strct false [(0,3),(1,9),(2,61)],3,48,[(.int .i64 0),(.string ⟨#[]⟩),(.slice none 0 0)]⟩
def zdy:TI:=oF
def zdz:TI:=⟨.ptr 84,1,8,[(.pointer none)]⟩
def zd0:TI:=⟨.slice 4,1,24,[(.slice none 0 0)]⟩
def zd1:TI:=⟨.map 9 3,1,8,[(.map none)]⟩
def zd2:TI:=⟨.strct false [(0,24),(4,41),(5,36),(8,54),(9,27),(10,27),(11,44),(12,81),(13,82)],14,224,[(.int .i64 0),(.slice none 0 0),(.int .i64 0),(.int .i64 0),(.slice none 0 0),(.int .i64 0),(.int .i64 0),(.int .i64 0),(.slice none 0 0),(.slice none 0 0),(.slice none 0 0),(.slice none 0 0),(.slice none 0 0),(.map none)]⟩
def zd3:TI:=⟨.strct false [(0,24),(4,41),(5,36),(8,54),(9,27),(10,27),(11,44),(12,81),(13,82)],14,224,[(.int .i64 0),(.slice none 0 0),(.int .i64 0),(.int .i64 0),(.slice none 0 0),(.int .i64 0),(.int .i64 0),(.int .i64 0),(.slice none 0 0),(.slice none 0 0),(.slice none 0 0),(.slice none 0 0),(.slice none 0 0),(.map none)]⟩
def zd4:TI:=⟨.map 3 163,1,8,[(.map none)]⟩
def zd5:TI:=⟨.strct false [(0,85),(1,3),(2,3)],3,24,[(.map none),(.int .i64 0),(.int .i64 0)]⟩
def zd6:TI:=⟨.strct false [(0,85),(1,3),(2,3)],3,24,[(.map none),(.int .i64 0),(.int .i64 0)]⟩
def zd7:TI:=oF
def zd8:TI:=oF
def zd9:TI:=⟨.strct false [(0,54),(1,55),(2,4)],3,56,[(.slice none 0 0),(.slice none 0 0),(.bool false)]⟩
def zea:TI:=⟨.strct false [(0,54),(1,55),(2,4)],3,56,[(.slice none 0 0),(.slice none 0 0),(.bool false)]⟩
def j4t:TI:=⟨.ptr 107,1,8,[(.pointer none)]⟩
def j4u:TI:=⟨.slice 55,1,24,[(.slice none 0 0)]⟩
def j4v:TI:=⟨.strct false [(0,24),(4,98),(7,105),(8,3)],9,136,[(.int .i64 0),(.slice none 0 0),(.int .i64 0),(.int .i64 0),(.slice none 0 0),(.slice none 0 0),(.bool false),(.slice none 0 0),(.int .i64 0)]⟩
def j4w:TI:=⟨.strct false [(0,24),(4,98),(7,105),(8,3)],9,136,[(.int .i64 0),(.slice none 0 0),(.int .i64 0),(.int .i64 0),(.slice none 0 0),(.slice none 0 0),(.bool false),(.slice none 0 0),(.int .i64 0)]⟩
def j4x:TI:=⟨.ptr 188,1,8,[(.pointer none)]⟩
def j4y:TI:=oF
def j4z:TI:=⟨.ptr 130,1,8,[(.pointer none)]⟩
def j40:TI:=⟨.slice 132,1,24,[(.slice none 0 0)]⟩
def j41:TI:=⟨.strct false [(0,24),(4,128),(5,4)],6,80,[(.int .i64 0),(.slice none 0 0),(.int .i64 0),(.int .i64 0),(.slice none 0 0),(.bool false)]⟩
def j42:TI:=⟨.strct false [(0,24),(4,128),(5,4)],6,80,[(.int .i64 0),(.slice none 0 0),(.int .i64 0),(.int .i64 0),(.slice none 0 0),(.bool false)]⟩
def j43:TI:=⟨.strct false [(0,27),(1,27),(2,63)],5,96,[(.slice none 0 0),(.slice none 0 0),(.int .i64 0),(.string ⟨#[]⟩),(.slice none 0 0)]⟩
def j44:TI:=⟨.strct false [(0,27),(1,27),(2,63)],5,96,[(.slice none 0 0),(.slice none 0 0),(.int .i64 0),(.string ⟨#[]⟩),(.slice none 0 0)]⟩
def j45:TI:=⟨.arr false 4 25,4,32,[.nilFunc, .nilFunc, .nilFunc, .nilFunc]⟩
def j46:TI:=⟨.ptr 138,1,8,[(.pointer none)]⟩
def j47:TI:=⟨.slice 5,1,24,[(.slice none 0 0)]⟩
def j48:TI:=⟨.strct false [(0,135),(1,136)],2,32,[(.pointer none),(.slice none 0 0)]⟩
def j49:TI:=⟨.strct false [(0,135),(1,136)],2,32,[(.pointer none),(.slice none 0 0)]⟩
def j5a:TI:=⟨.ptr 156,1,8,[(.pointer none)]⟩
def j5b:TI:=⟨.strct true [(0,3),(1,3)],2,16,[(.int .i64 0),(.int .i64 0)]⟩
def j5c:TI:=⟨.strct true [(0,3),(1,3)],2,16,[(.int .i64 0),(.int .i64 0)]⟩
def j5d:TI:=⟨.slice 154,1,24,[(.slice none 0 0)]⟩
def j5e:TI:=⟨.slice 154,1,24,[(.slice none 0 0)]⟩
def j5f:TI:=⟨.slice 169,1,24,[(.slice none 0 0)]⟩
def j5g:TI:=⟨.slice 167,1,24,[(.slice none 0 0)]⟩
def j5h:TI:=⟨.strct true [(0,4),(1,3),(2,3)],3,24,[(.bool false),(.int .i64 0),(.int .i64 0)]⟩
def j5i:TI:=⟨.strct true [(0,4),(1,3),(2,3)],3,24,[(.bool false),(.int .i64 0),(.int .i64 0)]⟩
def j5j:TI:=⟨.strct true [(0,3),(1,3)],2,16,[(.int .i64 0),(.int .i64 0)]⟩
def j5k:TI:=⟨.strct true [(0,3),(1,3)],2,16,[(.int .i64 0),(.int .i64 0)]⟩
def j5l:TI:=⟨.strct true [(0,3),(1,3),(2,3)],3,24,[(.int .i64 0),(.int .i64 0),(.int .i64 0)]⟩
def j5m:TI:=⟨.strct true [(0,3),(1,3),(2,3)],3,24,[(.int .i64 0),(.int .i64 0),(.int .i64 0)]⟩
def j5n:TI:=oF
def j5o:TI:=⟨.strct false [(0,24),(4,98),(7,27),(8,105)],9,152,[(.int .i64 0),(.slice none 0 0),(.int .i64 0),(.int .i64 0),(.slice none 0 0),(.slice none 0 0),(.bool false),(.slice none 0 0),(.slice none 0 0)]⟩
def j5p:TI:=⟨.strct false [(0,24),(4,98),(7,27),(8,105)],9,152,[(.int .i64 0),(.slice none 0 0),(.int .i64 0),(.int .i64 0),(.slice none 0 0),(.slice none 0 0),(.bool false),(.slice none 0 0),(.slice none 0 0)]⟩
def j5q:TI:=⟨.ptr 196,1,8,[(.pointer none)]⟩
def j5r:TI:=⟨.slice 198,1,24,[(.slice none 0 0)]⟩
def j5s:TI:=⟨.strct false [(0,194),(1,54)],2,48,[(.slice none 0 0),(.slice none 0 0)]⟩
def j5t:TI:=⟨.strct false [(0,194),(1,54)],2,48,[(.slice none 0 0),(.slice none 0 0)]⟩
def j5u:TI:=⟨.strct false [(0,27),(1,27),(2,3),(3,3),(4,3),(5,3),(6,4),(7,4)],8,88,[(.slice none 0 0),(.slice none 0 0),(.int .i64 0),(.int .i64 0),(.int .i64 0),(.int .i64 0),(.bool false),(.bool false)]⟩
def j5v:TI:=⟨.strct false [(0,27),(1,27),(2,3),(3,3),(4,3),(5,3),(6,4),(7,4)],8,88,[(.slice none 0 0),(.slice none 0 0),(.int .i64 0),(.int .i64 0),(.int .i64 0),(.int .i64 0),(.bool false),(.bool false)]⟩
def j5w:TI:=oF
def j5x:TI:=oF
def j5y:TI:=⟨.slice 280,1,24,[(.slice none 0 0)]⟩
def j5z:TI:=⟨.slice 25,1,24,[(.slice none 0 0)]⟩
def j50:TI:=oF
def j51:TI:=⟨.slice 216,1,24,[(.slice none 0 0)]⟩
def j52:TI:=⟨.int .u32,1,4,[(.int .u32 0)]⟩
def j53:TI:=oF
def j54:TI:=⟨.ptr 5,1,8,[(.pointer none)]⟩
def j55:TI:=⟨.int .u64,1,8,[(.int .u64 0)]⟩
def j56:TI:=⟨.other,1,16,[.nilIface]⟩
def j57:TI:=⟨.other,1,16,[.nilIface]⟩
def j58:TI:=oF
def j59:TI:=oF
def j6a:TI:=⟨.ptr 272,1,8,[(.pointer none)]⟩
def j6b:TI:=⟨.strct false [(0,3),(1,27)],2,32,[(.int .i64 0),(.slice none 0 0)]⟩
def j6c:TI:=⟨.strct false [(0,3),(1,27)],2,32,[(.int .i64 0),(.slice none 0 0)]⟩
def j6d:TI:=⟨.strct false [(0,54),(1,27),(2,3),(3,3)],4,64,[(.slice none 0 0),(.slice none 0 0),(.int .i64 0),(.int .i64 0)]⟩
def j6e:TI:=⟨.strct false [(0,54),(1,27),(2,3),(3,3)],4,64,[(.slice none 0 0),(.slice none 0 0),(.int .i64 0),(.int .i64 0)]⟩
def j6f:TI:=⟨.map 3 3,1,8,[(.map none)]⟩
def j6g:TI:=⟨.arr false 2 27,2,48,[(.slice none 0 0),(.slice none 0 0)]⟩
def j6h:TI:=⟨.map 9 4,1,8,[(.map none)]⟩
def j6i:TI:=⟨.map 3 4,1,8,[(.map none)]⟩
def j6j:TI:=⟨.int .u64,1,8,[(.int .u64 0)]⟩
def j6k:TI:=⟨.slice 44,1,24,[(.slice none 0 0)]⟩
def j6l:TI:=⟨.ptr 305,1,8,[(.pointer none)]⟩
def j6m:TI:=⟨.strct false [(0,54),(1,54)],2,48,[(.slice none 0 0),(.slice none 0 0)]⟩
def j6n:TI:=⟨.strct false [(0,54),(1,54)],2,48,[(.slice none 0 0),(.slice none 0 0)]⟩
def j6o:TI:=⟨.int .i64,1,8,[(.int .i64 0)]⟩
def j6p:TI:=⟨.other,1,8,[(.pointer none)]⟩
def j6q:TI:=⟨.int .u64,1,8,[(.int .u64 0)]⟩
def j6r:TI:=⟨.ptr 3,1,8,[(.pointer none)]⟩
def j6s:TI:=oF
def j6t:TI:=oF
def j6u:TI:=⟨.arr true 24 5,24,24,[(.int .u8 0),(.int .u8 0),(.int .u8 0),(.int .u8 0),(.int .u8 0),(.int .u8 0),(.int .u8 0),(.int .u8 0),(.int .u8 0),(.int .u8 0),(.int .u8 0),(.int .u8 0),(.int .u8 0),(.int .u8 0),(.int .u8 0),(.int .u8 0),(.int .u8 0),(.int .u8 0),(.int .u8 0),(.int .u8 0),(.int .u8 0),(.int .u8 0),(.int .u8 0),(.int .u8 0)]⟩
def j6v:TI:=⟨.arr true 20 293,20,160,[(.int .u64 0),(.int .u64 0),(.int .u64 0),(.int .u64 0),(.int .u64 0),(.int .u64 0),(.int .u64 0),(.int .u64 0),(.int .u64 0),(.int .u64 0),(.int .u64 0),(.int .u64 0),(.int .u64 0),(.int .u64 0),(.int .u64 0),(.int .u64 0),(.int .u64 0),(.int .u64 0),(.int .u64 0),(.int .u64 0)]⟩
def j6w:TI:=⟨.arr true 32 5,32,32,[(.int .u8 0),(.int .u8 0),(.int .u8 0),(.int .u8 0),(.int .u8 0),(.int .u8 0),(.int .u8 0),(.int .u8 0),(.int .u8 0),(.int .u8 0),(.int .u8 0),(.int .u8 0),(.int .u8 0),(.int .u8 0),(.int .u8 0),(.int .u8 0),(.int .u8 0),(.int .u8 0),(.int .u8 0),(.int .u8 0),(.int .u8 0),(.int .u8 0),(.int .u8 0),(.int .u8 0),(.int .u8 0),(.int .u8 0),(.int .u8 0),(.int .u8 0),(.int .u8 0),(.int .u8 0),(.int .u8 0),(.int .u8 0)]⟩
def tt:TT
 |1=>some ti1
 |2=>some ti2
 |3=>some ti3
 |4=>some ti4
 |5=>some ti5
 |6=>some ti6
 |7=>some ti7
 |8=>some ti8
 |9=>some ti9
 |20=>some zc7
 |22=>some zc8
 |23=>some zc9
 |24=>some zda
 |25=>some zdb
 |27=>some zdc
 |28=>some zdd
 |31=>some zde
 |32=>some zdf
 |35=>some zdg
 |36=>some zdh
 |39=>some zdi
 |41=>some zdj
 |44=>some zdk
 |45=>some zdl
 |46=>some zdm
 |47=>some zdn
 |48=>some zdo
 |52=>some zdp
 |53=>some zdq
 |54=>some zdr
 |55=>some zds
 |56=>some zdt
 |57=>some zdu
 |61=>some zdv
 |62=>some zdw
 |63=>some zdx
 |70=>some zdy
 |78=>some zdz
 |81=>some zd0
 |82=>some zd1
 |83=>some zd2
 |84=>some zd3
 |85=>some zd4
 |86=>some zd5
 |87=>some zd6
 |93=>some zd7
 |95=>some zd8
 |97=>some zd9
 |98=>some zea
 |101=>some j4t
 |105=>some j4u
 |106=>some j4v
 |107=>some j4w
 |111=>some j4x
 |126=>some j4y
 |127=>some j4z
 |128=>some j40
 |129=>some j41
 |130=>some j42
 |131=>some j43
 |132=>some j44
 |133=>some j45
 |135=>some j46
 |136=>some j47
 |137=>some j48
 |138=>some j49
 |152=>some j5a
 |153=>some j5b
 |154=>some j5c
 |155=>some j5d
 |156=>some j5e
 |163=>some j5f
 |164=>some j5g
 |166=>some j5h
 |167=>some j5i
 |168=>some j5j
 |169=>some j5k
 |173=>some j5l
 |174=>some j5m
 |182=>some j5n
 |187=>some j5o
 |188=>some j5p
 |191=>some j5q
 |194=>some j5r
 |195=>some j5s
 |196=>some j5t
 |197=>some j5u
 |198=>some j5v
 |204=>some j5w
 |206=>some j5x
 |209=>some j5y
 |211=>some j5z
 |213=>some j50
 |214=>some j51
 |216=>some j52
 |218=>some j53
 |233=>some j54
 |246=>some j55
 |250=>some j56
 |251=>some j57
 |260=>some j58
 |263=>some j59
 |268=>some j6a
 |271=>some j6b
 |272=>some j6c
 |276=>some j6d
 |277=>some j6e
 |279=>some j6f
 |280=>some j6g
 |289=>some j6h
 |290=>some j6i
 |293=>some j6j
 |297=>some j6k
 |303=>some j6l
 |304=>some j6m
 |305=>some j6n
 |307=>some j6o
 |316=>some j6p
 |321=>some j6q
 |325=>some j6r
 |334=>some j6s
 |336=>some j6t
 |338=>some j6u
 |347=>some j6v
 |351=>some j6w
 |_=>none
theorem zev:ao Tryz.prog 1 ti1:=fA .nilFunc Tryz.underlying1
theorem zew:ao Tryz.prog 2 ti2:=fA ((.int .i64 0)) Tryz.underlying2
theorem zex:ao Tryz.prog 3 ti3:=fA ((.int .i64 0)) Tryz.underlying3
theorem zey:ao Tryz.prog 4 ti4:=fA ((.bool false)) Tryz.underlying4
theorem zez:ao Tryz.prog 5 ti5:=fA ((.int .u8 0)) Tryz.underlying5
theorem ze0:ao Tryz.prog 6 ti6:=fA ((.int .u8 0)) Tryz.underlying6
theorem ze1:ao Tryz.prog 7 ti7:=fA (.agg #[(.int .i64 0),(.int .i64 0),(.bool false),(.int .u8 0)]) Tryz.underlying7 (h5:=fun _=>⟨by kernel_rfl,by kernel_rfl,by kernel_rfl⟩)
theorem ze2:ao Tryz.prog 8 ti8:=fA (.agg #[(.int .i64 0),(.int .i64 0),(.bool false),(.int .u8 0)]) Tryz.underlying8 (h5:=fun _=>⟨by kernel_rfl,by kernel_rfl,by kernel_rfl⟩)
theorem ze3:ao Tryz.prog 9 ti9:=fA ((.string ⟨#[]⟩)) Tryz.underlying9
theorem zbq:ao Tryz.prog 20 zc7:=fA (.nilIface) Tryz.underlying20
theorem zbr:ao Tryz.prog 22 zc8:=fA ((.slice none 0 0)) Tryz.underlying22
theorem zbs:ao Tryz.prog 23 zc9:=fA (.agg #[(.int .i64 0),(.slice none 0 0),(.int .i64 0),(.int .i64 0)]) Tryz.underlying23
theorem zbt:ao Tryz.prog 24 zda:=fA (.agg #[(.int .i64 0),(.slice none 0 0),(.int .i64 0),(.int .i64 0)]) Tryz.underlying24
theorem zbu:ao Tryz.prog 25 zdb:=fA .nilFunc Tryz.underlying25
theorem zbv:ao Tryz.prog 27 zdc:=fA ((.slice none 0 0)) Tryz.underlying27
theorem zbw:ao Tryz.prog 28 zdd:=fA ((.int .i64 0)) Tryz.underlying28
theorem zbx:ao Tryz.prog 31 zde:=fA (.agg #[(.int .i64 0),(.int .i64 0),(.bool false)]) Tryz.underlying31 (h5:=fun _=>⟨by kernel_rfl,by kernel_rfl,by kernel_rfl⟩)
theorem zby:ao Tryz.prog 32 zdf:=fA (.agg #[(.int .i64 0),(.int .i64 0),(.bool false)]) Tryz.underlying32 (h5:=fun _=>⟨by kernel_rfl,by kernel_rfl,by kernel_rfl⟩)
theorem zbz:ao Tryz.prog 35 zdg:=fA (.agg #[(.int .i64 0),(.int .i64 0),(.int .i64 0)]) Tryz.underlying35 (h5:=fun _=>⟨by kernel_rfl,by kernel_rfl,by kernel_rfl⟩)
theorem zb0:ao Tryz.prog 36 zdh:=fA (.agg #[(.int .i64 0),(.int .i64 0),(.int .i64 0)]) Tryz.underlying36 (h5:=fun _=>⟨by kernel_rfl,by kernel_rfl,by kernel_rfl⟩)
theorem zb1:ao Tryz.prog 39 zdi:=fA ((.slice none 0 0)) Tryz.underlying39
theorem zb2:ao Tryz.prog 41 zdj:=fA ((.slice none 0 0)) Tryz.underlying41
theorem zb3:ao Tryz.prog 44 zdk:=fA ((.slice none 0 0)) Tryz.underlying44
theorem zb4:ao Tryz.prog 45 zdl:=fA (.agg #[(.string ⟨#[]⟩),(.slice none 0 0),(.slice none 0 0)]) Tryz.underlying45
theorem zb5:ao Tryz.prog 46 zdm:=fA (.agg #[(.string ⟨#[]⟩),(.slice none 0 0),(.slice none 0 0)]) Tryz.underlying46
theorem zb6:ao Tryz.prog 47 zdn:=fA (.agg #[(.int .i64 0),(.int .i64 0),(.string ⟨#[]⟩)]) Tryz.underlying47 (h5:=fun _=>⟨by kernel_rfl,by kernel_rfl,by kernel_rfl⟩)
theorem zb7:ao Tryz.prog 48 zdo:=fA (.agg #[(.int .i64 0),(.int .i64 0),(.string ⟨#[]⟩)]) Tryz.underlying48 (h5:=fun _=>⟨by kernel_rfl,by kernel_rfl,by kernel_rfl⟩)
theorem zb8:ao Tryz.prog 52 zdp:=fA (.agg #[(.slice none 0 0),(.int .i64 0)]) Tryz.underlying52
theorem zb9:ao Tryz.prog 53 zdq:=fA (.agg #[(.slice none 0 0),(.int .i64 0)]) Tryz.underlying53
theorem zca:ao Tryz.prog 54 zdr:=fA ((.slice none 0 0)) Tryz.underlying54
theorem zcb:ao Tryz.prog 55 zds:=fA ((.slice none 0 0)) Tryz.underlying55
theorem zcc:ao Tryz.prog 56 zdt:=fA (.agg #[(.int .i64 0),(.int .i64 0),(.slice none 0 0),(.slice none 0 0),(.slice none 0 0),(.slice none 0 0),(.slice none 0 0),(.slice none 0 0)]) Tryz.underlying56
theorem zcd:ao Tryz.prog 57 zdu:=fA (.agg #[(.int .i64 0),(.int .i64 0),(.slice none 0 0),(.slice none 0 0),(.slice none 0 0),(.slice none 0 0),(.slice none 0 0),(.slice none 0 0)]) Tryz.underlying57
theorem zce:ao Tryz.prog 61 zdv:=fA ((.slice none 0 0)) Tryz.underlying61
theorem zcf:ao Tryz.prog 62 zdw:=fA (.agg #[(.int .i64 0),(.string ⟨#[]⟩),(.slice none 0 0)]) Tryz.underlying62
theorem zcg:ao Tryz.prog 63 zdx:=fA (.agg #[(.int .i64 0),(.string ⟨#[]⟩),(.slice none 0 0)]) Tryz.underlying63
theorem zch:ao Tryz.prog 70 zdy:=fA .nilFunc Tryz.underlying70
theorem zci:ao Tryz.prog 78 zdz:=fA ((.pointer none)) Tryz.underlying78
theorem zcj:ao Tryz.prog 81 zd0:=fA ((.slice none 0 0)) Tryz.underlying81
theorem zck:ao Tryz.prog 82 zd1:=fA ((.map none)) Tryz.underlying82
theorem zcl:ao Tryz.prog 83 zd2:=fA (.agg #[(.int .i64 0),(.slice none 0 0),(.int .i64 0),(.int .i64 0),(.slice none 0 0),(.int .i64 0),(.int .i64 0),(.int .i64 0),(.slice none 0 0),(.slice none 0 0),(.slice none 0 0),(.slice none 0 0),(.slice none 0 0),(.map none)]) Tryz.underlying83
theorem zcm:ao Tryz.prog 84 zd3:=fA (.agg #[(.int .i64 0),(.slice none 0 0),(.int .i64 0),(.int .i64 0),(.slice none 0 0),(.int .i64 0),(.int .i64 0),(.int .i64 0),(.slice none 0 0),(.slice none 0 0),(.slice none 0 0),(.slice none 0 0),(.slice none 0 0),(.map none)]) Tryz.underlying84
theorem zcn:ao Tryz.prog 85 zd4:=fA ((.map none)) Tryz.underlying85
theorem zco:ao Tryz.prog 86 zd5:=fA (.agg #[(.map none),(.int .i64 0),(.int .i64 0)]) Tryz.underlying86
theorem zcp:ao Tryz.prog 87 zd6:=fA (.agg #[(.map none),(.int .i64 0),(.int .i64 0)]) Tryz.underlying87
theorem zcq:ao Tryz.prog 93 zd7:=fA .nilFunc Tryz.underlying93
theorem zcr:ao Tryz.prog 95 zd8:=fA .nilFunc Tryz.underlying95
theorem zcs:ao Tryz.prog 97 zd9:=fA (.agg #[(.slice none 0 0),(.slice none 0 0),(.bool false)]) Tryz.underlying97
theorem zct:ao Tryz.prog 98 zea:=fA (.agg #[(.slice none 0 0),(.slice none 0 0),(.bool false)]) Tryz.underlying98
theorem j7r:ao Tryz.prog 101 j4t:=fA ((.pointer none)) Tryz.underlying101
theorem j7s:ao Tryz.prog 105 j4u:=fA ((.slice none 0 0)) Tryz.underlying105
theorem j7t:ao Tryz.prog 106 j4v:=fA (.agg #[(.int .i64 0),(.slice none 0 0),(.int .i64 0),(.int .i64 0),(.slice none 0 0),(.slice none 0 0),(.bool false),(.slice none 0 0),(.int .i64 0)]) Tryz.underlying106
theorem j7u:ao Tryz.prog 107 j4w:=fA (.agg #[(.int .i64 0),(.slice none 0 0),(.int .i64 0),(.int .i64 0),(.slice none 0 0),(.slice none 0 0),(.bool false),(.slice none 0 0),(.int .i64 0)]) Tryz.underlying107
theorem j7v:ao Tryz.prog 111 j4x:=fA ((.pointer none)) Tryz.underlying111
theorem j7w:ao Tryz.prog 126 j4y:=fA .nilFunc Tryz.underlying126
theorem j7x:ao Tryz.prog 127 j4z:=fA ((.pointer none)) Tryz.underlying127
theorem j7y:ao Tryz.prog 128 j40:=fA ((.slice none 0 0)) Tryz.underlying128
theorem j7z:ao Tryz.prog 129 j41:=fA (.agg #[(.int .i64 0),(.slice none 0 0),(.int .i64 0),(.int .i64 0),(.slice none 0 0),(.bool false)]) Tryz.underlying129
theorem j70:ao Tryz.prog 130 j42:=fA (.agg #[(.int .i64 0),(.slice none 0 0),(.int .i64 0),(.int .i64 0),(.slice none 0 0),(.bool false)]) Tryz.underlying130
theorem j71:ao Tryz.prog 131 j43:=fA (.agg #[(.slice none 0 0),(.slice none 0 0),(.int .i64 0),(.string ⟨#[]⟩),(.slice none 0 0)]) Tryz.underlying131
theorem j72:ao Tryz.prog 132 j44:=fA (.agg #[(.slice none 0 0),(.slice none 0 0),(.int .i64 0),(.string ⟨#[]⟩),(.slice none 0 0)]) Tryz.underlying132
theorem j73:ao Tryz.prog 133 j45:=fA (.agg #[.nilFunc, .nilFunc, .nilFunc, .nilFunc]) Tryz.underlying133
theorem j74:ao Tryz.prog 135 j46:=fA ((.pointer none)) Tryz.underlying135
theorem j75:ao Tryz.prog 136 j47:=fA ((.slice none 0 0)) Tryz.underlying136
theorem j76:ao Tryz.prog 137 j48:=fA (.agg #[(.pointer none),(.slice none 0 0)]) Tryz.underlying137
theorem j77:ao Tryz.prog 138 j49:=fA (.agg #[(.pointer none),(.slice none 0 0)]) Tryz.underlying138
theorem j78:ao Tryz.prog 152 j5a:=fA ((.pointer none)) Tryz.underlying152
theorem j79:ao Tryz.prog 153 j5b:=fA (.agg #[(.int .i64 0),(.int .i64 0)]) Tryz.underlying153 (h5:=fun _=>⟨by kernel_rfl,by kernel_rfl,by kernel_rfl⟩)
theorem j8a:ao Tryz.prog 154 j5c:=fA (.agg #[(.int .i64 0),(.int .i64 0)]) Tryz.underlying154 (h5:=fun _=>⟨by kernel_rfl,by kernel_rfl,by kernel_rfl⟩)
theorem j8b:ao Tryz.prog 155 j5d:=fA ((.slice none 0 0)) Tryz.underlying155
theorem j8c:ao Tryz.prog 156 j5e:=fA ((.slice none 0 0)) Tryz.underlying156
theorem j8d:ao Tryz.prog 163 j5f:=fA ((.slice none 0 0)) Tryz.underlying163
theorem j8e:ao Tryz.prog 164 j5g:=fA ((.slice none 0 0)) Tryz.underlying164
theorem j8f:ao Tryz.prog 166 j5h:=fA (.agg #[(.bool false),(.int .i64 0),(.int .i64 0)]) Tryz.underlying166 (h5:=fun _=>⟨by kernel_rfl,by kernel_rfl,by kernel_rfl⟩)
theorem j8g:ao Tryz.prog 167 j5i:=fA (.agg #[(.bool false),(.int .i64 0),(.int .i64 0)]) Tryz.underlying167 (h5:=fun _=>⟨by kernel_rfl,by kernel_rfl,by kernel_rfl⟩)
theorem j8h:ao Tryz.prog 168 j5j:=fA (.agg #[(.int .i64 0),(.int .i64 0)]) Tryz.underlying168 (h5:=fun _=>⟨by kernel_rfl,by kernel_rfl,by kernel_rfl⟩)
theorem j8i:ao Tryz.prog 169 j5k:=fA (.agg #[(.int .i64 0),(.int .i64 0)]) Tryz.underlying169 (h5:=fun _=>⟨by kernel_rfl,by kernel_rfl,by kernel_rfl⟩)
theorem j8j:ao Tryz.prog 173 j5l:=fA (.agg #[(.int .i64 0),(.int .i64 0),(.int .i64 0)]) Tryz.underlying173 (h5:=fun _=>⟨by kernel_rfl,by kernel_rfl,by kernel_rfl⟩)
theorem j8k:ao Tryz.prog 174 j5m:=fA (.agg #[(.int .i64 0),(.int .i64 0),(.int .i64 0)]) Tryz.underlying174 (h5:=fun _=>⟨by kernel_rfl,by kernel_rfl,by kernel_rfl⟩)
theorem j8l:ao Tryz.prog 182 j5n:=fA .nilFunc Tryz.underlying182
theorem j8m:ao Tryz.prog 187 j5o:=fA (.agg #[(.int .i64 0),(.slice none 0 0),(.int .i64 0),(.int .i64 0),(.slice none 0 0),(.slice none 0 0),(.bool false),(.slice none 0 0),(.slice none 0 0)]) Tryz.underlying187
theorem j8n:ao Tryz.prog 188 j5p:=fA (.agg #[(.int .i64 0),(.slice none 0 0),(.int .i64 0),(.int .i64 0),(.slice none 0 0),(.slice none 0 0),(.bool false),(.slice none 0 0),(.slice none 0 0)]) Tryz.underlying188
theorem j8o:ao Tryz.prog 191 j5q:=fA ((.pointer none)) Tryz.underlying191
theorem j8p:ao Tryz.prog 194 j5r:=fA ((.slice none 0 0)) Tryz.underlying194
theorem j8q:ao Tryz.prog 195 j5s:=fA (.agg #[(.slice none 0 0),(.slice none 0 0)]) Tryz.underlying195
theorem j8r:ao Tryz.prog 196 j5t:=fA (.agg #[(.slice none 0 0),(.slice none 0 0)]) Tryz.underlying196
theorem j8s:ao Tryz.prog 197 j5u:=fA (.agg #[(.slice none 0 0),(.slice none 0 0),(.int .i64 0),(.int .i64 0),(.int .i64 0),(.int .i64 0),(.bool false),(.bool false)]) Tryz.underlying197
theorem j8t:ao Tryz.prog 198 j5v:=fA (.agg #[(.slice none 0 0),(.slice none 0 0),(.int .i64 0),(.int .i64 0),(.int .i64 0),(.int .i64 0),(.bool false),(.bool false)]) Tryz.underlying198
theorem j8u:ao Tryz.prog 204 j5w:=fA .nilFunc Tryz.underlying204
theorem j8v:ao Tryz.prog 206 j5x:=fA .nilFunc Tryz.underlying206
theorem j8w:ao Tryz.prog 209 j5y:=fA ((.slice none 0 0)) Tryz.underlying209
theorem j8x:ao Tryz.prog 211 j5z:=fA ((.slice none 0 0)) Tryz.underlying211
theorem j8y:ao Tryz.prog 213 j50:=fA .nilFunc Tryz.underlying213
theorem j8z:ao Tryz.prog 214 j51:=fA ((.slice none 0 0)) Tryz.underlying214
theorem j80:ao Tryz.prog 216 j52:=fA ((.int .u32 0)) Tryz.underlying216
theorem j81:ao Tryz.prog 218 j53:=fA .nilFunc Tryz.underlying218
theorem j82:ao Tryz.prog 233 j54:=fA ((.pointer none)) Tryz.underlying233
theorem j83:ao Tryz.prog 246 j55:=fA ((.int .u64 0)) Tryz.underlying246
theorem j84:ao Tryz.prog 250 j56:=fA (.nilIface) Tryz.underlying250
theorem j85:ao Tryz.prog 251 j57:=fA (.nilIface) Tryz.underlying251
theorem j86:ao Tryz.prog 260 j58:=fA .nilFunc Tryz.underlying260
theorem j87:ao Tryz.prog 263 j59:=fA .nilFunc Tryz.underlying263
theorem j88:ao Tryz.prog 268 j6a:=fA ((.pointer none)) Tryz.underlying268
theorem j89:ao Tryz.prog 271 j6b:=fA (.agg #[(.int .i64 0),(.slice none 0 0)]) Tryz.underlying271
theorem j9a:ao Tryz.prog 272 j6c:=fA (.agg #[(.int .i64 0),(.slice none 0 0)]) Tryz.underlying272
theorem j9b:ao Tryz.prog 276 j6d:=fA (.agg #[(.slice none 0 0),(.slice none 0 0),(.int .i64 0),(.int .i64 0)]) Tryz.underlying276
theorem j9c:ao Tryz.prog 277 j6e:=fA (.agg #[(.slice none 0 0),(.slice none 0 0),(.int .i64 0),(.int .i64 0)]) Tryz.underlying277
theorem j9d:ao Tryz.prog 279 j6f:=fA ((.map none)) Tryz.underlying279
theorem j9e:ao Tryz.prog 280 j6g:=fA (.agg #[(.slice none 0 0),(.slice none 0 0)]) Tryz.underlying280
theorem j9f:ao Tryz.prog 289 j6h:=fA ((.map none)) Tryz.underlying289
theorem j9g:ao Tryz.prog 290 j6i:=fA ((.map none)) Tryz.underlying290
theorem j9h:ao Tryz.prog 293 j6j:=fA ((.int .u64 0)) Tryz.underlying293
theorem j9i:ao Tryz.prog 297 j6k:=fA ((.slice none 0 0)) Tryz.underlying297
theorem j9j:ao Tryz.prog 303 j6l:=fA ((.pointer none)) Tryz.underlying303
theorem j9k:ao Tryz.prog 304 j6m:=fA (.agg #[(.slice none 0 0),(.slice none 0 0)]) Tryz.underlying304
theorem j9l:ao Tryz.prog 305 j6n:=fA (.agg #[(.slice none 0 0),(.slice none 0 0)]) Tryz.underlying305
theorem j9m:ao Tryz.prog 307 j6o:=fA ((.int .i64 0)) Tryz.underlying307
theorem j9n:ao Tryz.prog 316 j6p:=fA ((.pointer none)) Tryz.underlying316
theorem j9o:ao Tryz.prog 321 j6q:=fA ((.int .u64 0)) Tryz.underlying321
theorem j9p:ao Tryz.prog 325 j6r:=fA ((.pointer none)) Tryz.underlying325
theorem j9q:ao Tryz.prog 334 j6s:=fA .nilFunc Tryz.underlying334
theorem j9r:ao Tryz.prog 336 j6t:=fA .nilFunc Tryz.underlying336
theorem j9s:ao Tryz.prog 338 j6u:=fA (.agg #[(.int .u8 0),(.int .u8 0),(.int .u8 0),(.int .u8 0),(.int .u8 0),(.int .u8 0),(.int .u8 0),(.int .u8 0),(.int .u8 0),(.int .u8 0),(.int .u8 0),(.int .u8 0),(.int .u8 0),(.int .u8 0),(.int .u8 0),(.int .u8 0),(.int .u8 0),(.int .u8 0),(.int .u8 0),(.int .u8 0),(.int .u8 0),(.int .u8 0),(.int .u8 0),(.int .u8 0)]) Tryz.underlying338 (h5:=fun _=>⟨by kernel_rfl,by kernel_rfl,by kernel_rfl⟩)
theorem j9t:ao Tryz.prog 347 j6v:=fA (.agg #[(.int .u64 0),(.int .u64 0),(.int .u64 0),(.int .u64 0),(.int .u64 0),(.int .u64 0),(.int .u64 0),(.int .u64 0),(.int .u64 0),(.int .u64 0),(.int .u64 0),(.int .u64 0),(.int .u64 0),(.int .u64 0),(.int .u64 0),(.int .u64 0),(.int .u64 0),(.int .u64 0),(.int .u64 0),(.int .u64 0)]) Tryz.underlying347 (h5:=fun _=>⟨by kernel_rfl,by kernel_rfl,by kernel_rfl⟩)
theorem j9u:ao Tryz.prog 351 j6w:=fA (.agg #[(.int .u8 0),(.int .u8 0),(.int .u8 0),(.int .u8 0),(.int .u8 0),(.int .u8 0),(.int .u8 0),(.int .u8 0),(.int .u8 0),(.int .u8 0),(.int .u8 0),(.int .u8 0),(.int .u8 0),(.int .u8 0),(.int .u8 0),(.int .u8 0),(.int .u8 0),(.int .u8 0),(.int .u8 0),(.int .u8 0),(.int .u8 0),(.int .u8 0),(.int .u8 0),(.int .u8 0),(.int .u8 0),(.int .u8 0),(.int .u8 0),(.int .u8 0),(.int .u8 0),(.int .u8 0),(.int .u8 0),(.int .u8 0)]) Tryz.underlying351 (h5:=fun _=>⟨by kernel_rfl,by kernel_rfl,by kernel_rfl⟩)
set_option maxRecDepth 100000 in
theorem fits:dq Tryz.prog tt:=by
 intro t x h;unfold tt at h;split at h
 ·cases h;exact zev
 ·cases h;exact zew
 ·cases h;exact zex
 ·cases h;exact zey
 ·cases h;exact zez
 ·cases h;exact ze0
 ·cases h;exact ze1
 ·cases h;exact ze2
 ·cases h;exact ze3
 ·cases h;exact zbq
 ·cases h;exact zbr
 ·cases h;exact zbs
 ·cases h;exact zbt
 ·cases h;exact zbu
 ·cases h;exact zbv
 ·cases h;exact zbw
 ·cases h;exact zbx
 ·cases h;exact zby
 ·cases h;exact zbz
 ·cases h;exact zb0
 ·cases h;exact zb1
 ·cases h;exact zb2
 ·cases h;exact zb3
 ·cases h;exact zb4
 ·cases h;exact zb5
 ·cases h;exact zb6
 ·cases h;exact zb7
 ·cases h;exact zb8
 ·cases h;exact zb9
 ·cases h;exact zca
 ·cases h;exact zcb
 ·cases h;exact zcc
 ·cases h;exact zcd
 ·cases h;exact zce
 ·cases h;exact zcf
 ·cases h;exact zcg
 ·cases h;exact zch
 ·cases h;exact zci
 ·cases h;exact zcj
 ·cases h;exact zck
 ·cases h;exact zcl
 ·cases h;exact zcm
 ·cases h;exact zcn
 ·cases h;exact zco
 ·cases h;exact zcp
 ·cases h;exact zcq
 ·cases h;exact zcr
 ·cases h;exact zcs
 ·cases h;exact zct
 ·cases h;exact j7r
 ·cases h;exact j7s
 ·cases h;exact j7t
 ·cases h;exact j7u
 ·cases h;exact j7v
 ·cases h;exact j7w
 ·cases h;exact j7x
 ·cases h;exact j7y
 ·cases h;exact j7z
 ·cases h;exact j70
 ·cases h;exact j71
 ·cases h;exact j72
 ·cases h;exact j73
 ·cases h;exact j74
 ·cases h;exact j75
 ·cases h;exact j76
 ·cases h;exact j77
 ·cases h;exact j78
 ·cases h;exact j79
 ·cases h;exact j8a
 ·cases h;exact j8b
 ·cases h;exact j8c
 ·cases h;exact j8d
 ·cases h;exact j8e
 ·cases h;exact j8f
 ·cases h;exact j8g
 ·cases h;exact j8h
 ·cases h;exact j8i
 ·cases h;exact j8j
 ·cases h;exact j8k
 ·cases h;exact j8l
 ·cases h;exact j8m
 ·cases h;exact j8n
 ·cases h;exact j8o
 ·cases h;exact j8p
 ·cases h;exact j8q
 ·cases h;exact j8r
 ·cases h;exact j8s
 ·cases h;exact j8t
 ·cases h;exact j8u
 ·cases h;exact j8v
 ·cases h;exact j8w
 ·cases h;exact j8x
 ·cases h;exact j8y
 ·cases h;exact j8z
 ·cases h;exact j80
 ·cases h;exact j81
 ·cases h;exact j82
 ·cases h;exact j83
 ·cases h;exact j84
 ·cases h;exact j85
 ·cases h;exact j86
 ·cases h;exact j87
 ·cases h;exact j88
 ·cases h;exact j89
 ·cases h;exact j9a
 ·cases h;exact j9b
 ·cases h;exact j9c
 ·cases h;exact j9d
 ·cases h;exact j9e
 ·cases h;exact j9f
 ·cases h;exact j9g
 ·cases h;exact j9h
 ·cases h;exact j9i
 ·cases h;exact j9j
 ·cases h;exact j9k
 ·cases h;exact j9l
 ·cases h;exact j9m
 ·cases h;exact j9n
 ·cases h;exact j9o
 ·cases h;exact j9p
 ·cases h;exact j9q
 ·cases h;exact j9r
 ·cases h;exact j9s
 ·cases h;exact j9t
 ·cases h;exact j9u
 ·cases h
theorem mixed:Tryz.prog.follows .mixedOrders=true:=rfl
end Go.Proofs.YtocndcbobdnagaaGreatDoor
