/-
  The types of this seat's program: a row a type (its kind, cells, bytes, the cells of its zero value), and that each row is the program's own. Made by program out of the translation.
-/
import Derived.Test.YteljgpepodpebaaGreatZ3KE
import Derived.Test.YteljgpepodpebaaGreatProg
import Derived.KernelRfl
set_option linter.all false
namespace Go.Proofs.YteljgpepodpebaaGreat
open Go.K Go.M
theorem ak{P:Program}{t:TypeId}{k:TK}{sz by_:Nat}{zs:List Value}{z:Value}{d:TypeDesc}(h1:(P.info? t).map (fun i=>(i.zero,i.size,i.bytes))=some (some z,sz,by_))(h2:P.underlying t=some d)(h3:TK.of d=k.plain)(h4:z.cells.toList=zs)(h5:k.cmp=true→Cmp P t)(h6:k.one=true→zs=[z]):aj P t ⟨k,sz,by_,zs⟩:=by
 cases hi:P.info? t with
 |none=>simp[hi]at h1
 |some i=>
  simp only[hi,Option.map_some,Option.some.injEq,Prod.mk.injEq]at h1;exact⟨⟨i,d,z,hi,h2,h3,h1.2.1,h1.2.2,h1.1,h4⟩,h5,fun e=>⟨i,z,hi,h1.1,h6 e⟩⟩
def ti1:TI:=⟨.other,1,8,[.nilFunc]⟩
def ti2:TI:=⟨.int .i64,1,8,[(.int .i64 0)]⟩
def ti3:TI:=⟨.int .i64,1,8,[(.int .i64 0)]⟩
def ti4:TI:=⟨.bool,1,1,[(.bool false)]⟩
def ti5:TI:=⟨.int .u8,1,1,[(.int .u8 0)]⟩
def ti6:TI:=⟨.int .u8,1,1,[(.int .u8 0)]⟩
def ti7:TI:=⟨.strct true [(0,2),(1,3),(2,4),(3,6)],4,24,[(.int .i64 0),(.int .i64 0),(.bool false),(.int .u8 0)]⟩
def ti8:TI:=⟨.strct true [(0,2),(1,3),(2,4),(3,6)],4,24,[(.int .i64 0),(.int .i64 0),(.bool false),(.int .u8 0)]⟩
def ti9:TI:=⟨.str,1,16,[(.string ⟨#[]⟩)]⟩
def j13:TI:=⟨.str,1,16,[(.string ⟨#[]⟩)]⟩
def j14:TI:=⟨.str,1,16,[(.string ⟨#[]⟩)]⟩
def j15:TI:=⟨.int .u64,1,8,[(.int .u64 0)]⟩
def j16:TI:=⟨.strct false [(0,9),(1,12)],2,24,[(.string ⟨#[]⟩),(.int .u64 0)]⟩
def j17:TI:=⟨.strct false [(0,9),(1,12)],2,24,[(.string ⟨#[]⟩),(.int .u64 0)]⟩
def j18:TI:=⟨.other,1,8,[(.pointer none)]⟩
def j19:TI:=⟨.other,1,8,[(.pointer none)]⟩
def j2a:TI:=⟨.other,1,8,[(.pointer none)]⟩
def j2b:TI:=⟨.strct false [(0,17)],1,8,[(.pointer none)]⟩
def j2c:TI:=⟨.strct false [(0,17)],1,8,[(.pointer none)]⟩
def j2d:TI:=⟨.other,1,16,[.nilIface]⟩
def j2e:TI:=⟨.int .i32,1,4,[(.int .i32 0)]⟩
def j2f:TI:=⟨.slice 3,1,24,[(.slice none 0 0)]⟩
def j2g:TI:=⟨.slice 72,1,24,[(.slice none 0 0)]⟩
def j2h:TI:=⟨.other,1,8,[.nilFunc]⟩
def j2i:TI:=⟨.other,1,8,[.nilFunc]⟩
def j2j:TI:=⟨.other,1,8,[.nilFunc]⟩
def j2k:TI:=⟨.strct false [(0,22),(1,3)],2,32,[(.slice none 0 0),(.int .i64 0)]⟩
def j2l:TI:=⟨.strct false [(0,22),(1,3)],2,32,[(.slice none 0 0),(.int .i64 0)]⟩
def j2m:TI:=⟨.slice 32,1,24,[(.slice none 0 0)]⟩
def j2n:TI:=⟨.slice 49,1,24,[(.slice none 0 0)]⟩
def j2o:TI:=⟨.strct false [(0,3),(1,3),(2,29),(3,30)],4,64,[(.int .i64 0),(.int .i64 0),(.slice none 0 0),(.slice none 0 0)]⟩
def j2p:TI:=⟨.strct false [(0,3),(1,3),(2,29),(3,30)],4,64,[(.int .i64 0),(.int .i64 0),(.slice none 0 0),(.slice none 0 0)]⟩
def j2q:TI:=⟨.int .i64,1,8,[(.int .i64 0)]⟩
def j2r:TI:=⟨.other,1,8,[.nilFunc]⟩
def j2s:TI:=⟨.other,1,8,[.nilFunc]⟩
def j2t:TI:=⟨.other,1,8,[.nilFunc]⟩
def j2u:TI:=⟨.other,1,8,[.nilFunc]⟩
def j2v:TI:=⟨.other,1,8,[.nilFunc]⟩
def j2w:TI:=⟨.other,1,8,[.nilFunc]⟩
def j2x:TI:=⟨.slice 30,1,24,[(.slice none 0 0)]⟩
def j2y:TI:=⟨.strct false [(0,30),(1,43),(2,22),(3,30)],4,96,[(.slice none 0 0),(.slice none 0 0),(.slice none 0 0),(.slice none 0 0)]⟩
def j2z:TI:=⟨.strct false [(0,30),(1,43),(2,22),(3,30)],4,96,[(.slice none 0 0),(.slice none 0 0),(.slice none 0 0),(.slice none 0 0)]⟩
def j20:TI:=⟨.other,1,8,[.nilFunc]⟩
def j21:TI:=⟨.strct true [(0,3),(1,3)],2,16,[(.int .i64 0),(.int .i64 0)]⟩
def j22:TI:=⟨.strct true [(0,3),(1,3)],2,16,[(.int .i64 0),(.int .i64 0)]⟩
def j24:TI:=⟨.strct false [(0,3),(1,30),(2,30),(3,30),(4,49)],6,96,[(.int .i64 0),(.slice none 0 0),(.slice none 0 0),(.slice none 0 0),(.int .i64 0),(.int .i64 0)]⟩
def j25:TI:=⟨.strct false [(0,3),(1,30),(2,30),(3,30),(4,49)],6,96,[(.int .i64 0),(.slice none 0 0),(.slice none 0 0),(.slice none 0 0),(.int .i64 0),(.int .i64 0)]⟩
def j26:TI:=⟨.other,1,8,[.nilFunc]⟩
def j27:TI:=⟨.other,1,8,[.nilFunc]⟩
def j28:TI:=⟨.other,1,8,[.nilFunc]⟩
def j29:TI:=⟨.other,1,8,[.nilFunc]⟩
def j3a:TI:=⟨.other,1,8,[.nilFunc]⟩
def j3b:TI:=⟨.other,1,8,[.nilFunc]⟩
def j3c:TI:=⟨.other,1,8,[.nilFunc]⟩
def j3d:TI:=⟨.other,1,8,[.nilFunc]⟩
def j3e:TI:=⟨.other,1,8,[.nilFunc]⟩
def j3f:TI:=⟨.strct false [(0,49),(2,49),(4,3),(5,3)],6,48,[(.int .i64 0),(.int .i64 0),(.int .i64 0),(.int .i64 0),(.int .i64 0),(.int .i64 0)]⟩
def j3g:TI:=⟨.strct false [(0,49),(2,49),(4,3),(5,3)],6,48,[(.int .i64 0),(.int .i64 0),(.int .i64 0),(.int .i64 0),(.int .i64 0),(.int .i64 0)]⟩
def j3h:TI:=⟨.slice 70,1,24,[(.slice none 0 0)]⟩
def j3i:TI:=⟨.other,1,8,[.nilFunc]⟩
def j3j:TI:=⟨.strct true [(0,3),(1,3),(2,3),(3,3)],4,32,[(.int .i64 0),(.int .i64 0),(.int .i64 0),(.int .i64 0)]⟩
def j3k:TI:=⟨.strct true [(0,3),(1,3),(2,3),(3,3)],4,32,[(.int .i64 0),(.int .i64 0),(.int .i64 0),(.int .i64 0)]⟩
def j3l:TI:=⟨.strct false [(0,22),(1,3),(2,3)],3,40,[(.slice none 0 0),(.int .i64 0),(.int .i64 0)]⟩
def j3m:TI:=⟨.strct false [(0,22),(1,3),(2,3)],3,40,[(.slice none 0 0),(.int .i64 0),(.int .i64 0)]⟩
def j3n:TI:=⟨.other,1,8,[.nilFunc]⟩
def j3o:TI:=⟨.other,1,8,[.nilFunc]⟩
def j3p:TI:=⟨.other,1,8,[(.pointer none)]⟩
def j3q:TI:=⟨.strct false [(0,22),(1,23),(2,22),(3,3)],4,80,[(.slice none 0 0),(.slice none 0 0),(.slice none 0 0),(.int .i64 0)]⟩
def j3r:TI:=⟨.strct false [(0,22),(1,23),(2,22),(3,3)],4,80,[(.slice none 0 0),(.slice none 0 0),(.slice none 0 0),(.int .i64 0)]⟩
def j3s:TI:=⟨.other,1,8,[.nilFunc]⟩
def j3t:TI:=⟨.other,1,8,[(.pointer none)]⟩
def j3u:TI:=⟨.strct false [(0,22),(1,23),(2,3),(3,3)],4,64,[(.slice none 0 0),(.slice none 0 0),(.int .i64 0),(.int .i64 0)]⟩
def j3v:TI:=⟨.strct false [(0,22),(1,23),(2,3),(3,3)],4,64,[(.slice none 0 0),(.slice none 0 0),(.int .i64 0),(.int .i64 0)]⟩
def j3w:TI:=⟨.other,1,8,[.nilFunc]⟩
def j3x:TI:=⟨.strct false [(0,22),(1,22)],2,48,[(.slice none 0 0),(.slice none 0 0)]⟩
def j3y:TI:=⟨.strct false [(0,22),(1,22)],2,48,[(.slice none 0 0),(.slice none 0 0)]⟩
def j3z:TI:=⟨.other,1,8,[.nilFunc]⟩
def j30:TI:=⟨.other,1,8,[.nilFunc]⟩
def j31:TI:=⟨.other,1,8,[.nilFunc]⟩
def j32:TI:=⟨.other,1,8,[.nilFunc]⟩
def j33:TI:=⟨.other,1,8,[.nilFunc]⟩
def j34:TI:=⟨.other,1,8,[.nilFunc]⟩
def j35:TI:=⟨.other,1,8,[.nilFunc]⟩
def j36:TI:=⟨.other,1,8,[.nilFunc]⟩
def j37:TI:=⟨.other,1,8,[.nilFunc]⟩
def j38:TI:=⟨.other,1,8,[.nilFunc]⟩
def j39:TI:=⟨.other,1,8,[.nilFunc]⟩
def js3:TI:=⟨.other,1,8,[.nilFunc]⟩
def js4:TI:=⟨.other,1,8,[.nilFunc]⟩
def js5:TI:=⟨.other,1,8,[.nilFunc]⟩
def js6:TI:=⟨.other,1,8,[.nilFunc]⟩
def js7:TI:=⟨.other,1,8,[(.pointer none)]⟩
def js8:TI:=⟨.strct true [(0,33)],1,8,[(.int .i64 0)]⟩
def js9:TI:=⟨.strct true [(0,33)],1,8,[(.int .i64 0)]⟩
def jta:TI:=⟨.other,1,8,[.nilFunc]⟩
def jtb:TI:=⟨.other,1,8,[.nilFunc]⟩
def jtc:TI:=⟨.other,1,8,[.nilFunc]⟩
def jtd:TI:=⟨.other,1,8,[.nilFunc]⟩
def jte:TI:=⟨.other,1,8,[.nilFunc]⟩
def jtf:TI:=⟨.other,1,8,[.nilFunc]⟩
def jtg:TI:=⟨.other,1,8,[.nilFunc]⟩
def jth:TI:=⟨.other,1,8,[.nilFunc]⟩
def jti:TI:=⟨.other,1,8,[.nilFunc]⟩
def jtj:TI:=⟨.other,1,8,[.nilFunc]⟩
def jtk:TI:=⟨.other,1,8,[.nilFunc]⟩
def jtl:TI:=⟨.other,1,8,[.nilFunc]⟩
def jtm:TI:=⟨.other,1,8,[.nilFunc]⟩
def jtn:TI:=⟨.other,1,8,[.nilFunc]⟩
def jto:TI:=⟨.other,1,8,[(.pointer none)]⟩
def jtp:TI:=⟨.slice 4,1,24,[(.slice none 0 0)]⟩
def jtq:TI:=⟨.other,1,8,[.nilFunc]⟩
def jtr:TI:=⟨.other,1,8,[.nilFunc]⟩
def jts:TI:=⟨.other,1,8,[.nilFunc]⟩
def jtt:TI:=⟨.other,1,8,[.nilFunc]⟩
def jtu:TI:=⟨.strct false [(0,43),(1,30),(2,22),(3,3),(4,33)],5,88,[(.slice none 0 0),(.slice none 0 0),(.slice none 0 0),(.int .i64 0),(.int .i64 0)]⟩
def jtv:TI:=⟨.strct false [(0,43),(1,30),(2,22),(3,3),(4,33)],5,88,[(.slice none 0 0),(.slice none 0 0),(.slice none 0 0),(.int .i64 0),(.int .i64 0)]⟩
def jtw:TI:=⟨.other,1,8,[.nilFunc]⟩
def jtx:TI:=⟨.other,1,8,[.nilFunc]⟩
def jty:TI:=⟨.other,1,8,[.nilFunc]⟩
def jtz:TI:=⟨.other,1,8,[.nilFunc]⟩
def jt0:TI:=⟨.other,1,8,[.nilFunc]⟩
def jt1:TI:=⟨.other,1,8,[.nilFunc]⟩
def jt2:TI:=⟨.other,1,8,[.nilFunc]⟩
def jt3:TI:=⟨.other,1,8,[.nilFunc]⟩
def jt4:TI:=⟨.other,1,8,[.nilFunc]⟩
def jt5:TI:=⟨.other,1,8,[.nilFunc]⟩
def jt6:TI:=⟨.other,1,8,[.nilFunc]⟩
def jt7:TI:=⟨.other,1,8,[.nilFunc]⟩
def jt8:TI:=⟨.other,1,8,[.nilFunc]⟩
def jt9:TI:=⟨.other,1,8,[.nilFunc]⟩
def jua:TI:=⟨.other,1,8,[.nilFunc]⟩
def jub:TI:=⟨.other,1,8,[.nilFunc]⟩
def juc:TI:=⟨.other,1,8,[.nilFunc]⟩
def jud:TI:=⟨.other,1,8,[.nilFunc]⟩
def jue:TI:=⟨.other,1,8,[.nilFunc]⟩
def juf:TI:=⟨.other,1,8,[.nilFunc]⟩
def jug:TI:=⟨.int .u64,1,8,[(.int .u64 0)]⟩
def juh:TI:=⟨.other,1,8,[.nilFunc]⟩
def jui:TI:=⟨.other,1,8,[.nilFunc]⟩
def juj:TI:=⟨.other,1,8,[.nilFunc]⟩
def juk:TI:=⟨.int .u64,1,8,[(.int .u64 0)]⟩
def jul:TI:=⟨.other,1,8,[.nilFunc]⟩
def jum:TI:=⟨.other,1,8,[.nilFunc]⟩
def jun:TI:=⟨.other,1,8,[.nilFunc]⟩
def juo:TI:=⟨.int .u32,1,4,[(.int .u32 0)]⟩
def jup:TI:=⟨.other,1,8,[.nilFunc]⟩
def juq:TI:=⟨.other,1,8,[.nilFunc]⟩
def jur:TI:=⟨.other,1,8,[.nilFunc]⟩
def jus:TI:=⟨.strct false [(0,17),(1,17),(2,17),(3,9)],4,40,[(.pointer none),(.pointer none),(.pointer none),(.string ⟨#[]⟩)]⟩
def jut:TI:=⟨.strct false [(0,17),(1,17),(2,17),(3,9)],4,40,[(.pointer none),(.pointer none),(.pointer none),(.string ⟨#[]⟩)]⟩
def juu:TI:=⟨.arr false 0 16,0,0,[]⟩
def juv:TI:=⟨.strct false [(0,173)],0,0,[]⟩
def juw:TI:=⟨.strct false [(0,173)],0,0,[]⟩
def jux:TI:=⟨.other,1,8,[.nilFunc]⟩
def juy:TI:=⟨.int .u8,1,1,[(.int .u8 0)]⟩
def juz:TI:=⟨.int .u8,1,1,[(.int .u8 0)]⟩
def ju0:TI:=⟨.other,1,8,[.nilFunc]⟩
def ju1:TI:=⟨.other,1,8,[(.pointer none)]⟩
def ju2:TI:=⟨.int .i32,1,4,[(.int .i32 0)]⟩
def ju3:TI:=⟨.int .i32,1,4,[(.int .i32 0)]⟩
def ju4:TI:=⟨.strct false [(0,12),(1,12),(2,165),(3,177),(4,5),(5,5),(6,178),(7,179),(8,180),(9,181),(10,182)],11,48,[(.int .u64 0),(.int .u64 0),(.int .u32 0),(.int .u8 0),(.int .u8 0),(.int .u8 0),(.int .u8 0), .nilFunc,(.pointer none),(.int .i32 0),(.int .i32 0)]⟩
def ju5:TI:=⟨.strct false [(0,12),(1,12),(2,165),(3,177),(4,5),(5,5),(6,178),(7,179),(8,180),(9,181),(10,182)],11,48,[(.int .u64 0),(.int .u64 0),(.int .u32 0),(.int .u8 0),(.int .u8 0),(.int .u8 0),(.int .u8 0), .nilFunc,(.pointer none),(.int .i32 0),(.int .i32 0)]⟩
def ju6:TI:=⟨.other,1,8,[(.pointer none)]⟩
def tt:TT
 |1=>some ti1
 |2=>some ti2
 |3=>some ti3
 |4=>some ti4
 |5=>some ti5
 |6=>some ti6
 |7=>some ti7
 |8=>some ti8
 |9=>some ti9
 |10=>some j13
 |11=>some j14
 |12=>some j15
 |13=>some j16
 |14=>some j17
 |15=>some j18
 |16=>some j19
 |17=>some j2a
 |18=>some j2b
 |19=>some j2c
 |20=>some j2d
 |21=>some j2e
 |22=>some j2f
 |23=>some j2g
 |24=>some j2h
 |25=>some j2i
 |26=>some j2j
 |27=>some j2k
 |28=>some j2l
 |29=>some j2m
 |30=>some j2n
 |31=>some j2o
 |32=>some j2p
 |33=>some j2q
 |35=>some j2r
 |37=>some j2s
 |38=>some j2t
 |40=>some j2u
 |41=>some j2v
 |42=>some j2w
 |43=>some j2x
 |44=>some j2y
 |45=>some j2z
 |47=>some j20
 |48=>some j21
 |49=>some j22
 |50=>some j24
 |51=>some j25
 |53=>some j26
 |54=>some j27
 |55=>some j28
 |56=>some j29
 |58=>some j3a
 |59=>some j3b
 |60=>some j3c
 |61=>some j3d
 |63=>some j3e
 |64=>some j3f
 |65=>some j3g
 |66=>some j3h
 |68=>some j3i
 |69=>some j3j
 |70=>some j3k
 |71=>some j3l
 |72=>some j3m
 |73=>some j3n
 |74=>some j3o
 |75=>some j3p
 |76=>some j3q
 |77=>some j3r
 |78=>some j3s
 |79=>some j3t
 |80=>some j3u
 |81=>some j3v
 |83=>some j3w
 |84=>some j3x
 |85=>some j3y
 |86=>some j3z
 |87=>some j30
 |89=>some j31
 |90=>some j32
 |92=>some j33
 |93=>some j34
 |94=>some j35
 |95=>some j36
 |97=>some j37
 |98=>some j38
 |99=>some j39
 |100=>some js3
 |101=>some js4
 |103=>some js5
 |104=>some js6
 |105=>some js7
 |106=>some js8
 |107=>some js9
 |109=>some jta
 |110=>some jtb
 |111=>some jtc
 |112=>some jtd
 |113=>some jte
 |114=>some jtf
 |115=>some jtg
 |117=>some jth
 |118=>some jti
 |119=>some jtj
 |121=>some jtk
 |122=>some jtl
 |123=>some jtm
 |124=>some jtn
 |125=>some jto
 |126=>some jtp
 |128=>some jtq
 |129=>some jtr
 |130=>some jts
 |131=>some jtt
 |132=>some jtu
 |133=>some jtv
 |134=>some jtw
 |135=>some jtx
 |136=>some jty
 |137=>some jtz
 |138=>some jt0
 |139=>some jt1
 |140=>some jt2
 |141=>some jt3
 |142=>some jt4
 |143=>some jt5
 |145=>some jt6
 |146=>some jt7
 |148=>some jt8
 |149=>some jt9
 |150=>some jua
 |151=>some jub
 |152=>some juc
 |153=>some jud
 |154=>some jue
 |155=>some juf
 |156=>some jug
 |158=>some juh
 |159=>some jui
 |160=>some juj
 |161=>some juk
 |162=>some jul
 |163=>some jum
 |164=>some jun
 |165=>some juo
 |167=>some jup
 |169=>some juq
 |170=>some jur
 |171=>some jus
 |172=>some jut
 |173=>some juu
 |174=>some juv
 |175=>some juw
 |176=>some jux
 |177=>some juy
 |178=>some juz
 |179=>some ju0
 |180=>some ju1
 |181=>some ju2
 |182=>some ju3
 |183=>some ju4
 |184=>some ju5
 |185=>some ju6
 |_=>none
theorem j60:aj Tryz.prog 1 ti1:=ak (z:= .nilFunc) (by kernel_rfl) Tryz.underlying1 rfl rfl (by intro h;cases h) (fun h=>by cases h)
theorem tt1:tt 1=some ⟨.other,1,8,[.nilFunc]⟩:=rfl
theorem j61:aj Tryz.prog 2 ti2:=ak (z:=(.int .i64 0)) (by kernel_rfl) Tryz.underlying2 rfl rfl (by intro h;cases h) (fun _=>rfl)
theorem tt2:tt 2=some ⟨.int .i64,1,8,[(.int .i64 0)]⟩:=rfl
theorem j62:aj Tryz.prog 3 ti3:=ak (z:=(.int .i64 0)) (by kernel_rfl) Tryz.underlying3 rfl rfl (by intro h;cases h) (fun _=>rfl)
theorem tt3:tt 3=some ⟨.int .i64,1,8,[(.int .i64 0)]⟩:=rfl
theorem j63:aj Tryz.prog 4 ti4:=ak (z:=(.bool false)) (by kernel_rfl) Tryz.underlying4 rfl rfl (by intro h;cases h) (fun _=>rfl)
theorem tt4:tt 4=some ⟨.bool,1,1,[(.bool false)]⟩:=rfl
theorem j64:aj Tryz.prog 5 ti5:=ak (z:=(.int .u8 0)) (by kernel_rfl) Tryz.underlying5 rfl rfl (by intro h;cases h) (fun _=>rfl)
theorem tt5:tt 5=some ⟨.int .u8,1,1,[(.int .u8 0)]⟩:=rfl
theorem j65:aj Tryz.prog 6 ti6:=ak (z:=(.int .u8 0)) (by kernel_rfl) Tryz.underlying6 rfl rfl (by intro h;cases h) (fun _=>rfl)
theorem tt6:tt 6=some ⟨.int .u8,1,1,[(.int .u8 0)]⟩:=rfl
theorem j66:aj Tryz.prog 7 ti7:=ak (z:= .agg #[(.int .i64 0),(.int .i64 0),(.bool false),(.int .u8 0)]) (by kernel_rfl) Tryz.underlying7 rfl rfl (by exact fun _=>⟨by kernel_rfl,by kernel_rfl,by kernel_rfl⟩) (fun h=>by cases h)
theorem tt7:tt 7=some ⟨.strct true [(0,2),(1,3),(2,4),(3,6)],4,24,[(.int .i64 0),(.int .i64 0),(.bool false),(.int .u8 0)]⟩:=rfl
theorem j67:aj Tryz.prog 8 ti8:=ak (z:= .agg #[(.int .i64 0),(.int .i64 0),(.bool false),(.int .u8 0)]) (by kernel_rfl) Tryz.underlying8 rfl rfl (by exact fun _=>⟨by kernel_rfl,by kernel_rfl,by kernel_rfl⟩) (fun h=>by cases h)
theorem tt8:tt 8=some ⟨.strct true [(0,2),(1,3),(2,4),(3,6)],4,24,[(.int .i64 0),(.int .i64 0),(.bool false),(.int .u8 0)]⟩:=rfl
theorem j68:aj Tryz.prog 9 ti9:=ak (z:=(.string ⟨#[]⟩)) (by kernel_rfl) Tryz.underlying9 rfl rfl (by intro h;cases h) (fun _=>rfl)
theorem tt9:tt 9=some ⟨.str,1,16,[(.string ⟨#[]⟩)]⟩:=rfl
theorem jzm:aj Tryz.prog 10 j13:=ak (z:=(.string ⟨#[]⟩)) (by kernel_rfl) Tryz.underlying10 rfl rfl (by intro h;cases h) (fun _=>rfl)
theorem j7i:tt 10=some ⟨.str,1,16,[(.string ⟨#[]⟩)]⟩:=rfl
theorem jzn:aj Tryz.prog 11 j14:=ak (z:=(.string ⟨#[]⟩)) (by kernel_rfl) Tryz.underlying11 rfl rfl (by intro h;cases h) (fun _=>rfl)
theorem j7j:tt 11=some ⟨.str,1,16,[(.string ⟨#[]⟩)]⟩:=rfl
theorem jzo:aj Tryz.prog 12 j15:=ak (z:=(.int .u64 0)) (by kernel_rfl) Tryz.underlying12 rfl rfl (by intro h;cases h) (fun _=>rfl)
theorem j7k:tt 12=some ⟨.int .u64,1,8,[(.int .u64 0)]⟩:=rfl
theorem jzp:aj Tryz.prog 13 j16:=ak (z:= .agg #[(.string ⟨#[]⟩),(.int .u64 0)]) (by kernel_rfl) Tryz.underlying13 rfl rfl (by intro h;cases h) (fun h=>by cases h)
theorem j7l:tt 13=some ⟨.strct false [(0,9),(1,12)],2,24,[(.string ⟨#[]⟩),(.int .u64 0)]⟩:=rfl
theorem jzq:aj Tryz.prog 14 j17:=ak (z:= .agg #[(.string ⟨#[]⟩),(.int .u64 0)]) (by kernel_rfl) Tryz.underlying14 rfl rfl (by intro h;cases h) (fun h=>by cases h)
theorem j7m:tt 14=some ⟨.strct false [(0,9),(1,12)],2,24,[(.string ⟨#[]⟩),(.int .u64 0)]⟩:=rfl
theorem jzr:aj Tryz.prog 15 j18:=ak (z:=(.pointer none)) (by kernel_rfl) Tryz.underlying15 rfl rfl (by intro h;cases h) (fun h=>by cases h)
theorem j7n:tt 15=some ⟨.other,1,8,[(.pointer none)]⟩:=rfl
theorem jzs:aj Tryz.prog 16 j19:=ak (z:=(.pointer none)) (by kernel_rfl) Tryz.underlying16 rfl rfl (by intro h;cases h) (fun h=>by cases h)
theorem j7o:tt 16=some ⟨.other,1,8,[(.pointer none)]⟩:=rfl
theorem jzt:aj Tryz.prog 17 j2a:=ak (z:=(.pointer none)) (by kernel_rfl) Tryz.underlying17 rfl rfl (by intro h;cases h) (fun h=>by cases h)
theorem j7p:tt 17=some ⟨.other,1,8,[(.pointer none)]⟩:=rfl
theorem jzu:aj Tryz.prog 18 j2b:=ak (z:= .agg #[(.pointer none)]) (by kernel_rfl) Tryz.underlying18 rfl rfl (by intro h;cases h) (fun h=>by cases h)
theorem j7q:tt 18=some ⟨.strct false [(0,17)],1,8,[(.pointer none)]⟩:=rfl
theorem jzv:aj Tryz.prog 19 j2c:=ak (z:= .agg #[(.pointer none)]) (by kernel_rfl) Tryz.underlying19 rfl rfl (by intro h;cases h) (fun h=>by cases h)
theorem j7r:tt 19=some ⟨.strct false [(0,17)],1,8,[(.pointer none)]⟩:=rfl
theorem jzw:aj Tryz.prog 20 j2d:=ak (z:= .nilIface) (by kernel_rfl) Tryz.underlying20 rfl rfl (by intro h;cases h) (fun h=>by cases h)
theorem j7s:tt 20=some ⟨.other,1,16,[.nilIface]⟩:=rfl
theorem jzx:aj Tryz.prog 21 j2e:=ak (z:=(.int .i32 0)) (by kernel_rfl) Tryz.underlying21 rfl rfl (by intro h;cases h) (fun _=>rfl)
theorem j7t:tt 21=some ⟨.int .i32,1,4,[(.int .i32 0)]⟩:=rfl
theorem jzy:aj Tryz.prog 22 j2f:=ak (z:=(.slice none 0 0)) (by kernel_rfl) Tryz.underlying22 rfl rfl (by intro h;cases h) (fun _=>rfl)
theorem j7u:tt 22=some ⟨.slice 3,1,24,[(.slice none 0 0)]⟩:=rfl
theorem jzz:aj Tryz.prog 23 j2g:=ak (z:=(.slice none 0 0)) (by kernel_rfl) Tryz.underlying23 rfl rfl (by intro h;cases h) (fun _=>rfl)
theorem j7v:tt 23=some ⟨.slice 72,1,24,[(.slice none 0 0)]⟩:=rfl
theorem jz0:aj Tryz.prog 24 j2h:=ak (z:= .nilFunc) (by kernel_rfl) Tryz.underlying24 rfl rfl (by intro h;cases h) (fun h=>by cases h)
theorem j7w:tt 24=some ⟨.other,1,8,[.nilFunc]⟩:=rfl
theorem jz1:aj Tryz.prog 25 j2i:=ak (z:= .nilFunc) (by kernel_rfl) Tryz.underlying25 rfl rfl (by intro h;cases h) (fun h=>by cases h)
theorem j7x:tt 25=some ⟨.other,1,8,[.nilFunc]⟩:=rfl
theorem jz2:aj Tryz.prog 26 j2j:=ak (z:= .nilFunc) (by kernel_rfl) Tryz.underlying26 rfl rfl (by intro h;cases h) (fun h=>by cases h)
theorem j7y:tt 26=some ⟨.other,1,8,[.nilFunc]⟩:=rfl
theorem jz3:aj Tryz.prog 27 j2k:=ak (z:= .agg #[(.slice none 0 0),(.int .i64 0)]) (by kernel_rfl) Tryz.underlying27 rfl rfl (by intro h;cases h) (fun h=>by cases h)
theorem j7z:tt 27=some ⟨.strct false [(0,22),(1,3)],2,32,[(.slice none 0 0),(.int .i64 0)]⟩:=rfl
theorem jz4:aj Tryz.prog 28 j2l:=ak (z:= .agg #[(.slice none 0 0),(.int .i64 0)]) (by kernel_rfl) Tryz.underlying28 rfl rfl (by intro h;cases h) (fun h=>by cases h)
theorem j70:tt 28=some ⟨.strct false [(0,22),(1,3)],2,32,[(.slice none 0 0),(.int .i64 0)]⟩:=rfl
theorem jz5:aj Tryz.prog 29 j2m:=ak (z:=(.slice none 0 0)) (by kernel_rfl) Tryz.underlying29 rfl rfl (by intro h;cases h) (fun _=>rfl)
theorem j71:tt 29=some ⟨.slice 32,1,24,[(.slice none 0 0)]⟩:=rfl
theorem jz6:aj Tryz.prog 30 j2n:=ak (z:=(.slice none 0 0)) (by kernel_rfl) Tryz.underlying30 rfl rfl (by intro h;cases h) (fun _=>rfl)
theorem j72:tt 30=some ⟨.slice 49,1,24,[(.slice none 0 0)]⟩:=rfl
theorem jz7:aj Tryz.prog 31 j2o:=ak (z:= .agg #[(.int .i64 0),(.int .i64 0),(.slice none 0 0),(.slice none 0 0)]) (by kernel_rfl) Tryz.underlying31 rfl rfl (by intro h;cases h) (fun h=>by cases h)
theorem j73:tt 31=some ⟨.strct false [(0,3),(1,3),(2,29),(3,30)],4,64,[(.int .i64 0),(.int .i64 0),(.slice none 0 0),(.slice none 0 0)]⟩:=rfl
theorem jz8:aj Tryz.prog 32 j2p:=ak (z:= .agg #[(.int .i64 0),(.int .i64 0),(.slice none 0 0),(.slice none 0 0)]) (by kernel_rfl) Tryz.underlying32 rfl rfl (by intro h;cases h) (fun h=>by cases h)
theorem j74:tt 32=some ⟨.strct false [(0,3),(1,3),(2,29),(3,30)],4,64,[(.int .i64 0),(.int .i64 0),(.slice none 0 0),(.slice none 0 0)]⟩:=rfl
theorem jz9:aj Tryz.prog 33 j2q:=ak (z:=(.int .i64 0)) (by kernel_rfl) Tryz.underlying33 rfl rfl (by intro h;cases h) (fun _=>rfl)
theorem j75:tt 33=some ⟨.int .i64,1,8,[(.int .i64 0)]⟩:=rfl
theorem j0a:aj Tryz.prog 35 j2r:=ak (z:= .nilFunc) (by kernel_rfl) Tryz.underlying35 rfl rfl (by intro h;cases h) (fun h=>by cases h)
theorem j76:tt 35=some ⟨.other,1,8,[.nilFunc]⟩:=rfl
theorem j0b:aj Tryz.prog 37 j2s:=ak (z:= .nilFunc) (by kernel_rfl) Tryz.underlying37 rfl rfl (by intro h;cases h) (fun h=>by cases h)
theorem j77:tt 37=some ⟨.other,1,8,[.nilFunc]⟩:=rfl
theorem j0c:aj Tryz.prog 38 j2t:=ak (z:= .nilFunc) (by kernel_rfl) Tryz.underlying38 rfl rfl (by intro h;cases h) (fun h=>by cases h)
theorem j78:tt 38=some ⟨.other,1,8,[.nilFunc]⟩:=rfl
theorem j0d:aj Tryz.prog 40 j2u:=ak (z:= .nilFunc) (by kernel_rfl) Tryz.underlying40 rfl rfl (by intro h;cases h) (fun h=>by cases h)
theorem j79:tt 40=some ⟨.other,1,8,[.nilFunc]⟩:=rfl
theorem j0e:aj Tryz.prog 41 j2v:=ak (z:= .nilFunc) (by kernel_rfl) Tryz.underlying41 rfl rfl (by intro h;cases h) (fun h=>by cases h)
theorem j8a:tt 41=some ⟨.other,1,8,[.nilFunc]⟩:=rfl
theorem j0f:aj Tryz.prog 42 j2w:=ak (z:= .nilFunc) (by kernel_rfl) Tryz.underlying42 rfl rfl (by intro h;cases h) (fun h=>by cases h)
theorem j8b:tt 42=some ⟨.other,1,8,[.nilFunc]⟩:=rfl
theorem j0g:aj Tryz.prog 43 j2x:=ak (z:=(.slice none 0 0)) (by kernel_rfl) Tryz.underlying43 rfl rfl (by intro h;cases h) (fun _=>rfl)
theorem j8c:tt 43=some ⟨.slice 30,1,24,[(.slice none 0 0)]⟩:=rfl
theorem j0h:aj Tryz.prog 44 j2y:=ak (z:= .agg #[(.slice none 0 0),(.slice none 0 0),(.slice none 0 0),(.slice none 0 0)]) (by kernel_rfl) Tryz.underlying44 rfl rfl (by intro h;cases h) (fun h=>by cases h)
theorem j8d:tt 44=some ⟨.strct false [(0,30),(1,43),(2,22),(3,30)],4,96,[(.slice none 0 0),(.slice none 0 0),(.slice none 0 0),(.slice none 0 0)]⟩:=rfl
theorem j0i:aj Tryz.prog 45 j2z:=ak (z:= .agg #[(.slice none 0 0),(.slice none 0 0),(.slice none 0 0),(.slice none 0 0)]) (by kernel_rfl) Tryz.underlying45 rfl rfl (by intro h;cases h) (fun h=>by cases h)
theorem j8e:tt 45=some ⟨.strct false [(0,30),(1,43),(2,22),(3,30)],4,96,[(.slice none 0 0),(.slice none 0 0),(.slice none 0 0),(.slice none 0 0)]⟩:=rfl
theorem j0j:aj Tryz.prog 47 j20:=ak (z:= .nilFunc) (by kernel_rfl) Tryz.underlying47 rfl rfl (by intro h;cases h) (fun h=>by cases h)
theorem j8f:tt 47=some ⟨.other,1,8,[.nilFunc]⟩:=rfl
theorem j0k:aj Tryz.prog 48 j21:=ak (z:= .agg #[(.int .i64 0),(.int .i64 0)]) (by kernel_rfl) Tryz.underlying48 rfl rfl (by exact fun _=>⟨by kernel_rfl,by kernel_rfl,by kernel_rfl⟩) (fun h=>by cases h)
theorem j8g:tt 48=some ⟨.strct true [(0,3),(1,3)],2,16,[(.int .i64 0),(.int .i64 0)]⟩:=rfl
theorem j0l:aj Tryz.prog 49 j22:=ak (z:= .agg #[(.int .i64 0),(.int .i64 0)]) (by kernel_rfl) Tryz.underlying49 rfl rfl (by exact fun _=>⟨by kernel_rfl,by kernel_rfl,by kernel_rfl⟩) (fun h=>by cases h)
theorem j8h:tt 49=some ⟨.strct true [(0,3),(1,3)],2,16,[(.int .i64 0),(.int .i64 0)]⟩:=rfl
theorem j0m:aj Tryz.prog 50 j24:=ak (z:= .agg #[(.int .i64 0),(.slice none 0 0),(.slice none 0 0),(.slice none 0 0),(.int .i64 0),(.int .i64 0)]) (by kernel_rfl) Tryz.underlying50 rfl rfl (by intro h;cases h) (fun h=>by cases h)
theorem j8i:tt 50=some ⟨.strct false [(0,3),(1,30),(2,30),(3,30),(4,49)],6,96,[(.int .i64 0),(.slice none 0 0),(.slice none 0 0),(.slice none 0 0),(.int .i64 0),(.int .i64 0)]⟩:=rfl
theorem j0n:aj Tryz.prog 51 j25:=ak (z:= .agg #[(.int .i64 0),(.slice none 0 0),(.slice none 0 0),(.slice none 0 0),(.int .i64 0),(.int .i64 0)]) (by kernel_rfl) Tryz.underlying51 rfl rfl (by intro h;cases h) (fun h=>by cases h)
theorem j8j:tt 51=some ⟨.strct false [(0,3),(1,30),(2,30),(3,30),(4,49)],6,96,[(.int .i64 0),(.slice none 0 0),(.slice none 0 0),(.slice none 0 0),(.int .i64 0),(.int .i64 0)]⟩:=rfl
theorem j0o:aj Tryz.prog 53 j26:=ak (z:= .nilFunc) (by kernel_rfl) Tryz.underlying53 rfl rfl (by intro h;cases h) (fun h=>by cases h)
theorem j8k:tt 53=some ⟨.other,1,8,[.nilFunc]⟩:=rfl
theorem j0p:aj Tryz.prog 54 j27:=ak (z:= .nilFunc) (by kernel_rfl) Tryz.underlying54 rfl rfl (by intro h;cases h) (fun h=>by cases h)
theorem j8l:tt 54=some ⟨.other,1,8,[.nilFunc]⟩:=rfl
theorem j0q:aj Tryz.prog 55 j28:=ak (z:= .nilFunc) (by kernel_rfl) Tryz.underlying55 rfl rfl (by intro h;cases h) (fun h=>by cases h)
theorem j8m:tt 55=some ⟨.other,1,8,[.nilFunc]⟩:=rfl
theorem j0r:aj Tryz.prog 56 j29:=ak (z:= .nilFunc) (by kernel_rfl) Tryz.underlying56 rfl rfl (by intro h;cases h) (fun h=>by cases h)
theorem j8n:tt 56=some ⟨.other,1,8,[.nilFunc]⟩:=rfl
theorem j0s:aj Tryz.prog 58 j3a:=ak (z:= .nilFunc) (by kernel_rfl) Tryz.underlying58 rfl rfl (by intro h;cases h) (fun h=>by cases h)
theorem j8o:tt 58=some ⟨.other,1,8,[.nilFunc]⟩:=rfl
theorem j0t:aj Tryz.prog 59 j3b:=ak (z:= .nilFunc) (by kernel_rfl) Tryz.underlying59 rfl rfl (by intro h;cases h) (fun h=>by cases h)
theorem j8p:tt 59=some ⟨.other,1,8,[.nilFunc]⟩:=rfl
theorem j0u:aj Tryz.prog 60 j3c:=ak (z:= .nilFunc) (by kernel_rfl) Tryz.underlying60 rfl rfl (by intro h;cases h) (fun h=>by cases h)
theorem j8q:tt 60=some ⟨.other,1,8,[.nilFunc]⟩:=rfl
theorem j0v:aj Tryz.prog 61 j3d:=ak (z:= .nilFunc) (by kernel_rfl) Tryz.underlying61 rfl rfl (by intro h;cases h) (fun h=>by cases h)
theorem j8r:tt 61=some ⟨.other,1,8,[.nilFunc]⟩:=rfl
theorem j0w:aj Tryz.prog 63 j3e:=ak (z:= .nilFunc) (by kernel_rfl) Tryz.underlying63 rfl rfl (by intro h;cases h) (fun h=>by cases h)
theorem j8s:tt 63=some ⟨.other,1,8,[.nilFunc]⟩:=rfl
theorem j0x:aj Tryz.prog 64 j3f:=ak (z:= .agg #[(.int .i64 0),(.int .i64 0),(.int .i64 0),(.int .i64 0),(.int .i64 0),(.int .i64 0)]) (by kernel_rfl) Tryz.underlying64 rfl rfl (by intro h;cases h) (fun h=>by cases h)
theorem j8t:tt 64=some ⟨.strct false [(0,49),(2,49),(4,3),(5,3)],6,48,[(.int .i64 0),(.int .i64 0),(.int .i64 0),(.int .i64 0),(.int .i64 0),(.int .i64 0)]⟩:=rfl
theorem j0y:aj Tryz.prog 65 j3g:=ak (z:= .agg #[(.int .i64 0),(.int .i64 0),(.int .i64 0),(.int .i64 0),(.int .i64 0),(.int .i64 0)]) (by kernel_rfl) Tryz.underlying65 rfl rfl (by intro h;cases h) (fun h=>by cases h)
theorem j8u:tt 65=some ⟨.strct false [(0,49),(2,49),(4,3),(5,3)],6,48,[(.int .i64 0),(.int .i64 0),(.int .i64 0),(.int .i64 0),(.int .i64 0),(.int .i64 0)]⟩:=rfl
theorem j0z:aj Tryz.prog 66 j3h:=ak (z:=(.slice none 0 0)) (by kernel_rfl) Tryz.underlying66 rfl rfl (by intro h;cases h) (fun _=>rfl)
theorem j8v:tt 66=some ⟨.slice 70,1,24,[(.slice none 0 0)]⟩:=rfl
theorem j00:aj Tryz.prog 68 j3i:=ak (z:= .nilFunc) (by kernel_rfl) Tryz.underlying68 rfl rfl (by intro h;cases h) (fun h=>by cases h)
theorem j8w:tt 68=some ⟨.other,1,8,[.nilFunc]⟩:=rfl
theorem j01:aj Tryz.prog 69 j3j:=ak (z:= .agg #[(.int .i64 0),(.int .i64 0),(.int .i64 0),(.int .i64 0)]) (by kernel_rfl) Tryz.underlying69 rfl rfl (by exact fun _=>⟨by kernel_rfl,by kernel_rfl,by kernel_rfl⟩) (fun h=>by cases h)
theorem j8x:tt 69=some ⟨.strct true [(0,3),(1,3),(2,3),(3,3)],4,32,[(.int .i64 0),(.int .i64 0),(.int .i64 0),(.int .i64 0)]⟩:=rfl
theorem j02:aj Tryz.prog 70 j3k:=ak (z:= .agg #[(.int .i64 0),(.int .i64 0),(.int .i64 0),(.int .i64 0)]) (by kernel_rfl) Tryz.underlying70 rfl rfl (by exact fun _=>⟨by kernel_rfl,by kernel_rfl,by kernel_rfl⟩) (fun h=>by cases h)
theorem j8y:tt 70=some ⟨.strct true [(0,3),(1,3),(2,3),(3,3)],4,32,[(.int .i64 0),(.int .i64 0),(.int .i64 0),(.int .i64 0)]⟩:=rfl
theorem j03:aj Tryz.prog 71 j3l:=ak (z:= .agg #[(.slice none 0 0),(.int .i64 0),(.int .i64 0)]) (by kernel_rfl) Tryz.underlying71 rfl rfl (by intro h;cases h) (fun h=>by cases h)
theorem j8z:tt 71=some ⟨.strct false [(0,22),(1,3),(2,3)],3,40,[(.slice none 0 0),(.int .i64 0),(.int .i64 0)]⟩:=rfl
theorem j04:aj Tryz.prog 72 j3m:=ak (z:= .agg #[(.slice none 0 0),(.int .i64 0),(.int .i64 0)]) (by kernel_rfl) Tryz.underlying72 rfl rfl (by intro h;cases h) (fun h=>by cases h)
theorem j80:tt 72=some ⟨.strct false [(0,22),(1,3),(2,3)],3,40,[(.slice none 0 0),(.int .i64 0),(.int .i64 0)]⟩:=rfl
theorem j05:aj Tryz.prog 73 j3n:=ak (z:= .nilFunc) (by kernel_rfl) Tryz.underlying73 rfl rfl (by intro h;cases h) (fun h=>by cases h)
theorem j81:tt 73=some ⟨.other,1,8,[.nilFunc]⟩:=rfl
theorem j06:aj Tryz.prog 74 j3o:=ak (z:= .nilFunc) (by kernel_rfl) Tryz.underlying74 rfl rfl (by intro h;cases h) (fun h=>by cases h)
theorem j82:tt 74=some ⟨.other,1,8,[.nilFunc]⟩:=rfl
theorem j07:aj Tryz.prog 75 j3p:=ak (z:=(.pointer none)) (by kernel_rfl) Tryz.underlying75 rfl rfl (by intro h;cases h) (fun h=>by cases h)
theorem j83:tt 75=some ⟨.other,1,8,[(.pointer none)]⟩:=rfl
theorem j08:aj Tryz.prog 76 j3q:=ak (z:= .agg #[(.slice none 0 0),(.slice none 0 0),(.slice none 0 0),(.int .i64 0)]) (by kernel_rfl) Tryz.underlying76 rfl rfl (by intro h;cases h) (fun h=>by cases h)
theorem j84:tt 76=some ⟨.strct false [(0,22),(1,23),(2,22),(3,3)],4,80,[(.slice none 0 0),(.slice none 0 0),(.slice none 0 0),(.int .i64 0)]⟩:=rfl
theorem j09:aj Tryz.prog 77 j3r:=ak (z:= .agg #[(.slice none 0 0),(.slice none 0 0),(.slice none 0 0),(.int .i64 0)]) (by kernel_rfl) Tryz.underlying77 rfl rfl (by intro h;cases h) (fun h=>by cases h)
theorem j85:tt 77=some ⟨.strct false [(0,22),(1,23),(2,22),(3,3)],4,80,[(.slice none 0 0),(.slice none 0 0),(.slice none 0 0),(.int .i64 0)]⟩:=rfl
theorem j1a:aj Tryz.prog 78 j3s:=ak (z:= .nilFunc) (by kernel_rfl) Tryz.underlying78 rfl rfl (by intro h;cases h) (fun h=>by cases h)
theorem j86:tt 78=some ⟨.other,1,8,[.nilFunc]⟩:=rfl
theorem j1b:aj Tryz.prog 79 j3t:=ak (z:=(.pointer none)) (by kernel_rfl) Tryz.underlying79 rfl rfl (by intro h;cases h) (fun h=>by cases h)
theorem j87:tt 79=some ⟨.other,1,8,[(.pointer none)]⟩:=rfl
theorem j1c:aj Tryz.prog 80 j3u:=ak (z:= .agg #[(.slice none 0 0),(.slice none 0 0),(.int .i64 0),(.int .i64 0)]) (by kernel_rfl) Tryz.underlying80 rfl rfl (by intro h;cases h) (fun h=>by cases h)
theorem j88:tt 80=some ⟨.strct false [(0,22),(1,23),(2,3),(3,3)],4,64,[(.slice none 0 0),(.slice none 0 0),(.int .i64 0),(.int .i64 0)]⟩:=rfl
theorem j1d:aj Tryz.prog 81 j3v:=ak (z:= .agg #[(.slice none 0 0),(.slice none 0 0),(.int .i64 0),(.int .i64 0)]) (by kernel_rfl) Tryz.underlying81 rfl rfl (by intro h;cases h) (fun h=>by cases h)
theorem j89:tt 81=some ⟨.strct false [(0,22),(1,23),(2,3),(3,3)],4,64,[(.slice none 0 0),(.slice none 0 0),(.int .i64 0),(.int .i64 0)]⟩:=rfl
theorem j1e:aj Tryz.prog 83 j3w:=ak (z:= .nilFunc) (by kernel_rfl) Tryz.underlying83 rfl rfl (by intro h;cases h) (fun h=>by cases h)
theorem j9a:tt 83=some ⟨.other,1,8,[.nilFunc]⟩:=rfl
theorem j1f:aj Tryz.prog 84 j3x:=ak (z:= .agg #[(.slice none 0 0),(.slice none 0 0)]) (by kernel_rfl) Tryz.underlying84 rfl rfl (by intro h;cases h) (fun h=>by cases h)
theorem j9b:tt 84=some ⟨.strct false [(0,22),(1,22)],2,48,[(.slice none 0 0),(.slice none 0 0)]⟩:=rfl
theorem j1g:aj Tryz.prog 85 j3y:=ak (z:= .agg #[(.slice none 0 0),(.slice none 0 0)]) (by kernel_rfl) Tryz.underlying85 rfl rfl (by intro h;cases h) (fun h=>by cases h)
theorem j9c:tt 85=some ⟨.strct false [(0,22),(1,22)],2,48,[(.slice none 0 0),(.slice none 0 0)]⟩:=rfl
theorem j1h:aj Tryz.prog 86 j3z:=ak (z:= .nilFunc) (by kernel_rfl) Tryz.underlying86 rfl rfl (by intro h;cases h) (fun h=>by cases h)
theorem j9d:tt 86=some ⟨.other,1,8,[.nilFunc]⟩:=rfl
theorem j1i:aj Tryz.prog 87 j30:=ak (z:= .nilFunc) (by kernel_rfl) Tryz.underlying87 rfl rfl (by intro h;cases h) (fun h=>by cases h)
theorem j9e:tt 87=some ⟨.other,1,8,[.nilFunc]⟩:=rfl
theorem j1j:aj Tryz.prog 89 j31:=ak (z:= .nilFunc) (by kernel_rfl) Tryz.underlying89 rfl rfl (by intro h;cases h) (fun h=>by cases h)
theorem j9f:tt 89=some ⟨.other,1,8,[.nilFunc]⟩:=rfl
theorem j1k:aj Tryz.prog 90 j32:=ak (z:= .nilFunc) (by kernel_rfl) Tryz.underlying90 rfl rfl (by intro h;cases h) (fun h=>by cases h)
theorem j9g:tt 90=some ⟨.other,1,8,[.nilFunc]⟩:=rfl
theorem j1l:aj Tryz.prog 92 j33:=ak (z:= .nilFunc) (by kernel_rfl) Tryz.underlying92 rfl rfl (by intro h;cases h) (fun h=>by cases h)
theorem j9h:tt 92=some ⟨.other,1,8,[.nilFunc]⟩:=rfl
theorem j1m:aj Tryz.prog 93 j34:=ak (z:= .nilFunc) (by kernel_rfl) Tryz.underlying93 rfl rfl (by intro h;cases h) (fun h=>by cases h)
theorem j9i:tt 93=some ⟨.other,1,8,[.nilFunc]⟩:=rfl
theorem j1n:aj Tryz.prog 94 j35:=ak (z:= .nilFunc) (by kernel_rfl) Tryz.underlying94 rfl rfl (by intro h;cases h) (fun h=>by cases h)
theorem j9j:tt 94=some ⟨.other,1,8,[.nilFunc]⟩:=rfl
theorem j1o:aj Tryz.prog 95 j36:=ak (z:= .nilFunc) (by kernel_rfl) Tryz.underlying95 rfl rfl (by intro h;cases h) (fun h=>by cases h)
theorem j9k:tt 95=some ⟨.other,1,8,[.nilFunc]⟩:=rfl
theorem j1p:aj Tryz.prog 97 j37:=ak (z:= .nilFunc) (by kernel_rfl) Tryz.underlying97 rfl rfl (by intro h;cases h) (fun h=>by cases h)
theorem j9l:tt 97=some ⟨.other,1,8,[.nilFunc]⟩:=rfl
theorem j1q:aj Tryz.prog 98 j38:=ak (z:= .nilFunc) (by kernel_rfl) Tryz.underlying98 rfl rfl (by intro h;cases h) (fun h=>by cases h)
theorem j9m:tt 98=some ⟨.other,1,8,[.nilFunc]⟩:=rfl
theorem j1r:aj Tryz.prog 99 j39:=ak (z:= .nilFunc) (by kernel_rfl) Tryz.underlying99 rfl rfl (by intro h;cases h) (fun h=>by cases h)
theorem j9n:tt 99=some ⟨.other,1,8,[.nilFunc]⟩:=rfl
theorem jvu:aj Tryz.prog 100 js3:=ak (z:= .nilFunc) (by kernel_rfl) Tryz.underlying100 rfl rfl (by intro h;cases h) (fun h=>by cases h)
theorem j4b:tt 100=some ⟨.other,1,8,[.nilFunc]⟩:=rfl
theorem jvv:aj Tryz.prog 101 js4:=ak (z:= .nilFunc) (by kernel_rfl) Tryz.underlying101 rfl rfl (by intro h;cases h) (fun h=>by cases h)
theorem j4c:tt 101=some ⟨.other,1,8,[.nilFunc]⟩:=rfl
theorem jvw:aj Tryz.prog 103 js5:=ak (z:= .nilFunc) (by kernel_rfl) Tryz.underlying103 rfl rfl (by intro h;cases h) (fun h=>by cases h)
theorem j4d:tt 103=some ⟨.other,1,8,[.nilFunc]⟩:=rfl
theorem jvx:aj Tryz.prog 104 js6:=ak (z:= .nilFunc) (by kernel_rfl) Tryz.underlying104 rfl rfl (by intro h;cases h) (fun h=>by cases h)
theorem j4e:tt 104=some ⟨.other,1,8,[.nilFunc]⟩:=rfl
theorem jvy:aj Tryz.prog 105 js7:=ak (z:=(.pointer none)) (by kernel_rfl) Tryz.underlying105 rfl rfl (by intro h;cases h) (fun h=>by cases h)
theorem j4f:tt 105=some ⟨.other,1,8,[(.pointer none)]⟩:=rfl
theorem jvz:aj Tryz.prog 106 js8:=ak (z:= .agg #[(.int .i64 0)]) (by kernel_rfl) Tryz.underlying106 rfl rfl (by exact fun _=>⟨by kernel_rfl,by kernel_rfl,by kernel_rfl⟩) (fun h=>by cases h)
theorem j4g:tt 106=some ⟨.strct true [(0,33)],1,8,[(.int .i64 0)]⟩:=rfl
theorem jv0:aj Tryz.prog 107 js9:=ak (z:= .agg #[(.int .i64 0)]) (by kernel_rfl) Tryz.underlying107 rfl rfl (by exact fun _=>⟨by kernel_rfl,by kernel_rfl,by kernel_rfl⟩) (fun h=>by cases h)
theorem j4h:tt 107=some ⟨.strct true [(0,33)],1,8,[(.int .i64 0)]⟩:=rfl
theorem jv1:aj Tryz.prog 109 jta:=ak (z:= .nilFunc) (by kernel_rfl) Tryz.underlying109 rfl rfl (by intro h;cases h) (fun h=>by cases h)
theorem j4i:tt 109=some ⟨.other,1,8,[.nilFunc]⟩:=rfl
theorem jv2:aj Tryz.prog 110 jtb:=ak (z:= .nilFunc) (by kernel_rfl) Tryz.underlying110 rfl rfl (by intro h;cases h) (fun h=>by cases h)
theorem j4j:tt 110=some ⟨.other,1,8,[.nilFunc]⟩:=rfl
theorem jv3:aj Tryz.prog 111 jtc:=ak (z:= .nilFunc) (by kernel_rfl) Tryz.underlying111 rfl rfl (by intro h;cases h) (fun h=>by cases h)
theorem j4k:tt 111=some ⟨.other,1,8,[.nilFunc]⟩:=rfl
theorem jv4:aj Tryz.prog 112 jtd:=ak (z:= .nilFunc) (by kernel_rfl) Tryz.underlying112 rfl rfl (by intro h;cases h) (fun h=>by cases h)
theorem j4l:tt 112=some ⟨.other,1,8,[.nilFunc]⟩:=rfl
theorem jv5:aj Tryz.prog 113 jte:=ak (z:= .nilFunc) (by kernel_rfl) Tryz.underlying113 rfl rfl (by intro h;cases h) (fun h=>by cases h)
theorem j4m:tt 113=some ⟨.other,1,8,[.nilFunc]⟩:=rfl
theorem jv6:aj Tryz.prog 114 jtf:=ak (z:= .nilFunc) (by kernel_rfl) Tryz.underlying114 rfl rfl (by intro h;cases h) (fun h=>by cases h)
theorem j4n:tt 114=some ⟨.other,1,8,[.nilFunc]⟩:=rfl
theorem jv7:aj Tryz.prog 115 jtg:=ak (z:= .nilFunc) (by kernel_rfl) Tryz.underlying115 rfl rfl (by intro h;cases h) (fun h=>by cases h)
theorem j4o:tt 115=some ⟨.other,1,8,[.nilFunc]⟩:=rfl
theorem jv8:aj Tryz.prog 117 jth:=ak (z:= .nilFunc) (by kernel_rfl) Tryz.underlying117 rfl rfl (by intro h;cases h) (fun h=>by cases h)
theorem j4p:tt 117=some ⟨.other,1,8,[.nilFunc]⟩:=rfl
theorem jv9:aj Tryz.prog 118 jti:=ak (z:= .nilFunc) (by kernel_rfl) Tryz.underlying118 rfl rfl (by intro h;cases h) (fun h=>by cases h)
theorem j4q:tt 118=some ⟨.other,1,8,[.nilFunc]⟩:=rfl
theorem jwa:aj Tryz.prog 119 jtj:=ak (z:= .nilFunc) (by kernel_rfl) Tryz.underlying119 rfl rfl (by intro h;cases h) (fun h=>by cases h)
theorem j4r:tt 119=some ⟨.other,1,8,[.nilFunc]⟩:=rfl
theorem jwb:aj Tryz.prog 121 jtk:=ak (z:= .nilFunc) (by kernel_rfl) Tryz.underlying121 rfl rfl (by intro h;cases h) (fun h=>by cases h)
theorem j4s:tt 121=some ⟨.other,1,8,[.nilFunc]⟩:=rfl
theorem jwc:aj Tryz.prog 122 jtl:=ak (z:= .nilFunc) (by kernel_rfl) Tryz.underlying122 rfl rfl (by intro h;cases h) (fun h=>by cases h)
theorem j4t:tt 122=some ⟨.other,1,8,[.nilFunc]⟩:=rfl
theorem jwd:aj Tryz.prog 123 jtm:=ak (z:= .nilFunc) (by kernel_rfl) Tryz.underlying123 rfl rfl (by intro h;cases h) (fun h=>by cases h)
theorem j4u:tt 123=some ⟨.other,1,8,[.nilFunc]⟩:=rfl
theorem jwe:aj Tryz.prog 124 jtn:=ak (z:= .nilFunc) (by kernel_rfl) Tryz.underlying124 rfl rfl (by intro h;cases h) (fun h=>by cases h)
theorem j4v:tt 124=some ⟨.other,1,8,[.nilFunc]⟩:=rfl
theorem jwf:aj Tryz.prog 125 jto:=ak (z:=(.pointer none)) (by kernel_rfl) Tryz.underlying125 rfl rfl (by intro h;cases h) (fun h=>by cases h)
theorem j4w:tt 125=some ⟨.other,1,8,[(.pointer none)]⟩:=rfl
theorem jwg:aj Tryz.prog 126 jtp:=ak (z:=(.slice none 0 0)) (by kernel_rfl) Tryz.underlying126 rfl rfl (by intro h;cases h) (fun _=>rfl)
theorem j4x:tt 126=some ⟨.slice 4,1,24,[(.slice none 0 0)]⟩:=rfl
theorem jwh:aj Tryz.prog 128 jtq:=ak (z:= .nilFunc) (by kernel_rfl) Tryz.underlying128 rfl rfl (by intro h;cases h) (fun h=>by cases h)
theorem j4y:tt 128=some ⟨.other,1,8,[.nilFunc]⟩:=rfl
theorem jwi:aj Tryz.prog 129 jtr:=ak (z:= .nilFunc) (by kernel_rfl) Tryz.underlying129 rfl rfl (by intro h;cases h) (fun h=>by cases h)
theorem j4z:tt 129=some ⟨.other,1,8,[.nilFunc]⟩:=rfl
theorem jwj:aj Tryz.prog 130 jts:=ak (z:= .nilFunc) (by kernel_rfl) Tryz.underlying130 rfl rfl (by intro h;cases h) (fun h=>by cases h)
theorem j40:tt 130=some ⟨.other,1,8,[.nilFunc]⟩:=rfl
theorem jwk:aj Tryz.prog 131 jtt:=ak (z:= .nilFunc) (by kernel_rfl) Tryz.underlying131 rfl rfl (by intro h;cases h) (fun h=>by cases h)
theorem j41:tt 131=some ⟨.other,1,8,[.nilFunc]⟩:=rfl
theorem jwl:aj Tryz.prog 132 jtu:=ak (z:= .agg #[(.slice none 0 0),(.slice none 0 0),(.slice none 0 0),(.int .i64 0),(.int .i64 0)]) (by kernel_rfl) Tryz.underlying132 rfl rfl (by intro h;cases h) (fun h=>by cases h)
theorem j42:tt 132=some ⟨.strct false [(0,43),(1,30),(2,22),(3,3),(4,33)],5,88,[(.slice none 0 0),(.slice none 0 0),(.slice none 0 0),(.int .i64 0),(.int .i64 0)]⟩:=rfl
theorem jwm:aj Tryz.prog 133 jtv:=ak (z:= .agg #[(.slice none 0 0),(.slice none 0 0),(.slice none 0 0),(.int .i64 0),(.int .i64 0)]) (by kernel_rfl) Tryz.underlying133 rfl rfl (by intro h;cases h) (fun h=>by cases h)
theorem j43:tt 133=some ⟨.strct false [(0,43),(1,30),(2,22),(3,3),(4,33)],5,88,[(.slice none 0 0),(.slice none 0 0),(.slice none 0 0),(.int .i64 0),(.int .i64 0)]⟩:=rfl
theorem jwn:aj Tryz.prog 134 jtw:=ak (z:= .nilFunc) (by kernel_rfl) Tryz.underlying134 rfl rfl (by intro h;cases h) (fun h=>by cases h)
theorem j44:tt 134=some ⟨.other,1,8,[.nilFunc]⟩:=rfl
theorem jwo:aj Tryz.prog 135 jtx:=ak (z:= .nilFunc) (by kernel_rfl) Tryz.underlying135 rfl rfl (by intro h;cases h) (fun h=>by cases h)
theorem j45:tt 135=some ⟨.other,1,8,[.nilFunc]⟩:=rfl
theorem jwp:aj Tryz.prog 136 jty:=ak (z:= .nilFunc) (by kernel_rfl) Tryz.underlying136 rfl rfl (by intro h;cases h) (fun h=>by cases h)
theorem j46:tt 136=some ⟨.other,1,8,[.nilFunc]⟩:=rfl
theorem jwq:aj Tryz.prog 137 jtz:=ak (z:= .nilFunc) (by kernel_rfl) Tryz.underlying137 rfl rfl (by intro h;cases h) (fun h=>by cases h)
theorem j47:tt 137=some ⟨.other,1,8,[.nilFunc]⟩:=rfl
theorem jwr:aj Tryz.prog 138 jt0:=ak (z:= .nilFunc) (by kernel_rfl) Tryz.underlying138 rfl rfl (by intro h;cases h) (fun h=>by cases h)
theorem j48:tt 138=some ⟨.other,1,8,[.nilFunc]⟩:=rfl
theorem jws:aj Tryz.prog 139 jt1:=ak (z:= .nilFunc) (by kernel_rfl) Tryz.underlying139 rfl rfl (by intro h;cases h) (fun h=>by cases h)
theorem j49:tt 139=some ⟨.other,1,8,[.nilFunc]⟩:=rfl
theorem jwt:aj Tryz.prog 140 jt2:=ak (z:= .nilFunc) (by kernel_rfl) Tryz.underlying140 rfl rfl (by intro h;cases h) (fun h=>by cases h)
theorem j5a:tt 140=some ⟨.other,1,8,[.nilFunc]⟩:=rfl
theorem jwu:aj Tryz.prog 141 jt3:=ak (z:= .nilFunc) (by kernel_rfl) Tryz.underlying141 rfl rfl (by intro h;cases h) (fun h=>by cases h)
theorem j5b:tt 141=some ⟨.other,1,8,[.nilFunc]⟩:=rfl
theorem jwv:aj Tryz.prog 142 jt4:=ak (z:= .nilFunc) (by kernel_rfl) Tryz.underlying142 rfl rfl (by intro h;cases h) (fun h=>by cases h)
theorem j5c:tt 142=some ⟨.other,1,8,[.nilFunc]⟩:=rfl
theorem jww:aj Tryz.prog 143 jt5:=ak (z:= .nilFunc) (by kernel_rfl) Tryz.underlying143 rfl rfl (by intro h;cases h) (fun h=>by cases h)
theorem j5d:tt 143=some ⟨.other,1,8,[.nilFunc]⟩:=rfl
theorem jwx:aj Tryz.prog 145 jt6:=ak (z:= .nilFunc) (by kernel_rfl) Tryz.underlying145 rfl rfl (by intro h;cases h) (fun h=>by cases h)
theorem j5e:tt 145=some ⟨.other,1,8,[.nilFunc]⟩:=rfl
theorem jwy:aj Tryz.prog 146 jt7:=ak (z:= .nilFunc) (by kernel_rfl) Tryz.underlying146 rfl rfl (by intro h;cases h) (fun h=>by cases h)
theorem j5f:tt 146=some ⟨.other,1,8,[.nilFunc]⟩:=rfl
theorem jwz:aj Tryz.prog 148 jt8:=ak (z:= .nilFunc) (by kernel_rfl) Tryz.underlying148 rfl rfl (by intro h;cases h) (fun h=>by cases h)
theorem j5g:tt 148=some ⟨.other,1,8,[.nilFunc]⟩:=rfl
theorem jw0:aj Tryz.prog 149 jt9:=ak (z:= .nilFunc) (by kernel_rfl) Tryz.underlying149 rfl rfl (by intro h;cases h) (fun h=>by cases h)
theorem j5h:tt 149=some ⟨.other,1,8,[.nilFunc]⟩:=rfl
theorem jw1:aj Tryz.prog 150 jua:=ak (z:= .nilFunc) (by kernel_rfl) Tryz.underlying150 rfl rfl (by intro h;cases h) (fun h=>by cases h)
theorem j5i:tt 150=some ⟨.other,1,8,[.nilFunc]⟩:=rfl
theorem jw2:aj Tryz.prog 151 jub:=ak (z:= .nilFunc) (by kernel_rfl) Tryz.underlying151 rfl rfl (by intro h;cases h) (fun h=>by cases h)
theorem j5j:tt 151=some ⟨.other,1,8,[.nilFunc]⟩:=rfl
theorem jw3:aj Tryz.prog 152 juc:=ak (z:= .nilFunc) (by kernel_rfl) Tryz.underlying152 rfl rfl (by intro h;cases h) (fun h=>by cases h)
theorem j5k:tt 152=some ⟨.other,1,8,[.nilFunc]⟩:=rfl
theorem jw4:aj Tryz.prog 153 jud:=ak (z:= .nilFunc) (by kernel_rfl) Tryz.underlying153 rfl rfl (by intro h;cases h) (fun h=>by cases h)
theorem j5l:tt 153=some ⟨.other,1,8,[.nilFunc]⟩:=rfl
theorem jw5:aj Tryz.prog 154 jue:=ak (z:= .nilFunc) (by kernel_rfl) Tryz.underlying154 rfl rfl (by intro h;cases h) (fun h=>by cases h)
theorem j5m:tt 154=some ⟨.other,1,8,[.nilFunc]⟩:=rfl
theorem jw6:aj Tryz.prog 155 juf:=ak (z:= .nilFunc) (by kernel_rfl) Tryz.underlying155 rfl rfl (by intro h;cases h) (fun h=>by cases h)
theorem j5n:tt 155=some ⟨.other,1,8,[.nilFunc]⟩:=rfl
theorem jw7:aj Tryz.prog 156 jug:=ak (z:=(.int .u64 0)) (by kernel_rfl) Tryz.underlying156 rfl rfl (by intro h;cases h) (fun _=>rfl)
theorem j5o:tt 156=some ⟨.int .u64,1,8,[(.int .u64 0)]⟩:=rfl
theorem jw8:aj Tryz.prog 158 juh:=ak (z:= .nilFunc) (by kernel_rfl) Tryz.underlying158 rfl rfl (by intro h;cases h) (fun h=>by cases h)
theorem j5p:tt 158=some ⟨.other,1,8,[.nilFunc]⟩:=rfl
theorem jw9:aj Tryz.prog 159 jui:=ak (z:= .nilFunc) (by kernel_rfl) Tryz.underlying159 rfl rfl (by intro h;cases h) (fun h=>by cases h)
theorem j5q:tt 159=some ⟨.other,1,8,[.nilFunc]⟩:=rfl
theorem jxa:aj Tryz.prog 160 juj:=ak (z:= .nilFunc) (by kernel_rfl) Tryz.underlying160 rfl rfl (by intro h;cases h) (fun h=>by cases h)
theorem j5r:tt 160=some ⟨.other,1,8,[.nilFunc]⟩:=rfl
theorem jxb:aj Tryz.prog 161 juk:=ak (z:=(.int .u64 0)) (by kernel_rfl) Tryz.underlying161 rfl rfl (by intro h;cases h) (fun _=>rfl)
theorem j5s:tt 161=some ⟨.int .u64,1,8,[(.int .u64 0)]⟩:=rfl
theorem jxc:aj Tryz.prog 162 jul:=ak (z:= .nilFunc) (by kernel_rfl) Tryz.underlying162 rfl rfl (by intro h;cases h) (fun h=>by cases h)
theorem j5t:tt 162=some ⟨.other,1,8,[.nilFunc]⟩:=rfl
theorem jxd:aj Tryz.prog 163 jum:=ak (z:= .nilFunc) (by kernel_rfl) Tryz.underlying163 rfl rfl (by intro h;cases h) (fun h=>by cases h)
theorem j5u:tt 163=some ⟨.other,1,8,[.nilFunc]⟩:=rfl
theorem jxe:aj Tryz.prog 164 jun:=ak (z:= .nilFunc) (by kernel_rfl) Tryz.underlying164 rfl rfl (by intro h;cases h) (fun h=>by cases h)
theorem j5v:tt 164=some ⟨.other,1,8,[.nilFunc]⟩:=rfl
theorem jxf:aj Tryz.prog 165 juo:=ak (z:=(.int .u32 0)) (by kernel_rfl) Tryz.underlying165 rfl rfl (by intro h;cases h) (fun _=>rfl)
theorem j5w:tt 165=some ⟨.int .u32,1,4,[(.int .u32 0)]⟩:=rfl
theorem jxg:aj Tryz.prog 167 jup:=ak (z:= .nilFunc) (by kernel_rfl) Tryz.underlying167 rfl rfl (by intro h;cases h) (fun h=>by cases h)
theorem j5x:tt 167=some ⟨.other,1,8,[.nilFunc]⟩:=rfl
theorem jxh:aj Tryz.prog 169 juq:=ak (z:= .nilFunc) (by kernel_rfl) Tryz.underlying169 rfl rfl (by intro h;cases h) (fun h=>by cases h)
theorem j5y:tt 169=some ⟨.other,1,8,[.nilFunc]⟩:=rfl
theorem jxi:aj Tryz.prog 170 jur:=ak (z:= .nilFunc) (by kernel_rfl) Tryz.underlying170 rfl rfl (by intro h;cases h) (fun h=>by cases h)
theorem j5z:tt 170=some ⟨.other,1,8,[.nilFunc]⟩:=rfl
theorem jxj:aj Tryz.prog 171 jus:=ak (z:= .agg #[(.pointer none),(.pointer none),(.pointer none),(.string ⟨#[]⟩)]) (by kernel_rfl) Tryz.underlying171 rfl rfl (by intro h;cases h) (fun h=>by cases h)
theorem j50:tt 171=some ⟨.strct false [(0,17),(1,17),(2,17),(3,9)],4,40,[(.pointer none),(.pointer none),(.pointer none),(.string ⟨#[]⟩)]⟩:=rfl
theorem jxk:aj Tryz.prog 172 jut:=ak (z:= .agg #[(.pointer none),(.pointer none),(.pointer none),(.string ⟨#[]⟩)]) (by kernel_rfl) Tryz.underlying172 rfl rfl (by intro h;cases h) (fun h=>by cases h)
theorem j51:tt 172=some ⟨.strct false [(0,17),(1,17),(2,17),(3,9)],4,40,[(.pointer none),(.pointer none),(.pointer none),(.string ⟨#[]⟩)]⟩:=rfl
theorem jxl:aj Tryz.prog 173 juu:=ak (z:= .agg #[]) (by kernel_rfl) Tryz.underlying173 rfl rfl (by intro h;cases h) (fun h=>by cases h)
theorem j52:tt 173=some ⟨.arr false 0 16,0,0,[]⟩:=rfl
theorem jxm:aj Tryz.prog 174 juv:=ak (z:= .agg #[]) (by kernel_rfl) Tryz.underlying174 rfl rfl (by intro h;cases h) (fun h=>by cases h)
theorem j53:tt 174=some ⟨.strct false [(0,173)],0,0,[]⟩:=rfl
theorem jxn:aj Tryz.prog 175 juw:=ak (z:= .agg #[]) (by kernel_rfl) Tryz.underlying175 rfl rfl (by intro h;cases h) (fun h=>by cases h)
theorem j54:tt 175=some ⟨.strct false [(0,173)],0,0,[]⟩:=rfl
theorem jxo:aj Tryz.prog 176 jux:=ak (z:= .nilFunc) (by kernel_rfl) Tryz.underlying176 rfl rfl (by intro h;cases h) (fun h=>by cases h)
theorem j55:tt 176=some ⟨.other,1,8,[.nilFunc]⟩:=rfl
theorem jxp:aj Tryz.prog 177 juy:=ak (z:=(.int .u8 0)) (by kernel_rfl) Tryz.underlying177 rfl rfl (by intro h;cases h) (fun _=>rfl)
theorem j56:tt 177=some ⟨.int .u8,1,1,[(.int .u8 0)]⟩:=rfl
theorem jxq:aj Tryz.prog 178 juz:=ak (z:=(.int .u8 0)) (by kernel_rfl) Tryz.underlying178 rfl rfl (by intro h;cases h) (fun _=>rfl)
theorem j57:tt 178=some ⟨.int .u8,1,1,[(.int .u8 0)]⟩:=rfl
theorem jxr:aj Tryz.prog 179 ju0:=ak (z:= .nilFunc) (by kernel_rfl) Tryz.underlying179 rfl rfl (by intro h;cases h) (fun h=>by cases h)
theorem j58:tt 179=some ⟨.other,1,8,[.nilFunc]⟩:=rfl
theorem jxs:aj Tryz.prog 180 ju1:=ak (z:=(.pointer none)) (by kernel_rfl) Tryz.underlying180 rfl rfl (by intro h;cases h) (fun h=>by cases h)
theorem j59:tt 180=some ⟨.other,1,8,[(.pointer none)]⟩:=rfl
theorem jxt:aj Tryz.prog 181 ju2:=ak (z:=(.int .i32 0)) (by kernel_rfl) Tryz.underlying181 rfl rfl (by intro h;cases h) (fun _=>rfl)
theorem j6a:tt 181=some ⟨.int .i32,1,4,[(.int .i32 0)]⟩:=rfl
theorem jxu:aj Tryz.prog 182 ju3:=ak (z:=(.int .i32 0)) (by kernel_rfl) Tryz.underlying182 rfl rfl (by intro h;cases h) (fun _=>rfl)
theorem j6b:tt 182=some ⟨.int .i32,1,4,[(.int .i32 0)]⟩:=rfl
theorem jxv:aj Tryz.prog 183 ju4:=ak (z:= .agg #[(.int .u64 0),(.int .u64 0),(.int .u32 0),(.int .u8 0),(.int .u8 0),(.int .u8 0),(.int .u8 0), .nilFunc,(.pointer none),(.int .i32 0),(.int .i32 0)]) (by kernel_rfl) Tryz.underlying183 rfl rfl (by intro h;cases h) (fun h=>by cases h)
theorem j6c:tt 183=some ⟨.strct false [(0,12),(1,12),(2,165),(3,177),(4,5),(5,5),(6,178),(7,179),(8,180),(9,181),(10,182)],11,48,[(.int .u64 0),(.int .u64 0),(.int .u32 0),(.int .u8 0),(.int .u8 0),(.int .u8 0),(.int .u8 0), .nilFunc,(.pointer none),(.int .i32 0),(.int .i32 0)]⟩:=rfl
theorem jxw:aj Tryz.prog 184 ju5:=ak (z:= .agg #[(.int .u64 0),(.int .u64 0),(.int .u32 0),(.int .u8 0),(.int .u8 0),(.int .u8 0),(.int .u8 0), .nilFunc,(.pointer none),(.int .i32 0),(.int .i32 0)]) (by kernel_rfl) Tryz.underlying184 rfl rfl (by intro h;cases h) (fun h=>by cases h)
theorem j6d:tt 184=some ⟨.strct false [(0,12),(1,12),(2,165),(3,177),(4,5),(5,5),(6,178),(7,179),(8,180),(9,181),(10,182)],11,48,[(.int .u64 0),(.int .u64 0),(.int .u32 0),(.int .u8 0),(.int .u8 0),(.int .u8 0),(.int .u8 0), .nilFunc,(.pointer none),(.int .i32 0),(.int .i32 0)]⟩:=rfl
theorem jxx:aj Tryz.prog 185 ju6:=ak (z:=(.pointer none)) (by kernel_rfl) Tryz.underlying185 rfl rfl (by intro h;cases h) (fun h=>by cases h)
theorem j6e:tt 185=some ⟨.other,1,8,[(.pointer none)]⟩:=rfl
set_option maxRecDepth 100000 in
theorem fits:ec Tryz.prog tt:=by
 intro t x h;unfold tt at h;split at h
 ·cases h;exact j60
 ·cases h;exact j61
 ·cases h;exact j62
 ·cases h;exact j63
 ·cases h;exact j64
 ·cases h;exact j65
 ·cases h;exact j66
 ·cases h;exact j67
 ·cases h;exact j68
 ·cases h;exact jzm
 ·cases h;exact jzn
 ·cases h;exact jzo
 ·cases h;exact jzp
 ·cases h;exact jzq
 ·cases h;exact jzr
 ·cases h;exact jzs
 ·cases h;exact jzt
 ·cases h;exact jzu
 ·cases h;exact jzv
 ·cases h;exact jzw
 ·cases h;exact jzx
 ·cases h;exact jzy
 ·cases h;exact jzz
 ·cases h;exact jz0
 ·cases h;exact jz1
 ·cases h;exact jz2
 ·cases h;exact jz3
 ·cases h;exact jz4
 ·cases h;exact jz5
 ·cases h;exact jz6
 ·cases h;exact jz7
 ·cases h;exact jz8
 ·cases h;exact jz9
 ·cases h;exact j0a
 ·cases h;exact j0b
 ·cases h;exact j0c
 ·cases h;exact j0d
 ·cases h;exact j0e
 ·cases h;exact j0f
 ·cases h;exact j0g
 ·cases h;exact j0h
 ·cases h;exact j0i
 ·cases h;exact j0j
 ·cases h;exact j0k
 ·cases h;exact j0l
 ·cases h;exact j0m
 ·cases h;exact j0n
 ·cases h;exact j0o
 ·cases h;exact j0p
 ·cases h;exact j0q
 ·cases h;exact j0r
 ·cases h;exact j0s
 ·cases h;exact j0t
 ·cases h;exact j0u
 ·cases h;exact j0v
 ·cases h;exact j0w
 ·cases h;exact j0x
 ·cases h;exact j0y
 ·cases h;exact j0z
 ·cases h;exact j00
 ·cases h;exact j01
 ·cases h;exact j02
 ·cases h;exact j03
 ·cases h;exact j04
 ·cases h;exact j05
 ·cases h;exact j06
 ·cases h;exact j07
 ·cases h;exact j08
 ·cases h;exact j09
 ·cases h;exact j1a
 ·cases h;exact j1b
 ·cases h;exact j1c
 ·cases h;exact j1d
 ·cases h;exact j1e
 ·cases h;exact j1f
 ·cases h;exact j1g
 ·cases h;exact j1h
 ·cases h;exact j1i
 ·cases h;exact j1j
 ·cases h;exact j1k
 ·cases h;exact j1l
 ·cases h;exact j1m
 ·cases h;exact j1n
 ·cases h;exact j1o
 ·cases h;exact j1p
 ·cases h;exact j1q
 ·cases h;exact j1r
 ·cases h;exact jvu
 ·cases h;exact jvv
 ·cases h;exact jvw
 ·cases h;exact jvx
 ·cases h;exact jvy
 ·cases h;exact jvz
 ·cases h;exact jv0
 ·cases h;exact jv1
 ·cases h;exact jv2
 ·cases h;exact jv3
 ·cases h;exact jv4
 ·cases h;exact jv5
 ·cases h;exact jv6
 ·cases h;exact jv7
 ·cases h;exact jv8
 ·cases h;exact jv9
 ·cases h;exact jwa
 ·cases h;exact jwb
 ·cases h;exact jwc
 ·cases h;exact jwd
 ·cases h;exact jwe
 ·cases h;exact jwf
 ·cases h;exact jwg
 ·cases h;exact jwh
 ·cases h;exact jwi
 ·cases h;exact jwj
 ·cases h;exact jwk
 ·cases h;exact jwl
 ·cases h;exact jwm
 ·cases h;exact jwn
 ·cases h;exact jwo
 ·cases h;exact jwp
 ·cases h;exact jwq
 ·cases h;exact jwr
 ·cases h;exact jws
 ·cases h;exact jwt
 ·cases h;exact jwu
 ·cases h;exact jwv
 ·cases h;exact jww
 ·cases h;exact jwx
 ·cases h;exact jwy
 ·cases h;exact jwz
 ·cases h;exact jw0
 ·cases h;exact jw1
 ·cases h;exact jw2
 ·cases h;exact jw3
 ·cases h;exact jw4
 ·cases h;exact jw5
 ·cases h;exact jw6
 ·cases h;exact jw7
 ·cases h;exact jw8
 ·cases h;exact jw9
 ·cases h;exact jxa
 ·cases h;exact jxb
 ·cases h;exact jxc
 ·cases h;exact jxd
 ·cases h;exact jxe
 ·cases h;exact jxf
 ·cases h;exact jxg
 ·cases h;exact jxh
 ·cases h;exact jxi
 ·cases h;exact jxj
 ·cases h;exact jxk
 ·cases h;exact jxl
 ·cases h;exact jxm
 ·cases h;exact jxn
 ·cases h;exact jxo
 ·cases h;exact jxp
 ·cases h;exact jxq
 ·cases h;exact jxr
 ·cases h;exact jxs
 ·cases h;exact jxt
 ·cases h;exact jxu
 ·cases h;exact jxv
 ·cases h;exact jxw
 ·cases h;exact jxx
 ·cases h
theorem az:Tryz.prog.follows .mixedOrders=true:=rfl
attribute [go_sem] tt1 tt2 tt3 tt4 tt5 tt6 tt7 tt8 tt9 j7i j7j j7k j7l j7m j7n j7o j7p j7q j7r j7s j7t j7u j7v j7w j7x j7y j7z j70 j71 j72 j73 j74 j75 j76 j77 j78 j79 j8a j8b j8c j8d j8e j8f j8g j8h j8i j8j j8k j8l j8m j8n j8o j8p j8q j8r j8s j8t j8u j8v j8w j8x j8y j8z j80 j81 j82 j83 j84 j85 j86 j87 j88 j89 j9a j9b j9c j9d j9e j9f j9g j9h j9i j9j j9k j9l j9m j9n j4b j4c j4d j4e j4f j4g j4h j4i j4j j4k j4l j4m j4n j4o j4p j4q j4r j4s j4t j4u j4v j4w j4x j4y j4z j40 j41 j42 j43 j44 j45 j46 j47 j48 j49 j5a j5b j5c j5d j5e j5f j5g j5h j5i j5j j5k j5l j5m j5n j5o j5p j5q j5r j5s j5t j5u j5v j5w j5x j5y j5z j50 j51 j52 j53 j54 j55 j56 j57 j58 j59 j6a j6b j6c j6d j6e
end Go.Proofs.YteljgpepodpebaaGreat
