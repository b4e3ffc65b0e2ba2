/-
  The types of this seat's program: a row a type (its kind, cells, bytes, the cells of its zero value), and that each row is the program's own. Made by program out of the translation.
-/
import Derived.Test.YtdhfhpdadbopkaaGreatZ3KE
import Derived.Test.YtdhfhpdadbopkaaGreatProg
import Derived.KernelRfl
set_option linter.all false
namespace Go.Proofs.YtdhfhpdadbopkaaGreat
open Go.K Go.M
theorem am{P:Program}{t:TypeId}{k:TK}{sz by_:Nat}{zs:List Value}{z:Value}{d:TypeDesc}(h1:(P.info? t).map (fun i=>(i.zero,i.size,i.bytes))=some (some z,sz,by_))(h2:P.underlying t=some d)(h3:TK.of d=k.plain)(h4:z.cells.toList=zs)(h5:k.cmp=true→Cmp P t)(h6:k.one=true→zs=[z]):al P t ⟨k,sz,by_,zs⟩:=by
 cases hi:P.info? t with
 |none=>simp[hi]at h1
 |some i=>
  simp only[hi,Option.map_some,Option.some.injEq,Prod.mk.injEq]at h1;exact⟨⟨i,d,z,hi,h2,h3,h1.2.1,h1.2.2,h1.1,h4⟩,h5,fun e=>⟨i,z,hi,h1.1,h6 e⟩⟩
def ti1:TI:=⟨.other,1,8,[.nilFunc]⟩
def ti2:TI:=⟨.int .i64,1,8,[(.int .i64 0)]⟩
def ti3:TI:=⟨.int .i64,1,8,[(.int .i64 0)]⟩
def ti4:TI:=⟨.bool,1,1,[(.bool false)]⟩
def ti5:TI:=⟨.int .u8,1,1,[(.int .u8 0)]⟩
def ti6:TI:=⟨.int .u8,1,1,[(.int .u8 0)]⟩
def ti7:TI:=⟨.strct true [(0,2),(1,3),(2,4),(3,6)],4,24,[(.int .i64 0),(.int .i64 0),(.bool false),(.int .u8 0)]⟩
def ti8:TI:=⟨.strct true [(0,2),(1,3),(2,4),(3,6)],4,24,[(.int .i64 0),(.int .i64 0),(.bool false),(.int .u8 0)]⟩
def ti9:TI:=⟨.str,1,16,[(.string ⟨#[]⟩)]⟩
def js2:TI:=⟨.str,1,16,[(.string ⟨#[]⟩)]⟩
def js3:TI:=⟨.str,1,16,[(.string ⟨#[]⟩)]⟩
def js4:TI:=⟨.int .u64,1,8,[(.int .u64 0)]⟩
def js5:TI:=⟨.strct false [(0,9),(1,12)],2,24,[(.string ⟨#[]⟩),(.int .u64 0)]⟩
def js6:TI:=⟨.strct false [(0,9),(1,12)],2,24,[(.string ⟨#[]⟩),(.int .u64 0)]⟩
def js7:TI:=⟨.other,1,8,[(.pointer none)]⟩
def js8:TI:=⟨.other,1,8,[(.pointer none)]⟩
def js9:TI:=⟨.other,1,8,[(.pointer none)]⟩
def jta:TI:=⟨.strct false [(0,17)],1,8,[(.pointer none)]⟩
def jtb:TI:=⟨.strct false [(0,17)],1,8,[(.pointer none)]⟩
def jtc:TI:=⟨.other,1,16,[.nilIface]⟩
def jtd:TI:=⟨.int .i32,1,4,[(.int .i32 0)]⟩
def jte:TI:=⟨.slice 43,1,24,[(.slice none 0 0)]⟩
def jtf:TI:=⟨.strct false [(0,3),(1,22),(2,3),(3,3)],4,48,[(.int .i64 0),(.slice none 0 0),(.int .i64 0),(.int .i64 0)]⟩
def jtg:TI:=⟨.strct false [(0,3),(1,22),(2,3),(3,3)],4,48,[(.int .i64 0),(.slice none 0 0),(.int .i64 0),(.int .i64 0)]⟩
def jth:TI:=⟨.slice 3,1,24,[(.slice none 0 0)]⟩
def jti:TI:=⟨.other,1,8,[.nilFunc]⟩
def jtj:TI:=⟨.other,1,8,[.nilFunc]⟩
def jtk:TI:=⟨.other,1,8,[.nilFunc]⟩
def jtl:TI:=⟨.slice 60,1,24,[(.slice none 0 0)]⟩
def jtm:TI:=⟨.strct false [(0,25),(1,25),(2,29)],3,72,[(.slice none 0 0),(.slice none 0 0),(.slice none 0 0)]⟩
def jtn:TI:=⟨.strct false [(0,25),(1,25),(2,29)],3,72,[(.slice none 0 0),(.slice none 0 0),(.slice none 0 0)]⟩
def jto:TI:=⟨.int .i64,1,8,[(.int .i64 0)]⟩
def jtp:TI:=⟨.other,1,8,[.nilFunc]⟩
def jtq:TI:=⟨.other,1,8,[.nilFunc]⟩
def jtr:TI:=⟨.other,1,8,[.nilFunc]⟩
def jts:TI:=⟨.other,1,8,[.nilFunc]⟩
def jtt:TI:=⟨.other,1,8,[.nilFunc]⟩
def jtu:TI:=⟨.other,1,8,[.nilFunc]⟩
def jtv:TI:=⟨.other,1,8,[.nilFunc]⟩
def jtw:TI:=⟨.strct false [(0,9),(1,25),(2,25)],3,64,[(.string ⟨#[]⟩),(.slice none 0 0),(.slice none 0 0)]⟩
def jtx:TI:=⟨.strct false [(0,9),(1,25),(2,25)],3,64,[(.string ⟨#[]⟩),(.slice none 0 0),(.slice none 0 0)]⟩
def jty:TI:=⟨.other,1,8,[.nilFunc]⟩
def jtz:TI:=⟨.slice 9,1,24,[(.slice none 0 0)]⟩
def jt0:TI:=⟨.other,1,8,[.nilFunc]⟩
def jt1:TI:=⟨.slice 53,1,24,[(.slice none 0 0)]⟩
def jt2:TI:=⟨.other,1,8,[.nilFunc]⟩
def jt3:TI:=⟨.other,1,8,[.nilFunc]⟩
def jt4:TI:=⟨.strct false [(0,3),(1,25),(2,25)],3,56,[(.int .i64 0),(.slice none 0 0),(.slice none 0 0)]⟩
def jt5:TI:=⟨.strct false [(0,3),(1,25),(2,25)],3,56,[(.int .i64 0),(.slice none 0 0),(.slice none 0 0)]⟩
def jt6:TI:=⟨.other,1,8,[.nilFunc]⟩
def jt7:TI:=⟨.slice 25,1,24,[(.slice none 0 0)]⟩
def jt8:TI:=⟨.other,1,8,[.nilFunc]⟩
def jt9:TI:=⟨.other,1,8,[.nilFunc]⟩
def jua:TI:=⟨.other,1,8,[.nilFunc]⟩
def jub:TI:=⟨.arr false 2 25,2,48,[(.slice none 0 0),(.slice none 0 0)]⟩
def juc:TI:=⟨.other,1,8,[.nilFunc]⟩
def jud:TI:=⟨.other,1,8,[.nilFunc]⟩
def jue:TI:=⟨.other,1,8,[.nilFunc]⟩
def juf:TI:=⟨.other,1,8,[.nilFunc]⟩
def jug:TI:=⟨.other,1,8,[.nilFunc]⟩
def juh:TI:=⟨.other,1,8,[.nilFunc]⟩
def jui:TI:=⟨.other,1,8,[.nilFunc]⟩
def juj:TI:=⟨.other,1,8,[.nilFunc]⟩
def juk:TI:=⟨.slice 81,1,24,[(.slice none 0 0)]⟩
def jul:TI:=⟨.other,1,8,[.nilFunc]⟩
def jum:TI:=⟨.other,1,8,[.nilFunc]⟩
def jun:TI:=⟨.other,1,8,[.nilFunc]⟩
def juo:TI:=⟨.other,1,8,[.nilFunc]⟩
def jup:TI:=⟨.slice 79,1,24,[(.slice none 0 0)]⟩
def juq:TI:=⟨.other,1,8,[.nilFunc]⟩
def jur:TI:=⟨.strct false [(0,3),(1,25),(2,25)],3,56,[(.int .i64 0),(.slice none 0 0),(.slice none 0 0)]⟩
def jus:TI:=⟨.strct false [(0,3),(1,25),(2,25)],3,56,[(.int .i64 0),(.slice none 0 0),(.slice none 0 0)]⟩
def jut:TI:=⟨.strct false [(0,25),(1,25)],2,48,[(.slice none 0 0),(.slice none 0 0)]⟩
def juu:TI:=⟨.strct false [(0,25),(1,25)],2,48,[(.slice none 0 0),(.slice none 0 0)]⟩
def juv:TI:=⟨.other,1,8,[.nilFunc]⟩
def juw:TI:=⟨.other,1,8,[.nilFunc]⟩
def jux:TI:=⟨.other,1,8,[.nilFunc]⟩
def juy:TI:=⟨.other,1,8,[.nilFunc]⟩
def juz:TI:=⟨.map 9 4,1,8,[(.map none)]⟩
def ju0:TI:=⟨.slice 91,1,24,[(.slice none 0 0)]⟩
def ju1:TI:=⟨.other,1,8,[.nilFunc]⟩
def ju2:TI:=⟨.strct false [(0,3),(1,25)],2,32,[(.int .i64 0),(.slice none 0 0)]⟩
def ju3:TI:=⟨.strct false [(0,3),(1,25)],2,32,[(.int .i64 0),(.slice none 0 0)]⟩
def ju4:TI:=⟨.other,1,8,[.nilFunc]⟩
def ju5:TI:=⟨.other,1,8,[.nilFunc]⟩
def ju6:TI:=⟨.other,1,8,[.nilFunc]⟩
def ju7:TI:=⟨.other,1,8,[.nilFunc]⟩
def ju8:TI:=⟨.other,1,8,[.nilFunc]⟩
def ju9:TI:=⟨.other,1,8,[.nilFunc]⟩
def jva:TI:=⟨.other,1,8,[.nilFunc]⟩
def jvb:TI:=⟨.other,1,8,[.nilFunc]⟩
def jls:TI:=⟨.other,1,8,[.nilFunc]⟩
def jlt:TI:=⟨.other,1,8,[.nilFunc]⟩
def jlu:TI:=⟨.other,1,8,[.nilFunc]⟩
def jlv:TI:=⟨.other,1,8,[.nilFunc]⟩
def jlw:TI:=⟨.other,1,8,[.nilFunc]⟩
def jlx:TI:=⟨.other,1,8,[.nilFunc]⟩
def jly:TI:=⟨.other,1,8,[.nilFunc]⟩
def jlz:TI:=⟨.other,1,8,[.nilFunc]⟩
def jl0:TI:=⟨.other,1,8,[.nilFunc]⟩
def jl1:TI:=⟨.other,1,8,[.nilFunc]⟩
def jl2:TI:=⟨.other,1,8,[.nilFunc]⟩
def jl3:TI:=⟨.other,1,8,[.nilFunc]⟩
def jl4:TI:=⟨.other,1,8,[(.pointer none)]⟩
def jl5:TI:=⟨.slice 5,1,24,[(.slice none 0 0)]⟩
def jl6:TI:=⟨.strct false [(0,117),(1,118)],2,32,[(.pointer none),(.slice none 0 0)]⟩
def jl7:TI:=⟨.strct false [(0,117),(1,118)],2,32,[(.pointer none),(.slice none 0 0)]⟩
def jl8:TI:=⟨.other,1,16,[.nilIface]⟩
def jl9:TI:=⟨.other,1,16,[.nilIface]⟩
def jma:TI:=⟨.other,1,8,[.nilFunc]⟩
def jmb:TI:=⟨.int .u64,1,8,[(.int .u64 0)]⟩
def jmc:TI:=⟨.other,1,8,[.nilFunc]⟩
def jmd:TI:=⟨.other,1,8,[.nilFunc]⟩
def jme:TI:=⟨.other,1,8,[.nilFunc]⟩
def jmf:TI:=⟨.other,1,8,[.nilFunc]⟩
def jmg:TI:=⟨.other,1,8,[.nilFunc]⟩
def jmh:TI:=⟨.other,1,8,[.nilFunc]⟩
def jmi:TI:=⟨.other,1,8,[.nilFunc]⟩
def jmj:TI:=⟨.slice 4,1,24,[(.slice none 0 0)]⟩
def jmk:TI:=⟨.other,1,8,[.nilFunc]⟩
def jml:TI:=⟨.other,1,8,[.nilFunc]⟩
def jmm:TI:=⟨.other,1,8,[(.pointer none)]⟩
def jmn:TI:=⟨.other,1,8,[.nilFunc]⟩
def jmo:TI:=⟨.other,1,8,[.nilFunc]⟩
def jmp:TI:=⟨.other,1,8,[.nilFunc]⟩
def jmq:TI:=⟨.other,1,8,[.nilFunc]⟩
def jmr:TI:=⟨.other,1,8,[.nilFunc]⟩
def jms:TI:=⟨.other,1,8,[.nilFunc]⟩
def jmt:TI:=⟨.other,1,8,[.nilFunc]⟩
def jmu:TI:=⟨.other,1,8,[.nilFunc]⟩
def jmv:TI:=⟨.other,1,8,[(.pointer none)]⟩
def jmw:TI:=⟨.other,1,8,[.nilFunc]⟩
def jmx:TI:=⟨.other,1,8,[.nilFunc]⟩
def jmy:TI:=⟨.strct false [(0,17),(1,17),(2,17),(3,9)],4,40,[(.pointer none),(.pointer none),(.pointer none),(.string ⟨#[]⟩)]⟩
def jmz:TI:=⟨.strct false [(0,17),(1,17),(2,17),(3,9)],4,40,[(.pointer none),(.pointer none),(.pointer none),(.string ⟨#[]⟩)]⟩
def jm0:TI:=⟨.arr false 0 16,0,0,[]⟩
def jm1:TI:=⟨.strct false [(0,150)],0,0,[]⟩
def jm2:TI:=⟨.strct false [(0,150)],0,0,[]⟩
def jm3:TI:=⟨.other,1,8,[.nilFunc]⟩
def jm4:TI:=⟨.int .u32,1,4,[(.int .u32 0)]⟩
def jm5:TI:=⟨.int .u8,1,1,[(.int .u8 0)]⟩
def jm6:TI:=⟨.int .u8,1,1,[(.int .u8 0)]⟩
def jm7:TI:=⟨.other,1,8,[.nilFunc]⟩
def jm8:TI:=⟨.int .i32,1,4,[(.int .i32 0)]⟩
def jm9:TI:=⟨.int .i32,1,4,[(.int .i32 0)]⟩
def jna:TI:=⟨.strct false [(0,12),(1,12),(2,154),(3,155),(4,5),(5,5),(6,156),(7,157),(8,136),(9,158),(10,159)],11,48,[(.int .u64 0),(.int .u64 0),(.int .u32 0),(.int .u8 0),(.int .u8 0),(.int .u8 0),(.int .u8 0), .nilFunc,(.pointer none),(.int .i32 0),(.int .i32 0)]⟩
def jnb:TI:=⟨.strct false [(0,12),(1,12),(2,154),(3,155),(4,5),(5,5),(6,156),(7,157),(8,136),(9,158),(10,159)],11,48,[(.int .u64 0),(.int .u64 0),(.int .u32 0),(.int .u8 0),(.int .u8 0),(.int .u8 0),(.int .u8 0), .nilFunc,(.pointer none),(.int .i32 0),(.int .i32 0)]⟩
def tt:TT
 |1=>some ti1
 |2=>some ti2
 |3=>some ti3
 |4=>some ti4
 |5=>some ti5
 |6=>some ti6
 |7=>some ti7
 |8=>some ti8
 |9=>some ti9
 |10=>some js2
 |11=>some js3
 |12=>some js4
 |13=>some js5
 |14=>some js6
 |15=>some js7
 |16=>some js8
 |17=>some js9
 |18=>some jta
 |19=>some jtb
 |20=>some jtc
 |21=>some jtd
 |22=>some jte
 |23=>some jtf
 |24=>some jtg
 |25=>some jth
 |26=>some jti
 |27=>some jtj
 |28=>some jtk
 |29=>some jtl
 |30=>some jtm
 |31=>some jtn
 |32=>some jto
 |34=>some jtp
 |35=>some jtq
 |36=>some jtr
 |38=>some jts
 |39=>some jtt
 |40=>some jtu
 |41=>some jtv
 |42=>some jtw
 |43=>some jtx
 |44=>some jty
 |45=>some jtz
 |47=>some jt0
 |48=>some jt1
 |50=>some jt2
 |51=>some jt3
 |52=>some jt4
 |53=>some jt5
 |54=>some jt6
 |55=>some jt7
 |57=>some jt8
 |58=>some jt9
 |59=>some jua
 |60=>some jub
 |61=>some juc
 |62=>some jud
 |63=>some jue
 |65=>some juf
 |66=>some jug
 |67=>some juh
 |68=>some jui
 |69=>some juj
 |70=>some juk
 |71=>some jul
 |72=>some jum
 |73=>some jun
 |74=>some juo
 |75=>some jup
 |77=>some juq
 |78=>some jur
 |79=>some jus
 |80=>some jut
 |81=>some juu
 |82=>some juv
 |83=>some juw
 |85=>some jux
 |86=>some juy
 |87=>some juz
 |88=>some ju0
 |89=>some ju1
 |90=>some ju2
 |91=>some ju3
 |92=>some ju4
 |93=>some ju5
 |94=>some ju6
 |95=>some ju7
 |96=>some ju8
 |97=>some ju9
 |98=>some jva
 |99=>some jvb
 |100=>some jls
 |102=>some jlt
 |104=>some jlu
 |105=>some jlv
 |107=>some jlw
 |109=>some jlx
 |110=>some jly
 |112=>some jlz
 |113=>some jl0
 |114=>some jl1
 |115=>some jl2
 |116=>some jl3
 |117=>some jl4
 |118=>some jl5
 |119=>some jl6
 |120=>some jl7
 |121=>some jl8
 |122=>some jl9
 |123=>some jma
 |124=>some jmb
 |125=>some jmc
 |126=>some jmd
 |127=>some jme
 |128=>some jmf
 |129=>some jmg
 |130=>some jmh
 |131=>some jmi
 |132=>some jmj
 |134=>some jmk
 |135=>some jml
 |136=>some jmm
 |137=>some jmn
 |138=>some jmo
 |139=>some jmp
 |140=>some jmq
 |141=>some jmr
 |142=>some jms
 |143=>some jmt
 |144=>some jmu
 |145=>some jmv
 |146=>some jmw
 |147=>some jmx
 |148=>some jmy
 |149=>some jmz
 |150=>some jm0
 |151=>some jm1
 |152=>some jm2
 |153=>some jm3
 |154=>some jm4
 |155=>some jm5
 |156=>some jm6
 |157=>some jm7
 |158=>some jm8
 |159=>some jm9
 |160=>some jna
 |161=>some jnb
 |_=>none
theorem jxe:al Tryz.prog 1 ti1:=am (z:= .nilFunc) (by kernel_rfl) Tryz.underlying1 rfl rfl (by intro h;cases h) (fun h=>by cases h)
theorem tt1:tt 1=some ⟨.other,1,8,[.nilFunc]⟩:=rfl
theorem jxf:al Tryz.prog 2 ti2:=am (z:=(.int .i64 0)) (by kernel_rfl) Tryz.underlying2 rfl rfl (by intro h;cases h) (fun _=>rfl)
theorem tt2:tt 2=some ⟨.int .i64,1,8,[(.int .i64 0)]⟩:=rfl
theorem jxg:al Tryz.prog 3 ti3:=am (z:=(.int .i64 0)) (by kernel_rfl) Tryz.underlying3 rfl rfl (by intro h;cases h) (fun _=>rfl)
theorem tt3:tt 3=some ⟨.int .i64,1,8,[(.int .i64 0)]⟩:=rfl
theorem jxh:al Tryz.prog 4 ti4:=am (z:=(.bool false)) (by kernel_rfl) Tryz.underlying4 rfl rfl (by intro h;cases h) (fun _=>rfl)
theorem tt4:tt 4=some ⟨.bool,1,1,[(.bool false)]⟩:=rfl
theorem jxi:al Tryz.prog 5 ti5:=am (z:=(.int .u8 0)) (by kernel_rfl) Tryz.underlying5 rfl rfl (by intro h;cases h) (fun _=>rfl)
theorem tt5:tt 5=some ⟨.int .u8,1,1,[(.int .u8 0)]⟩:=rfl
theorem jxj:al Tryz.prog 6 ti6:=am (z:=(.int .u8 0)) (by kernel_rfl) Tryz.underlying6 rfl rfl (by intro h;cases h) (fun _=>rfl)
theorem tt6:tt 6=some ⟨.int .u8,1,1,[(.int .u8 0)]⟩:=rfl
theorem jxk:al Tryz.prog 7 ti7:=am (z:= .agg #[(.int .i64 0),(.int .i64 0),(.bool false),(.int .u8 0)]) (by kernel_rfl) Tryz.underlying7 rfl rfl (by exact fun _=>⟨by kernel_rfl,by kernel_rfl,by kernel_rfl⟩) (fun h=>by cases h)
theorem tt7:tt 7=some ⟨.strct true [(0,2),(1,3),(2,4),(3,6)],4,24,[(.int .i64 0),(.int .i64 0),(.bool false),(.int .u8 0)]⟩:=rfl
theorem jxl:al Tryz.prog 8 ti8:=am (z:= .agg #[(.int .i64 0),(.int .i64 0),(.bool false),(.int .u8 0)]) (by kernel_rfl) Tryz.underlying8 rfl rfl (by exact fun _=>⟨by kernel_rfl,by kernel_rfl,by kernel_rfl⟩) (fun h=>by cases h)
theorem tt8:tt 8=some ⟨.strct true [(0,2),(1,3),(2,4),(3,6)],4,24,[(.int .i64 0),(.int .i64 0),(.bool false),(.int .u8 0)]⟩:=rfl
theorem jxm:al Tryz.prog 9 ti9:=am (z:=(.string ⟨#[]⟩)) (by kernel_rfl) Tryz.underlying9 rfl rfl (by intro h;cases h) (fun _=>rfl)
theorem tt9:tt 9=some ⟨.str,1,16,[(.string ⟨#[]⟩)]⟩:=rfl
theorem jql:al Tryz.prog 10 js2:=am (z:=(.string ⟨#[]⟩)) (by kernel_rfl) Tryz.underlying10 rfl rfl (by intro h;cases h) (fun _=>rfl)
theorem jxt:tt 10=some ⟨.str,1,16,[(.string ⟨#[]⟩)]⟩:=rfl
theorem jqm:al Tryz.prog 11 js3:=am (z:=(.string ⟨#[]⟩)) (by kernel_rfl) Tryz.underlying11 rfl rfl (by intro h;cases h) (fun _=>rfl)
theorem jxu:tt 11=some ⟨.str,1,16,[(.string ⟨#[]⟩)]⟩:=rfl
theorem jqn:al Tryz.prog 12 js4:=am (z:=(.int .u64 0)) (by kernel_rfl) Tryz.underlying12 rfl rfl (by intro h;cases h) (fun _=>rfl)
theorem jxv:tt 12=some ⟨.int .u64,1,8,[(.int .u64 0)]⟩:=rfl
theorem jqo:al Tryz.prog 13 js5:=am (z:= .agg #[(.string ⟨#[]⟩),(.int .u64 0)]) (by kernel_rfl) Tryz.underlying13 rfl rfl (by intro h;cases h) (fun h=>by cases h)
theorem jxw:tt 13=some ⟨.strct false [(0,9),(1,12)],2,24,[(.string ⟨#[]⟩),(.int .u64 0)]⟩:=rfl
theorem jqp:al Tryz.prog 14 js6:=am (z:= .agg #[(.string ⟨#[]⟩),(.int .u64 0)]) (by kernel_rfl) Tryz.underlying14 rfl rfl (by intro h;cases h) (fun h=>by cases h)
theorem jxx:tt 14=some ⟨.strct false [(0,9),(1,12)],2,24,[(.string ⟨#[]⟩),(.int .u64 0)]⟩:=rfl
theorem jqq:al Tryz.prog 15 js7:=am (z:=(.pointer none)) (by kernel_rfl) Tryz.underlying15 rfl rfl (by intro h;cases h) (fun h=>by cases h)
theorem jxy:tt 15=some ⟨.other,1,8,[(.pointer none)]⟩:=rfl
theorem jqr:al Tryz.prog 16 js8:=am (z:=(.pointer none)) (by kernel_rfl) Tryz.underlying16 rfl rfl (by intro h;cases h) (fun h=>by cases h)
theorem jxz:tt 16=some ⟨.other,1,8,[(.pointer none)]⟩:=rfl
theorem jqs:al Tryz.prog 17 js9:=am (z:=(.pointer none)) (by kernel_rfl) Tryz.underlying17 rfl rfl (by intro h;cases h) (fun h=>by cases h)
theorem jx0:tt 17=some ⟨.other,1,8,[(.pointer none)]⟩:=rfl
theorem jqt:al Tryz.prog 18 jta:=am (z:= .agg #[(.pointer none)]) (by kernel_rfl) Tryz.underlying18 rfl rfl (by intro h;cases h) (fun h=>by cases h)
theorem jx1:tt 18=some ⟨.strct false [(0,17)],1,8,[(.pointer none)]⟩:=rfl
theorem jqu:al Tryz.prog 19 jtb:=am (z:= .agg #[(.pointer none)]) (by kernel_rfl) Tryz.underlying19 rfl rfl (by intro h;cases h) (fun h=>by cases h)
theorem jx2:tt 19=some ⟨.strct false [(0,17)],1,8,[(.pointer none)]⟩:=rfl
theorem jqv:al Tryz.prog 20 jtc:=am (z:= .nilIface) (by kernel_rfl) Tryz.underlying20 rfl rfl (by intro h;cases h) (fun h=>by cases h)
theorem jx3:tt 20=some ⟨.other,1,16,[.nilIface]⟩:=rfl
theorem jqw:al Tryz.prog 21 jtd:=am (z:=(.int .i32 0)) (by kernel_rfl) Tryz.underlying21 rfl rfl (by intro h;cases h) (fun _=>rfl)
theorem jx4:tt 21=some ⟨.int .i32,1,4,[(.int .i32 0)]⟩:=rfl
theorem jqx:al Tryz.prog 22 jte:=am (z:=(.slice none 0 0)) (by kernel_rfl) Tryz.underlying22 rfl rfl (by intro h;cases h) (fun h=>by cases h)
theorem jx5:tt 22=some ⟨.slice 43,1,24,[(.slice none 0 0)]⟩:=rfl
theorem jqy:al Tryz.prog 23 jtf:=am (z:= .agg #[(.int .i64 0),(.slice none 0 0),(.int .i64 0),(.int .i64 0)]) (by kernel_rfl) Tryz.underlying23 rfl rfl (by intro h;cases h) (fun h=>by cases h)
theorem jx6:tt 23=some ⟨.strct false [(0,3),(1,22),(2,3),(3,3)],4,48,[(.int .i64 0),(.slice none 0 0),(.int .i64 0),(.int .i64 0)]⟩:=rfl
theorem jqz:al Tryz.prog 24 jtg:=am (z:= .agg #[(.int .i64 0),(.slice none 0 0),(.int .i64 0),(.int .i64 0)]) (by kernel_rfl) Tryz.underlying24 rfl rfl (by intro h;cases h) (fun h=>by cases h)
theorem jx7:tt 24=some ⟨.strct false [(0,3),(1,22),(2,3),(3,3)],4,48,[(.int .i64 0),(.slice none 0 0),(.int .i64 0),(.int .i64 0)]⟩:=rfl
theorem jq0:al Tryz.prog 25 jth:=am (z:=(.slice none 0 0)) (by kernel_rfl) Tryz.underlying25 rfl rfl (by intro h;cases h) (fun h=>by cases h)
theorem jx8:tt 25=some ⟨.slice 3,1,24,[(.slice none 0 0)]⟩:=rfl
theorem jq1:al Tryz.prog 26 jti:=am (z:= .nilFunc) (by kernel_rfl) Tryz.underlying26 rfl rfl (by intro h;cases h) (fun h=>by cases h)
theorem jx9:tt 26=some ⟨.other,1,8,[.nilFunc]⟩:=rfl
theorem jq2:al Tryz.prog 27 jtj:=am (z:= .nilFunc) (by kernel_rfl) Tryz.underlying27 rfl rfl (by intro h;cases h) (fun h=>by cases h)
theorem jya:tt 27=some ⟨.other,1,8,[.nilFunc]⟩:=rfl
theorem jq3:al Tryz.prog 28 jtk:=am (z:= .nilFunc) (by kernel_rfl) Tryz.underlying28 rfl rfl (by intro h;cases h) (fun h=>by cases h)
theorem jyb:tt 28=some ⟨.other,1,8,[.nilFunc]⟩:=rfl
theorem jq4:al Tryz.prog 29 jtl:=am (z:=(.slice none 0 0)) (by kernel_rfl) Tryz.underlying29 rfl rfl (by intro h;cases h) (fun h=>by cases h)
theorem jyc:tt 29=some ⟨.slice 60,1,24,[(.slice none 0 0)]⟩:=rfl
theorem jq5:al Tryz.prog 30 jtm:=am (z:= .agg #[(.slice none 0 0),(.slice none 0 0),(.slice none 0 0)]) (by kernel_rfl) Tryz.underlying30 rfl rfl (by intro h;cases h) (fun h=>by cases h)
theorem jyd:tt 30=some ⟨.strct false [(0,25),(1,25),(2,29)],3,72,[(.slice none 0 0),(.slice none 0 0),(.slice none 0 0)]⟩:=rfl
theorem jq6:al Tryz.prog 31 jtn:=am (z:= .agg #[(.slice none 0 0),(.slice none 0 0),(.slice none 0 0)]) (by kernel_rfl) Tryz.underlying31 rfl rfl (by intro h;cases h) (fun h=>by cases h)
theorem jye:tt 31=some ⟨.strct false [(0,25),(1,25),(2,29)],3,72,[(.slice none 0 0),(.slice none 0 0),(.slice none 0 0)]⟩:=rfl
theorem jq7:al Tryz.prog 32 jto:=am (z:=(.int .i64 0)) (by kernel_rfl) Tryz.underlying32 rfl rfl (by intro h;cases h) (fun _=>rfl)
theorem jyf:tt 32=some ⟨.int .i64,1,8,[(.int .i64 0)]⟩:=rfl
theorem jq8:al Tryz.prog 34 jtp:=am (z:= .nilFunc) (by kernel_rfl) Tryz.underlying34 rfl rfl (by intro h;cases h) (fun h=>by cases h)
theorem jyg:tt 34=some ⟨.other,1,8,[.nilFunc]⟩:=rfl
theorem jq9:al Tryz.prog 35 jtq:=am (z:= .nilFunc) (by kernel_rfl) Tryz.underlying35 rfl rfl (by intro h;cases h) (fun h=>by cases h)
theorem jyh:tt 35=some ⟨.other,1,8,[.nilFunc]⟩:=rfl
theorem jra:al Tryz.prog 36 jtr:=am (z:= .nilFunc) (by kernel_rfl) Tryz.underlying36 rfl rfl (by intro h;cases h) (fun h=>by cases h)
theorem jyi:tt 36=some ⟨.other,1,8,[.nilFunc]⟩:=rfl
theorem jrb:al Tryz.prog 38 jts:=am (z:= .nilFunc) (by kernel_rfl) Tryz.underlying38 rfl rfl (by intro h;cases h) (fun h=>by cases h)
theorem jyj:tt 38=some ⟨.other,1,8,[.nilFunc]⟩:=rfl
theorem jrc:al Tryz.prog 39 jtt:=am (z:= .nilFunc) (by kernel_rfl) Tryz.underlying39 rfl rfl (by intro h;cases h) (fun h=>by cases h)
theorem jyk:tt 39=some ⟨.other,1,8,[.nilFunc]⟩:=rfl
theorem jrd:al Tryz.prog 40 jtu:=am (z:= .nilFunc) (by kernel_rfl) Tryz.underlying40 rfl rfl (by intro h;cases h) (fun h=>by cases h)
theorem jyl:tt 40=some ⟨.other,1,8,[.nilFunc]⟩:=rfl
theorem jre:al Tryz.prog 41 jtv:=am (z:= .nilFunc) (by kernel_rfl) Tryz.underlying41 rfl rfl (by intro h;cases h) (fun h=>by cases h)
theorem jym:tt 41=some ⟨.other,1,8,[.nilFunc]⟩:=rfl
theorem jrf:al Tryz.prog 42 jtw:=am (z:= .agg #[(.string ⟨#[]⟩),(.slice none 0 0),(.slice none 0 0)]) (by kernel_rfl) Tryz.underlying42 rfl rfl (by intro h;cases h) (fun h=>by cases h)
theorem jyn:tt 42=some ⟨.strct false [(0,9),(1,25),(2,25)],3,64,[(.string ⟨#[]⟩),(.slice none 0 0),(.slice none 0 0)]⟩:=rfl
theorem jrg:al Tryz.prog 43 jtx:=am (z:= .agg #[(.string ⟨#[]⟩),(.slice none 0 0),(.slice none 0 0)]) (by kernel_rfl) Tryz.underlying43 rfl rfl (by intro h;cases h) (fun h=>by cases h)
theorem jyo:tt 43=some ⟨.strct false [(0,9),(1,25),(2,25)],3,64,[(.string ⟨#[]⟩),(.slice none 0 0),(.slice none 0 0)]⟩:=rfl
theorem jrh:al Tryz.prog 44 jty:=am (z:= .nilFunc) (by kernel_rfl) Tryz.underlying44 rfl rfl (by intro h;cases h) (fun h=>by cases h)
theorem jyp:tt 44=some ⟨.other,1,8,[.nilFunc]⟩:=rfl
theorem jri:al Tryz.prog 45 jtz:=am (z:=(.slice none 0 0)) (by kernel_rfl) Tryz.underlying45 rfl rfl (by intro h;cases h) (fun h=>by cases h)
theorem jyq:tt 45=some ⟨.slice 9,1,24,[(.slice none 0 0)]⟩:=rfl
theorem jrj:al Tryz.prog 47 jt0:=am (z:= .nilFunc) (by kernel_rfl) Tryz.underlying47 rfl rfl (by intro h;cases h) (fun h=>by cases h)
theorem jyr:tt 47=some ⟨.other,1,8,[.nilFunc]⟩:=rfl
theorem jrk:al Tryz.prog 48 jt1:=am (z:=(.slice none 0 0)) (by kernel_rfl) Tryz.underlying48 rfl rfl (by intro h;cases h) (fun h=>by cases h)
theorem jys:tt 48=some ⟨.slice 53,1,24,[(.slice none 0 0)]⟩:=rfl
theorem jrl:al Tryz.prog 50 jt2:=am (z:= .nilFunc) (by kernel_rfl) Tryz.underlying50 rfl rfl (by intro h;cases h) (fun h=>by cases h)
theorem jyt:tt 50=some ⟨.other,1,8,[.nilFunc]⟩:=rfl
theorem jrm:al Tryz.prog 51 jt3:=am (z:= .nilFunc) (by kernel_rfl) Tryz.underlying51 rfl rfl (by intro h;cases h) (fun h=>by cases h)
theorem jyu:tt 51=some ⟨.other,1,8,[.nilFunc]⟩:=rfl
theorem jrn:al Tryz.prog 52 jt4:=am (z:= .agg #[(.int .i64 0),(.slice none 0 0),(.slice none 0 0)]) (by kernel_rfl) Tryz.underlying52 rfl rfl (by intro h;cases h) (fun h=>by cases h)
theorem jyv:tt 52=some ⟨.strct false [(0,3),(1,25),(2,25)],3,56,[(.int .i64 0),(.slice none 0 0),(.slice none 0 0)]⟩:=rfl
theorem jro:al Tryz.prog 53 jt5:=am (z:= .agg #[(.int .i64 0),(.slice none 0 0),(.slice none 0 0)]) (by kernel_rfl) Tryz.underlying53 rfl rfl (by intro h;cases h) (fun h=>by cases h)
theorem jyw:tt 53=some ⟨.strct false [(0,3),(1,25),(2,25)],3,56,[(.int .i64 0),(.slice none 0 0),(.slice none 0 0)]⟩:=rfl
theorem jrp:al Tryz.prog 54 jt6:=am (z:= .nilFunc) (by kernel_rfl) Tryz.underlying54 rfl rfl (by intro h;cases h) (fun h=>by cases h)
theorem jyx:tt 54=some ⟨.other,1,8,[.nilFunc]⟩:=rfl
theorem jrq:al Tryz.prog 55 jt7:=am (z:=(.slice none 0 0)) (by kernel_rfl) Tryz.underlying55 rfl rfl (by intro h;cases h) (fun h=>by cases h)
theorem jyy:tt 55=some ⟨.slice 25,1,24,[(.slice none 0 0)]⟩:=rfl
theorem jrr:al Tryz.prog 57 jt8:=am (z:= .nilFunc) (by kernel_rfl) Tryz.underlying57 rfl rfl (by intro h;cases h) (fun h=>by cases h)
theorem jyz:tt 57=some ⟨.other,1,8,[.nilFunc]⟩:=rfl
theorem jrs:al Tryz.prog 58 jt9:=am (z:= .nilFunc) (by kernel_rfl) Tryz.underlying58 rfl rfl (by intro h;cases h) (fun h=>by cases h)
theorem jy0:tt 58=some ⟨.other,1,8,[.nilFunc]⟩:=rfl
theorem jrt:al Tryz.prog 59 jua:=am (z:= .nilFunc) (by kernel_rfl) Tryz.underlying59 rfl rfl (by intro h;cases h) (fun h=>by cases h)
theorem jy1:tt 59=some ⟨.other,1,8,[.nilFunc]⟩:=rfl
theorem jru:al Tryz.prog 60 jub:=am (z:= .agg #[(.slice none 0 0),(.slice none 0 0)]) (by kernel_rfl) Tryz.underlying60 rfl rfl (by intro h;cases h) (fun h=>by cases h)
theorem jy2:tt 60=some ⟨.arr false 2 25,2,48,[(.slice none 0 0),(.slice none 0 0)]⟩:=rfl
theorem jrv:al Tryz.prog 61 juc:=am (z:= .nilFunc) (by kernel_rfl) Tryz.underlying61 rfl rfl (by intro h;cases h) (fun h=>by cases h)
theorem jy3:tt 61=some ⟨.other,1,8,[.nilFunc]⟩:=rfl
theorem jrw:al Tryz.prog 62 jud:=am (z:= .nilFunc) (by kernel_rfl) Tryz.underlying62 rfl rfl (by intro h;cases h) (fun h=>by cases h)
theorem jy4:tt 62=some ⟨.other,1,8,[.nilFunc]⟩:=rfl
theorem jrx:al Tryz.prog 63 jue:=am (z:= .nilFunc) (by kernel_rfl) Tryz.underlying63 rfl rfl (by intro h;cases h) (fun h=>by cases h)
theorem jy5:tt 63=some ⟨.other,1,8,[.nilFunc]⟩:=rfl
theorem jry:al Tryz.prog 65 juf:=am (z:= .nilFunc) (by kernel_rfl) Tryz.underlying65 rfl rfl (by intro h;cases h) (fun h=>by cases h)
theorem jy6:tt 65=some ⟨.other,1,8,[.nilFunc]⟩:=rfl
theorem jrz:al Tryz.prog 66 jug:=am (z:= .nilFunc) (by kernel_rfl) Tryz.underlying66 rfl rfl (by intro h;cases h) (fun h=>by cases h)
theorem jy7:tt 66=some ⟨.other,1,8,[.nilFunc]⟩:=rfl
theorem jr0:al Tryz.prog 67 juh:=am (z:= .nilFunc) (by kernel_rfl) Tryz.underlying67 rfl rfl (by intro h;cases h) (fun h=>by cases h)
theorem jy8:tt 67=some ⟨.other,1,8,[.nilFunc]⟩:=rfl
theorem jr1:al Tryz.prog 68 jui:=am (z:= .nilFunc) (by kernel_rfl) Tryz.underlying68 rfl rfl (by intro h;cases h) (fun h=>by cases h)
theorem jy9:tt 68=some ⟨.other,1,8,[.nilFunc]⟩:=rfl
theorem jr2:al Tryz.prog 69 juj:=am (z:= .nilFunc) (by kernel_rfl) Tryz.underlying69 rfl rfl (by intro h;cases h) (fun h=>by cases h)
theorem jza:tt 69=some ⟨.other,1,8,[.nilFunc]⟩:=rfl
theorem jr3:al Tryz.prog 70 juk:=am (z:=(.slice none 0 0)) (by kernel_rfl) Tryz.underlying70 rfl rfl (by intro h;cases h) (fun h=>by cases h)
theorem jzb:tt 70=some ⟨.slice 81,1,24,[(.slice none 0 0)]⟩:=rfl
theorem jr4:al Tryz.prog 71 jul:=am (z:= .nilFunc) (by kernel_rfl) Tryz.underlying71 rfl rfl (by intro h;cases h) (fun h=>by cases h)
theorem jzc:tt 71=some ⟨.other,1,8,[.nilFunc]⟩:=rfl
theorem jr5:al Tryz.prog 72 jum:=am (z:= .nilFunc) (by kernel_rfl) Tryz.underlying72 rfl rfl (by intro h;cases h) (fun h=>by cases h)
theorem jzd:tt 72=some ⟨.other,1,8,[.nilFunc]⟩:=rfl
theorem jr6:al Tryz.prog 73 jun:=am (z:= .nilFunc) (by kernel_rfl) Tryz.underlying73 rfl rfl (by intro h;cases h) (fun h=>by cases h)
theorem jze:tt 73=some ⟨.other,1,8,[.nilFunc]⟩:=rfl
theorem jr7:al Tryz.prog 74 juo:=am (z:= .nilFunc) (by kernel_rfl) Tryz.underlying74 rfl rfl (by intro h;cases h) (fun h=>by cases h)
theorem jzf:tt 74=some ⟨.other,1,8,[.nilFunc]⟩:=rfl
theorem jr8:al Tryz.prog 75 jup:=am (z:=(.slice none 0 0)) (by kernel_rfl) Tryz.underlying75 rfl rfl (by intro h;cases h) (fun h=>by cases h)
theorem jzg:tt 75=some ⟨.slice 79,1,24,[(.slice none 0 0)]⟩:=rfl
theorem jr9:al Tryz.prog 77 juq:=am (z:= .nilFunc) (by kernel_rfl) Tryz.underlying77 rfl rfl (by intro h;cases h) (fun h=>by cases h)
theorem jzh:tt 77=some ⟨.other,1,8,[.nilFunc]⟩:=rfl
theorem jsa:al Tryz.prog 78 jur:=am (z:= .agg #[(.int .i64 0),(.slice none 0 0),(.slice none 0 0)]) (by kernel_rfl) Tryz.underlying78 rfl rfl (by intro h;cases h) (fun h=>by cases h)
theorem jzi:tt 78=some ⟨.strct false [(0,3),(1,25),(2,25)],3,56,[(.int .i64 0),(.slice none 0 0),(.slice none 0 0)]⟩:=rfl
theorem jsb:al Tryz.prog 79 jus:=am (z:= .agg #[(.int .i64 0),(.slice none 0 0),(.slice none 0 0)]) (by kernel_rfl) Tryz.underlying79 rfl rfl (by intro h;cases h) (fun h=>by cases h)
theorem jzj:tt 79=some ⟨.strct false [(0,3),(1,25),(2,25)],3,56,[(.int .i64 0),(.slice none 0 0),(.slice none 0 0)]⟩:=rfl
theorem jsc:al Tryz.prog 80 jut:=am (z:= .agg #[(.slice none 0 0),(.slice none 0 0)]) (by kernel_rfl) Tryz.underlying80 rfl rfl (by intro h;cases h) (fun h=>by cases h)
theorem jzk:tt 80=some ⟨.strct false [(0,25),(1,25)],2,48,[(.slice none 0 0),(.slice none 0 0)]⟩:=rfl
theorem jsd:al Tryz.prog 81 juu:=am (z:= .agg #[(.slice none 0 0),(.slice none 0 0)]) (by kernel_rfl) Tryz.underlying81 rfl rfl (by intro h;cases h) (fun h=>by cases h)
theorem jzl:tt 81=some ⟨.strct false [(0,25),(1,25)],2,48,[(.slice none 0 0),(.slice none 0 0)]⟩:=rfl
theorem jse:al Tryz.prog 82 juv:=am (z:= .nilFunc) (by kernel_rfl) Tryz.underlying82 rfl rfl (by intro h;cases h) (fun h=>by cases h)
theorem jzm:tt 82=some ⟨.other,1,8,[.nilFunc]⟩:=rfl
theorem jsf:al Tryz.prog 83 juw:=am (z:= .nilFunc) (by kernel_rfl) Tryz.underlying83 rfl rfl (by intro h;cases h) (fun h=>by cases h)
theorem jzn:tt 83=some ⟨.other,1,8,[.nilFunc]⟩:=rfl
theorem jsg:al Tryz.prog 85 jux:=am (z:= .nilFunc) (by kernel_rfl) Tryz.underlying85 rfl rfl (by intro h;cases h) (fun h=>by cases h)
theorem jzo:tt 85=some ⟨.other,1,8,[.nilFunc]⟩:=rfl
theorem jsh:al Tryz.prog 86 juy:=am (z:= .nilFunc) (by kernel_rfl) Tryz.underlying86 rfl rfl (by intro h;cases h) (fun h=>by cases h)
theorem jzp:tt 86=some ⟨.other,1,8,[.nilFunc]⟩:=rfl
theorem jsi:al Tryz.prog 87 juz:=am (z:=(.map none)) (by kernel_rfl) Tryz.underlying87 rfl rfl (by intro h;cases h) (fun h=>by cases h)
theorem jzq:tt 87=some ⟨.map 9 4,1,8,[(.map none)]⟩:=rfl
theorem jsj:al Tryz.prog 88 ju0:=am (z:=(.slice none 0 0)) (by kernel_rfl) Tryz.underlying88 rfl rfl (by intro h;cases h) (fun h=>by cases h)
theorem jzr:tt 88=some ⟨.slice 91,1,24,[(.slice none 0 0)]⟩:=rfl
theorem jsk:al Tryz.prog 89 ju1:=am (z:= .nilFunc) (by kernel_rfl) Tryz.underlying89 rfl rfl (by intro h;cases h) (fun h=>by cases h)
theorem jzs:tt 89=some ⟨.other,1,8,[.nilFunc]⟩:=rfl
theorem jsl:al Tryz.prog 90 ju2:=am (z:= .agg #[(.int .i64 0),(.slice none 0 0)]) (by kernel_rfl) Tryz.underlying90 rfl rfl (by intro h;cases h) (fun h=>by cases h)
theorem jzt:tt 90=some ⟨.strct false [(0,3),(1,25)],2,32,[(.int .i64 0),(.slice none 0 0)]⟩:=rfl
theorem jsm:al Tryz.prog 91 ju3:=am (z:= .agg #[(.int .i64 0),(.slice none 0 0)]) (by kernel_rfl) Tryz.underlying91 rfl rfl (by intro h;cases h) (fun h=>by cases h)
theorem jzu:tt 91=some ⟨.strct false [(0,3),(1,25)],2,32,[(.int .i64 0),(.slice none 0 0)]⟩:=rfl
theorem jsn:al Tryz.prog 92 ju4:=am (z:= .nilFunc) (by kernel_rfl) Tryz.underlying92 rfl rfl (by intro h;cases h) (fun h=>by cases h)
theorem jzv:tt 92=some ⟨.other,1,8,[.nilFunc]⟩:=rfl
theorem jso:al Tryz.prog 93 ju5:=am (z:= .nilFunc) (by kernel_rfl) Tryz.underlying93 rfl rfl (by intro h;cases h) (fun h=>by cases h)
theorem jzw:tt 93=some ⟨.other,1,8,[.nilFunc]⟩:=rfl
theorem jsp:al Tryz.prog 94 ju6:=am (z:= .nilFunc) (by kernel_rfl) Tryz.underlying94 rfl rfl (by intro h;cases h) (fun h=>by cases h)
theorem jzx:tt 94=some ⟨.other,1,8,[.nilFunc]⟩:=rfl
theorem jsq:al Tryz.prog 95 ju7:=am (z:= .nilFunc) (by kernel_rfl) Tryz.underlying95 rfl rfl (by intro h;cases h) (fun h=>by cases h)
theorem jzy:tt 95=some ⟨.other,1,8,[.nilFunc]⟩:=rfl
theorem jsr:al Tryz.prog 96 ju8:=am (z:= .nilFunc) (by kernel_rfl) Tryz.underlying96 rfl rfl (by intro h;cases h) (fun h=>by cases h)
theorem jzz:tt 96=some ⟨.other,1,8,[.nilFunc]⟩:=rfl
theorem jss:al Tryz.prog 97 ju9:=am (z:= .nilFunc) (by kernel_rfl) Tryz.underlying97 rfl rfl (by intro h;cases h) (fun h=>by cases h)
theorem jz0:tt 97=some ⟨.other,1,8,[.nilFunc]⟩:=rfl
theorem jst:al Tryz.prog 98 jva:=am (z:= .nilFunc) (by kernel_rfl) Tryz.underlying98 rfl rfl (by intro h;cases h) (fun h=>by cases h)
theorem jz1:tt 98=some ⟨.other,1,8,[.nilFunc]⟩:=rfl
theorem jsu:al Tryz.prog 99 jvb:=am (z:= .nilFunc) (by kernel_rfl) Tryz.underlying99 rfl rfl (by intro h;cases h) (fun h=>by cases h)
theorem jz2:tt 99=some ⟨.other,1,8,[.nilFunc]⟩:=rfl
theorem jn4:al Tryz.prog 100 jls:=am (z:= .nilFunc) (by kernel_rfl) Tryz.underlying100 rfl rfl (by intro h;cases h) (fun h=>by cases h)
theorem jvd:tt 100=some ⟨.other,1,8,[.nilFunc]⟩:=rfl
theorem jn5:al Tryz.prog 102 jlt:=am (z:= .nilFunc) (by kernel_rfl) Tryz.underlying102 rfl rfl (by intro h;cases h) (fun h=>by cases h)
theorem jve:tt 102=some ⟨.other,1,8,[.nilFunc]⟩:=rfl
theorem jn6:al Tryz.prog 104 jlu:=am (z:= .nilFunc) (by kernel_rfl) Tryz.underlying104 rfl rfl (by intro h;cases h) (fun h=>by cases h)
theorem jvf:tt 104=some ⟨.other,1,8,[.nilFunc]⟩:=rfl
theorem jn7:al Tryz.prog 105 jlv:=am (z:= .nilFunc) (by kernel_rfl) Tryz.underlying105 rfl rfl (by intro h;cases h) (fun h=>by cases h)
theorem jvg:tt 105=some ⟨.other,1,8,[.nilFunc]⟩:=rfl
theorem jn8:al Tryz.prog 107 jlw:=am (z:= .nilFunc) (by kernel_rfl) Tryz.underlying107 rfl rfl (by intro h;cases h) (fun h=>by cases h)
theorem jvh:tt 107=some ⟨.other,1,8,[.nilFunc]⟩:=rfl
theorem jn9:al Tryz.prog 109 jlx:=am (z:= .nilFunc) (by kernel_rfl) Tryz.underlying109 rfl rfl (by intro h;cases h) (fun h=>by cases h)
theorem jvi:tt 109=some ⟨.other,1,8,[.nilFunc]⟩:=rfl
theorem joa:al Tryz.prog 110 jly:=am (z:= .nilFunc) (by kernel_rfl) Tryz.underlying110 rfl rfl (by intro h;cases h) (fun h=>by cases h)
theorem jvj:tt 110=some ⟨.other,1,8,[.nilFunc]⟩:=rfl
theorem job:al Tryz.prog 112 jlz:=am (z:= .nilFunc) (by kernel_rfl) Tryz.underlying112 rfl rfl (by intro h;cases h) (fun h=>by cases h)
theorem jvk:tt 112=some ⟨.other,1,8,[.nilFunc]⟩:=rfl
theorem joc:al Tryz.prog 113 jl0:=am (z:= .nilFunc) (by kernel_rfl) Tryz.underlying113 rfl rfl (by intro h;cases h) (fun h=>by cases h)
theorem jvl:tt 113=some ⟨.other,1,8,[.nilFunc]⟩:=rfl
theorem jod:al Tryz.prog 114 jl1:=am (z:= .nilFunc) (by kernel_rfl) Tryz.underlying114 rfl rfl (by intro h;cases h) (fun h=>by cases h)
theorem jvm:tt 114=some ⟨.other,1,8,[.nilFunc]⟩:=rfl
theorem joe:al Tryz.prog 115 jl2:=am (z:= .nilFunc) (by kernel_rfl) Tryz.underlying115 rfl rfl (by intro h;cases h) (fun h=>by cases h)
theorem jvn:tt 115=some ⟨.other,1,8,[.nilFunc]⟩:=rfl
theorem jof:al Tryz.prog 116 jl3:=am (z:= .nilFunc) (by kernel_rfl) Tryz.underlying116 rfl rfl (by intro h;cases h) (fun h=>by cases h)
theorem jvo:tt 116=some ⟨.other,1,8,[.nilFunc]⟩:=rfl
theorem jog:al Tryz.prog 117 jl4:=am (z:=(.pointer none)) (by kernel_rfl) Tryz.underlying117 rfl rfl (by intro h;cases h) (fun h=>by cases h)
theorem jvp:tt 117=some ⟨.other,1,8,[(.pointer none)]⟩:=rfl
theorem joh:al Tryz.prog 118 jl5:=am (z:=(.slice none 0 0)) (by kernel_rfl) Tryz.underlying118 rfl rfl (by intro h;cases h) (fun h=>by cases h)
theorem jvq:tt 118=some ⟨.slice 5,1,24,[(.slice none 0 0)]⟩:=rfl
theorem joi:al Tryz.prog 119 jl6:=am (z:= .agg #[(.pointer none),(.slice none 0 0)]) (by kernel_rfl) Tryz.underlying119 rfl rfl (by intro h;cases h) (fun h=>by cases h)
theorem jvr:tt 119=some ⟨.strct false [(0,117),(1,118)],2,32,[(.pointer none),(.slice none 0 0)]⟩:=rfl
theorem joj:al Tryz.prog 120 jl7:=am (z:= .agg #[(.pointer none),(.slice none 0 0)]) (by kernel_rfl) Tryz.underlying120 rfl rfl (by intro h;cases h) (fun h=>by cases h)
theorem jvs:tt 120=some ⟨.strct false [(0,117),(1,118)],2,32,[(.pointer none),(.slice none 0 0)]⟩:=rfl
theorem jok:al Tryz.prog 121 jl8:=am (z:= .nilIface) (by kernel_rfl) Tryz.underlying121 rfl rfl (by intro h;cases h) (fun h=>by cases h)
theorem jvt:tt 121=some ⟨.other,1,16,[.nilIface]⟩:=rfl
theorem jol:al Tryz.prog 122 jl9:=am (z:= .nilIface) (by kernel_rfl) Tryz.underlying122 rfl rfl (by intro h;cases h) (fun h=>by cases h)
theorem jvu:tt 122=some ⟨.other,1,16,[.nilIface]⟩:=rfl
theorem jom:al Tryz.prog 123 jma:=am (z:= .nilFunc) (by kernel_rfl) Tryz.underlying123 rfl rfl (by intro h;cases h) (fun h=>by cases h)
theorem jvv:tt 123=some ⟨.other,1,8,[.nilFunc]⟩:=rfl
theorem jon:al Tryz.prog 124 jmb:=am (z:=(.int .u64 0)) (by kernel_rfl) Tryz.underlying124 rfl rfl (by intro h;cases h) (fun _=>rfl)
theorem jvw:tt 124=some ⟨.int .u64,1,8,[(.int .u64 0)]⟩:=rfl
theorem joo:al Tryz.prog 125 jmc:=am (z:= .nilFunc) (by kernel_rfl) Tryz.underlying125 rfl rfl (by intro h;cases h) (fun h=>by cases h)
theorem jvx:tt 125=some ⟨.other,1,8,[.nilFunc]⟩:=rfl
theorem jop:al Tryz.prog 126 jmd:=am (z:= .nilFunc) (by kernel_rfl) Tryz.underlying126 rfl rfl (by intro h;cases h) (fun h=>by cases h)
theorem jvy:tt 126=some ⟨.other,1,8,[.nilFunc]⟩:=rfl
theorem joq:al Tryz.prog 127 jme:=am (z:= .nilFunc) (by kernel_rfl) Tryz.underlying127 rfl rfl (by intro h;cases h) (fun h=>by cases h)
theorem jvz:tt 127=some ⟨.other,1,8,[.nilFunc]⟩:=rfl
theorem jor:al Tryz.prog 128 jmf:=am (z:= .nilFunc) (by kernel_rfl) Tryz.underlying128 rfl rfl (by intro h;cases h) (fun h=>by cases h)
theorem jv0:tt 128=some ⟨.other,1,8,[.nilFunc]⟩:=rfl
theorem jos:al Tryz.prog 129 jmg:=am (z:= .nilFunc) (by kernel_rfl) Tryz.underlying129 rfl rfl (by intro h;cases h) (fun h=>by cases h)
theorem jv1:tt 129=some ⟨.other,1,8,[.nilFunc]⟩:=rfl
theorem jot:al Tryz.prog 130 jmh:=am (z:= .nilFunc) (by kernel_rfl) Tryz.underlying130 rfl rfl (by intro h;cases h) (fun h=>by cases h)
theorem jv2:tt 130=some ⟨.other,1,8,[.nilFunc]⟩:=rfl
theorem jou:al Tryz.prog 131 jmi:=am (z:= .nilFunc) (by kernel_rfl) Tryz.underlying131 rfl rfl (by intro h;cases h) (fun h=>by cases h)
theorem jv3:tt 131=some ⟨.other,1,8,[.nilFunc]⟩:=rfl
theorem jov:al Tryz.prog 132 jmj:=am (z:=(.slice none 0 0)) (by kernel_rfl) Tryz.underlying132 rfl rfl (by intro h;cases h) (fun h=>by cases h)
theorem jv4:tt 132=some ⟨.slice 4,1,24,[(.slice none 0 0)]⟩:=rfl
theorem jow:al Tryz.prog 134 jmk:=am (z:= .nilFunc) (by kernel_rfl) Tryz.underlying134 rfl rfl (by intro h;cases h) (fun h=>by cases h)
theorem jv5:tt 134=some ⟨.other,1,8,[.nilFunc]⟩:=rfl
theorem jox:al Tryz.prog 135 jml:=am (z:= .nilFunc) (by kernel_rfl) Tryz.underlying135 rfl rfl (by intro h;cases h) (fun h=>by cases h)
theorem jv6:tt 135=some ⟨.other,1,8,[.nilFunc]⟩:=rfl
theorem joy:al Tryz.prog 136 jmm:=am (z:=(.pointer none)) (by kernel_rfl) Tryz.underlying136 rfl rfl (by intro h;cases h) (fun h=>by cases h)
theorem jv7:tt 136=some ⟨.other,1,8,[(.pointer none)]⟩:=rfl
theorem joz:al Tryz.prog 137 jmn:=am (z:= .nilFunc) (by kernel_rfl) Tryz.underlying137 rfl rfl (by intro h;cases h) (fun h=>by cases h)
theorem jv8:tt 137=some ⟨.other,1,8,[.nilFunc]⟩:=rfl
theorem jo0:al Tryz.prog 138 jmo:=am (z:= .nilFunc) (by kernel_rfl) Tryz.underlying138 rfl rfl (by intro h;cases h) (fun h=>by cases h)
theorem jv9:tt 138=some ⟨.other,1,8,[.nilFunc]⟩:=rfl
theorem jo1:al Tryz.prog 139 jmp:=am (z:= .nilFunc) (by kernel_rfl) Tryz.underlying139 rfl rfl (by intro h;cases h) (fun h=>by cases h)
theorem jwa:tt 139=some ⟨.other,1,8,[.nilFunc]⟩:=rfl
theorem jo2:al Tryz.prog 140 jmq:=am (z:= .nilFunc) (by kernel_rfl) Tryz.underlying140 rfl rfl (by intro h;cases h) (fun h=>by cases h)
theorem jwb:tt 140=some ⟨.other,1,8,[.nilFunc]⟩:=rfl
theorem jo3:al Tryz.prog 141 jmr:=am (z:= .nilFunc) (by kernel_rfl) Tryz.underlying141 rfl rfl (by intro h;cases h) (fun h=>by cases h)
theorem jwc:tt 141=some ⟨.other,1,8,[.nilFunc]⟩:=rfl
theorem jo4:al Tryz.prog 142 jms:=am (z:= .nilFunc) (by kernel_rfl) Tryz.underlying142 rfl rfl (by intro h;cases h) (fun h=>by cases h)
theorem jwd:tt 142=some ⟨.other,1,8,[.nilFunc]⟩:=rfl
theorem jo5:al Tryz.prog 143 jmt:=am (z:= .nilFunc) (by kernel_rfl) Tryz.underlying143 rfl rfl (by intro h;cases h) (fun h=>by cases h)
theorem jwe:tt 143=some ⟨.other,1,8,[.nilFunc]⟩:=rfl
theorem jo6:al Tryz.prog 144 jmu:=am (z:= .nilFunc) (by kernel_rfl) Tryz.underlying144 rfl rfl (by intro h;cases h) (fun h=>by cases h)
theorem jwf:tt 144=some ⟨.other,1,8,[.nilFunc]⟩:=rfl
theorem jo7:al Tryz.prog 145 jmv:=am (z:=(.pointer none)) (by kernel_rfl) Tryz.underlying145 rfl rfl (by intro h;cases h) (fun h=>by cases h)
theorem jwg:tt 145=some ⟨.other,1,8,[(.pointer none)]⟩:=rfl
theorem jo8:al Tryz.prog 146 jmw:=am (z:= .nilFunc) (by kernel_rfl) Tryz.underlying146 rfl rfl (by intro h;cases h) (fun h=>by cases h)
theorem jwh:tt 146=some ⟨.other,1,8,[.nilFunc]⟩:=rfl
theorem jo9:al Tryz.prog 147 jmx:=am (z:= .nilFunc) (by kernel_rfl) Tryz.underlying147 rfl rfl (by intro h;cases h) (fun h=>by cases h)
theorem jwi:tt 147=some ⟨.other,1,8,[.nilFunc]⟩:=rfl
theorem jpa:al Tryz.prog 148 jmy:=am (z:= .agg #[(.pointer none),(.pointer none),(.pointer none),(.string ⟨#[]⟩)]) (by kernel_rfl) Tryz.underlying148 rfl rfl (by intro h;cases h) (fun h=>by cases h)
theorem jwj:tt 148=some ⟨.strct false [(0,17),(1,17),(2,17),(3,9)],4,40,[(.pointer none),(.pointer none),(.pointer none),(.string ⟨#[]⟩)]⟩:=rfl
theorem jpb:al Tryz.prog 149 jmz:=am (z:= .agg #[(.pointer none),(.pointer none),(.pointer none),(.string ⟨#[]⟩)]) (by kernel_rfl) Tryz.underlying149 rfl rfl (by intro h;cases h) (fun h=>by cases h)
theorem jwk:tt 149=some ⟨.strct false [(0,17),(1,17),(2,17),(3,9)],4,40,[(.pointer none),(.pointer none),(.pointer none),(.string ⟨#[]⟩)]⟩:=rfl
theorem jpc:al Tryz.prog 150 jm0:=am (z:= .agg #[]) (by kernel_rfl) Tryz.underlying150 rfl rfl (by intro h;cases h) (fun h=>by cases h)
theorem jwl:tt 150=some ⟨.arr false 0 16,0,0,[]⟩:=rfl
theorem jpd:al Tryz.prog 151 jm1:=am (z:= .agg #[]) (by kernel_rfl) Tryz.underlying151 rfl rfl (by intro h;cases h) (fun h=>by cases h)
theorem jwm:tt 151=some ⟨.strct false [(0,150)],0,0,[]⟩:=rfl
theorem jpe:al Tryz.prog 152 jm2:=am (z:= .agg #[]) (by kernel_rfl) Tryz.underlying152 rfl rfl (by intro h;cases h) (fun h=>by cases h)
theorem jwn:tt 152=some ⟨.strct false [(0,150)],0,0,[]⟩:=rfl
theorem jpf:al Tryz.prog 153 jm3:=am (z:= .nilFunc) (by kernel_rfl) Tryz.underlying153 rfl rfl (by intro h;cases h) (fun h=>by cases h)
theorem jwo:tt 153=some ⟨.other,1,8,[.nilFunc]⟩:=rfl
theorem jpg:al Tryz.prog 154 jm4:=am (z:=(.int .u32 0)) (by kernel_rfl) Tryz.underlying154 rfl rfl (by intro h;cases h) (fun _=>rfl)
theorem jwp:tt 154=some ⟨.int .u32,1,4,[(.int .u32 0)]⟩:=rfl
theorem jph:al Tryz.prog 155 jm5:=am (z:=(.int .u8 0)) (by kernel_rfl) Tryz.underlying155 rfl rfl (by intro h;cases h) (fun _=>rfl)
theorem jwq:tt 155=some ⟨.int .u8,1,1,[(.int .u8 0)]⟩:=rfl
theorem jpi:al Tryz.prog 156 jm6:=am (z:=(.int .u8 0)) (by kernel_rfl) Tryz.underlying156 rfl rfl (by intro h;cases h) (fun _=>rfl)
theorem jwr:tt 156=some ⟨.int .u8,1,1,[(.int .u8 0)]⟩:=rfl
theorem jpj:al Tryz.prog 157 jm7:=am (z:= .nilFunc) (by kernel_rfl) Tryz.underlying157 rfl rfl (by intro h;cases h) (fun h=>by cases h)
theorem jws:tt 157=some ⟨.other,1,8,[.nilFunc]⟩:=rfl
theorem jpk:al Tryz.prog 158 jm8:=am (z:=(.int .i32 0)) (by kernel_rfl) Tryz.underlying158 rfl rfl (by intro h;cases h) (fun _=>rfl)
theorem jwt:tt 158=some ⟨.int .i32,1,4,[(.int .i32 0)]⟩:=rfl
theorem jpl:al Tryz.prog 159 jm9:=am (z:=(.int .i32 0)) (by kernel_rfl) Tryz.underlying159 rfl rfl (by intro h;cases h) (fun _=>rfl)
theorem jwu:tt 159=some ⟨.int .i32,1,4,[(.int .i32 0)]⟩:=rfl
theorem jpm:al Tryz.prog 160 jna:=am (z:= .agg #[(.int .u64 0),(.int .u64 0),(.int .u32 0),(.int .u8 0),(.int .u8 0),(.int .u8 0),(.int .u8 0), .nilFunc,(.pointer none),(.int .i32 0),(.int .i32 0)]) (by kernel_rfl) Tryz.underlying160 rfl rfl (by intro h;cases h) (fun h=>by cases h)
theorem jwv:tt 160=some ⟨.strct false [(0,12),(1,12),(2,154),(3,155),(4,5),(5,5),(6,156),(7,157),(8,136),(9,158),(10,159)],11,48,[(.int .u64 0),(.int .u64 0),(.int .u32 0),(.int .u8 0),(.int .u8 0),(.int .u8 0),(.int .u8 0), .nilFunc,(.pointer none),(.int .i32 0),(.int .i32 0)]⟩:=rfl
theorem jpn:al Tryz.prog 161 jnb:=am (z:= .agg #[(.int .u64 0),(.int .u64 0),(.int .u32 0),(.int .u8 0),(.int .u8 0),(.int .u8 0),(.int .u8 0), .nilFunc,(.pointer none),(.int .i32 0),(.int .i32 0)]) (by kernel_rfl) Tryz.underlying161 rfl rfl (by intro h;cases h) (fun h=>by cases h)
theorem jww:tt 161=some ⟨.strct false [(0,12),(1,12),(2,154),(3,155),(4,5),(5,5),(6,156),(7,157),(8,136),(9,158),(10,159)],11,48,[(.int .u64 0),(.int .u64 0),(.int .u32 0),(.int .u8 0),(.int .u8 0),(.int .u8 0),(.int .u8 0), .nilFunc,(.pointer none),(.int .i32 0),(.int .i32 0)]⟩:=rfl
set_option maxRecDepth 100000 in
theorem fits:ew Tryz.prog tt:=by
 intro t x h;unfold tt at h;split at h
 ·cases h;exact jxe
 ·cases h;exact jxf
 ·cases h;exact jxg
 ·cases h;exact jxh
 ·cases h;exact jxi
 ·cases h;exact jxj
 ·cases h;exact jxk
 ·cases h;exact jxl
 ·cases h;exact jxm
 ·cases h;exact jql
 ·cases h;exact jqm
 ·cases h;exact jqn
 ·cases h;exact jqo
 ·cases h;exact jqp
 ·cases h;exact jqq
 ·cases h;exact jqr
 ·cases h;exact jqs
 ·cases h;exact jqt
 ·cases h;exact jqu
 ·cases h;exact jqv
 ·cases h;exact jqw
 ·cases h;exact jqx
 ·cases h;exact jqy
 ·cases h;exact jqz
 ·cases h;exact jq0
 ·cases h;exact jq1
 ·cases h;exact jq2
 ·cases h;exact jq3
 ·cases h;exact jq4
 ·cases h;exact jq5
 ·cases h;exact jq6
 ·cases h;exact jq7
 ·cases h;exact jq8
 ·cases h;exact jq9
 ·cases h;exact jra
 ·cases h;exact jrb
 ·cases h;exact jrc
 ·cases h;exact jrd
 ·cases h;exact jre
 ·cases h;exact jrf
 ·cases h;exact jrg
 ·cases h;exact jrh
 ·cases h;exact jri
 ·cases h;exact jrj
 ·cases h;exact jrk
 ·cases h;exact jrl
 ·cases h;exact jrm
 ·cases h;exact jrn
 ·cases h;exact jro
 ·cases h;exact jrp
 ·cases h;exact jrq
 ·cases h;exact jrr
 ·cases h;exact jrs
 ·cases h;exact jrt
 ·cases h;exact jru
 ·cases h;exact jrv
 ·cases h;exact jrw
 ·cases h;exact jrx
 ·cases h;exact jry
 ·cases h;exact jrz
 ·cases h;exact jr0
 ·cases h;exact jr1
 ·cases h;exact jr2
 ·cases h;exact jr3
 ·cases h;exact jr4
 ·cases h;exact jr5
 ·cases h;exact jr6
 ·cases h;exact jr7
 ·cases h;exact jr8
 ·cases h;exact jr9
 ·cases h;exact jsa
 ·cases h;exact jsb
 ·cases h;exact jsc
 ·cases h;exact jsd
 ·cases h;exact jse
 ·cases h;exact jsf
 ·cases h;exact jsg
 ·cases h;exact jsh
 ·cases h;exact jsi
 ·cases h;exact jsj
 ·cases h;exact jsk
 ·cases h;exact jsl
 ·cases h;exact jsm
 ·cases h;exact jsn
 ·cases h;exact jso
 ·cases h;exact jsp
 ·cases h;exact jsq
 ·cases h;exact jsr
 ·cases h;exact jss
 ·cases h;exact jst
 ·cases h;exact jsu
 ·cases h;exact jn4
 ·cases h;exact jn5
 ·cases h;exact jn6
 ·cases h;exact jn7
 ·cases h;exact jn8
 ·cases h;exact jn9
 ·cases h;exact joa
 ·cases h;exact job
 ·cases h;exact joc
 ·cases h;exact jod
 ·cases h;exact joe
 ·cases h;exact jof
 ·cases h;exact jog
 ·cases h;exact joh
 ·cases h;exact joi
 ·cases h;exact joj
 ·cases h;exact jok
 ·cases h;exact jol
 ·cases h;exact jom
 ·cases h;exact jon
 ·cases h;exact joo
 ·cases h;exact jop
 ·cases h;exact joq
 ·cases h;exact jor
 ·cases h;exact jos
 ·cases h;exact jot
 ·cases h;exact jou
 ·cases h;exact jov
 ·cases h;exact jow
 ·cases h;exact jox
 ·cases h;exact joy
 ·cases h;exact joz
 ·cases h;exact jo0
 ·cases h;exact jo1
 ·cases h;exact jo2
 ·cases h;exact jo3
 ·cases h;exact jo4
 ·cases h;exact jo5
 ·cases h;exact jo6
 ·cases h;exact jo7
 ·cases h;exact jo8
 ·cases h;exact jo9
 ·cases h;exact jpa
 ·cases h;exact jpb
 ·cases h;exact jpc
 ·cases h;exact jpd
 ·cases h;exact jpe
 ·cases h;exact jpf
 ·cases h;exact jpg
 ·cases h;exact jph
 ·cases h;exact jpi
 ·cases h;exact jpj
 ·cases h;exact jpk
 ·cases h;exact jpl
 ·cases h;exact jpm
 ·cases h;exact jpn
 ·cases h
theorem mixed:Tryz.prog.follows .mixedOrders=true:=rfl
attribute [go_sem] tt1 tt2 tt3 tt4 tt5 tt6 tt7 tt8 tt9 jxt jxu jxv jxw jxx jxy jxz jx0 jx1 jx2 jx3 jx4 jx5 jx6 jx7 jx8 jx9 jya jyb jyc jyd jye jyf jyg jyh jyi jyj jyk jyl jym jyn jyo jyp jyq jyr jys jyt jyu jyv jyw jyx jyy jyz jy0 jy1 jy2 jy3 jy4 jy5 jy6 jy7 jy8 jy9 jza jzb jzc jzd jze jzf jzg jzh jzi jzj jzk jzl jzm jzn jzo jzp jzq jzr jzs jzt jzu jzv jzw jzx jzy jzz jz0 jz1 jz2 jvd jve jvf jvg jvh jvi jvj jvk jvl jvm jvn jvo jvp jvq jvr jvs jvt jvu jvv jvw jvx jvy jvz jv0 jv1 jv2 jv3 jv4 jv5 jv6 jv7 jv8 jv9 jwa jwb jwc jwd jwe jwf jwg jwh jwi jwj jwk jwl jwm jwn jwo jwp jwq jwr jws jwt jwu jwv jww
end Go.Proofs.YtdhfhpdadbopkaaGreat
