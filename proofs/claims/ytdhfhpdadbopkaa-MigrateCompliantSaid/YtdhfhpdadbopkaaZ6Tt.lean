/-
  The types of this seat's program: a row a type (its kind, cells, bytes, the cells of its zero value), and that each row is the program's own. Made by program out of the translation.
-/
import Derived.Test.YtdhfhpdadbopkaaZ6KE
import Derived.Test.YtdhfhpdadbopkaaProg
import Derived.KernelRfl
set_option linter.all false
namespace Go.Proofs.Ytdhfhpdadbopkaa
open Go.K Go.M
theorem ak{P:Program}{t:TypeId}{k:TK}{sz by_:Nat}{zs:List Value}{z:Value}{d:TypeDesc}(h1:(P.info? t).map (fun i=>(i.zero,i.size,i.bytes))=some (some z,sz,by_))(h2:P.underlying t=some d)(h3:TK.of d=k.plain)(h4:z.cells.toList=zs)(h5:k.cmp=true→Cmp P t)(h6:k.one=true→zs=[z]):aj P t ⟨k,sz,by_,zs⟩:=by
 cases hi:P.info? t with
 |none=>simp[hi]at h1
 |some i=>
  simp only[hi,Option.map_some,Option.some.injEq,Prod.mk.injEq]at h1;exact⟨⟨i,d,z,hi,h2,h3,h1.2.1,h1.2.2,h1.1,h4⟩,h5,fun e=>⟨i,z,hi,h1.1,h6 e⟩⟩
def ti1:TI:=⟨.other,1,8,[.nilFunc]⟩
def ti2:TI:=⟨.int .i64,1,8,[(.int .i64 0)]⟩
def ti3:TI:=⟨.int .i64,1,8,[(.int .i64 0)]⟩
def ti4:TI:=⟨.bool,1,1,[(.bool false)]⟩
def ti5:TI:=⟨.int .u8,1,1,[(.int .u8 0)]⟩
def ti6:TI:=⟨.int .u8,1,1,[(.int .u8 0)]⟩
def ti7:TI:=⟨.strct true [(0,2),(1,3),(2,4),(3,6)],4,24,[(.int .i64 0),(.int .i64 0),(.bool false),(.int .u8 0)]⟩
def ti8:TI:=⟨.strct true [(0,2),(1,3),(2,4),(3,6)],4,24,[(.int .i64 0),(.int .i64 0),(.bool false),(.int .u8 0)]⟩
def ti9:TI:=⟨.str,1,16,[(.string ⟨#[]⟩)]⟩
def jl2:TI:=⟨.str,1,16,[(.string ⟨#[]⟩)]⟩
def jl3:TI:=⟨.str,1,16,[(.string ⟨#[]⟩)]⟩
def jl4:TI:=⟨.int .u64,1,8,[(.int .u64 0)]⟩
def jl5:TI:=⟨.strct false [(0,9),(1,12)],2,24,[(.string ⟨#[]⟩),(.int .u64 0)]⟩
def jl6:TI:=⟨.strct false [(0,9),(1,12)],2,24,[(.string ⟨#[]⟩),(.int .u64 0)]⟩
def jl7:TI:=⟨.other,1,8,[(.pointer none)]⟩
def jl8:TI:=⟨.other,1,8,[(.pointer none)]⟩
def jl9:TI:=⟨.other,1,8,[(.pointer none)]⟩
def jma:TI:=⟨.strct false [(0,17)],1,8,[(.pointer none)]⟩
def jmb:TI:=⟨.strct false [(0,17)],1,8,[(.pointer none)]⟩
def jmc:TI:=⟨.other,1,16,[.nilIface]⟩
def jmd:TI:=⟨.int .i32,1,4,[(.int .i32 0)]⟩
def jme:TI:=⟨.slice 43,1,24,[(.slice none 0 0)]⟩
def jmf:TI:=⟨.strct false [(0,3),(1,22),(2,3),(3,3)],4,48,[(.int .i64 0),(.slice none 0 0),(.int .i64 0),(.int .i64 0)]⟩
def jmg:TI:=⟨.strct false [(0,3),(1,22),(2,3),(3,3)],4,48,[(.int .i64 0),(.slice none 0 0),(.int .i64 0),(.int .i64 0)]⟩
def jmh:TI:=⟨.slice 3,1,24,[(.slice none 0 0)]⟩
def jmi:TI:=⟨.slice 48,1,24,[(.slice none 0 0)]⟩
def jmj:TI:=⟨.strct false [(0,25),(1,25),(2,26)],3,72,[(.slice none 0 0),(.slice none 0 0),(.slice none 0 0)]⟩
def jmk:TI:=⟨.strct false [(0,25),(1,25),(2,26)],3,72,[(.slice none 0 0),(.slice none 0 0),(.slice none 0 0)]⟩
def jml:TI:=⟨.other,1,8,[.nilFunc]⟩
def jmm:TI:=⟨.other,1,8,[.nilFunc]⟩
def jmn:TI:=⟨.other,1,8,[.nilFunc]⟩
def jmo:TI:=⟨.other,1,8,[.nilFunc]⟩
def jmp:TI:=⟨.other,1,8,[.nilFunc]⟩
def jmq:TI:=⟨.int .i64,1,8,[(.int .i64 0)]⟩
def jmr:TI:=⟨.other,1,8,[.nilFunc]⟩
def jms:TI:=⟨.other,1,8,[.nilFunc]⟩
def jmt:TI:=⟨.slice 25,1,24,[(.slice none 0 0)]⟩
def jmu:TI:=⟨.other,1,8,[.nilFunc]⟩
def jmv:TI:=⟨.other,1,8,[.nilFunc]⟩
def jmw:TI:=⟨.strct false [(0,9),(1,25),(2,25)],3,64,[(.string ⟨#[]⟩),(.slice none 0 0),(.slice none 0 0)]⟩
def jmx:TI:=⟨.strct false [(0,9),(1,25),(2,25)],3,64,[(.string ⟨#[]⟩),(.slice none 0 0),(.slice none 0 0)]⟩
def jmy:TI:=⟨.other,1,8,[.nilFunc]⟩
def jmz:TI:=⟨.other,1,8,[.nilFunc]⟩
def jm0:TI:=⟨.other,1,8,[.nilFunc]⟩
def jm1:TI:=⟨.other,1,8,[.nilFunc]⟩
def jm2:TI:=⟨.arr false 2 25,2,48,[(.slice none 0 0),(.slice none 0 0)]⟩
def jm3:TI:=⟨.other,1,8,[.nilFunc]⟩
def jm4:TI:=⟨.other,1,8,[.nilFunc]⟩
def jm5:TI:=⟨.slice 83,1,24,[(.slice none 0 0)]⟩
def jm6:TI:=⟨.other,1,8,[.nilFunc]⟩
def jm7:TI:=⟨.other,1,8,[.nilFunc]⟩
def jm8:TI:=⟨.other,1,8,[.nilFunc]⟩
def jm9:TI:=⟨.other,1,8,[.nilFunc]⟩
def jna:TI:=⟨.other,1,8,[.nilFunc]⟩
def jnb:TI:=⟨.other,1,8,[.nilFunc]⟩
def jnc:TI:=⟨.slice 9,1,24,[(.slice none 0 0)]⟩
def jnd:TI:=⟨.other,1,8,[.nilFunc]⟩
def jne:TI:=⟨.other,1,8,[.nilFunc]⟩
def jnf:TI:=⟨.other,1,8,[.nilFunc]⟩
def jng:TI:=⟨.other,1,8,[.nilFunc]⟩
def jnh:TI:=⟨.other,1,8,[.nilFunc]⟩
def jni:TI:=⟨.other,1,8,[.nilFunc]⟩
def jnj:TI:=⟨.other,1,8,[.nilFunc]⟩
def jnk:TI:=⟨.other,1,8,[.nilFunc]⟩
def jnl:TI:=⟨.other,1,8,[.nilFunc]⟩
def jnm:TI:=⟨.other,1,8,[.nilFunc]⟩
def jnn:TI:=⟨.other,1,8,[.nilFunc]⟩
def jno:TI:=⟨.other,1,8,[.nilFunc]⟩
def jnp:TI:=⟨.other,1,8,[.nilFunc]⟩
def jnq:TI:=⟨.other,1,8,[.nilFunc]⟩
def jnr:TI:=⟨.other,1,8,[.nilFunc]⟩
def jns:TI:=⟨.other,1,8,[.nilFunc]⟩
def jnt:TI:=⟨.other,1,8,[.nilFunc]⟩
def jnu:TI:=⟨.other,1,8,[.nilFunc]⟩
def jnv:TI:=⟨.strct false [(0,25),(1,25)],2,48,[(.slice none 0 0),(.slice none 0 0)]⟩
def jnw:TI:=⟨.strct false [(0,25),(1,25)],2,48,[(.slice none 0 0),(.slice none 0 0)]⟩
def jnx:TI:=⟨.other,1,8,[.nilFunc]⟩
def jny:TI:=⟨.other,1,8,[.nilFunc]⟩
def jnz:TI:=⟨.slice 92,1,24,[(.slice none 0 0)]⟩
def jn0:TI:=⟨.other,1,8,[.nilFunc]⟩
def jn1:TI:=⟨.other,1,8,[.nilFunc]⟩
def jn2:TI:=⟨.strct false [(0,3),(1,25),(2,25)],3,56,[(.int .i64 0),(.slice none 0 0),(.slice none 0 0)]⟩
def jn3:TI:=⟨.strct false [(0,3),(1,25),(2,25)],3,56,[(.int .i64 0),(.slice none 0 0),(.slice none 0 0)]⟩
def jn4:TI:=⟨.other,1,8,[.nilFunc]⟩
def jn5:TI:=⟨.other,1,8,[.nilFunc]⟩
def jn6:TI:=⟨.other,1,8,[.nilFunc]⟩
def jn7:TI:=⟨.slice 102,1,24,[(.slice none 0 0)]⟩
def jd5:TI:=⟨.other,1,8,[.nilFunc]⟩
def jd6:TI:=⟨.strct false [(0,3),(1,25),(2,25)],3,56,[(.int .i64 0),(.slice none 0 0),(.slice none 0 0)]⟩
def jd7:TI:=⟨.strct false [(0,3),(1,25),(2,25)],3,56,[(.int .i64 0),(.slice none 0 0),(.slice none 0 0)]⟩
def jd8:TI:=⟨.other,1,8,[.nilFunc]⟩
def jd9:TI:=⟨.other,1,8,[.nilFunc]⟩
def jea:TI:=⟨.other,1,8,[.nilFunc]⟩
def jeb:TI:=⟨.other,1,8,[.nilFunc]⟩
def jec:TI:=⟨.other,1,8,[.nilFunc]⟩
def jed:TI:=⟨.other,1,8,[.nilFunc]⟩
def jee:TI:=⟨.other,1,8,[.nilFunc]⟩
def jef:TI:=⟨.other,1,8,[.nilFunc]⟩
def jeg:TI:=⟨.other,1,8,[.nilFunc]⟩
def jeh:TI:=⟨.other,1,8,[.nilFunc]⟩
def jei:TI:=⟨.map 9 4,1,8,[(.map none)]⟩
def jej:TI:=⟨.other,1,8,[.nilFunc]⟩
def jek:TI:=⟨.other,1,8,[.nilFunc]⟩
def jel:TI:=⟨.other,1,8,[.nilFunc]⟩
def jem:TI:=⟨.other,1,8,[.nilFunc]⟩
def jen:TI:=⟨.other,1,8,[.nilFunc]⟩
def jeo:TI:=⟨.other,1,8,[.nilFunc]⟩
def jep:TI:=⟨.other,1,8,[.nilFunc]⟩
def jeq:TI:=⟨.other,1,8,[.nilFunc]⟩
def jer:TI:=⟨.other,1,8,[.nilFunc]⟩
def jes:TI:=⟨.slice 129,1,24,[(.slice none 0 0)]⟩
def jet:TI:=⟨.other,1,8,[.nilFunc]⟩
def jeu:TI:=⟨.strct false [(0,3),(1,25)],2,32,[(.int .i64 0),(.slice none 0 0)]⟩
def jev:TI:=⟨.strct false [(0,3),(1,25)],2,32,[(.int .i64 0),(.slice none 0 0)]⟩
def jew:TI:=⟨.other,1,8,[.nilFunc]⟩
def jex:TI:=⟨.other,1,8,[.nilFunc]⟩
def jey:TI:=⟨.other,1,8,[.nilFunc]⟩
def jez:TI:=⟨.slice 4,1,24,[(.slice none 0 0)]⟩
def je0:TI:=⟨.other,1,8,[.nilFunc]⟩
def je1:TI:=⟨.other,1,8,[.nilFunc]⟩
def je2:TI:=⟨.other,1,8,[.nilFunc]⟩
def je3:TI:=⟨.other,1,8,[.nilFunc]⟩
def je4:TI:=⟨.other,1,8,[.nilFunc]⟩
def je5:TI:=⟨.other,1,8,[.nilFunc]⟩
def je6:TI:=⟨.other,1,8,[.nilFunc]⟩
def je7:TI:=⟨.other,1,8,[.nilFunc]⟩
def je8:TI:=⟨.other,1,8,[(.pointer none)]⟩
def je9:TI:=⟨.slice 5,1,24,[(.slice none 0 0)]⟩
def jfa:TI:=⟨.strct false [(0,143),(1,144)],2,32,[(.pointer none),(.slice none 0 0)]⟩
def jfb:TI:=⟨.strct false [(0,143),(1,144)],2,32,[(.pointer none),(.slice none 0 0)]⟩
def jfc:TI:=⟨.other,1,16,[.nilIface]⟩
def jfd:TI:=⟨.other,1,16,[.nilIface]⟩
def jfe:TI:=⟨.other,1,8,[.nilFunc]⟩
def jff:TI:=⟨.int .u64,1,8,[(.int .u64 0)]⟩
def jfg:TI:=⟨.other,1,8,[.nilFunc]⟩
def jfh:TI:=⟨.other,1,8,[.nilFunc]⟩
def jfi:TI:=⟨.other,1,8,[.nilFunc]⟩
def jfj:TI:=⟨.other,1,8,[.nilFunc]⟩
def jfk:TI:=⟨.other,1,8,[(.pointer none)]⟩
def jfl:TI:=⟨.other,1,8,[(.pointer none)]⟩
def jfm:TI:=⟨.other,1,8,[.nilFunc]⟩
def jfn:TI:=⟨.strct false [(0,17),(1,17),(2,17),(3,9)],4,40,[(.pointer none),(.pointer none),(.pointer none),(.string ⟨#[]⟩)]⟩
def jfo:TI:=⟨.strct false [(0,17),(1,17),(2,17),(3,9)],4,40,[(.pointer none),(.pointer none),(.pointer none),(.string ⟨#[]⟩)]⟩
def jfp:TI:=⟨.arr false 0 16,0,0,[]⟩
def jfq:TI:=⟨.strct false [(0,160)],0,0,[]⟩
def jfr:TI:=⟨.strct false [(0,160)],0,0,[]⟩
def jfs:TI:=⟨.other,1,8,[.nilFunc]⟩
def jft:TI:=⟨.int .u32,1,4,[(.int .u32 0)]⟩
def jfu:TI:=⟨.int .u8,1,1,[(.int .u8 0)]⟩
def jfv:TI:=⟨.int .u8,1,1,[(.int .u8 0)]⟩
def jfw:TI:=⟨.other,1,8,[.nilFunc]⟩
def jfx:TI:=⟨.int .i32,1,4,[(.int .i32 0)]⟩
def jfy:TI:=⟨.int .i32,1,4,[(.int .i32 0)]⟩
def jfz:TI:=⟨.strct false [(0,12),(1,12),(2,164),(3,165),(4,5),(5,5),(6,166),(7,167),(8,155),(9,168),(10,169)],11,48,[(.int .u64 0),(.int .u64 0),(.int .u32 0),(.int .u8 0),(.int .u8 0),(.int .u8 0),(.int .u8 0), .nilFunc,(.pointer none),(.int .i32 0),(.int .i32 0)]⟩
def jf0:TI:=⟨.strct false [(0,12),(1,12),(2,164),(3,165),(4,5),(5,5),(6,166),(7,167),(8,155),(9,168),(10,169)],11,48,[(.int .u64 0),(.int .u64 0),(.int .u32 0),(.int .u8 0),(.int .u8 0),(.int .u8 0),(.int .u8 0), .nilFunc,(.pointer none),(.int .i32 0),(.int .i32 0)]⟩
def tt:TT
 |1=>some ti1
 |2=>some ti2
 |3=>some ti3
 |4=>some ti4
 |5=>some ti5
 |6=>some ti6
 |7=>some ti7
 |8=>some ti8
 |9=>some ti9
 |10=>some jl2
 |11=>some jl3
 |12=>some jl4
 |13=>some jl5
 |14=>some jl6
 |15=>some jl7
 |16=>some jl8
 |17=>some jl9
 |18=>some jma
 |19=>some jmb
 |20=>some jmc
 |21=>some jmd
 |22=>some jme
 |23=>some jmf
 |24=>some jmg
 |25=>some jmh
 |26=>some jmi
 |27=>some jmj
 |28=>some jmk
 |29=>some jml
 |30=>some jmm
 |31=>some jmn
 |32=>some jmo
 |33=>some jmp
 |34=>some jmq
 |36=>some jmr
 |37=>some jms
 |38=>some jmt
 |40=>some jmu
 |41=>some jmv
 |42=>some jmw
 |43=>some jmx
 |44=>some jmy
 |45=>some jmz
 |46=>some jm0
 |47=>some jm1
 |48=>some jm2
 |49=>some jm3
 |51=>some jm4
 |52=>some jm5
 |53=>some jm6
 |54=>some jm7
 |55=>some jm8
 |56=>some jm9
 |58=>some jna
 |59=>some jnb
 |60=>some jnc
 |62=>some jnd
 |64=>some jne
 |65=>some jnf
 |67=>some jng
 |68=>some jnh
 |69=>some jni
 |70=>some jnj
 |71=>some jnk
 |72=>some jnl
 |73=>some jnm
 |74=>some jnn
 |75=>some jno
 |76=>some jnp
 |77=>some jnq
 |78=>some jnr
 |79=>some jns
 |80=>some jnt
 |81=>some jnu
 |82=>some jnv
 |83=>some jnw
 |84=>some jnx
 |86=>some jny
 |87=>some jnz
 |89=>some jn0
 |90=>some jn1
 |91=>some jn2
 |92=>some jn3
 |93=>some jn4
 |95=>some jn5
 |97=>some jn6
 |98=>some jn7
 |100=>some jd5
 |101=>some jd6
 |102=>some jd7
 |103=>some jd8
 |105=>some jd9
 |106=>some jea
 |108=>some jeb
 |109=>some jec
 |110=>some jed
 |111=>some jee
 |112=>some jef
 |113=>some jeg
 |115=>some jeh
 |116=>some jei
 |117=>some jej
 |118=>some jek
 |119=>some jel
 |120=>some jem
 |121=>some jen
 |122=>some jeo
 |123=>some jep
 |124=>some jeq
 |125=>some jer
 |126=>some jes
 |127=>some jet
 |128=>some jeu
 |129=>some jev
 |130=>some jew
 |131=>some jex
 |132=>some jey
 |133=>some jez
 |135=>some je0
 |136=>some je1
 |137=>some je2
 |138=>some je3
 |139=>some je4
 |140=>some je5
 |141=>some je6
 |142=>some je7
 |143=>some je8
 |144=>some je9
 |145=>some jfa
 |146=>some jfb
 |147=>some jfc
 |148=>some jfd
 |149=>some jfe
 |150=>some jff
 |151=>some jfg
 |152=>some jfh
 |153=>some jfi
 |154=>some jfj
 |155=>some jfk
 |156=>some jfl
 |157=>some jfm
 |158=>some jfn
 |159=>some jfo
 |160=>some jfp
 |161=>some jfq
 |162=>some jfr
 |163=>some jfs
 |164=>some jft
 |165=>some jfu
 |166=>some jfv
 |167=>some jfw
 |168=>some jfx
 |169=>some jfy
 |170=>some jfz
 |171=>some jf0
 |_=>none
theorem jqo:aj Try.prog 1 ti1:=ak (z:= .nilFunc) (by kernel_rfl) Try.underlying1 rfl rfl (by intro h;cases h) (fun h=>by cases h)
theorem tt1:tt 1=some ⟨.other,1,8,[.nilFunc]⟩:=rfl
theorem jqp:aj Try.prog 2 ti2:=ak (z:=(.int .i64 0)) (by kernel_rfl) Try.underlying2 rfl rfl (by intro h;cases h) (fun _=>rfl)
theorem tt2:tt 2=some ⟨.int .i64,1,8,[(.int .i64 0)]⟩:=rfl
theorem jqq:aj Try.prog 3 ti3:=ak (z:=(.int .i64 0)) (by kernel_rfl) Try.underlying3 rfl rfl (by intro h;cases h) (fun _=>rfl)
theorem tt3:tt 3=some ⟨.int .i64,1,8,[(.int .i64 0)]⟩:=rfl
theorem jqr:aj Try.prog 4 ti4:=ak (z:=(.bool false)) (by kernel_rfl) Try.underlying4 rfl rfl (by intro h;cases h) (fun _=>rfl)
theorem tt4:tt 4=some ⟨.bool,1,1,[(.bool false)]⟩:=rfl
theorem jqs:aj Try.prog 5 ti5:=ak (z:=(.int .u8 0)) (by kernel_rfl) Try.underlying5 rfl rfl (by intro h;cases h) (fun _=>rfl)
theorem tt5:tt 5=some ⟨.int .u8,1,1,[(.int .u8 0)]⟩:=rfl
theorem jqt:aj Try.prog 6 ti6:=ak (z:=(.int .u8 0)) (by kernel_rfl) Try.underlying6 rfl rfl (by intro h;cases h) (fun _=>rfl)
theorem tt6:tt 6=some ⟨.int .u8,1,1,[(.int .u8 0)]⟩:=rfl
theorem jqu:aj Try.prog 7 ti7:=ak (z:= .agg #[(.int .i64 0),(.int .i64 0),(.bool false),(.int .u8 0)]) (by kernel_rfl) Try.underlying7 rfl rfl (by exact fun _=>⟨by kernel_rfl,by kernel_rfl,by kernel_rfl⟩) (fun h=>by cases h)
theorem tt7:tt 7=some ⟨.strct true [(0,2),(1,3),(2,4),(3,6)],4,24,[(.int .i64 0),(.int .i64 0),(.bool false),(.int .u8 0)]⟩:=rfl
theorem jqv:aj Try.prog 8 ti8:=ak (z:= .agg #[(.int .i64 0),(.int .i64 0),(.bool false),(.int .u8 0)]) (by kernel_rfl) Try.underlying8 rfl rfl (by exact fun _=>⟨by kernel_rfl,by kernel_rfl,by kernel_rfl⟩) (fun h=>by cases h)
theorem tt8:tt 8=some ⟨.strct true [(0,2),(1,3),(2,4),(3,6)],4,24,[(.int .i64 0),(.int .i64 0),(.bool false),(.int .u8 0)]⟩:=rfl
theorem jqw:aj Try.prog 9 ti9:=ak (z:=(.string ⟨#[]⟩)) (by kernel_rfl) Try.underlying9 rfl rfl (by intro h;cases h) (fun _=>rfl)
theorem tt9:tt 9=some ⟨.str,1,16,[(.string ⟨#[]⟩)]⟩:=rfl
theorem jjm:aj Try.prog 10 jl2:=ak (z:=(.string ⟨#[]⟩)) (by kernel_rfl) Try.underlying10 rfl rfl (by intro h;cases h) (fun _=>rfl)
theorem jq4:tt 10=some ⟨.str,1,16,[(.string ⟨#[]⟩)]⟩:=rfl
theorem jjn:aj Try.prog 11 jl3:=ak (z:=(.string ⟨#[]⟩)) (by kernel_rfl) Try.underlying11 rfl rfl (by intro h;cases h) (fun _=>rfl)
theorem jq5:tt 11=some ⟨.str,1,16,[(.string ⟨#[]⟩)]⟩:=rfl
theorem jjo:aj Try.prog 12 jl4:=ak (z:=(.int .u64 0)) (by kernel_rfl) Try.underlying12 rfl rfl (by intro h;cases h) (fun _=>rfl)
theorem jq6:tt 12=some ⟨.int .u64,1,8,[(.int .u64 0)]⟩:=rfl
theorem jjp:aj Try.prog 13 jl5:=ak (z:= .agg #[(.string ⟨#[]⟩),(.int .u64 0)]) (by kernel_rfl) Try.underlying13 rfl rfl (by intro h;cases h) (fun h=>by cases h)
theorem jq7:tt 13=some ⟨.strct false [(0,9),(1,12)],2,24,[(.string ⟨#[]⟩),(.int .u64 0)]⟩:=rfl
theorem jjq:aj Try.prog 14 jl6:=ak (z:= .agg #[(.string ⟨#[]⟩),(.int .u64 0)]) (by kernel_rfl) Try.underlying14 rfl rfl (by intro h;cases h) (fun h=>by cases h)
theorem jq8:tt 14=some ⟨.strct false [(0,9),(1,12)],2,24,[(.string ⟨#[]⟩),(.int .u64 0)]⟩:=rfl
theorem jjr:aj Try.prog 15 jl7:=ak (z:=(.pointer none)) (by kernel_rfl) Try.underlying15 rfl rfl (by intro h;cases h) (fun h=>by cases h)
theorem jq9:tt 15=some ⟨.other,1,8,[(.pointer none)]⟩:=rfl
theorem jjs:aj Try.prog 16 jl8:=ak (z:=(.pointer none)) (by kernel_rfl) Try.underlying16 rfl rfl (by intro h;cases h) (fun h=>by cases h)
theorem jra:tt 16=some ⟨.other,1,8,[(.pointer none)]⟩:=rfl
theorem jjt:aj Try.prog 17 jl9:=ak (z:=(.pointer none)) (by kernel_rfl) Try.underlying17 rfl rfl (by intro h;cases h) (fun h=>by cases h)
theorem jrb:tt 17=some ⟨.other,1,8,[(.pointer none)]⟩:=rfl
theorem jju:aj Try.prog 18 jma:=ak (z:= .agg #[(.pointer none)]) (by kernel_rfl) Try.underlying18 rfl rfl (by intro h;cases h) (fun h=>by cases h)
theorem jrc:tt 18=some ⟨.strct false [(0,17)],1,8,[(.pointer none)]⟩:=rfl
theorem jjv:aj Try.prog 19 jmb:=ak (z:= .agg #[(.pointer none)]) (by kernel_rfl) Try.underlying19 rfl rfl (by intro h;cases h) (fun h=>by cases h)
theorem jrd:tt 19=some ⟨.strct false [(0,17)],1,8,[(.pointer none)]⟩:=rfl
theorem jjw:aj Try.prog 20 jmc:=ak (z:= .nilIface) (by kernel_rfl) Try.underlying20 rfl rfl (by intro h;cases h) (fun h=>by cases h)
theorem jre:tt 20=some ⟨.other,1,16,[.nilIface]⟩:=rfl
theorem jjx:aj Try.prog 21 jmd:=ak (z:=(.int .i32 0)) (by kernel_rfl) Try.underlying21 rfl rfl (by intro h;cases h) (fun _=>rfl)
theorem jrf:tt 21=some ⟨.int .i32,1,4,[(.int .i32 0)]⟩:=rfl
theorem jjy:aj Try.prog 22 jme:=ak (z:=(.slice none 0 0)) (by kernel_rfl) Try.underlying22 rfl rfl (by intro h;cases h) (fun h=>by cases h)
theorem jrg:tt 22=some ⟨.slice 43,1,24,[(.slice none 0 0)]⟩:=rfl
theorem jjz:aj Try.prog 23 jmf:=ak (z:= .agg #[(.int .i64 0),(.slice none 0 0),(.int .i64 0),(.int .i64 0)]) (by kernel_rfl) Try.underlying23 rfl rfl (by intro h;cases h) (fun h=>by cases h)
theorem jrh:tt 23=some ⟨.strct false [(0,3),(1,22),(2,3),(3,3)],4,48,[(.int .i64 0),(.slice none 0 0),(.int .i64 0),(.int .i64 0)]⟩:=rfl
theorem jj0:aj Try.prog 24 jmg:=ak (z:= .agg #[(.int .i64 0),(.slice none 0 0),(.int .i64 0),(.int .i64 0)]) (by kernel_rfl) Try.underlying24 rfl rfl (by intro h;cases h) (fun h=>by cases h)
theorem jri:tt 24=some ⟨.strct false [(0,3),(1,22),(2,3),(3,3)],4,48,[(.int .i64 0),(.slice none 0 0),(.int .i64 0),(.int .i64 0)]⟩:=rfl
theorem jj1:aj Try.prog 25 jmh:=ak (z:=(.slice none 0 0)) (by kernel_rfl) Try.underlying25 rfl rfl (by intro h;cases h) (fun h=>by cases h)
theorem jrj:tt 25=some ⟨.slice 3,1,24,[(.slice none 0 0)]⟩:=rfl
theorem jj2:aj Try.prog 26 jmi:=ak (z:=(.slice none 0 0)) (by kernel_rfl) Try.underlying26 rfl rfl (by intro h;cases h) (fun h=>by cases h)
theorem jrk:tt 26=some ⟨.slice 48,1,24,[(.slice none 0 0)]⟩:=rfl
theorem jj3:aj Try.prog 27 jmj:=ak (z:= .agg #[(.slice none 0 0),(.slice none 0 0),(.slice none 0 0)]) (by kernel_rfl) Try.underlying27 rfl rfl (by intro h;cases h) (fun h=>by cases h)
theorem jrl:tt 27=some ⟨.strct false [(0,25),(1,25),(2,26)],3,72,[(.slice none 0 0),(.slice none 0 0),(.slice none 0 0)]⟩:=rfl
theorem jj4:aj Try.prog 28 jmk:=ak (z:= .agg #[(.slice none 0 0),(.slice none 0 0),(.slice none 0 0)]) (by kernel_rfl) Try.underlying28 rfl rfl (by intro h;cases h) (fun h=>by cases h)
theorem jrm:tt 28=some ⟨.strct false [(0,25),(1,25),(2,26)],3,72,[(.slice none 0 0),(.slice none 0 0),(.slice none 0 0)]⟩:=rfl
theorem jj5:aj Try.prog 29 jml:=ak (z:= .nilFunc) (by kernel_rfl) Try.underlying29 rfl rfl (by intro h;cases h) (fun h=>by cases h)
theorem jrn:tt 29=some ⟨.other,1,8,[.nilFunc]⟩:=rfl
theorem jj6:aj Try.prog 30 jmm:=ak (z:= .nilFunc) (by kernel_rfl) Try.underlying30 rfl rfl (by intro h;cases h) (fun h=>by cases h)
theorem jro:tt 30=some ⟨.other,1,8,[.nilFunc]⟩:=rfl
theorem jj7:aj Try.prog 31 jmn:=ak (z:= .nilFunc) (by kernel_rfl) Try.underlying31 rfl rfl (by intro h;cases h) (fun h=>by cases h)
theorem jrp:tt 31=some ⟨.other,1,8,[.nilFunc]⟩:=rfl
theorem jj8:aj Try.prog 32 jmo:=ak (z:= .nilFunc) (by kernel_rfl) Try.underlying32 rfl rfl (by intro h;cases h) (fun h=>by cases h)
theorem jrq:tt 32=some ⟨.other,1,8,[.nilFunc]⟩:=rfl
theorem jj9:aj Try.prog 33 jmp:=ak (z:= .nilFunc) (by kernel_rfl) Try.underlying33 rfl rfl (by intro h;cases h) (fun h=>by cases h)
theorem jrr:tt 33=some ⟨.other,1,8,[.nilFunc]⟩:=rfl
theorem jka:aj Try.prog 34 jmq:=ak (z:=(.int .i64 0)) (by kernel_rfl) Try.underlying34 rfl rfl (by intro h;cases h) (fun _=>rfl)
theorem jrs:tt 34=some ⟨.int .i64,1,8,[(.int .i64 0)]⟩:=rfl
theorem jkb:aj Try.prog 36 jmr:=ak (z:= .nilFunc) (by kernel_rfl) Try.underlying36 rfl rfl (by intro h;cases h) (fun h=>by cases h)
theorem jrt:tt 36=some ⟨.other,1,8,[.nilFunc]⟩:=rfl
theorem jkc:aj Try.prog 37 jms:=ak (z:= .nilFunc) (by kernel_rfl) Try.underlying37 rfl rfl (by intro h;cases h) (fun h=>by cases h)
theorem jru:tt 37=some ⟨.other,1,8,[.nilFunc]⟩:=rfl
theorem jkd:aj Try.prog 38 jmt:=ak (z:=(.slice none 0 0)) (by kernel_rfl) Try.underlying38 rfl rfl (by intro h;cases h) (fun h=>by cases h)
theorem jrv:tt 38=some ⟨.slice 25,1,24,[(.slice none 0 0)]⟩:=rfl
theorem jke:aj Try.prog 40 jmu:=ak (z:= .nilFunc) (by kernel_rfl) Try.underlying40 rfl rfl (by intro h;cases h) (fun h=>by cases h)
theorem jrw:tt 40=some ⟨.other,1,8,[.nilFunc]⟩:=rfl
theorem jkf:aj Try.prog 41 jmv:=ak (z:= .nilFunc) (by kernel_rfl) Try.underlying41 rfl rfl (by intro h;cases h) (fun h=>by cases h)
theorem jrx:tt 41=some ⟨.other,1,8,[.nilFunc]⟩:=rfl
theorem jkg:aj Try.prog 42 jmw:=ak (z:= .agg #[(.string ⟨#[]⟩),(.slice none 0 0),(.slice none 0 0)]) (by kernel_rfl) Try.underlying42 rfl rfl (by intro h;cases h) (fun h=>by cases h)
theorem jry:tt 42=some ⟨.strct false [(0,9),(1,25),(2,25)],3,64,[(.string ⟨#[]⟩),(.slice none 0 0),(.slice none 0 0)]⟩:=rfl
theorem jkh:aj Try.prog 43 jmx:=ak (z:= .agg #[(.string ⟨#[]⟩),(.slice none 0 0),(.slice none 0 0)]) (by kernel_rfl) Try.underlying43 rfl rfl (by intro h;cases h) (fun h=>by cases h)
theorem jrz:tt 43=some ⟨.strct false [(0,9),(1,25),(2,25)],3,64,[(.string ⟨#[]⟩),(.slice none 0 0),(.slice none 0 0)]⟩:=rfl
theorem jki:aj Try.prog 44 jmy:=ak (z:= .nilFunc) (by kernel_rfl) Try.underlying44 rfl rfl (by intro h;cases h) (fun h=>by cases h)
theorem jr0:tt 44=some ⟨.other,1,8,[.nilFunc]⟩:=rfl
theorem jkj:aj Try.prog 45 jmz:=ak (z:= .nilFunc) (by kernel_rfl) Try.underlying45 rfl rfl (by intro h;cases h) (fun h=>by cases h)
theorem jr1:tt 45=some ⟨.other,1,8,[.nilFunc]⟩:=rfl
theorem jkk:aj Try.prog 46 jm0:=ak (z:= .nilFunc) (by kernel_rfl) Try.underlying46 rfl rfl (by intro h;cases h) (fun h=>by cases h)
theorem jr2:tt 46=some ⟨.other,1,8,[.nilFunc]⟩:=rfl
theorem jkl:aj Try.prog 47 jm1:=ak (z:= .nilFunc) (by kernel_rfl) Try.underlying47 rfl rfl (by intro h;cases h) (fun h=>by cases h)
theorem jr3:tt 47=some ⟨.other,1,8,[.nilFunc]⟩:=rfl
theorem jkm:aj Try.prog 48 jm2:=ak (z:= .agg #[(.slice none 0 0),(.slice none 0 0)]) (by kernel_rfl) Try.underlying48 rfl rfl (by intro h;cases h) (fun h=>by cases h)
theorem jr4:tt 48=some ⟨.arr false 2 25,2,48,[(.slice none 0 0),(.slice none 0 0)]⟩:=rfl
theorem jkn:aj Try.prog 49 jm3:=ak (z:= .nilFunc) (by kernel_rfl) Try.underlying49 rfl rfl (by intro h;cases h) (fun h=>by cases h)
theorem jr5:tt 49=some ⟨.other,1,8,[.nilFunc]⟩:=rfl
theorem jko:aj Try.prog 51 jm4:=ak (z:= .nilFunc) (by kernel_rfl) Try.underlying51 rfl rfl (by intro h;cases h) (fun h=>by cases h)
theorem jr6:tt 51=some ⟨.other,1,8,[.nilFunc]⟩:=rfl
theorem jkp:aj Try.prog 52 jm5:=ak (z:=(.slice none 0 0)) (by kernel_rfl) Try.underlying52 rfl rfl (by intro h;cases h) (fun h=>by cases h)
theorem jr7:tt 52=some ⟨.slice 83,1,24,[(.slice none 0 0)]⟩:=rfl
theorem jkq:aj Try.prog 53 jm6:=ak (z:= .nilFunc) (by kernel_rfl) Try.underlying53 rfl rfl (by intro h;cases h) (fun h=>by cases h)
theorem jr8:tt 53=some ⟨.other,1,8,[.nilFunc]⟩:=rfl
theorem jkr:aj Try.prog 54 jm7:=ak (z:= .nilFunc) (by kernel_rfl) Try.underlying54 rfl rfl (by intro h;cases h) (fun h=>by cases h)
theorem jr9:tt 54=some ⟨.other,1,8,[.nilFunc]⟩:=rfl
theorem jks:aj Try.prog 55 jm8:=ak (z:= .nilFunc) (by kernel_rfl) Try.underlying55 rfl rfl (by intro h;cases h) (fun h=>by cases h)
theorem jsa:tt 55=some ⟨.other,1,8,[.nilFunc]⟩:=rfl
theorem jkt:aj Try.prog 56 jm9:=ak (z:= .nilFunc) (by kernel_rfl) Try.underlying56 rfl rfl (by intro h;cases h) (fun h=>by cases h)
theorem jsb:tt 56=some ⟨.other,1,8,[.nilFunc]⟩:=rfl
theorem jku:aj Try.prog 58 jna:=ak (z:= .nilFunc) (by kernel_rfl) Try.underlying58 rfl rfl (by intro h;cases h) (fun h=>by cases h)
theorem jsc:tt 58=some ⟨.other,1,8,[.nilFunc]⟩:=rfl
theorem jkv:aj Try.prog 59 jnb:=ak (z:= .nilFunc) (by kernel_rfl) Try.underlying59 rfl rfl (by intro h;cases h) (fun h=>by cases h)
theorem jsd:tt 59=some ⟨.other,1,8,[.nilFunc]⟩:=rfl
theorem jkw:aj Try.prog 60 jnc:=ak (z:=(.slice none 0 0)) (by kernel_rfl) Try.underlying60 rfl rfl (by intro h;cases h) (fun h=>by cases h)
theorem jse:tt 60=some ⟨.slice 9,1,24,[(.slice none 0 0)]⟩:=rfl
theorem jkx:aj Try.prog 62 jnd:=ak (z:= .nilFunc) (by kernel_rfl) Try.underlying62 rfl rfl (by intro h;cases h) (fun h=>by cases h)
theorem jsf:tt 62=some ⟨.other,1,8,[.nilFunc]⟩:=rfl
theorem jky:aj Try.prog 64 jne:=ak (z:= .nilFunc) (by kernel_rfl) Try.underlying64 rfl rfl (by intro h;cases h) (fun h=>by cases h)
theorem jsg:tt 64=some ⟨.other,1,8,[.nilFunc]⟩:=rfl
theorem jkz:aj Try.prog 65 jnf:=ak (z:= .nilFunc) (by kernel_rfl) Try.underlying65 rfl rfl (by intro h;cases h) (fun h=>by cases h)
theorem jsh:tt 65=some ⟨.other,1,8,[.nilFunc]⟩:=rfl
theorem jk0:aj Try.prog 67 jng:=ak (z:= .nilFunc) (by kernel_rfl) Try.underlying67 rfl rfl (by intro h;cases h) (fun h=>by cases h)
theorem jsi:tt 67=some ⟨.other,1,8,[.nilFunc]⟩:=rfl
theorem jk1:aj Try.prog 68 jnh:=ak (z:= .nilFunc) (by kernel_rfl) Try.underlying68 rfl rfl (by intro h;cases h) (fun h=>by cases h)
theorem jsj:tt 68=some ⟨.other,1,8,[.nilFunc]⟩:=rfl
theorem jk2:aj Try.prog 69 jni:=ak (z:= .nilFunc) (by kernel_rfl) Try.underlying69 rfl rfl (by intro h;cases h) (fun h=>by cases h)
theorem jsk:tt 69=some ⟨.other,1,8,[.nilFunc]⟩:=rfl
theorem jk3:aj Try.prog 70 jnj:=ak (z:= .nilFunc) (by kernel_rfl) Try.underlying70 rfl rfl (by intro h;cases h) (fun h=>by cases h)
theorem jsl:tt 70=some ⟨.other,1,8,[.nilFunc]⟩:=rfl
theorem jk4:aj Try.prog 71 jnk:=ak (z:= .nilFunc) (by kernel_rfl) Try.underlying71 rfl rfl (by intro h;cases h) (fun h=>by cases h)
theorem jsm:tt 71=some ⟨.other,1,8,[.nilFunc]⟩:=rfl
theorem jk5:aj Try.prog 72 jnl:=ak (z:= .nilFunc) (by kernel_rfl) Try.underlying72 rfl rfl (by intro h;cases h) (fun h=>by cases h)
theorem jsn:tt 72=some ⟨.other,1,8,[.nilFunc]⟩:=rfl
theorem jk6:aj Try.prog 73 jnm:=ak (z:= .nilFunc) (by kernel_rfl) Try.underlying73 rfl rfl (by intro h;cases h) (fun h=>by cases h)
theorem jso:tt 73=some ⟨.other,1,8,[.nilFunc]⟩:=rfl
theorem jk7:aj Try.prog 74 jnn:=ak (z:= .nilFunc) (by kernel_rfl) Try.underlying74 rfl rfl (by intro h;cases h) (fun h=>by cases h)
theorem jsp:tt 74=some ⟨.other,1,8,[.nilFunc]⟩:=rfl
theorem jk8:aj Try.prog 75 jno:=ak (z:= .nilFunc) (by kernel_rfl) Try.underlying75 rfl rfl (by intro h;cases h) (fun h=>by cases h)
theorem jsq:tt 75=some ⟨.other,1,8,[.nilFunc]⟩:=rfl
theorem jk9:aj Try.prog 76 jnp:=ak (z:= .nilFunc) (by kernel_rfl) Try.underlying76 rfl rfl (by intro h;cases h) (fun h=>by cases h)
theorem jsr:tt 76=some ⟨.other,1,8,[.nilFunc]⟩:=rfl
theorem jla:aj Try.prog 77 jnq:=ak (z:= .nilFunc) (by kernel_rfl) Try.underlying77 rfl rfl (by intro h;cases h) (fun h=>by cases h)
theorem jss:tt 77=some ⟨.other,1,8,[.nilFunc]⟩:=rfl
theorem jlb:aj Try.prog 78 jnr:=ak (z:= .nilFunc) (by kernel_rfl) Try.underlying78 rfl rfl (by intro h;cases h) (fun h=>by cases h)
theorem jst:tt 78=some ⟨.other,1,8,[.nilFunc]⟩:=rfl
theorem jlc:aj Try.prog 79 jns:=ak (z:= .nilFunc) (by kernel_rfl) Try.underlying79 rfl rfl (by intro h;cases h) (fun h=>by cases h)
theorem jsu:tt 79=some ⟨.other,1,8,[.nilFunc]⟩:=rfl
theorem jld:aj Try.prog 80 jnt:=ak (z:= .nilFunc) (by kernel_rfl) Try.underlying80 rfl rfl (by intro h;cases h) (fun h=>by cases h)
theorem jsv:tt 80=some ⟨.other,1,8,[.nilFunc]⟩:=rfl
theorem jle:aj Try.prog 81 jnu:=ak (z:= .nilFunc) (by kernel_rfl) Try.underlying81 rfl rfl (by intro h;cases h) (fun h=>by cases h)
theorem jsw:tt 81=some ⟨.other,1,8,[.nilFunc]⟩:=rfl
theorem jlf:aj Try.prog 82 jnv:=ak (z:= .agg #[(.slice none 0 0),(.slice none 0 0)]) (by kernel_rfl) Try.underlying82 rfl rfl (by intro h;cases h) (fun h=>by cases h)
theorem jsx:tt 82=some ⟨.strct false [(0,25),(1,25)],2,48,[(.slice none 0 0),(.slice none 0 0)]⟩:=rfl
theorem jlg:aj Try.prog 83 jnw:=ak (z:= .agg #[(.slice none 0 0),(.slice none 0 0)]) (by kernel_rfl) Try.underlying83 rfl rfl (by intro h;cases h) (fun h=>by cases h)
theorem jsy:tt 83=some ⟨.strct false [(0,25),(1,25)],2,48,[(.slice none 0 0),(.slice none 0 0)]⟩:=rfl
theorem jlh:aj Try.prog 84 jnx:=ak (z:= .nilFunc) (by kernel_rfl) Try.underlying84 rfl rfl (by intro h;cases h) (fun h=>by cases h)
theorem jsz:tt 84=some ⟨.other,1,8,[.nilFunc]⟩:=rfl
theorem jli:aj Try.prog 86 jny:=ak (z:= .nilFunc) (by kernel_rfl) Try.underlying86 rfl rfl (by intro h;cases h) (fun h=>by cases h)
theorem js0:tt 86=some ⟨.other,1,8,[.nilFunc]⟩:=rfl
theorem jlj:aj Try.prog 87 jnz:=ak (z:=(.slice none 0 0)) (by kernel_rfl) Try.underlying87 rfl rfl (by intro h;cases h) (fun h=>by cases h)
theorem js1:tt 87=some ⟨.slice 92,1,24,[(.slice none 0 0)]⟩:=rfl
theorem jlk:aj Try.prog 89 jn0:=ak (z:= .nilFunc) (by kernel_rfl) Try.underlying89 rfl rfl (by intro h;cases h) (fun h=>by cases h)
theorem js2:tt 89=some ⟨.other,1,8,[.nilFunc]⟩:=rfl
theorem jll:aj Try.prog 90 jn1:=ak (z:= .nilFunc) (by kernel_rfl) Try.underlying90 rfl rfl (by intro h;cases h) (fun h=>by cases h)
theorem js3:tt 90=some ⟨.other,1,8,[.nilFunc]⟩:=rfl
theorem jlm:aj Try.prog 91 jn2:=ak (z:= .agg #[(.int .i64 0),(.slice none 0 0),(.slice none 0 0)]) (by kernel_rfl) Try.underlying91 rfl rfl (by intro h;cases h) (fun h=>by cases h)
theorem js4:tt 91=some ⟨.strct false [(0,3),(1,25),(2,25)],3,56,[(.int .i64 0),(.slice none 0 0),(.slice none 0 0)]⟩:=rfl
theorem jln:aj Try.prog 92 jn3:=ak (z:= .agg #[(.int .i64 0),(.slice none 0 0),(.slice none 0 0)]) (by kernel_rfl) Try.underlying92 rfl rfl (by intro h;cases h) (fun h=>by cases h)
theorem js5:tt 92=some ⟨.strct false [(0,3),(1,25),(2,25)],3,56,[(.int .i64 0),(.slice none 0 0),(.slice none 0 0)]⟩:=rfl
theorem jlo:aj Try.prog 93 jn4:=ak (z:= .nilFunc) (by kernel_rfl) Try.underlying93 rfl rfl (by intro h;cases h) (fun h=>by cases h)
theorem js6:tt 93=some ⟨.other,1,8,[.nilFunc]⟩:=rfl
theorem jlp:aj Try.prog 95 jn5:=ak (z:= .nilFunc) (by kernel_rfl) Try.underlying95 rfl rfl (by intro h;cases h) (fun h=>by cases h)
theorem js7:tt 95=some ⟨.other,1,8,[.nilFunc]⟩:=rfl
theorem jlq:aj Try.prog 97 jn6:=ak (z:= .nilFunc) (by kernel_rfl) Try.underlying97 rfl rfl (by intro h;cases h) (fun h=>by cases h)
theorem js8:tt 97=some ⟨.other,1,8,[.nilFunc]⟩:=rfl
theorem jlr:aj Try.prog 98 jn7:=ak (z:=(.slice none 0 0)) (by kernel_rfl) Try.underlying98 rfl rfl (by intro h;cases h) (fun h=>by cases h)
theorem js9:tt 98=some ⟨.slice 102,1,24,[(.slice none 0 0)]⟩:=rfl
theorem jgr:aj Try.prog 100 jd5:=ak (z:= .nilFunc) (by kernel_rfl) Try.underlying100 rfl rfl (by intro h;cases h) (fun h=>by cases h)
theorem jn9:tt 100=some ⟨.other,1,8,[.nilFunc]⟩:=rfl
theorem jgs:aj Try.prog 101 jd6:=ak (z:= .agg #[(.int .i64 0),(.slice none 0 0),(.slice none 0 0)]) (by kernel_rfl) Try.underlying101 rfl rfl (by intro h;cases h) (fun h=>by cases h)
theorem joa:tt 101=some ⟨.strct false [(0,3),(1,25),(2,25)],3,56,[(.int .i64 0),(.slice none 0 0),(.slice none 0 0)]⟩:=rfl
theorem jgt:aj Try.prog 102 jd7:=ak (z:= .agg #[(.int .i64 0),(.slice none 0 0),(.slice none 0 0)]) (by kernel_rfl) Try.underlying102 rfl rfl (by intro h;cases h) (fun h=>by cases h)
theorem job:tt 102=some ⟨.strct false [(0,3),(1,25),(2,25)],3,56,[(.int .i64 0),(.slice none 0 0),(.slice none 0 0)]⟩:=rfl
theorem jgu:aj Try.prog 103 jd8:=ak (z:= .nilFunc) (by kernel_rfl) Try.underlying103 rfl rfl (by intro h;cases h) (fun h=>by cases h)
theorem joc:tt 103=some ⟨.other,1,8,[.nilFunc]⟩:=rfl
theorem jgv:aj Try.prog 105 jd9:=ak (z:= .nilFunc) (by kernel_rfl) Try.underlying105 rfl rfl (by intro h;cases h) (fun h=>by cases h)
theorem jod:tt 105=some ⟨.other,1,8,[.nilFunc]⟩:=rfl
theorem jgw:aj Try.prog 106 jea:=ak (z:= .nilFunc) (by kernel_rfl) Try.underlying106 rfl rfl (by intro h;cases h) (fun h=>by cases h)
theorem joe:tt 106=some ⟨.other,1,8,[.nilFunc]⟩:=rfl
theorem jgx:aj Try.prog 108 jeb:=ak (z:= .nilFunc) (by kernel_rfl) Try.underlying108 rfl rfl (by intro h;cases h) (fun h=>by cases h)
theorem jof:tt 108=some ⟨.other,1,8,[.nilFunc]⟩:=rfl
theorem jgy:aj Try.prog 109 jec:=ak (z:= .nilFunc) (by kernel_rfl) Try.underlying109 rfl rfl (by intro h;cases h) (fun h=>by cases h)
theorem jog:tt 109=some ⟨.other,1,8,[.nilFunc]⟩:=rfl
theorem jgz:aj Try.prog 110 jed:=ak (z:= .nilFunc) (by kernel_rfl) Try.underlying110 rfl rfl (by intro h;cases h) (fun h=>by cases h)
theorem joh:tt 110=some ⟨.other,1,8,[.nilFunc]⟩:=rfl
theorem jg0:aj Try.prog 111 jee:=ak (z:= .nilFunc) (by kernel_rfl) Try.underlying111 rfl rfl (by intro h;cases h) (fun h=>by cases h)
theorem joi:tt 111=some ⟨.other,1,8,[.nilFunc]⟩:=rfl
theorem jg1:aj Try.prog 112 jef:=ak (z:= .nilFunc) (by kernel_rfl) Try.underlying112 rfl rfl (by intro h;cases h) (fun h=>by cases h)
theorem joj:tt 112=some ⟨.other,1,8,[.nilFunc]⟩:=rfl
theorem jg2:aj Try.prog 113 jeg:=ak (z:= .nilFunc) (by kernel_rfl) Try.underlying113 rfl rfl (by intro h;cases h) (fun h=>by cases h)
theorem jok:tt 113=some ⟨.other,1,8,[.nilFunc]⟩:=rfl
theorem jg3:aj Try.prog 115 jeh:=ak (z:= .nilFunc) (by kernel_rfl) Try.underlying115 rfl rfl (by intro h;cases h) (fun h=>by cases h)
theorem jol:tt 115=some ⟨.other,1,8,[.nilFunc]⟩:=rfl
theorem jg4:aj Try.prog 116 jei:=ak (z:=(.map none)) (by kernel_rfl) Try.underlying116 rfl rfl (by intro h;cases h) (fun h=>by cases h)
theorem jom:tt 116=some ⟨.map 9 4,1,8,[(.map none)]⟩:=rfl
theorem jg5:aj Try.prog 117 jej:=ak (z:= .nilFunc) (by kernel_rfl) Try.underlying117 rfl rfl (by intro h;cases h) (fun h=>by cases h)
theorem jon:tt 117=some ⟨.other,1,8,[.nilFunc]⟩:=rfl
theorem jg6:aj Try.prog 118 jek:=ak (z:= .nilFunc) (by kernel_rfl) Try.underlying118 rfl rfl (by intro h;cases h) (fun h=>by cases h)
theorem joo:tt 118=some ⟨.other,1,8,[.nilFunc]⟩:=rfl
theorem jg7:aj Try.prog 119 jel:=ak (z:= .nilFunc) (by kernel_rfl) Try.underlying119 rfl rfl (by intro h;cases h) (fun h=>by cases h)
theorem jop:tt 119=some ⟨.other,1,8,[.nilFunc]⟩:=rfl
theorem jg8:aj Try.prog 120 jem:=ak (z:= .nilFunc) (by kernel_rfl) Try.underlying120 rfl rfl (by intro h;cases h) (fun h=>by cases h)
theorem joq:tt 120=some ⟨.other,1,8,[.nilFunc]⟩:=rfl
theorem jg9:aj Try.prog 121 jen:=ak (z:= .nilFunc) (by kernel_rfl) Try.underlying121 rfl rfl (by intro h;cases h) (fun h=>by cases h)
theorem jor:tt 121=some ⟨.other,1,8,[.nilFunc]⟩:=rfl
theorem jha:aj Try.prog 122 jeo:=ak (z:= .nilFunc) (by kernel_rfl) Try.underlying122 rfl rfl (by intro h;cases h) (fun h=>by cases h)
theorem jos:tt 122=some ⟨.other,1,8,[.nilFunc]⟩:=rfl
theorem jhb:aj Try.prog 123 jep:=ak (z:= .nilFunc) (by kernel_rfl) Try.underlying123 rfl rfl (by intro h;cases h) (fun h=>by cases h)
theorem jot:tt 123=some ⟨.other,1,8,[.nilFunc]⟩:=rfl
theorem jhc:aj Try.prog 124 jeq:=ak (z:= .nilFunc) (by kernel_rfl) Try.underlying124 rfl rfl (by intro h;cases h) (fun h=>by cases h)
theorem jou:tt 124=some ⟨.other,1,8,[.nilFunc]⟩:=rfl
theorem jhd:aj Try.prog 125 jer:=ak (z:= .nilFunc) (by kernel_rfl) Try.underlying125 rfl rfl (by intro h;cases h) (fun h=>by cases h)
theorem jov:tt 125=some ⟨.other,1,8,[.nilFunc]⟩:=rfl
theorem jhe:aj Try.prog 126 jes:=ak (z:=(.slice none 0 0)) (by kernel_rfl) Try.underlying126 rfl rfl (by intro h;cases h) (fun h=>by cases h)
theorem jow:tt 126=some ⟨.slice 129,1,24,[(.slice none 0 0)]⟩:=rfl
theorem jhf:aj Try.prog 127 jet:=ak (z:= .nilFunc) (by kernel_rfl) Try.underlying127 rfl rfl (by intro h;cases h) (fun h=>by cases h)
theorem jox:tt 127=some ⟨.other,1,8,[.nilFunc]⟩:=rfl
theorem jhg:aj Try.prog 128 jeu:=ak (z:= .agg #[(.int .i64 0),(.slice none 0 0)]) (by kernel_rfl) Try.underlying128 rfl rfl (by intro h;cases h) (fun h=>by cases h)
theorem joy:tt 128=some ⟨.strct false [(0,3),(1,25)],2,32,[(.int .i64 0),(.slice none 0 0)]⟩:=rfl
theorem jhh:aj Try.prog 129 jev:=ak (z:= .agg #[(.int .i64 0),(.slice none 0 0)]) (by kernel_rfl) Try.underlying129 rfl rfl (by intro h;cases h) (fun h=>by cases h)
theorem joz:tt 129=some ⟨.strct false [(0,3),(1,25)],2,32,[(.int .i64 0),(.slice none 0 0)]⟩:=rfl
theorem jhi:aj Try.prog 130 jew:=ak (z:= .nilFunc) (by kernel_rfl) Try.underlying130 rfl rfl (by intro h;cases h) (fun h=>by cases h)
theorem jo0:tt 130=some ⟨.other,1,8,[.nilFunc]⟩:=rfl
theorem jhj:aj Try.prog 131 jex:=ak (z:= .nilFunc) (by kernel_rfl) Try.underlying131 rfl rfl (by intro h;cases h) (fun h=>by cases h)
theorem jo1:tt 131=some ⟨.other,1,8,[.nilFunc]⟩:=rfl
theorem jhk:aj Try.prog 132 jey:=ak (z:= .nilFunc) (by kernel_rfl) Try.underlying132 rfl rfl (by intro h;cases h) (fun h=>by cases h)
theorem jo2:tt 132=some ⟨.other,1,8,[.nilFunc]⟩:=rfl
theorem jhl:aj Try.prog 133 jez:=ak (z:=(.slice none 0 0)) (by kernel_rfl) Try.underlying133 rfl rfl (by intro h;cases h) (fun h=>by cases h)
theorem jo3:tt 133=some ⟨.slice 4,1,24,[(.slice none 0 0)]⟩:=rfl
theorem jhm:aj Try.prog 135 je0:=ak (z:= .nilFunc) (by kernel_rfl) Try.underlying135 rfl rfl (by intro h;cases h) (fun h=>by cases h)
theorem jo4:tt 135=some ⟨.other,1,8,[.nilFunc]⟩:=rfl
theorem jhn:aj Try.prog 136 je1:=ak (z:= .nilFunc) (by kernel_rfl) Try.underlying136 rfl rfl (by intro h;cases h) (fun h=>by cases h)
theorem jo5:tt 136=some ⟨.other,1,8,[.nilFunc]⟩:=rfl
theorem jho:aj Try.prog 137 je2:=ak (z:= .nilFunc) (by kernel_rfl) Try.underlying137 rfl rfl (by intro h;cases h) (fun h=>by cases h)
theorem jo6:tt 137=some ⟨.other,1,8,[.nilFunc]⟩:=rfl
theorem jhp:aj Try.prog 138 je3:=ak (z:= .nilFunc) (by kernel_rfl) Try.underlying138 rfl rfl (by intro h;cases h) (fun h=>by cases h)
theorem jo7:tt 138=some ⟨.other,1,8,[.nilFunc]⟩:=rfl
theorem jhq:aj Try.prog 139 je4:=ak (z:= .nilFunc) (by kernel_rfl) Try.underlying139 rfl rfl (by intro h;cases h) (fun h=>by cases h)
theorem jo8:tt 139=some ⟨.other,1,8,[.nilFunc]⟩:=rfl
theorem jhr:aj Try.prog 140 je5:=ak (z:= .nilFunc) (by kernel_rfl) Try.underlying140 rfl rfl (by intro h;cases h) (fun h=>by cases h)
theorem jo9:tt 140=some ⟨.other,1,8,[.nilFunc]⟩:=rfl
theorem jhs:aj Try.prog 141 je6:=ak (z:= .nilFunc) (by kernel_rfl) Try.underlying141 rfl rfl (by intro h;cases h) (fun h=>by cases h)
theorem jpa:tt 141=some ⟨.other,1,8,[.nilFunc]⟩:=rfl
theorem jht:aj Try.prog 142 je7:=ak (z:= .nilFunc) (by kernel_rfl) Try.underlying142 rfl rfl (by intro h;cases h) (fun h=>by cases h)
theorem jpb:tt 142=some ⟨.other,1,8,[.nilFunc]⟩:=rfl
theorem jhu:aj Try.prog 143 je8:=ak (z:=(.pointer none)) (by kernel_rfl) Try.underlying143 rfl rfl (by intro h;cases h) (fun h=>by cases h)
theorem jpc:tt 143=some ⟨.other,1,8,[(.pointer none)]⟩:=rfl
theorem jhv:aj Try.prog 144 je9:=ak (z:=(.slice none 0 0)) (by kernel_rfl) Try.underlying144 rfl rfl (by intro h;cases h) (fun h=>by cases h)
theorem jpd:tt 144=some ⟨.slice 5,1,24,[(.slice none 0 0)]⟩:=rfl
theorem jhw:aj Try.prog 145 jfa:=ak (z:= .agg #[(.pointer none),(.slice none 0 0)]) (by kernel_rfl) Try.underlying145 rfl rfl (by intro h;cases h) (fun h=>by cases h)
theorem jpe:tt 145=some ⟨.strct false [(0,143),(1,144)],2,32,[(.pointer none),(.slice none 0 0)]⟩:=rfl
theorem jhx:aj Try.prog 146 jfb:=ak (z:= .agg #[(.pointer none),(.slice none 0 0)]) (by kernel_rfl) Try.underlying146 rfl rfl (by intro h;cases h) (fun h=>by cases h)
theorem jpf:tt 146=some ⟨.strct false [(0,143),(1,144)],2,32,[(.pointer none),(.slice none 0 0)]⟩:=rfl
theorem jhy:aj Try.prog 147 jfc:=ak (z:= .nilIface) (by kernel_rfl) Try.underlying147 rfl rfl (by intro h;cases h) (fun h=>by cases h)
theorem jpg:tt 147=some ⟨.other,1,16,[.nilIface]⟩:=rfl
theorem jhz:aj Try.prog 148 jfd:=ak (z:= .nilIface) (by kernel_rfl) Try.underlying148 rfl rfl (by intro h;cases h) (fun h=>by cases h)
theorem jph:tt 148=some ⟨.other,1,16,[.nilIface]⟩:=rfl
theorem jh0:aj Try.prog 149 jfe:=ak (z:= .nilFunc) (by kernel_rfl) Try.underlying149 rfl rfl (by intro h;cases h) (fun h=>by cases h)
theorem jpi:tt 149=some ⟨.other,1,8,[.nilFunc]⟩:=rfl
theorem jh1:aj Try.prog 150 jff:=ak (z:=(.int .u64 0)) (by kernel_rfl) Try.underlying150 rfl rfl (by intro h;cases h) (fun _=>rfl)
theorem jpj:tt 150=some ⟨.int .u64,1,8,[(.int .u64 0)]⟩:=rfl
theorem jh2:aj Try.prog 151 jfg:=ak (z:= .nilFunc) (by kernel_rfl) Try.underlying151 rfl rfl (by intro h;cases h) (fun h=>by cases h)
theorem jpk:tt 151=some ⟨.other,1,8,[.nilFunc]⟩:=rfl
theorem jh3:aj Try.prog 152 jfh:=ak (z:= .nilFunc) (by kernel_rfl) Try.underlying152 rfl rfl (by intro h;cases h) (fun h=>by cases h)
theorem jpl:tt 152=some ⟨.other,1,8,[.nilFunc]⟩:=rfl
theorem jh4:aj Try.prog 153 jfi:=ak (z:= .nilFunc) (by kernel_rfl) Try.underlying153 rfl rfl (by intro h;cases h) (fun h=>by cases h)
theorem jpm:tt 153=some ⟨.other,1,8,[.nilFunc]⟩:=rfl
theorem jh5:aj Try.prog 154 jfj:=ak (z:= .nilFunc) (by kernel_rfl) Try.underlying154 rfl rfl (by intro h;cases h) (fun h=>by cases h)
theorem jpn:tt 154=some ⟨.other,1,8,[.nilFunc]⟩:=rfl
theorem jh6:aj Try.prog 155 jfk:=ak (z:=(.pointer none)) (by kernel_rfl) Try.underlying155 rfl rfl (by intro h;cases h) (fun h=>by cases h)
theorem jpo:tt 155=some ⟨.other,1,8,[(.pointer none)]⟩:=rfl
theorem jh7:aj Try.prog 156 jfl:=ak (z:=(.pointer none)) (by kernel_rfl) Try.underlying156 rfl rfl (by intro h;cases h) (fun h=>by cases h)
theorem jpp:tt 156=some ⟨.other,1,8,[(.pointer none)]⟩:=rfl
theorem jh8:aj Try.prog 157 jfm:=ak (z:= .nilFunc) (by kernel_rfl) Try.underlying157 rfl rfl (by intro h;cases h) (fun h=>by cases h)
theorem jpq:tt 157=some ⟨.other,1,8,[.nilFunc]⟩:=rfl
theorem jh9:aj Try.prog 158 jfn:=ak (z:= .agg #[(.pointer none),(.pointer none),(.pointer none),(.string ⟨#[]⟩)]) (by kernel_rfl) Try.underlying158 rfl rfl (by intro h;cases h) (fun h=>by cases h)
theorem jpr:tt 158=some ⟨.strct false [(0,17),(1,17),(2,17),(3,9)],4,40,[(.pointer none),(.pointer none),(.pointer none),(.string ⟨#[]⟩)]⟩:=rfl
theorem jia:aj Try.prog 159 jfo:=ak (z:= .agg #[(.pointer none),(.pointer none),(.pointer none),(.string ⟨#[]⟩)]) (by kernel_rfl) Try.underlying159 rfl rfl (by intro h;cases h) (fun h=>by cases h)
theorem jps:tt 159=some ⟨.strct false [(0,17),(1,17),(2,17),(3,9)],4,40,[(.pointer none),(.pointer none),(.pointer none),(.string ⟨#[]⟩)]⟩:=rfl
theorem jib:aj Try.prog 160 jfp:=ak (z:= .agg #[]) (by kernel_rfl) Try.underlying160 rfl rfl (by intro h;cases h) (fun h=>by cases h)
theorem jpt:tt 160=some ⟨.arr false 0 16,0,0,[]⟩:=rfl
theorem jic:aj Try.prog 161 jfq:=ak (z:= .agg #[]) (by kernel_rfl) Try.underlying161 rfl rfl (by intro h;cases h) (fun h=>by cases h)
theorem jpu:tt 161=some ⟨.strct false [(0,160)],0,0,[]⟩:=rfl
theorem jid:aj Try.prog 162 jfr:=ak (z:= .agg #[]) (by kernel_rfl) Try.underlying162 rfl rfl (by intro h;cases h) (fun h=>by cases h)
theorem jpv:tt 162=some ⟨.strct false [(0,160)],0,0,[]⟩:=rfl
theorem jie:aj Try.prog 163 jfs:=ak (z:= .nilFunc) (by kernel_rfl) Try.underlying163 rfl rfl (by intro h;cases h) (fun h=>by cases h)
theorem jpw:tt 163=some ⟨.other,1,8,[.nilFunc]⟩:=rfl
theorem jif:aj Try.prog 164 jft:=ak (z:=(.int .u32 0)) (by kernel_rfl) Try.underlying164 rfl rfl (by intro h;cases h) (fun _=>rfl)
theorem jpx:tt 164=some ⟨.int .u32,1,4,[(.int .u32 0)]⟩:=rfl
theorem jig:aj Try.prog 165 jfu:=ak (z:=(.int .u8 0)) (by kernel_rfl) Try.underlying165 rfl rfl (by intro h;cases h) (fun _=>rfl)
theorem jpy:tt 165=some ⟨.int .u8,1,1,[(.int .u8 0)]⟩:=rfl
theorem jih:aj Try.prog 166 jfv:=ak (z:=(.int .u8 0)) (by kernel_rfl) Try.underlying166 rfl rfl (by intro h;cases h) (fun _=>rfl)
theorem jpz:tt 166=some ⟨.int .u8,1,1,[(.int .u8 0)]⟩:=rfl
theorem jii:aj Try.prog 167 jfw:=ak (z:= .nilFunc) (by kernel_rfl) Try.underlying167 rfl rfl (by intro h;cases h) (fun h=>by cases h)
theorem jp0:tt 167=some ⟨.other,1,8,[.nilFunc]⟩:=rfl
theorem jij:aj Try.prog 168 jfx:=ak (z:=(.int .i32 0)) (by kernel_rfl) Try.underlying168 rfl rfl (by intro h;cases h) (fun _=>rfl)
theorem jp1:tt 168=some ⟨.int .i32,1,4,[(.int .i32 0)]⟩:=rfl
theorem jik:aj Try.prog 169 jfy:=ak (z:=(.int .i32 0)) (by kernel_rfl) Try.underlying169 rfl rfl (by intro h;cases h) (fun _=>rfl)
theorem jp2:tt 169=some ⟨.int .i32,1,4,[(.int .i32 0)]⟩:=rfl
theorem jil:aj Try.prog 170 jfz:=ak (z:= .agg #[(.int .u64 0),(.int .u64 0),(.int .u32 0),(.int .u8 0),(.int .u8 0),(.int .u8 0),(.int .u8 0), .nilFunc,(.pointer none),(.int .i32 0),(.int .i32 0)]) (by kernel_rfl) Try.underlying170 rfl rfl (by intro h;cases h) (fun h=>by cases h)
theorem jp3:tt 170=some ⟨.strct false [(0,12),(1,12),(2,164),(3,165),(4,5),(5,5),(6,166),(7,167),(8,155),(9,168),(10,169)],11,48,[(.int .u64 0),(.int .u64 0),(.int .u32 0),(.int .u8 0),(.int .u8 0),(.int .u8 0),(.int .u8 0), .nilFunc,(.pointer none),(.int .i32 0),(.int .i32 0)]⟩:=rfl
theorem jim:aj Try.prog 171 jf0:=ak (z:= .agg #[(.int .u64 0),(.int .u64 0),(.int .u32 0),(.int .u8 0),(.int .u8 0),(.int .u8 0),(.int .u8 0), .nilFunc,(.pointer none),(.int .i32 0),(.int .i32 0)]) (by kernel_rfl) Try.underlying171 rfl rfl (by intro h;cases h) (fun h=>by cases h)
theorem jp4:tt 171=some ⟨.strct false [(0,12),(1,12),(2,164),(3,165),(4,5),(5,5),(6,166),(7,167),(8,155),(9,168),(10,169)],11,48,[(.int .u64 0),(.int .u64 0),(.int .u32 0),(.int .u8 0),(.int .u8 0),(.int .u8 0),(.int .u8 0), .nilFunc,(.pointer none),(.int .i32 0),(.int .i32 0)]⟩:=rfl
set_option maxRecDepth 100000 in
theorem fits:dq Try.prog tt:=by
 intro t x h;unfold tt at h;split at h
 ·cases h;exact jqo
 ·cases h;exact jqp
 ·cases h;exact jqq
 ·cases h;exact jqr
 ·cases h;exact jqs
 ·cases h;exact jqt
 ·cases h;exact jqu
 ·cases h;exact jqv
 ·cases h;exact jqw
 ·cases h;exact jjm
 ·cases h;exact jjn
 ·cases h;exact jjo
 ·cases h;exact jjp
 ·cases h;exact jjq
 ·cases h;exact jjr
 ·cases h;exact jjs
 ·cases h;exact jjt
 ·cases h;exact jju
 ·cases h;exact jjv
 ·cases h;exact jjw
 ·cases h;exact jjx
 ·cases h;exact jjy
 ·cases h;exact jjz
 ·cases h;exact jj0
 ·cases h;exact jj1
 ·cases h;exact jj2
 ·cases h;exact jj3
 ·cases h;exact jj4
 ·cases h;exact jj5
 ·cases h;exact jj6
 ·cases h;exact jj7
 ·cases h;exact jj8
 ·cases h;exact jj9
 ·cases h;exact jka
 ·cases h;exact jkb
 ·cases h;exact jkc
 ·cases h;exact jkd
 ·cases h;exact jke
 ·cases h;exact jkf
 ·cases h;exact jkg
 ·cases h;exact jkh
 ·cases h;exact jki
 ·cases h;exact jkj
 ·cases h;exact jkk
 ·cases h;exact jkl
 ·cases h;exact jkm
 ·cases h;exact jkn
 ·cases h;exact jko
 ·cases h;exact jkp
 ·cases h;exact jkq
 ·cases h;exact jkr
 ·cases h;exact jks
 ·cases h;exact jkt
 ·cases h;exact jku
 ·cases h;exact jkv
 ·cases h;exact jkw
 ·cases h;exact jkx
 ·cases h;exact jky
 ·cases h;exact jkz
 ·cases h;exact jk0
 ·cases h;exact jk1
 ·cases h;exact jk2
 ·cases h;exact jk3
 ·cases h;exact jk4
 ·cases h;exact jk5
 ·cases h;exact jk6
 ·cases h;exact jk7
 ·cases h;exact jk8
 ·cases h;exact jk9
 ·cases h;exact jla
 ·cases h;exact jlb
 ·cases h;exact jlc
 ·cases h;exact jld
 ·cases h;exact jle
 ·cases h;exact jlf
 ·cases h;exact jlg
 ·cases h;exact jlh
 ·cases h;exact jli
 ·cases h;exact jlj
 ·cases h;exact jlk
 ·cases h;exact jll
 ·cases h;exact jlm
 ·cases h;exact jln
 ·cases h;exact jlo
 ·cases h;exact jlp
 ·cases h;exact jlq
 ·cases h;exact jlr
 ·cases h;exact jgr
 ·cases h;exact jgs
 ·cases h;exact jgt
 ·cases h;exact jgu
 ·cases h;exact jgv
 ·cases h;exact jgw
 ·cases h;exact jgx
 ·cases h;exact jgy
 ·cases h;exact jgz
 ·cases h;exact jg0
 ·cases h;exact jg1
 ·cases h;exact jg2
 ·cases h;exact jg3
 ·cases h;exact jg4
 ·cases h;exact jg5
 ·cases h;exact jg6
 ·cases h;exact jg7
 ·cases h;exact jg8
 ·cases h;exact jg9
 ·cases h;exact jha
 ·cases h;exact jhb
 ·cases h;exact jhc
 ·cases h;exact jhd
 ·cases h;exact jhe
 ·cases h;exact jhf
 ·cases h;exact jhg
 ·cases h;exact jhh
 ·cases h;exact jhi
 ·cases h;exact jhj
 ·cases h;exact jhk
 ·cases h;exact jhl
 ·cases h;exact jhm
 ·cases h;exact jhn
 ·cases h;exact jho
 ·cases h;exact jhp
 ·cases h;exact jhq
 ·cases h;exact jhr
 ·cases h;exact jhs
 ·cases h;exact jht
 ·cases h;exact jhu
 ·cases h;exact jhv
 ·cases h;exact jhw
 ·cases h;exact jhx
 ·cases h;exact jhy
 ·cases h;exact jhz
 ·cases h;exact jh0
 ·cases h;exact jh1
 ·cases h;exact jh2
 ·cases h;exact jh3
 ·cases h;exact jh4
 ·cases h;exact jh5
 ·cases h;exact jh6
 ·cases h;exact jh7
 ·cases h;exact jh8
 ·cases h;exact jh9
 ·cases h;exact jia
 ·cases h;exact jib
 ·cases h;exact jic
 ·cases h;exact jid
 ·cases h;exact jie
 ·cases h;exact jif
 ·cases h;exact jig
 ·cases h;exact jih
 ·cases h;exact jii
 ·cases h;exact jij
 ·cases h;exact jik
 ·cases h;exact jil
 ·cases h;exact jim
 ·cases h
theorem mixed:Try.prog.follows .mixedOrders=true:=rfl
attribute [go_sem] tt1 tt2 tt3 tt4 tt5 tt6 tt7 tt8 tt9 jq4 jq5 jq6 jq7 jq8 jq9 jra jrb jrc jrd jre jrf jrg jrh jri jrj jrk jrl jrm jrn jro jrp jrq jrr jrs jrt jru jrv jrw jrx jry jrz jr0 jr1 jr2 jr3 jr4 jr5 jr6 jr7 jr8 jr9 jsa jsb jsc jsd jse jsf jsg jsh jsi jsj jsk jsl jsm jsn jso jsp jsq jsr jss jst jsu jsv jsw jsx jsy jsz js0 js1 js2 js3 js4 js5 js6 js7 js8 js9 jn9 joa job joc jod joe jof jog joh joi joj jok jol jom jon joo jop joq jor jos jot jou jov jow jox joy joz jo0 jo1 jo2 jo3 jo4 jo5 jo6 jo7 jo8 jo9 jpa jpb jpc jpd jpe jpf jpg jph jpi jpj jpk jpl jpm jpn jpo jpp jpq jpr jps jpt jpu jpv jpw jpx jpy jpz jp0 jp1 jp2 jp3 jp4
end Go.Proofs.Ytdhfhpdadbopkaa
