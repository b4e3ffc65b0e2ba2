/-
  The types of this seat's program: a row a type (its kind, cells, bytes, the cells of its zero value), and that each row is the program's own. Made by program out of the translation.
-/
import Derived.Test.YtdhfhpdadbopkaaZ3KE
import Derived.Test.YtdhfhpdadbopkaaProg
import Derived.KernelRfl
set_option linter.all false
namespace Go.Proofs.Ytdhfhpdadbopkaa
open Go.K Go.M
theorem ak{P:Program}{t:TypeId}{k:TK}{sz by_:Nat}{zs:List Value}{z:Value}{d:TypeDesc}(h1:(P.info? t).map (fun i=>(i.zero,i.size,i.bytes))=some (some z,sz,by_))(h2:P.underlying t=some d)(h3:TK.of d=k.plain)(h4:z.cells.toList=zs)(h5:k.cmp=true→Cmp P t)(h6:k.one=true→zs=[z]):aj P t ⟨k,sz,by_,zs⟩:=by
 cases hi:P.info? t with
 |none=>simp[hi]at h1
 |some i=>
  simp only[hi,Option.map_some,Option.some.injEq,Prod.mk.injEq]at h1;exact⟨⟨i,d,z,hi,h2,h3,h1.2.1,h1.2.2,h1.1,h4⟩,h5,fun e=>⟨i,z,hi,h1.1,h6 e⟩⟩
def ti1:TI:=⟨.other,1,8,[.nilFunc]⟩
def ti2:TI:=⟨.int .i64,1,8,[(.int .i64 0)]⟩
def ti3:TI:=⟨.int .i64,1,8,[(.int .i64 0)]⟩
def ti4:TI:=⟨.bool,1,1,[(.bool false)]⟩
def ti5:TI:=⟨.int .u8,1,1,[(.int .u8 0)]⟩
def ti6:TI:=⟨.int .u8,1,1,[(.int .u8 0)]⟩
def ti7:TI:=⟨.strct true [(0,2),(1,3),(2,4),(3,6)],4,24,[(.int .i64 0),(.int .i64 0),(.bool false),(.int .u8 0)]⟩
def ti8:TI:=⟨.strct true [(0,2),(1,3),(2,4),(3,6)],4,24,[(.int .i64 0),(.int .i64 0),(.bool false),(.int .u8 0)]⟩
def ti9:TI:=⟨.str,1,16,[(.string ⟨#[]⟩)]⟩
def jmg:TI:=⟨.str,1,16,[(.string ⟨#[]⟩)]⟩
def jmh:TI:=⟨.str,1,16,[(.string ⟨#[]⟩)]⟩
def jmi:TI:=⟨.int .u64,1,8,[(.int .u64 0)]⟩
def jmj:TI:=⟨.strct false [(0,9),(1,12)],2,24,[(.string ⟨#[]⟩),(.int .u64 0)]⟩
def jmk:TI:=⟨.strct false [(0,9),(1,12)],2,24,[(.string ⟨#[]⟩),(.int .u64 0)]⟩
def jml:TI:=⟨.other,1,8,[(.pointer none)]⟩
def jmm:TI:=⟨.other,1,8,[(.pointer none)]⟩
def jmn:TI:=⟨.other,1,8,[(.pointer none)]⟩
def jmo:TI:=⟨.strct false [(0,17)],1,8,[(.pointer none)]⟩
def jmp:TI:=⟨.strct false [(0,17)],1,8,[(.pointer none)]⟩
def jmq:TI:=⟨.other,1,16,[.nilIface]⟩
def jmr:TI:=⟨.int .i32,1,4,[(.int .i32 0)]⟩
def jms:TI:=⟨.slice 43,1,24,[(.slice none 0 0)]⟩
def jmt:TI:=⟨.strct false [(0,3),(1,22),(2,3),(3,3)],4,48,[(.int .i64 0),(.slice none 0 0),(.int .i64 0),(.int .i64 0)]⟩
def jmu:TI:=⟨.strct false [(0,3),(1,22),(2,3),(3,3)],4,48,[(.int .i64 0),(.slice none 0 0),(.int .i64 0),(.int .i64 0)]⟩
def jmv:TI:=⟨.slice 3,1,24,[(.slice none 0 0)]⟩
def jmw:TI:=⟨.slice 48,1,24,[(.slice none 0 0)]⟩
def jmx:TI:=⟨.strct false [(0,25),(1,25),(2,26)],3,72,[(.slice none 0 0),(.slice none 0 0),(.slice none 0 0)]⟩
def jmy:TI:=⟨.strct false [(0,25),(1,25),(2,26)],3,72,[(.slice none 0 0),(.slice none 0 0),(.slice none 0 0)]⟩
def jmz:TI:=⟨.other,1,8,[.nilFunc]⟩
def jm0:TI:=⟨.other,1,8,[.nilFunc]⟩
def jm1:TI:=⟨.other,1,8,[.nilFunc]⟩
def jm2:TI:=⟨.other,1,8,[.nilFunc]⟩
def jm3:TI:=⟨.other,1,8,[.nilFunc]⟩
def jm4:TI:=⟨.int .i64,1,8,[(.int .i64 0)]⟩
def jm5:TI:=⟨.other,1,8,[.nilFunc]⟩
def jm6:TI:=⟨.other,1,8,[.nilFunc]⟩
def jm7:TI:=⟨.slice 25,1,24,[(.slice none 0 0)]⟩
def jm8:TI:=⟨.other,1,8,[.nilFunc]⟩
def jm9:TI:=⟨.other,1,8,[.nilFunc]⟩
def jna:TI:=⟨.strct false [(0,9),(1,25),(2,25)],3,64,[(.string ⟨#[]⟩),(.slice none 0 0),(.slice none 0 0)]⟩
def jnb:TI:=⟨.strct false [(0,9),(1,25),(2,25)],3,64,[(.string ⟨#[]⟩),(.slice none 0 0),(.slice none 0 0)]⟩
def jnc:TI:=⟨.other,1,8,[.nilFunc]⟩
def jnd:TI:=⟨.other,1,8,[.nilFunc]⟩
def jne:TI:=⟨.other,1,8,[.nilFunc]⟩
def jnf:TI:=⟨.other,1,8,[.nilFunc]⟩
def jng:TI:=⟨.arr false 2 25,2,48,[(.slice none 0 0),(.slice none 0 0)]⟩
def jnh:TI:=⟨.other,1,8,[.nilFunc]⟩
def jni:TI:=⟨.other,1,8,[.nilFunc]⟩
def jnj:TI:=⟨.slice 83,1,24,[(.slice none 0 0)]⟩
def jnk:TI:=⟨.other,1,8,[.nilFunc]⟩
def jnl:TI:=⟨.other,1,8,[.nilFunc]⟩
def jnm:TI:=⟨.other,1,8,[.nilFunc]⟩
def jnn:TI:=⟨.other,1,8,[.nilFunc]⟩
def jno:TI:=⟨.other,1,8,[.nilFunc]⟩
def jnp:TI:=⟨.other,1,8,[.nilFunc]⟩
def jnq:TI:=⟨.slice 9,1,24,[(.slice none 0 0)]⟩
def jnr:TI:=⟨.other,1,8,[.nilFunc]⟩
def jns:TI:=⟨.other,1,8,[.nilFunc]⟩
def jnt:TI:=⟨.other,1,8,[.nilFunc]⟩
def jnu:TI:=⟨.other,1,8,[.nilFunc]⟩
def jnv:TI:=⟨.other,1,8,[.nilFunc]⟩
def jnw:TI:=⟨.other,1,8,[.nilFunc]⟩
def jnx:TI:=⟨.other,1,8,[.nilFunc]⟩
def jny:TI:=⟨.other,1,8,[.nilFunc]⟩
def jnz:TI:=⟨.other,1,8,[.nilFunc]⟩
def jn0:TI:=⟨.other,1,8,[.nilFunc]⟩
def jn1:TI:=⟨.other,1,8,[.nilFunc]⟩
def jn2:TI:=⟨.other,1,8,[.nilFunc]⟩
def jn3:TI:=⟨.other,1,8,[.nilFunc]⟩
def jn4:TI:=⟨.other,1,8,[.nilFunc]⟩
def jn5:TI:=⟨.other,1,8,[.nilFunc]⟩
def jn6:TI:=⟨.other,1,8,[.nilFunc]⟩
def jn7:TI:=⟨.other,1,8,[.nilFunc]⟩
def jn8:TI:=⟨.other,1,8,[.nilFunc]⟩
def jn9:TI:=⟨.strct false [(0,25),(1,25)],2,48,[(.slice none 0 0),(.slice none 0 0)]⟩
def joa:TI:=⟨.strct false [(0,25),(1,25)],2,48,[(.slice none 0 0),(.slice none 0 0)]⟩
def job:TI:=⟨.other,1,8,[.nilFunc]⟩
def joc:TI:=⟨.other,1,8,[.nilFunc]⟩
def jod:TI:=⟨.slice 92,1,24,[(.slice none 0 0)]⟩
def joe:TI:=⟨.other,1,8,[.nilFunc]⟩
def jof:TI:=⟨.other,1,8,[.nilFunc]⟩
def jog:TI:=⟨.strct false [(0,3),(1,25),(2,25)],3,56,[(.int .i64 0),(.slice none 0 0),(.slice none 0 0)]⟩
def joh:TI:=⟨.strct false [(0,3),(1,25),(2,25)],3,56,[(.int .i64 0),(.slice none 0 0),(.slice none 0 0)]⟩
def joi:TI:=⟨.other,1,8,[.nilFunc]⟩
def joj:TI:=⟨.other,1,8,[.nilFunc]⟩
def jok:TI:=⟨.other,1,8,[.nilFunc]⟩
def jol:TI:=⟨.slice 102,1,24,[(.slice none 0 0)]⟩
def jeo:TI:=⟨.other,1,8,[.nilFunc]⟩
def jep:TI:=⟨.strct false [(0,3),(1,25),(2,25)],3,56,[(.int .i64 0),(.slice none 0 0),(.slice none 0 0)]⟩
def jeq:TI:=⟨.strct false [(0,3),(1,25),(2,25)],3,56,[(.int .i64 0),(.slice none 0 0),(.slice none 0 0)]⟩
def jer:TI:=⟨.other,1,8,[.nilFunc]⟩
def jes:TI:=⟨.other,1,8,[.nilFunc]⟩
def jet:TI:=⟨.other,1,8,[.nilFunc]⟩
def jeu:TI:=⟨.other,1,8,[.nilFunc]⟩
def jev:TI:=⟨.other,1,8,[.nilFunc]⟩
def jew:TI:=⟨.other,1,8,[.nilFunc]⟩
def jex:TI:=⟨.other,1,8,[.nilFunc]⟩
def jey:TI:=⟨.other,1,8,[.nilFunc]⟩
def jez:TI:=⟨.other,1,8,[.nilFunc]⟩
def je0:TI:=⟨.other,1,8,[.nilFunc]⟩
def je1:TI:=⟨.map 9 4,1,8,[(.map none)]⟩
def je2:TI:=⟨.other,1,8,[.nilFunc]⟩
def je3:TI:=⟨.other,1,8,[.nilFunc]⟩
def je4:TI:=⟨.other,1,8,[.nilFunc]⟩
def je5:TI:=⟨.other,1,8,[.nilFunc]⟩
def je6:TI:=⟨.other,1,8,[.nilFunc]⟩
def je7:TI:=⟨.other,1,8,[.nilFunc]⟩
def je8:TI:=⟨.other,1,8,[.nilFunc]⟩
def je9:TI:=⟨.other,1,8,[.nilFunc]⟩
def jfa:TI:=⟨.other,1,8,[.nilFunc]⟩
def jfb:TI:=⟨.slice 129,1,24,[(.slice none 0 0)]⟩
def jfc:TI:=⟨.other,1,8,[.nilFunc]⟩
def jfd:TI:=⟨.strct false [(0,3),(1,25)],2,32,[(.int .i64 0),(.slice none 0 0)]⟩
def jfe:TI:=⟨.strct false [(0,3),(1,25)],2,32,[(.int .i64 0),(.slice none 0 0)]⟩
def jff:TI:=⟨.other,1,8,[.nilFunc]⟩
def jfg:TI:=⟨.other,1,8,[.nilFunc]⟩
def jfh:TI:=⟨.other,1,8,[.nilFunc]⟩
def jfi:TI:=⟨.slice 4,1,24,[(.slice none 0 0)]⟩
def jfj:TI:=⟨.other,1,8,[.nilFunc]⟩
def jfk:TI:=⟨.other,1,8,[.nilFunc]⟩
def jfl:TI:=⟨.other,1,8,[.nilFunc]⟩
def jfm:TI:=⟨.other,1,8,[.nilFunc]⟩
def jfn:TI:=⟨.other,1,8,[.nilFunc]⟩
def jfo:TI:=⟨.other,1,8,[.nilFunc]⟩
def jfp:TI:=⟨.other,1,8,[.nilFunc]⟩
def jfq:TI:=⟨.other,1,8,[.nilFunc]⟩
def jfr:TI:=⟨.other,1,8,[(.pointer none)]⟩
def jfs:TI:=⟨.slice 5,1,24,[(.slice none 0 0)]⟩
def jft:TI:=⟨.strct false [(0,143),(1,144)],2,32,[(.pointer none),(.slice none 0 0)]⟩
def jfu:TI:=⟨.strct false [(0,143),(1,144)],2,32,[(.pointer none),(.slice none 0 0)]⟩
def jfv:TI:=⟨.other,1,16,[.nilIface]⟩
def jfw:TI:=⟨.other,1,16,[.nilIface]⟩
def jfx:TI:=⟨.other,1,8,[.nilFunc]⟩
def jfy:TI:=⟨.int .u64,1,8,[(.int .u64 0)]⟩
def jfz:TI:=⟨.other,1,8,[.nilFunc]⟩
def jf0:TI:=⟨.other,1,8,[.nilFunc]⟩
def jf1:TI:=⟨.other,1,8,[.nilFunc]⟩
def jf2:TI:=⟨.other,1,8,[.nilFunc]⟩
def jf3:TI:=⟨.other,1,8,[(.pointer none)]⟩
def jf4:TI:=⟨.other,1,8,[(.pointer none)]⟩
def jf5:TI:=⟨.other,1,8,[.nilFunc]⟩
def jf6:TI:=⟨.strct false [(0,17),(1,17),(2,17),(3,9)],4,40,[(.pointer none),(.pointer none),(.pointer none),(.string ⟨#[]⟩)]⟩
def jf7:TI:=⟨.strct false [(0,17),(1,17),(2,17),(3,9)],4,40,[(.pointer none),(.pointer none),(.pointer none),(.string ⟨#[]⟩)]⟩
def jf8:TI:=⟨.arr false 0 16,0,0,[]⟩
def jf9:TI:=⟨.strct false [(0,160)],0,0,[]⟩
def jga:TI:=⟨.strct false [(0,160)],0,0,[]⟩
def jgb:TI:=⟨.other,1,8,[.nilFunc]⟩
def jgc:TI:=⟨.int .u32,1,4,[(.int .u32 0)]⟩
def jgd:TI:=⟨.int .u8,1,1,[(.int .u8 0)]⟩
def jge:TI:=⟨.int .u8,1,1,[(.int .u8 0)]⟩
def jgf:TI:=⟨.other,1,8,[.nilFunc]⟩
def jgg:TI:=⟨.int .i32,1,4,[(.int .i32 0)]⟩
def jgh:TI:=⟨.int .i32,1,4,[(.int .i32 0)]⟩
def jgi:TI:=⟨.strct false [(0,12),(1,12),(2,164),(3,165),(4,5),(5,5),(6,166),(7,167),(8,155),(9,168),(10,169)],11,48,[(.int .u64 0),(.int .u64 0),(.int .u32 0),(.int .u8 0),(.int .u8 0),(.int .u8 0),(.int .u8 0), .nilFunc,(.pointer none),(.int .i32 0),(.int .i32 0)]⟩
def jgj:TI:=⟨.strct false [(0,12),(1,12),(2,164),(3,165),(4,5),(5,5),(6,166),(7,167),(8,155),(9,168),(10,169)],11,48,[(.int .u64 0),(.int .u64 0),(.int .u32 0),(.int .u8 0),(.int .u8 0),(.int .u8 0),(.int .u8 0), .nilFunc,(.pointer none),(.int .i32 0),(.int .i32 0)]⟩
def tt:TT
 |1=>some ti1
 |2=>some ti2
 |3=>some ti3
 |4=>some ti4
 |5=>some ti5
 |6=>some ti6
 |7=>some ti7
 |8=>some ti8
 |9=>some ti9
 |10=>some jmg
 |11=>some jmh
 |12=>some jmi
 |13=>some jmj
 |14=>some jmk
 |15=>some jml
 |16=>some jmm
 |17=>some jmn
 |18=>some jmo
 |19=>some jmp
 |20=>some jmq
 |21=>some jmr
 |22=>some jms
 |23=>some jmt
 |24=>some jmu
 |25=>some jmv
 |26=>some jmw
 |27=>some jmx
 |28=>some jmy
 |29=>some jmz
 |30=>some jm0
 |31=>some jm1
 |32=>some jm2
 |33=>some jm3
 |34=>some jm4
 |36=>some jm5
 |37=>some jm6
 |38=>some jm7
 |40=>some jm8
 |41=>some jm9
 |42=>some jna
 |43=>some jnb
 |44=>some jnc
 |45=>some jnd
 |46=>some jne
 |47=>some jnf
 |48=>some jng
 |49=>some jnh
 |51=>some jni
 |52=>some jnj
 |53=>some jnk
 |54=>some jnl
 |55=>some jnm
 |56=>some jnn
 |58=>some jno
 |59=>some jnp
 |60=>some jnq
 |62=>some jnr
 |64=>some jns
 |65=>some jnt
 |67=>some jnu
 |68=>some jnv
 |69=>some jnw
 |70=>some jnx
 |71=>some jny
 |72=>some jnz
 |73=>some jn0
 |74=>some jn1
 |75=>some jn2
 |76=>some jn3
 |77=>some jn4
 |78=>some jn5
 |79=>some jn6
 |80=>some jn7
 |81=>some jn8
 |82=>some jn9
 |83=>some joa
 |84=>some job
 |86=>some joc
 |87=>some jod
 |89=>some joe
 |90=>some jof
 |91=>some jog
 |92=>some joh
 |93=>some joi
 |95=>some joj
 |97=>some jok
 |98=>some jol
 |100=>some jeo
 |101=>some jep
 |102=>some jeq
 |103=>some jer
 |105=>some jes
 |106=>some jet
 |108=>some jeu
 |109=>some jev
 |110=>some jew
 |111=>some jex
 |112=>some jey
 |113=>some jez
 |115=>some je0
 |116=>some je1
 |117=>some je2
 |118=>some je3
 |119=>some je4
 |120=>some je5
 |121=>some je6
 |122=>some je7
 |123=>some je8
 |124=>some je9
 |125=>some jfa
 |126=>some jfb
 |127=>some jfc
 |128=>some jfd
 |129=>some jfe
 |130=>some jff
 |131=>some jfg
 |132=>some jfh
 |133=>some jfi
 |135=>some jfj
 |136=>some jfk
 |137=>some jfl
 |138=>some jfm
 |139=>some jfn
 |140=>some jfo
 |141=>some jfp
 |142=>some jfq
 |143=>some jfr
 |144=>some jfs
 |145=>some jft
 |146=>some jfu
 |147=>some jfv
 |148=>some jfw
 |149=>some jfx
 |150=>some jfy
 |151=>some jfz
 |152=>some jf0
 |153=>some jf1
 |154=>some jf2
 |155=>some jf3
 |156=>some jf4
 |157=>some jf5
 |158=>some jf6
 |159=>some jf7
 |160=>some jf8
 |161=>some jf9
 |162=>some jga
 |163=>some jgb
 |164=>some jgc
 |165=>some jgd
 |166=>some jge
 |167=>some jgf
 |168=>some jgg
 |169=>some jgh
 |170=>some jgi
 |171=>some jgj
 |_=>none
theorem jq1:aj Try.prog 1 ti1:=ak (z:= .nilFunc) (by kernel_rfl) Try.underlying1 rfl rfl (by intro h;cases h) (fun h=>by cases h)
theorem tt1:tt 1=some ⟨.other,1,8,[.nilFunc]⟩:=rfl
theorem jq2:aj Try.prog 2 ti2:=ak (z:=(.int .i64 0)) (by kernel_rfl) Try.underlying2 rfl rfl (by intro h;cases h) (fun _=>rfl)
theorem tt2:tt 2=some ⟨.int .i64,1,8,[(.int .i64 0)]⟩:=rfl
theorem jq3:aj Try.prog 3 ti3:=ak (z:=(.int .i64 0)) (by kernel_rfl) Try.underlying3 rfl rfl (by intro h;cases h) (fun _=>rfl)
theorem tt3:tt 3=some ⟨.int .i64,1,8,[(.int .i64 0)]⟩:=rfl
theorem jq4:aj Try.prog 4 ti4:=ak (z:=(.bool false)) (by kernel_rfl) Try.underlying4 rfl rfl (by intro h;cases h) (fun _=>rfl)
theorem tt4:tt 4=some ⟨.bool,1,1,[(.bool false)]⟩:=rfl
theorem jq5:aj Try.prog 5 ti5:=ak (z:=(.int .u8 0)) (by kernel_rfl) Try.underlying5 rfl rfl (by intro h;cases h) (fun _=>rfl)
theorem tt5:tt 5=some ⟨.int .u8,1,1,[(.int .u8 0)]⟩:=rfl
theorem jq6:aj Try.prog 6 ti6:=ak (z:=(.int .u8 0)) (by kernel_rfl) Try.underlying6 rfl rfl (by intro h;cases h) (fun _=>rfl)
theorem tt6:tt 6=some ⟨.int .u8,1,1,[(.int .u8 0)]⟩:=rfl
theorem jq7:aj Try.prog 7 ti7:=ak (z:= .agg #[(.int .i64 0),(.int .i64 0),(.bool false),(.int .u8 0)]) (by kernel_rfl) Try.underlying7 rfl rfl (by exact fun _=>⟨by kernel_rfl,by kernel_rfl,by kernel_rfl⟩) (fun h=>by cases h)
theorem tt7:tt 7=some ⟨.strct true [(0,2),(1,3),(2,4),(3,6)],4,24,[(.int .i64 0),(.int .i64 0),(.bool false),(.int .u8 0)]⟩:=rfl
theorem jq8:aj Try.prog 8 ti8:=ak (z:= .agg #[(.int .i64 0),(.int .i64 0),(.bool false),(.int .u8 0)]) (by kernel_rfl) Try.underlying8 rfl rfl (by exact fun _=>⟨by kernel_rfl,by kernel_rfl,by kernel_rfl⟩) (fun h=>by cases h)
theorem tt8:tt 8=some ⟨.strct true [(0,2),(1,3),(2,4),(3,6)],4,24,[(.int .i64 0),(.int .i64 0),(.bool false),(.int .u8 0)]⟩:=rfl
theorem jq9:aj Try.prog 9 ti9:=ak (z:=(.string ⟨#[]⟩)) (by kernel_rfl) Try.underlying9 rfl rfl (by intro h;cases h) (fun _=>rfl)
theorem tt9:tt 9=some ⟨.str,1,16,[(.string ⟨#[]⟩)]⟩:=rfl
theorem jj2:aj Try.prog 10 jmg:=ak (z:=(.string ⟨#[]⟩)) (by kernel_rfl) Try.underlying10 rfl rfl (by intro h;cases h) (fun _=>rfl)
theorem jrg:tt 10=some ⟨.str,1,16,[(.string ⟨#[]⟩)]⟩:=rfl
theorem jj3:aj Try.prog 11 jmh:=ak (z:=(.string ⟨#[]⟩)) (by kernel_rfl) Try.underlying11 rfl rfl (by intro h;cases h) (fun _=>rfl)
theorem jrh:tt 11=some ⟨.str,1,16,[(.string ⟨#[]⟩)]⟩:=rfl
theorem jj4:aj Try.prog 12 jmi:=ak (z:=(.int .u64 0)) (by kernel_rfl) Try.underlying12 rfl rfl (by intro h;cases h) (fun _=>rfl)
theorem jri:tt 12=some ⟨.int .u64,1,8,[(.int .u64 0)]⟩:=rfl
theorem jj5:aj Try.prog 13 jmj:=ak (z:= .agg #[(.string ⟨#[]⟩),(.int .u64 0)]) (by kernel_rfl) Try.underlying13 rfl rfl (by intro h;cases h) (fun h=>by cases h)
theorem jrj:tt 13=some ⟨.strct false [(0,9),(1,12)],2,24,[(.string ⟨#[]⟩),(.int .u64 0)]⟩:=rfl
theorem jj6:aj Try.prog 14 jmk:=ak (z:= .agg #[(.string ⟨#[]⟩),(.int .u64 0)]) (by kernel_rfl) Try.underlying14 rfl rfl (by intro h;cases h) (fun h=>by cases h)
theorem jrk:tt 14=some ⟨.strct false [(0,9),(1,12)],2,24,[(.string ⟨#[]⟩),(.int .u64 0)]⟩:=rfl
theorem jj7:aj Try.prog 15 jml:=ak (z:=(.pointer none)) (by kernel_rfl) Try.underlying15 rfl rfl (by intro h;cases h) (fun h=>by cases h)
theorem jrl:tt 15=some ⟨.other,1,8,[(.pointer none)]⟩:=rfl
theorem jj8:aj Try.prog 16 jmm:=ak (z:=(.pointer none)) (by kernel_rfl) Try.underlying16 rfl rfl (by intro h;cases h) (fun h=>by cases h)
theorem jrm:tt 16=some ⟨.other,1,8,[(.pointer none)]⟩:=rfl
theorem jj9:aj Try.prog 17 jmn:=ak (z:=(.pointer none)) (by kernel_rfl) Try.underlying17 rfl rfl (by intro h;cases h) (fun h=>by cases h)
theorem jrn:tt 17=some ⟨.other,1,8,[(.pointer none)]⟩:=rfl
theorem jka:aj Try.prog 18 jmo:=ak (z:= .agg #[(.pointer none)]) (by kernel_rfl) Try.underlying18 rfl rfl (by intro h;cases h) (fun h=>by cases h)
theorem jro:tt 18=some ⟨.strct false [(0,17)],1,8,[(.pointer none)]⟩:=rfl
theorem jkb:aj Try.prog 19 jmp:=ak (z:= .agg #[(.pointer none)]) (by kernel_rfl) Try.underlying19 rfl rfl (by intro h;cases h) (fun h=>by cases h)
theorem jrp:tt 19=some ⟨.strct false [(0,17)],1,8,[(.pointer none)]⟩:=rfl
theorem jkc:aj Try.prog 20 jmq:=ak (z:= .nilIface) (by kernel_rfl) Try.underlying20 rfl rfl (by intro h;cases h) (fun h=>by cases h)
theorem jrq:tt 20=some ⟨.other,1,16,[.nilIface]⟩:=rfl
theorem jkd:aj Try.prog 21 jmr:=ak (z:=(.int .i32 0)) (by kernel_rfl) Try.underlying21 rfl rfl (by intro h;cases h) (fun _=>rfl)
theorem jrr:tt 21=some ⟨.int .i32,1,4,[(.int .i32 0)]⟩:=rfl
theorem jke:aj Try.prog 22 jms:=ak (z:=(.slice none 0 0)) (by kernel_rfl) Try.underlying22 rfl rfl (by intro h;cases h) (fun h=>by cases h)
theorem jrs:tt 22=some ⟨.slice 43,1,24,[(.slice none 0 0)]⟩:=rfl
theorem jkf:aj Try.prog 23 jmt:=ak (z:= .agg #[(.int .i64 0),(.slice none 0 0),(.int .i64 0),(.int .i64 0)]) (by kernel_rfl) Try.underlying23 rfl rfl (by intro h;cases h) (fun h=>by cases h)
theorem jrt:tt 23=some ⟨.strct false [(0,3),(1,22),(2,3),(3,3)],4,48,[(.int .i64 0),(.slice none 0 0),(.int .i64 0),(.int .i64 0)]⟩:=rfl
theorem jkg:aj Try.prog 24 jmu:=ak (z:= .agg #[(.int .i64 0),(.slice none 0 0),(.int .i64 0),(.int .i64 0)]) (by kernel_rfl) Try.underlying24 rfl rfl (by intro h;cases h) (fun h=>by cases h)
theorem jru:tt 24=some ⟨.strct false [(0,3),(1,22),(2,3),(3,3)],4,48,[(.int .i64 0),(.slice none 0 0),(.int .i64 0),(.int .i64 0)]⟩:=rfl
theorem jkh:aj Try.prog 25 jmv:=ak (z:=(.slice none 0 0)) (by kernel_rfl) Try.underlying25 rfl rfl (by intro h;cases h) (fun h=>by cases h)
theorem jrv:tt 25=some ⟨.slice 3,1,24,[(.slice none 0 0)]⟩:=rfl
theorem jki:aj Try.prog 26 jmw:=ak (z:=(.slice none 0 0)) (by kernel_rfl) Try.underlying26 rfl rfl (by intro h;cases h) (fun h=>by cases h)
theorem jrw:tt 26=some ⟨.slice 48,1,24,[(.slice none 0 0)]⟩:=rfl
theorem jkj:aj Try.prog 27 jmx:=ak (z:= .agg #[(.slice none 0 0),(.slice none 0 0),(.slice none 0 0)]) (by kernel_rfl) Try.underlying27 rfl rfl (by intro h;cases h) (fun h=>by cases h)
theorem jrx:tt 27=some ⟨.strct false [(0,25),(1,25),(2,26)],3,72,[(.slice none 0 0),(.slice none 0 0),(.slice none 0 0)]⟩:=rfl
theorem jkk:aj Try.prog 28 jmy:=ak (z:= .agg #[(.slice none 0 0),(.slice none 0 0),(.slice none 0 0)]) (by kernel_rfl) Try.underlying28 rfl rfl (by intro h;cases h) (fun h=>by cases h)
theorem jry:tt 28=some ⟨.strct false [(0,25),(1,25),(2,26)],3,72,[(.slice none 0 0),(.slice none 0 0),(.slice none 0 0)]⟩:=rfl
theorem jkl:aj Try.prog 29 jmz:=ak (z:= .nilFunc) (by kernel_rfl) Try.underlying29 rfl rfl (by intro h;cases h) (fun h=>by cases h)
theorem jrz:tt 29=some ⟨.other,1,8,[.nilFunc]⟩:=rfl
theorem jkm:aj Try.prog 30 jm0:=ak (z:= .nilFunc) (by kernel_rfl) Try.underlying30 rfl rfl (by intro h;cases h) (fun h=>by cases h)
theorem jr0:tt 30=some ⟨.other,1,8,[.nilFunc]⟩:=rfl
theorem jkn:aj Try.prog 31 jm1:=ak (z:= .nilFunc) (by kernel_rfl) Try.underlying31 rfl rfl (by intro h;cases h) (fun h=>by cases h)
theorem jr1:tt 31=some ⟨.other,1,8,[.nilFunc]⟩:=rfl
theorem jko:aj Try.prog 32 jm2:=ak (z:= .nilFunc) (by kernel_rfl) Try.underlying32 rfl rfl (by intro h;cases h) (fun h=>by cases h)
theorem jr2:tt 32=some ⟨.other,1,8,[.nilFunc]⟩:=rfl
theorem jkp:aj Try.prog 33 jm3:=ak (z:= .nilFunc) (by kernel_rfl) Try.underlying33 rfl rfl (by intro h;cases h) (fun h=>by cases h)
theorem jr3:tt 33=some ⟨.other,1,8,[.nilFunc]⟩:=rfl
theorem jkq:aj Try.prog 34 jm4:=ak (z:=(.int .i64 0)) (by kernel_rfl) Try.underlying34 rfl rfl (by intro h;cases h) (fun _=>rfl)
theorem jr4:tt 34=some ⟨.int .i64,1,8,[(.int .i64 0)]⟩:=rfl
theorem jkr:aj Try.prog 36 jm5:=ak (z:= .nilFunc) (by kernel_rfl) Try.underlying36 rfl rfl (by intro h;cases h) (fun h=>by cases h)
theorem jr5:tt 36=some ⟨.other,1,8,[.nilFunc]⟩:=rfl
theorem jks:aj Try.prog 37 jm6:=ak (z:= .nilFunc) (by kernel_rfl) Try.underlying37 rfl rfl (by intro h;cases h) (fun h=>by cases h)
theorem jr6:tt 37=some ⟨.other,1,8,[.nilFunc]⟩:=rfl
theorem jkt:aj Try.prog 38 jm7:=ak (z:=(.slice none 0 0)) (by kernel_rfl) Try.underlying38 rfl rfl (by intro h;cases h) (fun h=>by cases h)
theorem jr7:tt 38=some ⟨.slice 25,1,24,[(.slice none 0 0)]⟩:=rfl
theorem jku:aj Try.prog 40 jm8:=ak (z:= .nilFunc) (by kernel_rfl) Try.underlying40 rfl rfl (by intro h;cases h) (fun h=>by cases h)
theorem jr8:tt 40=some ⟨.other,1,8,[.nilFunc]⟩:=rfl
theorem jkv:aj Try.prog 41 jm9:=ak (z:= .nilFunc) (by kernel_rfl) Try.underlying41 rfl rfl (by intro h;cases h) (fun h=>by cases h)
theorem jr9:tt 41=some ⟨.other,1,8,[.nilFunc]⟩:=rfl
theorem jkw:aj Try.prog 42 jna:=ak (z:= .agg #[(.string ⟨#[]⟩),(.slice none 0 0),(.slice none 0 0)]) (by kernel_rfl) Try.underlying42 rfl rfl (by intro h;cases h) (fun h=>by cases h)
theorem jsa:tt 42=some ⟨.strct false [(0,9),(1,25),(2,25)],3,64,[(.string ⟨#[]⟩),(.slice none 0 0),(.slice none 0 0)]⟩:=rfl
theorem jkx:aj Try.prog 43 jnb:=ak (z:= .agg #[(.string ⟨#[]⟩),(.slice none 0 0),(.slice none 0 0)]) (by kernel_rfl) Try.underlying43 rfl rfl (by intro h;cases h) (fun h=>by cases h)
theorem jsb:tt 43=some ⟨.strct false [(0,9),(1,25),(2,25)],3,64,[(.string ⟨#[]⟩),(.slice none 0 0),(.slice none 0 0)]⟩:=rfl
theorem jky:aj Try.prog 44 jnc:=ak (z:= .nilFunc) (by kernel_rfl) Try.underlying44 rfl rfl (by intro h;cases h) (fun h=>by cases h)
theorem jsc:tt 44=some ⟨.other,1,8,[.nilFunc]⟩:=rfl
theorem jkz:aj Try.prog 45 jnd:=ak (z:= .nilFunc) (by kernel_rfl) Try.underlying45 rfl rfl (by intro h;cases h) (fun h=>by cases h)
theorem jsd:tt 45=some ⟨.other,1,8,[.nilFunc]⟩:=rfl
theorem jk0:aj Try.prog 46 jne:=ak (z:= .nilFunc) (by kernel_rfl) Try.underlying46 rfl rfl (by intro h;cases h) (fun h=>by cases h)
theorem jse:tt 46=some ⟨.other,1,8,[.nilFunc]⟩:=rfl
theorem jk1:aj Try.prog 47 jnf:=ak (z:= .nilFunc) (by kernel_rfl) Try.underlying47 rfl rfl (by intro h;cases h) (fun h=>by cases h)
theorem jsf:tt 47=some ⟨.other,1,8,[.nilFunc]⟩:=rfl
theorem jk2:aj Try.prog 48 jng:=ak (z:= .agg #[(.slice none 0 0),(.slice none 0 0)]) (by kernel_rfl) Try.underlying48 rfl rfl (by intro h;cases h) (fun h=>by cases h)
theorem jsg:tt 48=some ⟨.arr false 2 25,2,48,[(.slice none 0 0),(.slice none 0 0)]⟩:=rfl
theorem jk3:aj Try.prog 49 jnh:=ak (z:= .nilFunc) (by kernel_rfl) Try.underlying49 rfl rfl (by intro h;cases h) (fun h=>by cases h)
theorem jsh:tt 49=some ⟨.other,1,8,[.nilFunc]⟩:=rfl
theorem jk4:aj Try.prog 51 jni:=ak (z:= .nilFunc) (by kernel_rfl) Try.underlying51 rfl rfl (by intro h;cases h) (fun h=>by cases h)
theorem jsi:tt 51=some ⟨.other,1,8,[.nilFunc]⟩:=rfl
theorem jk5:aj Try.prog 52 jnj:=ak (z:=(.slice none 0 0)) (by kernel_rfl) Try.underlying52 rfl rfl (by intro h;cases h) (fun h=>by cases h)
theorem jsj:tt 52=some ⟨.slice 83,1,24,[(.slice none 0 0)]⟩:=rfl
theorem jk6:aj Try.prog 53 jnk:=ak (z:= .nilFunc) (by kernel_rfl) Try.underlying53 rfl rfl (by intro h;cases h) (fun h=>by cases h)
theorem jsk:tt 53=some ⟨.other,1,8,[.nilFunc]⟩:=rfl
theorem jk7:aj Try.prog 54 jnl:=ak (z:= .nilFunc) (by kernel_rfl) Try.underlying54 rfl rfl (by intro h;cases h) (fun h=>by cases h)
theorem jsl:tt 54=some ⟨.other,1,8,[.nilFunc]⟩:=rfl
theorem jk8:aj Try.prog 55 jnm:=ak (z:= .nilFunc) (by kernel_rfl) Try.underlying55 rfl rfl (by intro h;cases h) (fun h=>by cases h)
theorem jsm:tt 55=some ⟨.other,1,8,[.nilFunc]⟩:=rfl
theorem jk9:aj Try.prog 56 jnn:=ak (z:= .nilFunc) (by kernel_rfl) Try.underlying56 rfl rfl (by intro h;cases h) (fun h=>by cases h)
theorem jsn:tt 56=some ⟨.other,1,8,[.nilFunc]⟩:=rfl
theorem jla:aj Try.prog 58 jno:=ak (z:= .nilFunc) (by kernel_rfl) Try.underlying58 rfl rfl (by intro h;cases h) (fun h=>by cases h)
theorem jso:tt 58=some ⟨.other,1,8,[.nilFunc]⟩:=rfl
theorem jlb:aj Try.prog 59 jnp:=ak (z:= .nilFunc) (by kernel_rfl) Try.underlying59 rfl rfl (by intro h;cases h) (fun h=>by cases h)
theorem jsp:tt 59=some ⟨.other,1,8,[.nilFunc]⟩:=rfl
theorem jlc:aj Try.prog 60 jnq:=ak (z:=(.slice none 0 0)) (by kernel_rfl) Try.underlying60 rfl rfl (by intro h;cases h) (fun h=>by cases h)
theorem jsq:tt 60=some ⟨.slice 9,1,24,[(.slice none 0 0)]⟩:=rfl
theorem jld:aj Try.prog 62 jnr:=ak (z:= .nilFunc) (by kernel_rfl) Try.underlying62 rfl rfl (by intro h;cases h) (fun h=>by cases h)
theorem jsr:tt 62=some ⟨.other,1,8,[.nilFunc]⟩:=rfl
theorem jle:aj Try.prog 64 jns:=ak (z:= .nilFunc) (by kernel_rfl) Try.underlying64 rfl rfl (by intro h;cases h) (fun h=>by cases h)
theorem jss:tt 64=some ⟨.other,1,8,[.nilFunc]⟩:=rfl
theorem jlf:aj Try.prog 65 jnt:=ak (z:= .nilFunc) (by kernel_rfl) Try.underlying65 rfl rfl (by intro h;cases h) (fun h=>by cases h)
theorem jst:tt 65=some ⟨.other,1,8,[.nilFunc]⟩:=rfl
theorem jlg:aj Try.prog 67 jnu:=ak (z:= .nilFunc) (by kernel_rfl) Try.underlying67 rfl rfl (by intro h;cases h) (fun h=>by cases h)
theorem jsu:tt 67=some ⟨.other,1,8,[.nilFunc]⟩:=rfl
theorem jlh:aj Try.prog 68 jnv:=ak (z:= .nilFunc) (by kernel_rfl) Try.underlying68 rfl rfl (by intro h;cases h) (fun h=>by cases h)
theorem jsv:tt 68=some ⟨.other,1,8,[.nilFunc]⟩:=rfl
theorem jli:aj Try.prog 69 jnw:=ak (z:= .nilFunc) (by kernel_rfl) Try.underlying69 rfl rfl (by intro h;cases h) (fun h=>by cases h)
theorem jsw:tt 69=some ⟨.other,1,8,[.nilFunc]⟩:=rfl
theorem jlj:aj Try.prog 70 jnx:=ak (z:= .nilFunc) (by kernel_rfl) Try.underlying70 rfl rfl (by intro h;cases h) (fun h=>by cases h)
theorem jsx:tt 70=some ⟨.other,1,8,[.nilFunc]⟩:=rfl
theorem jlk:aj Try.prog 71 jny:=ak (z:= .nilFunc) (by kernel_rfl) Try.underlying71 rfl rfl (by intro h;cases h) (fun h=>by cases h)
theorem jsy:tt 71=some ⟨.other,1,8,[.nilFunc]⟩:=rfl
theorem jll:aj Try.prog 72 jnz:=ak (z:= .nilFunc) (by kernel_rfl) Try.underlying72 rfl rfl (by intro h;cases h) (fun h=>by cases h)
theorem jsz:tt 72=some ⟨.other,1,8,[.nilFunc]⟩:=rfl
theorem jlm:aj Try.prog 73 jn0:=ak (z:= .nilFunc) (by kernel_rfl) Try.underlying73 rfl rfl (by intro h;cases h) (fun h=>by cases h)
theorem js0:tt 73=some ⟨.other,1,8,[.nilFunc]⟩:=rfl
theorem jln:aj Try.prog 74 jn1:=ak (z:= .nilFunc) (by kernel_rfl) Try.underlying74 rfl rfl (by intro h;cases h) (fun h=>by cases h)
theorem js1:tt 74=some ⟨.other,1,8,[.nilFunc]⟩:=rfl
theorem jlo:aj Try.prog 75 jn2:=ak (z:= .nilFunc) (by kernel_rfl) Try.underlying75 rfl rfl (by intro h;cases h) (fun h=>by cases h)
theorem js2:tt 75=some ⟨.other,1,8,[.nilFunc]⟩:=rfl
theorem jlp:aj Try.prog 76 jn3:=ak (z:= .nilFunc) (by kernel_rfl) Try.underlying76 rfl rfl (by intro h;cases h) (fun h=>by cases h)
theorem js3:tt 76=some ⟨.other,1,8,[.nilFunc]⟩:=rfl
theorem jlq:aj Try.prog 77 jn4:=ak (z:= .nilFunc) (by kernel_rfl) Try.underlying77 rfl rfl (by intro h;cases h) (fun h=>by cases h)
theorem js4:tt 77=some ⟨.other,1,8,[.nilFunc]⟩:=rfl
theorem jlr:aj Try.prog 78 jn5:=ak (z:= .nilFunc) (by kernel_rfl) Try.underlying78 rfl rfl (by intro h;cases h) (fun h=>by cases h)
theorem js5:tt 78=some ⟨.other,1,8,[.nilFunc]⟩:=rfl
theorem jls:aj Try.prog 79 jn6:=ak (z:= .nilFunc) (by kernel_rfl) Try.underlying79 rfl rfl (by intro h;cases h) (fun h=>by cases h)
theorem js6:tt 79=some ⟨.other,1,8,[.nilFunc]⟩:=rfl
theorem jlt:aj Try.prog 80 jn7:=ak (z:= .nilFunc) (by kernel_rfl) Try.underlying80 rfl rfl (by intro h;cases h) (fun h=>by cases h)
theorem js7:tt 80=some ⟨.other,1,8,[.nilFunc]⟩:=rfl
theorem jlu:aj Try.prog 81 jn8:=ak (z:= .nilFunc) (by kernel_rfl) Try.underlying81 rfl rfl (by intro h;cases h) (fun h=>by cases h)
theorem js8:tt 81=some ⟨.other,1,8,[.nilFunc]⟩:=rfl
theorem jlv:aj Try.prog 82 jn9:=ak (z:= .agg #[(.slice none 0 0),(.slice none 0 0)]) (by kernel_rfl) Try.underlying82 rfl rfl (by intro h;cases h) (fun h=>by cases h)
theorem js9:tt 82=some ⟨.strct false [(0,25),(1,25)],2,48,[(.slice none 0 0),(.slice none 0 0)]⟩:=rfl
theorem jlw:aj Try.prog 83 joa:=ak (z:= .agg #[(.slice none 0 0),(.slice none 0 0)]) (by kernel_rfl) Try.underlying83 rfl rfl (by intro h;cases h) (fun h=>by cases h)
theorem jta:tt 83=some ⟨.strct false [(0,25),(1,25)],2,48,[(.slice none 0 0),(.slice none 0 0)]⟩:=rfl
theorem jlx:aj Try.prog 84 job:=ak (z:= .nilFunc) (by kernel_rfl) Try.underlying84 rfl rfl (by intro h;cases h) (fun h=>by cases h)
theorem jtb:tt 84=some ⟨.other,1,8,[.nilFunc]⟩:=rfl
theorem jly:aj Try.prog 86 joc:=ak (z:= .nilFunc) (by kernel_rfl) Try.underlying86 rfl rfl (by intro h;cases h) (fun h=>by cases h)
theorem jtc:tt 86=some ⟨.other,1,8,[.nilFunc]⟩:=rfl
theorem jlz:aj Try.prog 87 jod:=ak (z:=(.slice none 0 0)) (by kernel_rfl) Try.underlying87 rfl rfl (by intro h;cases h) (fun h=>by cases h)
theorem jtd:tt 87=some ⟨.slice 92,1,24,[(.slice none 0 0)]⟩:=rfl
theorem jl0:aj Try.prog 89 joe:=ak (z:= .nilFunc) (by kernel_rfl) Try.underlying89 rfl rfl (by intro h;cases h) (fun h=>by cases h)
theorem jte:tt 89=some ⟨.other,1,8,[.nilFunc]⟩:=rfl
theorem jl1:aj Try.prog 90 jof:=ak (z:= .nilFunc) (by kernel_rfl) Try.underlying90 rfl rfl (by intro h;cases h) (fun h=>by cases h)
theorem jtf:tt 90=some ⟨.other,1,8,[.nilFunc]⟩:=rfl
theorem jl2:aj Try.prog 91 jog:=ak (z:= .agg #[(.int .i64 0),(.slice none 0 0),(.slice none 0 0)]) (by kernel_rfl) Try.underlying91 rfl rfl (by intro h;cases h) (fun h=>by cases h)
theorem jtg:tt 91=some ⟨.strct false [(0,3),(1,25),(2,25)],3,56,[(.int .i64 0),(.slice none 0 0),(.slice none 0 0)]⟩:=rfl
theorem jl3:aj Try.prog 92 joh:=ak (z:= .agg #[(.int .i64 0),(.slice none 0 0),(.slice none 0 0)]) (by kernel_rfl) Try.underlying92 rfl rfl (by intro h;cases h) (fun h=>by cases h)
theorem jth:tt 92=some ⟨.strct false [(0,3),(1,25),(2,25)],3,56,[(.int .i64 0),(.slice none 0 0),(.slice none 0 0)]⟩:=rfl
theorem jl4:aj Try.prog 93 joi:=ak (z:= .nilFunc) (by kernel_rfl) Try.underlying93 rfl rfl (by intro h;cases h) (fun h=>by cases h)
theorem jti:tt 93=some ⟨.other,1,8,[.nilFunc]⟩:=rfl
theorem jl5:aj Try.prog 95 joj:=ak (z:= .nilFunc) (by kernel_rfl) Try.underlying95 rfl rfl (by intro h;cases h) (fun h=>by cases h)
theorem jtj:tt 95=some ⟨.other,1,8,[.nilFunc]⟩:=rfl
theorem jl6:aj Try.prog 97 jok:=ak (z:= .nilFunc) (by kernel_rfl) Try.underlying97 rfl rfl (by intro h;cases h) (fun h=>by cases h)
theorem jtk:tt 97=some ⟨.other,1,8,[.nilFunc]⟩:=rfl
theorem jl7:aj Try.prog 98 jol:=ak (z:=(.slice none 0 0)) (by kernel_rfl) Try.underlying98 rfl rfl (by intro h;cases h) (fun h=>by cases h)
theorem jtl:tt 98=some ⟨.slice 102,1,24,[(.slice none 0 0)]⟩:=rfl
theorem jha:aj Try.prog 100 jeo:=ak (z:= .nilFunc) (by kernel_rfl) Try.underlying100 rfl rfl (by intro h;cases h) (fun h=>by cases h)
theorem jon:tt 100=some ⟨.other,1,8,[.nilFunc]⟩:=rfl
theorem jhb:aj Try.prog 101 jep:=ak (z:= .agg #[(.int .i64 0),(.slice none 0 0),(.slice none 0 0)]) (by kernel_rfl) Try.underlying101 rfl rfl (by intro h;cases h) (fun h=>by cases h)
theorem joo:tt 101=some ⟨.strct false [(0,3),(1,25),(2,25)],3,56,[(.int .i64 0),(.slice none 0 0),(.slice none 0 0)]⟩:=rfl
theorem jhc:aj Try.prog 102 jeq:=ak (z:= .agg #[(.int .i64 0),(.slice none 0 0),(.slice none 0 0)]) (by kernel_rfl) Try.underlying102 rfl rfl (by intro h;cases h) (fun h=>by cases h)
theorem jop:tt 102=some ⟨.strct false [(0,3),(1,25),(2,25)],3,56,[(.int .i64 0),(.slice none 0 0),(.slice none 0 0)]⟩:=rfl
theorem jhd:aj Try.prog 103 jer:=ak (z:= .nilFunc) (by kernel_rfl) Try.underlying103 rfl rfl (by intro h;cases h) (fun h=>by cases h)
theorem joq:tt 103=some ⟨.other,1,8,[.nilFunc]⟩:=rfl
theorem jhe:aj Try.prog 105 jes:=ak (z:= .nilFunc) (by kernel_rfl) Try.underlying105 rfl rfl (by intro h;cases h) (fun h=>by cases h)
theorem jor:tt 105=some ⟨.other,1,8,[.nilFunc]⟩:=rfl
theorem jhf:aj Try.prog 106 jet:=ak (z:= .nilFunc) (by kernel_rfl) Try.underlying106 rfl rfl (by intro h;cases h) (fun h=>by cases h)
theorem jos:tt 106=some ⟨.other,1,8,[.nilFunc]⟩:=rfl
theorem jhg:aj Try.prog 108 jeu:=ak (z:= .nilFunc) (by kernel_rfl) Try.underlying108 rfl rfl (by intro h;cases h) (fun h=>by cases h)
theorem jot:tt 108=some ⟨.other,1,8,[.nilFunc]⟩:=rfl
theorem jhh:aj Try.prog 109 jev:=ak (z:= .nilFunc) (by kernel_rfl) Try.underlying109 rfl rfl (by intro h;cases h) (fun h=>by cases h)
theorem jou:tt 109=some ⟨.other,1,8,[.nilFunc]⟩:=rfl
theorem jhi:aj Try.prog 110 jew:=ak (z:= .nilFunc) (by kernel_rfl) Try.underlying110 rfl rfl (by intro h;cases h) (fun h=>by cases h)
theorem jov:tt 110=some ⟨.other,1,8,[.nilFunc]⟩:=rfl
theorem jhj:aj Try.prog 111 jex:=ak (z:= .nilFunc) (by kernel_rfl) Try.underlying111 rfl rfl (by intro h;cases h) (fun h=>by cases h)
theorem jow:tt 111=some ⟨.other,1,8,[.nilFunc]⟩:=rfl
theorem jhk:aj Try.prog 112 jey:=ak (z:= .nilFunc) (by kernel_rfl) Try.underlying112 rfl rfl (by intro h;cases h) (fun h=>by cases h)
theorem jox:tt 112=some ⟨.other,1,8,[.nilFunc]⟩:=rfl
theorem jhl:aj Try.prog 113 jez:=ak (z:= .nilFunc) (by kernel_rfl) Try.underlying113 rfl rfl (by intro h;cases h) (fun h=>by cases h)
theorem joy:tt 113=some ⟨.other,1,8,[.nilFunc]⟩:=rfl
theorem jhm:aj Try.prog 115 je0:=ak (z:= .nilFunc) (by kernel_rfl) Try.underlying115 rfl rfl (by intro h;cases h) (fun h=>by cases h)
theorem joz:tt 115=some ⟨.other,1,8,[.nilFunc]⟩:=rfl
theorem jhn:aj Try.prog 116 je1:=ak (z:=(.map none)) (by kernel_rfl) Try.underlying116 rfl rfl (by intro h;cases h) (fun h=>by cases h)
theorem jo0:tt 116=some ⟨.map 9 4,1,8,[(.map none)]⟩:=rfl
theorem jho:aj Try.prog 117 je2:=ak (z:= .nilFunc) (by kernel_rfl) Try.underlying117 rfl rfl (by intro h;cases h) (fun h=>by cases h)
theorem jo1:tt 117=some ⟨.other,1,8,[.nilFunc]⟩:=rfl
theorem jhp:aj Try.prog 118 je3:=ak (z:= .nilFunc) (by kernel_rfl) Try.underlying118 rfl rfl (by intro h;cases h) (fun h=>by cases h)
theorem jo2:tt 118=some ⟨.other,1,8,[.nilFunc]⟩:=rfl
theorem jhq:aj Try.prog 119 je4:=ak (z:= .nilFunc) (by kernel_rfl) Try.underlying119 rfl rfl (by intro h;cases h) (fun h=>by cases h)
theorem jo3:tt 119=some ⟨.other,1,8,[.nilFunc]⟩:=rfl
theorem jhr:aj Try.prog 120 je5:=ak (z:= .nilFunc) (by kernel_rfl) Try.underlying120 rfl rfl (by intro h;cases h) (fun h=>by cases h)
theorem jo4:tt 120=some ⟨.other,1,8,[.nilFunc]⟩:=rfl
theorem jhs:aj Try.prog 121 je6:=ak (z:= .nilFunc) (by kernel_rfl) Try.underlying121 rfl rfl (by intro h;cases h) (fun h=>by cases h)
theorem jo5:tt 121=some ⟨.other,1,8,[.nilFunc]⟩:=rfl
theorem jht:aj Try.prog 122 je7:=ak (z:= .nilFunc) (by kernel_rfl) Try.underlying122 rfl rfl (by intro h;cases h) (fun h=>by cases h)
theorem jo6:tt 122=some ⟨.other,1,8,[.nilFunc]⟩:=rfl
theorem jhu:aj Try.prog 123 je8:=ak (z:= .nilFunc) (by kernel_rfl) Try.underlying123 rfl rfl (by intro h;cases h) (fun h=>by cases h)
theorem jo7:tt 123=some ⟨.other,1,8,[.nilFunc]⟩:=rfl
theorem jhv:aj Try.prog 124 je9:=ak (z:= .nilFunc) (by kernel_rfl) Try.underlying124 rfl rfl (by intro h;cases h) (fun h=>by cases h)
theorem jo8:tt 124=some ⟨.other,1,8,[.nilFunc]⟩:=rfl
theorem jhw:aj Try.prog 125 jfa:=ak (z:= .nilFunc) (by kernel_rfl) Try.underlying125 rfl rfl (by intro h;cases h) (fun h=>by cases h)
theorem jo9:tt 125=some ⟨.other,1,8,[.nilFunc]⟩:=rfl
theorem jhx:aj Try.prog 126 jfb:=ak (z:=(.slice none 0 0)) (by kernel_rfl) Try.underlying126 rfl rfl (by intro h;cases h) (fun h=>by cases h)
theorem jpa:tt 126=some ⟨.slice 129,1,24,[(.slice none 0 0)]⟩:=rfl
theorem jhy:aj Try.prog 127 jfc:=ak (z:= .nilFunc) (by kernel_rfl) Try.underlying127 rfl rfl (by intro h;cases h) (fun h=>by cases h)
theorem jpb:tt 127=some ⟨.other,1,8,[.nilFunc]⟩:=rfl
theorem jhz:aj Try.prog 128 jfd:=ak (z:= .agg #[(.int .i64 0),(.slice none 0 0)]) (by kernel_rfl) Try.underlying128 rfl rfl (by intro h;cases h) (fun h=>by cases h)
theorem jpc:tt 128=some ⟨.strct false [(0,3),(1,25)],2,32,[(.int .i64 0),(.slice none 0 0)]⟩:=rfl
theorem jh0:aj Try.prog 129 jfe:=ak (z:= .agg #[(.int .i64 0),(.slice none 0 0)]) (by kernel_rfl) Try.underlying129 rfl rfl (by intro h;cases h) (fun h=>by cases h)
theorem jpd:tt 129=some ⟨.strct false [(0,3),(1,25)],2,32,[(.int .i64 0),(.slice none 0 0)]⟩:=rfl
theorem jh1:aj Try.prog 130 jff:=ak (z:= .nilFunc) (by kernel_rfl) Try.underlying130 rfl rfl (by intro h;cases h) (fun h=>by cases h)
theorem jpe:tt 130=some ⟨.other,1,8,[.nilFunc]⟩:=rfl
theorem jh2:aj Try.prog 131 jfg:=ak (z:= .nilFunc) (by kernel_rfl) Try.underlying131 rfl rfl (by intro h;cases h) (fun h=>by cases h)
theorem jpf:tt 131=some ⟨.other,1,8,[.nilFunc]⟩:=rfl
theorem jh3:aj Try.prog 132 jfh:=ak (z:= .nilFunc) (by kernel_rfl) Try.underlying132 rfl rfl (by intro h;cases h) (fun h=>by cases h)
theorem jpg:tt 132=some ⟨.other,1,8,[.nilFunc]⟩:=rfl
theorem jh4:aj Try.prog 133 jfi:=ak (z:=(.slice none 0 0)) (by kernel_rfl) Try.underlying133 rfl rfl (by intro h;cases h) (fun h=>by cases h)
theorem jph:tt 133=some ⟨.slice 4,1,24,[(.slice none 0 0)]⟩:=rfl
theorem jh5:aj Try.prog 135 jfj:=ak (z:= .nilFunc) (by kernel_rfl) Try.underlying135 rfl rfl (by intro h;cases h) (fun h=>by cases h)
theorem jpi:tt 135=some ⟨.other,1,8,[.nilFunc]⟩:=rfl
theorem jh6:aj Try.prog 136 jfk:=ak (z:= .nilFunc) (by kernel_rfl) Try.underlying136 rfl rfl (by intro h;cases h) (fun h=>by cases h)
theorem jpj:tt 136=some ⟨.other,1,8,[.nilFunc]⟩:=rfl
theorem jh7:aj Try.prog 137 jfl:=ak (z:= .nilFunc) (by kernel_rfl) Try.underlying137 rfl rfl (by intro h;cases h) (fun h=>by cases h)
theorem jpk:tt 137=some ⟨.other,1,8,[.nilFunc]⟩:=rfl
theorem jh8:aj Try.prog 138 jfm:=ak (z:= .nilFunc) (by kernel_rfl) Try.underlying138 rfl rfl (by intro h;cases h) (fun h=>by cases h)
theorem jpl:tt 138=some ⟨.other,1,8,[.nilFunc]⟩:=rfl
theorem jh9:aj Try.prog 139 jfn:=ak (z:= .nilFunc) (by kernel_rfl) Try.underlying139 rfl rfl (by intro h;cases h) (fun h=>by cases h)
theorem jpm:tt 139=some ⟨.other,1,8,[.nilFunc]⟩:=rfl
theorem jia:aj Try.prog 140 jfo:=ak (z:= .nilFunc) (by kernel_rfl) Try.underlying140 rfl rfl (by intro h;cases h) (fun h=>by cases h)
theorem jpn:tt 140=some ⟨.other,1,8,[.nilFunc]⟩:=rfl
theorem jib:aj Try.prog 141 jfp:=ak (z:= .nilFunc) (by kernel_rfl) Try.underlying141 rfl rfl (by intro h;cases h) (fun h=>by cases h)
theorem jpo:tt 141=some ⟨.other,1,8,[.nilFunc]⟩:=rfl
theorem jic:aj Try.prog 142 jfq:=ak (z:= .nilFunc) (by kernel_rfl) Try.underlying142 rfl rfl (by intro h;cases h) (fun h=>by cases h)
theorem jpp:tt 142=some ⟨.other,1,8,[.nilFunc]⟩:=rfl
theorem jid:aj Try.prog 143 jfr:=ak (z:=(.pointer none)) (by kernel_rfl) Try.underlying143 rfl rfl (by intro h;cases h) (fun h=>by cases h)
theorem jpq:tt 143=some ⟨.other,1,8,[(.pointer none)]⟩:=rfl
theorem jie:aj Try.prog 144 jfs:=ak (z:=(.slice none 0 0)) (by kernel_rfl) Try.underlying144 rfl rfl (by intro h;cases h) (fun h=>by cases h)
theorem jpr:tt 144=some ⟨.slice 5,1,24,[(.slice none 0 0)]⟩:=rfl
theorem jif:aj Try.prog 145 jft:=ak (z:= .agg #[(.pointer none),(.slice none 0 0)]) (by kernel_rfl) Try.underlying145 rfl rfl (by intro h;cases h) (fun h=>by cases h)
theorem jps:tt 145=some ⟨.strct false [(0,143),(1,144)],2,32,[(.pointer none),(.slice none 0 0)]⟩:=rfl
theorem jig:aj Try.prog 146 jfu:=ak (z:= .agg #[(.pointer none),(.slice none 0 0)]) (by kernel_rfl) Try.underlying146 rfl rfl (by intro h;cases h) (fun h=>by cases h)
theorem jpt:tt 146=some ⟨.strct false [(0,143),(1,144)],2,32,[(.pointer none),(.slice none 0 0)]⟩:=rfl
theorem jih:aj Try.prog 147 jfv:=ak (z:= .nilIface) (by kernel_rfl) Try.underlying147 rfl rfl (by intro h;cases h) (fun h=>by cases h)
theorem jpu:tt 147=some ⟨.other,1,16,[.nilIface]⟩:=rfl
theorem jii:aj Try.prog 148 jfw:=ak (z:= .nilIface) (by kernel_rfl) Try.underlying148 rfl rfl (by intro h;cases h) (fun h=>by cases h)
theorem jpv:tt 148=some ⟨.other,1,16,[.nilIface]⟩:=rfl
theorem jij:aj Try.prog 149 jfx:=ak (z:= .nilFunc) (by kernel_rfl) Try.underlying149 rfl rfl (by intro h;cases h) (fun h=>by cases h)
theorem jpw:tt 149=some ⟨.other,1,8,[.nilFunc]⟩:=rfl
theorem jik:aj Try.prog 150 jfy:=ak (z:=(.int .u64 0)) (by kernel_rfl) Try.underlying150 rfl rfl (by intro h;cases h) (fun _=>rfl)
theorem jpx:tt 150=some ⟨.int .u64,1,8,[(.int .u64 0)]⟩:=rfl
theorem jil:aj Try.prog 151 jfz:=ak (z:= .nilFunc) (by kernel_rfl) Try.underlying151 rfl rfl (by intro h;cases h) (fun h=>by cases h)
theorem jpy:tt 151=some ⟨.other,1,8,[.nilFunc]⟩:=rfl
theorem jim:aj Try.prog 152 jf0:=ak (z:= .nilFunc) (by kernel_rfl) Try.underlying152 rfl rfl (by intro h;cases h) (fun h=>by cases h)
theorem jpz:tt 152=some ⟨.other,1,8,[.nilFunc]⟩:=rfl
theorem jin:aj Try.prog 153 jf1:=ak (z:= .nilFunc) (by kernel_rfl) Try.underlying153 rfl rfl (by intro h;cases h) (fun h=>by cases h)
theorem jp0:tt 153=some ⟨.other,1,8,[.nilFunc]⟩:=rfl
theorem jio:aj Try.prog 154 jf2:=ak (z:= .nilFunc) (by kernel_rfl) Try.underlying154 rfl rfl (by intro h;cases h) (fun h=>by cases h)
theorem jp1:tt 154=some ⟨.other,1,8,[.nilFunc]⟩:=rfl
theorem jip:aj Try.prog 155 jf3:=ak (z:=(.pointer none)) (by kernel_rfl) Try.underlying155 rfl rfl (by intro h;cases h) (fun h=>by cases h)
theorem jp2:tt 155=some ⟨.other,1,8,[(.pointer none)]⟩:=rfl
theorem jiq:aj Try.prog 156 jf4:=ak (z:=(.pointer none)) (by kernel_rfl) Try.underlying156 rfl rfl (by intro h;cases h) (fun h=>by cases h)
theorem jp3:tt 156=some ⟨.other,1,8,[(.pointer none)]⟩:=rfl
theorem jir:aj Try.prog 157 jf5:=ak (z:= .nilFunc) (by kernel_rfl) Try.underlying157 rfl rfl (by intro h;cases h) (fun h=>by cases h)
theorem jp4:tt 157=some ⟨.other,1,8,[.nilFunc]⟩:=rfl
theorem jis:aj Try.prog 158 jf6:=ak (z:= .agg #[(.pointer none),(.pointer none),(.pointer none),(.string ⟨#[]⟩)]) (by kernel_rfl) Try.underlying158 rfl rfl (by intro h;cases h) (fun h=>by cases h)
theorem jp5:tt 158=some ⟨.strct false [(0,17),(1,17),(2,17),(3,9)],4,40,[(.pointer none),(.pointer none),(.pointer none),(.string ⟨#[]⟩)]⟩:=rfl
theorem jit:aj Try.prog 159 jf7:=ak (z:= .agg #[(.pointer none),(.pointer none),(.pointer none),(.string ⟨#[]⟩)]) (by kernel_rfl) Try.underlying159 rfl rfl (by intro h;cases h) (fun h=>by cases h)
theorem jp6:tt 159=some ⟨.strct false [(0,17),(1,17),(2,17),(3,9)],4,40,[(.pointer none),(.pointer none),(.pointer none),(.string ⟨#[]⟩)]⟩:=rfl
theorem jiu:aj Try.prog 160 jf8:=ak (z:= .agg #[]) (by kernel_rfl) Try.underlying160 rfl rfl (by intro h;cases h) (fun h=>by cases h)
theorem jp7:tt 160=some ⟨.arr false 0 16,0,0,[]⟩:=rfl
theorem jiv:aj Try.prog 161 jf9:=ak (z:= .agg #[]) (by kernel_rfl) Try.underlying161 rfl rfl (by intro h;cases h) (fun h=>by cases h)
theorem jp8:tt 161=some ⟨.strct false [(0,160)],0,0,[]⟩:=rfl
theorem jiw:aj Try.prog 162 jga:=ak (z:= .agg #[]) (by kernel_rfl) Try.underlying162 rfl rfl (by intro h;cases h) (fun h=>by cases h)
theorem jp9:tt 162=some ⟨.strct false [(0,160)],0,0,[]⟩:=rfl
theorem jix:aj Try.prog 163 jgb:=ak (z:= .nilFunc) (by kernel_rfl) Try.underlying163 rfl rfl (by intro h;cases h) (fun h=>by cases h)
theorem jqa:tt 163=some ⟨.other,1,8,[.nilFunc]⟩:=rfl
theorem jiy:aj Try.prog 164 jgc:=ak (z:=(.int .u32 0)) (by kernel_rfl) Try.underlying164 rfl rfl (by intro h;cases h) (fun _=>rfl)
theorem jqb:tt 164=some ⟨.int .u32,1,4,[(.int .u32 0)]⟩:=rfl
theorem jiz:aj Try.prog 165 jgd:=ak (z:=(.int .u8 0)) (by kernel_rfl) Try.underlying165 rfl rfl (by intro h;cases h) (fun _=>rfl)
theorem jqc:tt 165=some ⟨.int .u8,1,1,[(.int .u8 0)]⟩:=rfl
theorem ji0:aj Try.prog 166 jge:=ak (z:=(.int .u8 0)) (by kernel_rfl) Try.underlying166 rfl rfl (by intro h;cases h) (fun _=>rfl)
theorem jqd:tt 166=some ⟨.int .u8,1,1,[(.int .u8 0)]⟩:=rfl
theorem ji1:aj Try.prog 167 jgf:=ak (z:= .nilFunc) (by kernel_rfl) Try.underlying167 rfl rfl (by intro h;cases h) (fun h=>by cases h)
theorem jqe:tt 167=some ⟨.other,1,8,[.nilFunc]⟩:=rfl
theorem ji2:aj Try.prog 168 jgg:=ak (z:=(.int .i32 0)) (by kernel_rfl) Try.underlying168 rfl rfl (by intro h;cases h) (fun _=>rfl)
theorem jqf:tt 168=some ⟨.int .i32,1,4,[(.int .i32 0)]⟩:=rfl
theorem ji3:aj Try.prog 169 jgh:=ak (z:=(.int .i32 0)) (by kernel_rfl) Try.underlying169 rfl rfl (by intro h;cases h) (fun _=>rfl)
theorem jqg:tt 169=some ⟨.int .i32,1,4,[(.int .i32 0)]⟩:=rfl
theorem ji4:aj Try.prog 170 jgi:=ak (z:= .agg #[(.int .u64 0),(.int .u64 0),(.int .u32 0),(.int .u8 0),(.int .u8 0),(.int .u8 0),(.int .u8 0), .nilFunc,(.pointer none),(.int .i32 0),(.int .i32 0)]) (by kernel_rfl) Try.underlying170 rfl rfl (by intro h;cases h) (fun h=>by cases h)
theorem jqh:tt 170=some ⟨.strct false [(0,12),(1,12),(2,164),(3,165),(4,5),(5,5),(6,166),(7,167),(8,155),(9,168),(10,169)],11,48,[(.int .u64 0),(.int .u64 0),(.int .u32 0),(.int .u8 0),(.int .u8 0),(.int .u8 0),(.int .u8 0), .nilFunc,(.pointer none),(.int .i32 0),(.int .i32 0)]⟩:=rfl
theorem ji5:aj Try.prog 171 jgj:=ak (z:= .agg #[(.int .u64 0),(.int .u64 0),(.int .u32 0),(.int .u8 0),(.int .u8 0),(.int .u8 0),(.int .u8 0), .nilFunc,(.pointer none),(.int .i32 0),(.int .i32 0)]) (by kernel_rfl) Try.underlying171 rfl rfl (by intro h;cases h) (fun h=>by cases h)
theorem jqi:tt 171=some ⟨.strct false [(0,12),(1,12),(2,164),(3,165),(4,5),(5,5),(6,166),(7,167),(8,155),(9,168),(10,169)],11,48,[(.int .u64 0),(.int .u64 0),(.int .u32 0),(.int .u8 0),(.int .u8 0),(.int .u8 0),(.int .u8 0), .nilFunc,(.pointer none),(.int .i32 0),(.int .i32 0)]⟩:=rfl
set_option maxRecDepth 100000 in
theorem fits:dz Try.prog tt:=by
 intro t x h;unfold tt at h;split at h
 ·cases h;exact jq1
 ·cases h;exact jq2
 ·cases h;exact jq3
 ·cases h;exact jq4
 ·cases h;exact jq5
 ·cases h;exact jq6
 ·cases h;exact jq7
 ·cases h;exact jq8
 ·cases h;exact jq9
 ·cases h;exact jj2
 ·cases h;exact jj3
 ·cases h;exact jj4
 ·cases h;exact jj5
 ·cases h;exact jj6
 ·cases h;exact jj7
 ·cases h;exact jj8
 ·cases h;exact jj9
 ·cases h;exact jka
 ·cases h;exact jkb
 ·cases h;exact jkc
 ·cases h;exact jkd
 ·cases h;exact jke
 ·cases h;exact jkf
 ·cases h;exact jkg
 ·cases h;exact jkh
 ·cases h;exact jki
 ·cases h;exact jkj
 ·cases h;exact jkk
 ·cases h;exact jkl
 ·cases h;exact jkm
 ·cases h;exact jkn
 ·cases h;exact jko
 ·cases h;exact jkp
 ·cases h;exact jkq
 ·cases h;exact jkr
 ·cases h;exact jks
 ·cases h;exact jkt
 ·cases h;exact jku
 ·cases h;exact jkv
 ·cases h;exact jkw
 ·cases h;exact jkx
 ·cases h;exact jky
 ·cases h;exact jkz
 ·cases h;exact jk0
 ·cases h;exact jk1
 ·cases h;exact jk2
 ·cases h;exact jk3
 ·cases h;exact jk4
 ·cases h;exact jk5
 ·cases h;exact jk6
 ·cases h;exact jk7
 ·cases h;exact jk8
 ·cases h;exact jk9
 ·cases h;exact jla
 ·cases h;exact jlb
 ·cases h;exact jlc
 ·cases h;exact jld
 ·cases h;exact jle
 ·cases h;exact jlf
 ·cases h;exact jlg
 ·cases h;exact jlh
 ·cases h;exact jli
 ·cases h;exact jlj
 ·cases h;exact jlk
 ·cases h;exact jll
 ·cases h;exact jlm
 ·cases h;exact jln
 ·cases h;exact jlo
 ·cases h;exact jlp
 ·cases h;exact jlq
 ·cases h;exact jlr
 ·cases h;exact jls
 ·cases h;exact jlt
 ·cases h;exact jlu
 ·cases h;exact jlv
 ·cases h;exact jlw
 ·cases h;exact jlx
 ·cases h;exact jly
 ·cases h;exact jlz
 ·cases h;exact jl0
 ·cases h;exact jl1
 ·cases h;exact jl2
 ·cases h;exact jl3
 ·cases h;exact jl4
 ·cases h;exact jl5
 ·cases h;exact jl6
 ·cases h;exact jl7
 ·cases h;exact jha
 ·cases h;exact jhb
 ·cases h;exact jhc
 ·cases h;exact jhd
 ·cases h;exact jhe
 ·cases h;exact jhf
 ·cases h;exact jhg
 ·cases h;exact jhh
 ·cases h;exact jhi
 ·cases h;exact jhj
 ·cases h;exact jhk
 ·cases h;exact jhl
 ·cases h;exact jhm
 ·cases h;exact jhn
 ·cases h;exact jho
 ·cases h;exact jhp
 ·cases h;exact jhq
 ·cases h;exact jhr
 ·cases h;exact jhs
 ·cases h;exact jht
 ·cases h;exact jhu
 ·cases h;exact jhv
 ·cases h;exact jhw
 ·cases h;exact jhx
 ·cases h;exact jhy
 ·cases h;exact jhz
 ·cases h;exact jh0
 ·cases h;exact jh1
 ·cases h;exact jh2
 ·cases h;exact jh3
 ·cases h;exact jh4
 ·cases h;exact jh5
 ·cases h;exact jh6
 ·cases h;exact jh7
 ·cases h;exact jh8
 ·cases h;exact jh9
 ·cases h;exact jia
 ·cases h;exact jib
 ·cases h;exact jic
 ·cases h;exact jid
 ·cases h;exact jie
 ·cases h;exact jif
 ·cases h;exact jig
 ·cases h;exact jih
 ·cases h;exact jii
 ·cases h;exact jij
 ·cases h;exact jik
 ·cases h;exact jil
 ·cases h;exact jim
 ·cases h;exact jin
 ·cases h;exact jio
 ·cases h;exact jip
 ·cases h;exact jiq
 ·cases h;exact jir
 ·cases h;exact jis
 ·cases h;exact jit
 ·cases h;exact jiu
 ·cases h;exact jiv
 ·cases h;exact jiw
 ·cases h;exact jix
 ·cases h;exact jiy
 ·cases h;exact jiz
 ·cases h;exact ji0
 ·cases h;exact ji1
 ·cases h;exact ji2
 ·cases h;exact ji3
 ·cases h;exact ji4
 ·cases h;exact ji5
 ·cases h
theorem mixed:Try.prog.follows .mixedOrders=true:=rfl
attribute [go_sem] tt1 tt2 tt3 tt4 tt5 tt6 tt7 tt8 tt9 jrg jrh jri jrj jrk jrl jrm jrn jro jrp jrq jrr jrs jrt jru jrv jrw jrx jry jrz jr0 jr1 jr2 jr3 jr4 jr5 jr6 jr7 jr8 jr9 jsa jsb jsc jsd jse jsf jsg jsh jsi jsj jsk jsl jsm jsn jso jsp jsq jsr jss jst jsu jsv jsw jsx jsy jsz js0 js1 js2 js3 js4 js5 js6 js7 js8 js9 jta jtb jtc jtd jte jtf jtg jth jti jtj jtk jtl jon joo jop joq jor jos jot jou jov jow jox joy joz jo0 jo1 jo2 jo3 jo4 jo5 jo6 jo7 jo8 jo9 jpa jpb jpc jpd jpe jpf jpg jph jpi jpj jpk jpl jpm jpn jpo jpp jpq jpr jps jpt jpu jpv jpw jpx jpy jpz jp0 jp1 jp2 jp3 jp4 jp5 jp6 jp7 jp8 jp9 jqa jqb jqc jqd jqe jqf jqg jqh jqi
end Go.Proofs.Ytdhfhpdadbopkaa
