/-
  The types of this seat's program: a row a type (its kind, cells, bytes, the cells of its zero value), and that each row is the program's own. Made by program out of the translation.
-/
import Derived.Test.YtokeielgplbdeaaZ8KE
import Derived.Test.YtokeielgplbdeaaProg
import Derived.KernelRfl
set_option linter.all false
namespace Go.Proofs.Ytokeielgplbdeaa
open Go.K Go.M
theorem ak{P:Program}{t:TypeId}{k:TK}{sz by_:Nat}{zs:List Value}{z:Value}{d:TypeDesc}(h1:(P.info? t).map (fun i=>(i.zero,i.size,i.bytes))=some (some z,sz,by_))(h2:P.underlying t=some d)(h3:TK.of d=k.plain)(h4:z.cells.toList=zs)(h5:k.cmp=true→Cmp P t)(h6:k.one=true→zs=[z]):aj P t ⟨k,sz,by_,zs⟩:=by
 cases hi:P.info? t with
 |none=>simp[hi]at h1
 |some i=>
  simp only[hi,Option.map_some,Option.some.injEq,Prod.mk.injEq]at h1;exact⟨⟨i,d,z,hi,h2,h3,h1.2.1,h1.2.2,h1.1,h4⟩,h5,fun e=>⟨i,z,hi,h1.1,h6 e⟩⟩
def ti1:TI:=⟨.other,1,8,[.nilFunc]⟩
def ti2:TI:=⟨.int .i64,1,8,[(.int .i64 0)]⟩
def ti3:TI:=⟨.int .i64,1,8,[(.int .i64 0)]⟩
def ti4:TI:=⟨.bool,1,1,[(.bool false)]⟩
def ti5:TI:=⟨.int .u8,1,1,[(.int .u8 0)]⟩
def ti6:TI:=⟨.int .u8,1,1,[(.int .u8 0)]⟩
def ti7:TI:=⟨.strct true [(0,2),(1,3),(2,4),(3,6)],4,24,[(.int .i64 0),(.int .i64 0),(.bool false),(.int .u8 0)]⟩
def ti8:TI:=⟨.strct true [(0,2),(1,3),(2,4),(3,6)],4,24,[(.int .i64 0),(.int .i64 0),(.bool false),(.int .u8 0)]⟩
def ti9:TI:=⟨.str,1,16,[(.string ⟨#[]⟩)]⟩
def jnr:TI:=⟨.str,1,16,[(.string ⟨#[]⟩)]⟩
def jns:TI:=⟨.str,1,16,[(.string ⟨#[]⟩)]⟩
def jnt:TI:=⟨.int .u64,1,8,[(.int .u64 0)]⟩
def jnu:TI:=⟨.strct false [(0,9),(1,12)],2,24,[(.string ⟨#[]⟩),(.int .u64 0)]⟩
def jnv:TI:=⟨.strct false [(0,9),(1,12)],2,24,[(.string ⟨#[]⟩),(.int .u64 0)]⟩
def jnw:TI:=⟨.other,1,8,[(.pointer none)]⟩
def jnx:TI:=⟨.other,1,8,[(.pointer none)]⟩
def jny:TI:=⟨.other,1,8,[(.pointer none)]⟩
def jnz:TI:=⟨.strct false [(0,17)],1,8,[(.pointer none)]⟩
def jn0:TI:=⟨.strct false [(0,17)],1,8,[(.pointer none)]⟩
def jn1:TI:=⟨.other,1,16,[.nilIface]⟩
def jn2:TI:=⟨.int .i32,1,4,[(.int .i32 0)]⟩
def jn3:TI:=⟨.slice 68,1,24,[(.slice none 0 0)]⟩
def jn4:TI:=⟨.strct false [(0,3),(1,22),(2,3),(3,3)],4,48,[(.int .i64 0),(.slice none 0 0),(.int .i64 0),(.int .i64 0)]⟩
def jn5:TI:=⟨.strct false [(0,3),(1,22),(2,3),(3,3)],4,48,[(.int .i64 0),(.slice none 0 0),(.int .i64 0),(.int .i64 0)]⟩
def jn6:TI:=⟨.slice 3,1,24,[(.slice none 0 0)]⟩
def jn7:TI:=⟨.slice 40,1,24,[(.slice none 0 0)]⟩
def jn8:TI:=⟨.other,1,8,[.nilFunc]⟩
def jn9:TI:=⟨.other,1,8,[.nilFunc]⟩
def joa:TI:=⟨.int .i64,1,8,[(.int .i64 0)]⟩
def job:TI:=⟨.other,1,8,[.nilFunc]⟩
def joc:TI:=⟨.other,1,8,[.nilFunc]⟩
def jod:TI:=⟨.other,1,8,[.nilFunc]⟩
def joe:TI:=⟨.other,1,8,[.nilFunc]⟩
def jof:TI:=⟨.other,1,8,[.nilFunc]⟩
def jog:TI:=⟨.other,1,8,[.nilFunc]⟩
def joh:TI:=⟨.slice 5,1,24,[(.slice none 0 0)]⟩
def joi:TI:=⟨.strct true [(0,3),(1,3),(2,4)],3,24,[(.int .i64 0),(.int .i64 0),(.bool false)]⟩
def joj:TI:=⟨.strct true [(0,3),(1,3),(2,4)],3,24,[(.int .i64 0),(.int .i64 0),(.bool false)]⟩
def jok:TI:=⟨.other,1,8,[.nilFunc]⟩
def jol:TI:=⟨.other,1,8,[.nilFunc]⟩
def jom:TI:=⟨.other,1,8,[.nilFunc]⟩
def jon:TI:=⟨.other,1,8,[.nilFunc]⟩
def joo:TI:=⟨.other,1,8,[.nilFunc]⟩
def jop:TI:=⟨.other,1,8,[.nilFunc]⟩
def joq:TI:=⟨.other,1,8,[.nilFunc]⟩
def jor:TI:=⟨.other,1,8,[.nilFunc]⟩
def jos:TI:=⟨.other,1,8,[.nilFunc]⟩
def jot:TI:=⟨.other,1,8,[.nilFunc]⟩
def jou:TI:=⟨.other,1,8,[.nilFunc]⟩
def jov:TI:=⟨.other,1,8,[.nilFunc]⟩
def jow:TI:=⟨.other,1,8,[.nilFunc]⟩
def jox:TI:=⟨.other,1,8,[.nilFunc]⟩
def joy:TI:=⟨.other,1,8,[.nilFunc]⟩
def joz:TI:=⟨.other,1,8,[.nilFunc]⟩
def jo0:TI:=⟨.other,1,8,[.nilFunc]⟩
def jo1:TI:=⟨.other,1,8,[.nilFunc]⟩
def jo2:TI:=⟨.other,1,8,[.nilFunc]⟩
def jo3:TI:=⟨.other,1,8,[.nilFunc]⟩
def jo4:TI:=⟨.strct false [(0,9),(1,25),(2,25)],3,64,[(.string ⟨#[]⟩),(.slice none 0 0),(.slice none 0 0)]⟩
def jo5:TI:=⟨.strct false [(0,9),(1,25),(2,25)],3,64,[(.string ⟨#[]⟩),(.slice none 0 0),(.slice none 0 0)]⟩
def jo6:TI:=⟨.other,1,8,[.nilFunc]⟩
def jo7:TI:=⟨.other,1,8,[.nilFunc]⟩
def jo8:TI:=⟨.other,1,8,[.nilFunc]⟩
def jo9:TI:=⟨.other,1,8,[.nilFunc]⟩
def jpa:TI:=⟨.other,1,8,[.nilFunc]⟩
def jpb:TI:=⟨.other,1,8,[.nilFunc]⟩
def jpc:TI:=⟨.map 3 115,1,8,[(.map none)]⟩
def jpd:TI:=⟨.strct false [(0,75),(1,3),(2,3)],3,24,[(.map none),(.int .i64 0),(.int .i64 0)]⟩
def jpe:TI:=⟨.strct false [(0,75),(1,3),(2,3)],3,24,[(.map none),(.int .i64 0),(.int .i64 0)]⟩
def jpf:TI:=⟨.other,1,8,[.nilFunc]⟩
def jpg:TI:=⟨.other,1,8,[.nilFunc]⟩
def jph:TI:=⟨.other,1,8,[.nilFunc]⟩
def jpi:TI:=⟨.other,1,8,[.nilFunc]⟩
def jpj:TI:=⟨.slice 25,1,24,[(.slice none 0 0)]⟩
def jpk:TI:=⟨.slice 126,1,24,[(.slice none 0 0)]⟩
def jpl:TI:=⟨.strct false [(0,84),(1,85),(2,4)],3,56,[(.slice none 0 0),(.slice none 0 0),(.bool false)]⟩
def jpm:TI:=⟨.strct false [(0,84),(1,85),(2,4)],3,56,[(.slice none 0 0),(.slice none 0 0),(.bool false)]⟩
def jpn:TI:=⟨.slice 4,1,24,[(.slice none 0 0)]⟩
def jpo:TI:=⟨.strct false [(0,87),(3,3),(4,88)],5,88,[(.slice none 0 0),(.slice none 0 0),(.bool false),(.int .i64 0),(.slice none 0 0)]⟩
def jpp:TI:=⟨.strct false [(0,87),(3,3),(4,88)],5,88,[(.slice none 0 0),(.slice none 0 0),(.bool false),(.int .i64 0),(.slice none 0 0)]⟩
def jpq:TI:=⟨.other,1,8,[.nilFunc]⟩
def jpr:TI:=⟨.other,1,8,[.nilFunc]⟩
def jps:TI:=⟨.other,1,8,[.nilFunc]⟩
def jpt:TI:=⟨.other,1,8,[.nilFunc]⟩
def jpu:TI:=⟨.other,1,8,[.nilFunc]⟩
def jpv:TI:=⟨.other,1,8,[.nilFunc]⟩
def jpw:TI:=⟨.other,1,8,[.nilFunc]⟩
def jpx:TI:=⟨.other,1,8,[.nilFunc]⟩
def jfd:TI:=⟨.other,1,8,[.nilFunc]⟩
def jfe:TI:=⟨.other,1,8,[.nilFunc]⟩
def jff:TI:=⟨.other,1,8,[.nilFunc]⟩
def jfg:TI:=⟨.other,1,8,[.nilFunc]⟩
def jfh:TI:=⟨.other,1,8,[.nilFunc]⟩
def jfi:TI:=⟨.strct true [(0,3),(1,3),(2,4)],3,24,[(.int .i64 0),(.int .i64 0),(.bool false)]⟩
def jfj:TI:=⟨.strct true [(0,3),(1,3),(2,4)],3,24,[(.int .i64 0),(.int .i64 0),(.bool false)]⟩
def jfk:TI:=⟨.slice 106,1,24,[(.slice none 0 0)]⟩
def jfl:TI:=⟨.other,1,8,[.nilFunc]⟩
def jfm:TI:=⟨.other,1,8,[.nilFunc]⟩
def jfn:TI:=⟨.other,1,8,[.nilFunc]⟩
def jfo:TI:=⟨.other,1,8,[.nilFunc]⟩
def jfp:TI:=⟨.other,1,8,[.nilFunc]⟩
def jfq:TI:=⟨.other,1,8,[.nilFunc]⟩
def jfr:TI:=⟨.other,1,8,[.nilFunc]⟩
def jfs:TI:=⟨.slice 121,1,24,[(.slice none 0 0)]⟩
def jft:TI:=⟨.slice 119,1,24,[(.slice none 0 0)]⟩
def jfu:TI:=⟨.other,1,8,[.nilFunc]⟩
def jfv:TI:=⟨.strct true [(0,4),(1,3),(2,3)],3,24,[(.bool false),(.int .i64 0),(.int .i64 0)]⟩
def jfw:TI:=⟨.strct true [(0,4),(1,3),(2,3)],3,24,[(.bool false),(.int .i64 0),(.int .i64 0)]⟩
def jfx:TI:=⟨.strct true [(0,3),(1,3)],2,16,[(.int .i64 0),(.int .i64 0)]⟩
def jfy:TI:=⟨.strct true [(0,3),(1,3)],2,16,[(.int .i64 0),(.int .i64 0)]⟩
def jfz:TI:=⟨.other,1,8,[.nilFunc]⟩
def jf0:TI:=⟨.other,1,8,[.nilFunc]⟩
def jf1:TI:=⟨.strct true [(0,3),(1,3),(2,3)],3,24,[(.int .i64 0),(.int .i64 0),(.int .i64 0)]⟩
def jf2:TI:=⟨.strct true [(0,3),(1,3),(2,3)],3,24,[(.int .i64 0),(.int .i64 0),(.int .i64 0)]⟩
def jf3:TI:=⟨.other,1,8,[.nilFunc]⟩
def jf4:TI:=⟨.map 3 4,1,8,[(.map none)]⟩
def jf5:TI:=⟨.other,1,8,[.nilFunc]⟩
def jf6:TI:=⟨.other,1,8,[.nilFunc]⟩
def jf7:TI:=⟨.other,1,8,[.nilFunc]⟩
def jf8:TI:=⟨.other,1,8,[.nilFunc]⟩
def jf9:TI:=⟨.other,1,8,[.nilFunc]⟩
def jga:TI:=⟨.other,1,8,[.nilFunc]⟩
def jgb:TI:=⟨.other,1,8,[.nilFunc]⟩
def jgc:TI:=⟨.other,1,8,[.nilFunc]⟩
def jgd:TI:=⟨.other,1,8,[.nilFunc]⟩
def jge:TI:=⟨.other,1,8,[.nilFunc]⟩
def jgf:TI:=⟨.other,1,8,[.nilFunc]⟩
def jgg:TI:=⟨.map 9 3,1,8,[(.map none)]⟩
def jgh:TI:=⟨.other,1,8,[.nilFunc]⟩
def jgi:TI:=⟨.other,1,8,[.nilFunc]⟩
def jgj:TI:=⟨.int .u64,1,8,[(.int .u64 0)]⟩
def jgk:TI:=⟨.other,1,8,[.nilFunc]⟩
def jgl:TI:=⟨.int .u32,1,4,[(.int .u32 0)]⟩
def jgm:TI:=⟨.other,1,8,[.nilFunc]⟩
def jgn:TI:=⟨.int .u64,1,8,[(.int .u64 0)]⟩
def jgo:TI:=⟨.other,1,8,[.nilFunc]⟩
def jgp:TI:=⟨.other,1,8,[.nilFunc]⟩
def jgq:TI:=⟨.strct false [(0,17),(1,17),(2,17),(3,9)],4,40,[(.pointer none),(.pointer none),(.pointer none),(.string ⟨#[]⟩)]⟩
def jgr:TI:=⟨.strct false [(0,17),(1,17),(2,17),(3,9)],4,40,[(.pointer none),(.pointer none),(.pointer none),(.string ⟨#[]⟩)]⟩
def jgs:TI:=⟨.arr false 0 16,0,0,[]⟩
def jgt:TI:=⟨.strct false [(0,157)],0,0,[]⟩
def jgu:TI:=⟨.strct false [(0,157)],0,0,[]⟩
def jgv:TI:=⟨.other,1,8,[.nilFunc]⟩
def jgw:TI:=⟨.int .u8,1,1,[(.int .u8 0)]⟩
def jgx:TI:=⟨.int .u8,1,1,[(.int .u8 0)]⟩
def jgy:TI:=⟨.other,1,8,[.nilFunc]⟩
def jgz:TI:=⟨.other,1,8,[(.pointer none)]⟩
def jg0:TI:=⟨.int .i32,1,4,[(.int .i32 0)]⟩
def jg1:TI:=⟨.int .i32,1,4,[(.int .i32 0)]⟩
def jg2:TI:=⟨.strct false [(0,12),(1,12),(2,148),(3,161),(4,5),(5,5),(6,162),(7,163),(8,164),(9,165),(10,166)],11,48,[(.int .u64 0),(.int .u64 0),(.int .u32 0),(.int .u8 0),(.int .u8 0),(.int .u8 0),(.int .u8 0), .nilFunc,(.pointer none),(.int .i32 0),(.int .i32 0)]⟩
def jg3:TI:=⟨.strct false [(0,12),(1,12),(2,148),(3,161),(4,5),(5,5),(6,162),(7,163),(8,164),(9,165),(10,166)],11,48,[(.int .u64 0),(.int .u64 0),(.int .u32 0),(.int .u8 0),(.int .u8 0),(.int .u8 0),(.int .u8 0), .nilFunc,(.pointer none),(.int .i32 0),(.int .i32 0)]⟩
def jg4:TI:=⟨.other,1,8,[(.pointer none)]⟩
def tt:TT
 |1=>some ti1
 |2=>some ti2
 |3=>some ti3
 |4=>some ti4
 |5=>some ti5
 |6=>some ti6
 |7=>some ti7
 |8=>some ti8
 |9=>some ti9
 |10=>some jnr
 |11=>some jns
 |12=>some jnt
 |13=>some jnu
 |14=>some jnv
 |15=>some jnw
 |16=>some jnx
 |17=>some jny
 |18=>some jnz
 |19=>some jn0
 |20=>some jn1
 |21=>some jn2
 |22=>some jn3
 |23=>some jn4
 |24=>some jn5
 |25=>some jn6
 |26=>some jn7
 |27=>some jn8
 |28=>some jn9
 |29=>some joa
 |31=>some job
 |33=>some joc
 |34=>some jod
 |35=>some joe
 |36=>some jof
 |37=>some jog
 |38=>some joh
 |39=>some joi
 |40=>some joj
 |42=>some jok
 |43=>some jol
 |45=>some jom
 |46=>some jon
 |47=>some joo
 |48=>some jop
 |49=>some joq
 |50=>some jor
 |51=>some jos
 |53=>some jot
 |54=>some jou
 |55=>some jov
 |57=>some jow
 |59=>some jox
 |60=>some joy
 |61=>some joz
 |63=>some jo0
 |64=>some jo1
 |65=>some jo2
 |66=>some jo3
 |67=>some jo4
 |68=>some jo5
 |69=>some jo6
 |70=>some jo7
 |71=>some jo8
 |72=>some jo9
 |73=>some jpa
 |74=>some jpb
 |75=>some jpc
 |76=>some jpd
 |77=>some jpe
 |79=>some jpf
 |81=>some jpg
 |82=>some jph
 |83=>some jpi
 |84=>some jpj
 |85=>some jpk
 |86=>some jpl
 |87=>some jpm
 |88=>some jpn
 |89=>some jpo
 |90=>some jpp
 |92=>some jpq
 |93=>some jpr
 |94=>some jps
 |95=>some jpt
 |96=>some jpu
 |97=>some jpv
 |98=>some jpw
 |99=>some jpx
 |100=>some jfd
 |101=>some jfe
 |102=>some jff
 |103=>some jfg
 |104=>some jfh
 |105=>some jfi
 |106=>some jfj
 |107=>some jfk
 |108=>some jfl
 |109=>some jfm
 |110=>some jfn
 |111=>some jfo
 |112=>some jfp
 |113=>some jfq
 |114=>some jfr
 |115=>some jfs
 |116=>some jft
 |117=>some jfu
 |118=>some jfv
 |119=>some jfw
 |120=>some jfx
 |121=>some jfy
 |123=>some jfz
 |124=>some jf0
 |125=>some jf1
 |126=>some jf2
 |127=>some jf3
 |128=>some jf4
 |129=>some jf5
 |131=>some jf6
 |132=>some jf7
 |133=>some jf8
 |134=>some jf9
 |135=>some jga
 |136=>some jgb
 |137=>some jgc
 |138=>some jgd
 |140=>some jge
 |141=>some jgf
 |142=>some jgg
 |143=>some jgh
 |144=>some jgi
 |145=>some jgj
 |147=>some jgk
 |148=>some jgl
 |150=>some jgm
 |151=>some jgn
 |153=>some jgo
 |154=>some jgp
 |155=>some jgq
 |156=>some jgr
 |157=>some jgs
 |158=>some jgt
 |159=>some jgu
 |160=>some jgv
 |161=>some jgw
 |162=>some jgx
 |163=>some jgy
 |164=>some jgz
 |165=>some jg0
 |166=>some jg1
 |167=>some jg2
 |168=>some jg3
 |169=>some jg4
 |_=>none
theorem jr6:aj Try.prog 1 ti1:=ak (z:= .nilFunc) (by kernel_rfl) Try.underlying1 rfl rfl (by intro h;cases h) (fun h=>by cases h)
theorem tt1:tt 1=some ⟨.other,1,8,[.nilFunc]⟩:=rfl
theorem jr7:aj Try.prog 2 ti2:=ak (z:=(.int .i64 0)) (by kernel_rfl) Try.underlying2 rfl rfl (by intro h;cases h) (fun _=>rfl)
theorem tt2:tt 2=some ⟨.int .i64,1,8,[(.int .i64 0)]⟩:=rfl
theorem jr8:aj Try.prog 3 ti3:=ak (z:=(.int .i64 0)) (by kernel_rfl) Try.underlying3 rfl rfl (by intro h;cases h) (fun _=>rfl)
theorem tt3:tt 3=some ⟨.int .i64,1,8,[(.int .i64 0)]⟩:=rfl
theorem jr9:aj Try.prog 4 ti4:=ak (z:=(.bool false)) (by kernel_rfl) Try.underlying4 rfl rfl (by intro h;cases h) (fun _=>rfl)
theorem tt4:tt 4=some ⟨.bool,1,1,[(.bool false)]⟩:=rfl
theorem jsa:aj Try.prog 5 ti5:=ak (z:=(.int .u8 0)) (by kernel_rfl) Try.underlying5 rfl rfl (by intro h;cases h) (fun _=>rfl)
theorem tt5:tt 5=some ⟨.int .u8,1,1,[(.int .u8 0)]⟩:=rfl
theorem jsb:aj Try.prog 6 ti6:=ak (z:=(.int .u8 0)) (by kernel_rfl) Try.underlying6 rfl rfl (by intro h;cases h) (fun _=>rfl)
theorem tt6:tt 6=some ⟨.int .u8,1,1,[(.int .u8 0)]⟩:=rfl
theorem jsc:aj Try.prog 7 ti7:=ak (z:= .agg #[(.int .i64 0),(.int .i64 0),(.bool false),(.int .u8 0)]) (by kernel_rfl) Try.underlying7 rfl rfl (by exact fun _=>⟨by kernel_rfl,by kernel_rfl,by kernel_rfl⟩) (fun h=>by cases h)
theorem tt7:tt 7=some ⟨.strct true [(0,2),(1,3),(2,4),(3,6)],4,24,[(.int .i64 0),(.int .i64 0),(.bool false),(.int .u8 0)]⟩:=rfl
theorem jsd:aj Try.prog 8 ti8:=ak (z:= .agg #[(.int .i64 0),(.int .i64 0),(.bool false),(.int .u8 0)]) (by kernel_rfl) Try.underlying8 rfl rfl (by exact fun _=>⟨by kernel_rfl,by kernel_rfl,by kernel_rfl⟩) (fun h=>by cases h)
theorem tt8:tt 8=some ⟨.strct true [(0,2),(1,3),(2,4),(3,6)],4,24,[(.int .i64 0),(.int .i64 0),(.bool false),(.int .u8 0)]⟩:=rfl
theorem jse:aj Try.prog 9 ti9:=ak (z:=(.string ⟨#[]⟩)) (by kernel_rfl) Try.underlying9 rfl rfl (by intro h;cases h) (fun _=>rfl)
theorem tt9:tt 9=some ⟨.str,1,16,[(.string ⟨#[]⟩)]⟩:=rfl
theorem jk9:aj Try.prog 10 jnr:=ak (z:=(.string ⟨#[]⟩)) (by kernel_rfl) Try.underlying10 rfl rfl (by intro h;cases h) (fun _=>rfl)
theorem jsm:tt 10=some ⟨.str,1,16,[(.string ⟨#[]⟩)]⟩:=rfl
theorem jla:aj Try.prog 11 jns:=ak (z:=(.string ⟨#[]⟩)) (by kernel_rfl) Try.underlying11 rfl rfl (by intro h;cases h) (fun _=>rfl)
theorem jsn:tt 11=some ⟨.str,1,16,[(.string ⟨#[]⟩)]⟩:=rfl
theorem jlb:aj Try.prog 12 jnt:=ak (z:=(.int .u64 0)) (by kernel_rfl) Try.underlying12 rfl rfl (by intro h;cases h) (fun _=>rfl)
theorem jso:tt 12=some ⟨.int .u64,1,8,[(.int .u64 0)]⟩:=rfl
theorem jlc:aj Try.prog 13 jnu:=ak (z:= .agg #[(.string ⟨#[]⟩),(.int .u64 0)]) (by kernel_rfl) Try.underlying13 rfl rfl (by intro h;cases h) (fun h=>by cases h)
theorem jsp:tt 13=some ⟨.strct false [(0,9),(1,12)],2,24,[(.string ⟨#[]⟩),(.int .u64 0)]⟩:=rfl
theorem jld:aj Try.prog 14 jnv:=ak (z:= .agg #[(.string ⟨#[]⟩),(.int .u64 0)]) (by kernel_rfl) Try.underlying14 rfl rfl (by intro h;cases h) (fun h=>by cases h)
theorem jsq:tt 14=some ⟨.strct false [(0,9),(1,12)],2,24,[(.string ⟨#[]⟩),(.int .u64 0)]⟩:=rfl
theorem jle:aj Try.prog 15 jnw:=ak (z:=(.pointer none)) (by kernel_rfl) Try.underlying15 rfl rfl (by intro h;cases h) (fun h=>by cases h)
theorem jsr:tt 15=some ⟨.other,1,8,[(.pointer none)]⟩:=rfl
theorem jlf:aj Try.prog 16 jnx:=ak (z:=(.pointer none)) (by kernel_rfl) Try.underlying16 rfl rfl (by intro h;cases h) (fun h=>by cases h)
theorem jss:tt 16=some ⟨.other,1,8,[(.pointer none)]⟩:=rfl
theorem jlg:aj Try.prog 17 jny:=ak (z:=(.pointer none)) (by kernel_rfl) Try.underlying17 rfl rfl (by intro h;cases h) (fun h=>by cases h)
theorem jst:tt 17=some ⟨.other,1,8,[(.pointer none)]⟩:=rfl
theorem jlh:aj Try.prog 18 jnz:=ak (z:= .agg #[(.pointer none)]) (by kernel_rfl) Try.underlying18 rfl rfl (by intro h;cases h) (fun h=>by cases h)
theorem jsu:tt 18=some ⟨.strct false [(0,17)],1,8,[(.pointer none)]⟩:=rfl
theorem jli:aj Try.prog 19 jn0:=ak (z:= .agg #[(.pointer none)]) (by kernel_rfl) Try.underlying19 rfl rfl (by intro h;cases h) (fun h=>by cases h)
theorem jsv:tt 19=some ⟨.strct false [(0,17)],1,8,[(.pointer none)]⟩:=rfl
theorem jlj:aj Try.prog 20 jn1:=ak (z:= .nilIface) (by kernel_rfl) Try.underlying20 rfl rfl (by intro h;cases h) (fun h=>by cases h)
theorem jsw:tt 20=some ⟨.other,1,16,[.nilIface]⟩:=rfl
theorem jlk:aj Try.prog 21 jn2:=ak (z:=(.int .i32 0)) (by kernel_rfl) Try.underlying21 rfl rfl (by intro h;cases h) (fun _=>rfl)
theorem jsx:tt 21=some ⟨.int .i32,1,4,[(.int .i32 0)]⟩:=rfl
theorem jll:aj Try.prog 22 jn3:=ak (z:=(.slice none 0 0)) (by kernel_rfl) Try.underlying22 rfl rfl (by intro h;cases h) (fun _=>rfl)
theorem jsy:tt 22=some ⟨.slice 68,1,24,[(.slice none 0 0)]⟩:=rfl
theorem jlm:aj Try.prog 23 jn4:=ak (z:= .agg #[(.int .i64 0),(.slice none 0 0),(.int .i64 0),(.int .i64 0)]) (by kernel_rfl) Try.underlying23 rfl rfl (by intro h;cases h) (fun h=>by cases h)
theorem jsz:tt 23=some ⟨.strct false [(0,3),(1,22),(2,3),(3,3)],4,48,[(.int .i64 0),(.slice none 0 0),(.int .i64 0),(.int .i64 0)]⟩:=rfl
theorem jln:aj Try.prog 24 jn5:=ak (z:= .agg #[(.int .i64 0),(.slice none 0 0),(.int .i64 0),(.int .i64 0)]) (by kernel_rfl) Try.underlying24 rfl rfl (by intro h;cases h) (fun h=>by cases h)
theorem js0:tt 24=some ⟨.strct false [(0,3),(1,22),(2,3),(3,3)],4,48,[(.int .i64 0),(.slice none 0 0),(.int .i64 0),(.int .i64 0)]⟩:=rfl
theorem jlo:aj Try.prog 25 jn6:=ak (z:=(.slice none 0 0)) (by kernel_rfl) Try.underlying25 rfl rfl (by intro h;cases h) (fun _=>rfl)
theorem js1:tt 25=some ⟨.slice 3,1,24,[(.slice none 0 0)]⟩:=rfl
theorem jlp:aj Try.prog 26 jn7:=ak (z:=(.slice none 0 0)) (by kernel_rfl) Try.underlying26 rfl rfl (by intro h;cases h) (fun _=>rfl)
theorem js2:tt 26=some ⟨.slice 40,1,24,[(.slice none 0 0)]⟩:=rfl
theorem jlq:aj Try.prog 27 jn8:=ak (z:= .nilFunc) (by kernel_rfl) Try.underlying27 rfl rfl (by intro h;cases h) (fun h=>by cases h)
theorem js3:tt 27=some ⟨.other,1,8,[.nilFunc]⟩:=rfl
theorem jlr:aj Try.prog 28 jn9:=ak (z:= .nilFunc) (by kernel_rfl) Try.underlying28 rfl rfl (by intro h;cases h) (fun h=>by cases h)
theorem js4:tt 28=some ⟨.other,1,8,[.nilFunc]⟩:=rfl
theorem jls:aj Try.prog 29 joa:=ak (z:=(.int .i64 0)) (by kernel_rfl) Try.underlying29 rfl rfl (by intro h;cases h) (fun _=>rfl)
theorem js5:tt 29=some ⟨.int .i64,1,8,[(.int .i64 0)]⟩:=rfl
theorem jlt:aj Try.prog 31 job:=ak (z:= .nilFunc) (by kernel_rfl) Try.underlying31 rfl rfl (by intro h;cases h) (fun h=>by cases h)
theorem js6:tt 31=some ⟨.other,1,8,[.nilFunc]⟩:=rfl
theorem jlu:aj Try.prog 33 joc:=ak (z:= .nilFunc) (by kernel_rfl) Try.underlying33 rfl rfl (by intro h;cases h) (fun h=>by cases h)
theorem js7:tt 33=some ⟨.other,1,8,[.nilFunc]⟩:=rfl
theorem jlv:aj Try.prog 34 jod:=ak (z:= .nilFunc) (by kernel_rfl) Try.underlying34 rfl rfl (by intro h;cases h) (fun h=>by cases h)
theorem js8:tt 34=some ⟨.other,1,8,[.nilFunc]⟩:=rfl
theorem jlw:aj Try.prog 35 joe:=ak (z:= .nilFunc) (by kernel_rfl) Try.underlying35 rfl rfl (by intro h;cases h) (fun h=>by cases h)
theorem js9:tt 35=some ⟨.other,1,8,[.nilFunc]⟩:=rfl
theorem jlx:aj Try.prog 36 jof:=ak (z:= .nilFunc) (by kernel_rfl) Try.underlying36 rfl rfl (by intro h;cases h) (fun h=>by cases h)
theorem jta:tt 36=some ⟨.other,1,8,[.nilFunc]⟩:=rfl
theorem jly:aj Try.prog 37 jog:=ak (z:= .nilFunc) (by kernel_rfl) Try.underlying37 rfl rfl (by intro h;cases h) (fun h=>by cases h)
theorem jtb:tt 37=some ⟨.other,1,8,[.nilFunc]⟩:=rfl
theorem jlz:aj Try.prog 38 joh:=ak (z:=(.slice none 0 0)) (by kernel_rfl) Try.underlying38 rfl rfl (by intro h;cases h) (fun _=>rfl)
theorem jtc:tt 38=some ⟨.slice 5,1,24,[(.slice none 0 0)]⟩:=rfl
theorem jl0:aj Try.prog 39 joi:=ak (z:= .agg #[(.int .i64 0),(.int .i64 0),(.bool false)]) (by kernel_rfl) Try.underlying39 rfl rfl (by exact fun _=>⟨by kernel_rfl,by kernel_rfl,by kernel_rfl⟩) (fun h=>by cases h)
theorem jtd:tt 39=some ⟨.strct true [(0,3),(1,3),(2,4)],3,24,[(.int .i64 0),(.int .i64 0),(.bool false)]⟩:=rfl
theorem jl1:aj Try.prog 40 joj:=ak (z:= .agg #[(.int .i64 0),(.int .i64 0),(.bool false)]) (by kernel_rfl) Try.underlying40 rfl rfl (by exact fun _=>⟨by kernel_rfl,by kernel_rfl,by kernel_rfl⟩) (fun h=>by cases h)
theorem jte:tt 40=some ⟨.strct true [(0,3),(1,3),(2,4)],3,24,[(.int .i64 0),(.int .i64 0),(.bool false)]⟩:=rfl
theorem jl2:aj Try.prog 42 jok:=ak (z:= .nilFunc) (by kernel_rfl) Try.underlying42 rfl rfl (by intro h;cases h) (fun h=>by cases h)
theorem jtf:tt 42=some ⟨.other,1,8,[.nilFunc]⟩:=rfl
theorem jl3:aj Try.prog 43 jol:=ak (z:= .nilFunc) (by kernel_rfl) Try.underlying43 rfl rfl (by intro h;cases h) (fun h=>by cases h)
theorem jtg:tt 43=some ⟨.other,1,8,[.nilFunc]⟩:=rfl
theorem jl4:aj Try.prog 45 jom:=ak (z:= .nilFunc) (by kernel_rfl) Try.underlying45 rfl rfl (by intro h;cases h) (fun h=>by cases h)
theorem jth:tt 45=some ⟨.other,1,8,[.nilFunc]⟩:=rfl
theorem jl5:aj Try.prog 46 jon:=ak (z:= .nilFunc) (by kernel_rfl) Try.underlying46 rfl rfl (by intro h;cases h) (fun h=>by cases h)
theorem jti:tt 46=some ⟨.other,1,8,[.nilFunc]⟩:=rfl
theorem jl6:aj Try.prog 47 joo:=ak (z:= .nilFunc) (by kernel_rfl) Try.underlying47 rfl rfl (by intro h;cases h) (fun h=>by cases h)
theorem jtj:tt 47=some ⟨.other,1,8,[.nilFunc]⟩:=rfl
theorem jl7:aj Try.prog 48 jop:=ak (z:= .nilFunc) (by kernel_rfl) Try.underlying48 rfl rfl (by intro h;cases h) (fun h=>by cases h)
theorem jtk:tt 48=some ⟨.other,1,8,[.nilFunc]⟩:=rfl
theorem jl8:aj Try.prog 49 joq:=ak (z:= .nilFunc) (by kernel_rfl) Try.underlying49 rfl rfl (by intro h;cases h) (fun h=>by cases h)
theorem jtl:tt 49=some ⟨.other,1,8,[.nilFunc]⟩:=rfl
theorem jl9:aj Try.prog 50 jor:=ak (z:= .nilFunc) (by kernel_rfl) Try.underlying50 rfl rfl (by intro h;cases h) (fun h=>by cases h)
theorem jtm:tt 50=some ⟨.other,1,8,[.nilFunc]⟩:=rfl
theorem jma:aj Try.prog 51 jos:=ak (z:= .nilFunc) (by kernel_rfl) Try.underlying51 rfl rfl (by intro h;cases h) (fun h=>by cases h)
theorem jtn:tt 51=some ⟨.other,1,8,[.nilFunc]⟩:=rfl
theorem jmb:aj Try.prog 53 jot:=ak (z:= .nilFunc) (by kernel_rfl) Try.underlying53 rfl rfl (by intro h;cases h) (fun h=>by cases h)
theorem jto:tt 53=some ⟨.other,1,8,[.nilFunc]⟩:=rfl
theorem jmc:aj Try.prog 54 jou:=ak (z:= .nilFunc) (by kernel_rfl) Try.underlying54 rfl rfl (by intro h;cases h) (fun h=>by cases h)
theorem jtp:tt 54=some ⟨.other,1,8,[.nilFunc]⟩:=rfl
theorem jmd:aj Try.prog 55 jov:=ak (z:= .nilFunc) (by kernel_rfl) Try.underlying55 rfl rfl (by intro h;cases h) (fun h=>by cases h)
theorem jtq:tt 55=some ⟨.other,1,8,[.nilFunc]⟩:=rfl
theorem jme:aj Try.prog 57 jow:=ak (z:= .nilFunc) (by kernel_rfl) Try.underlying57 rfl rfl (by intro h;cases h) (fun h=>by cases h)
theorem jtr:tt 57=some ⟨.other,1,8,[.nilFunc]⟩:=rfl
theorem jmf:aj Try.prog 59 jox:=ak (z:= .nilFunc) (by kernel_rfl) Try.underlying59 rfl rfl (by intro h;cases h) (fun h=>by cases h)
theorem jts:tt 59=some ⟨.other,1,8,[.nilFunc]⟩:=rfl
theorem jmg:aj Try.prog 60 joy:=ak (z:= .nilFunc) (by kernel_rfl) Try.underlying60 rfl rfl (by intro h;cases h) (fun h=>by cases h)
theorem jtt:tt 60=some ⟨.other,1,8,[.nilFunc]⟩:=rfl
theorem jmh:aj Try.prog 61 joz:=ak (z:= .nilFunc) (by kernel_rfl) Try.underlying61 rfl rfl (by intro h;cases h) (fun h=>by cases h)
theorem jtu:tt 61=some ⟨.other,1,8,[.nilFunc]⟩:=rfl
theorem jmi:aj Try.prog 63 jo0:=ak (z:= .nilFunc) (by kernel_rfl) Try.underlying63 rfl rfl (by intro h;cases h) (fun h=>by cases h)
theorem jtv:tt 63=some ⟨.other,1,8,[.nilFunc]⟩:=rfl
theorem jmj:aj Try.prog 64 jo1:=ak (z:= .nilFunc) (by kernel_rfl) Try.underlying64 rfl rfl (by intro h;cases h) (fun h=>by cases h)
theorem jtw:tt 64=some ⟨.other,1,8,[.nilFunc]⟩:=rfl
theorem jmk:aj Try.prog 65 jo2:=ak (z:= .nilFunc) (by kernel_rfl) Try.underlying65 rfl rfl (by intro h;cases h) (fun h=>by cases h)
theorem jtx:tt 65=some ⟨.other,1,8,[.nilFunc]⟩:=rfl
theorem jml:aj Try.prog 66 jo3:=ak (z:= .nilFunc) (by kernel_rfl) Try.underlying66 rfl rfl (by intro h;cases h) (fun h=>by cases h)
theorem jty:tt 66=some ⟨.other,1,8,[.nilFunc]⟩:=rfl
theorem jmm:aj Try.prog 67 jo4:=ak (z:= .agg #[(.string ⟨#[]⟩),(.slice none 0 0),(.slice none 0 0)]) (by kernel_rfl) Try.underlying67 rfl rfl (by intro h;cases h) (fun h=>by cases h)
theorem jtz:tt 67=some ⟨.strct false [(0,9),(1,25),(2,25)],3,64,[(.string ⟨#[]⟩),(.slice none 0 0),(.slice none 0 0)]⟩:=rfl
theorem jmn:aj Try.prog 68 jo5:=ak (z:= .agg #[(.string ⟨#[]⟩),(.slice none 0 0),(.slice none 0 0)]) (by kernel_rfl) Try.underlying68 rfl rfl (by intro h;cases h) (fun h=>by cases h)
theorem jt0:tt 68=some ⟨.strct false [(0,9),(1,25),(2,25)],3,64,[(.string ⟨#[]⟩),(.slice none 0 0),(.slice none 0 0)]⟩:=rfl
theorem jmo:aj Try.prog 69 jo6:=ak (z:= .nilFunc) (by kernel_rfl) Try.underlying69 rfl rfl (by intro h;cases h) (fun h=>by cases h)
theorem jt1:tt 69=some ⟨.other,1,8,[.nilFunc]⟩:=rfl
theorem jmp:aj Try.prog 70 jo7:=ak (z:= .nilFunc) (by kernel_rfl) Try.underlying70 rfl rfl (by intro h;cases h) (fun h=>by cases h)
theorem jt2:tt 70=some ⟨.other,1,8,[.nilFunc]⟩:=rfl
theorem jmq:aj Try.prog 71 jo8:=ak (z:= .nilFunc) (by kernel_rfl) Try.underlying71 rfl rfl (by intro h;cases h) (fun h=>by cases h)
theorem jt3:tt 71=some ⟨.other,1,8,[.nilFunc]⟩:=rfl
theorem jmr:aj Try.prog 72 jo9:=ak (z:= .nilFunc) (by kernel_rfl) Try.underlying72 rfl rfl (by intro h;cases h) (fun h=>by cases h)
theorem jt4:tt 72=some ⟨.other,1,8,[.nilFunc]⟩:=rfl
theorem jms:aj Try.prog 73 jpa:=ak (z:= .nilFunc) (by kernel_rfl) Try.underlying73 rfl rfl (by intro h;cases h) (fun h=>by cases h)
theorem jt5:tt 73=some ⟨.other,1,8,[.nilFunc]⟩:=rfl
theorem jmt:aj Try.prog 74 jpb:=ak (z:= .nilFunc) (by kernel_rfl) Try.underlying74 rfl rfl (by intro h;cases h) (fun h=>by cases h)
theorem jt6:tt 74=some ⟨.other,1,8,[.nilFunc]⟩:=rfl
theorem jmu:aj Try.prog 75 jpc:=ak (z:=(.map none)) (by kernel_rfl) Try.underlying75 rfl rfl (by intro h;cases h) (fun h=>by cases h)
theorem jt7:tt 75=some ⟨.map 3 115,1,8,[(.map none)]⟩:=rfl
theorem jmv:aj Try.prog 76 jpd:=ak (z:= .agg #[(.map none),(.int .i64 0),(.int .i64 0)]) (by kernel_rfl) Try.underlying76 rfl rfl (by intro h;cases h) (fun h=>by cases h)
theorem jt8:tt 76=some ⟨.strct false [(0,75),(1,3),(2,3)],3,24,[(.map none),(.int .i64 0),(.int .i64 0)]⟩:=rfl
theorem jmw:aj Try.prog 77 jpe:=ak (z:= .agg #[(.map none),(.int .i64 0),(.int .i64 0)]) (by kernel_rfl) Try.underlying77 rfl rfl (by intro h;cases h) (fun h=>by cases h)
theorem jt9:tt 77=some ⟨.strct false [(0,75),(1,3),(2,3)],3,24,[(.map none),(.int .i64 0),(.int .i64 0)]⟩:=rfl
theorem jmx:aj Try.prog 79 jpf:=ak (z:= .nilFunc) (by kernel_rfl) Try.underlying79 rfl rfl (by intro h;cases h) (fun h=>by cases h)
theorem jua:tt 79=some ⟨.other,1,8,[.nilFunc]⟩:=rfl
theorem jmy:aj Try.prog 81 jpg:=ak (z:= .nilFunc) (by kernel_rfl) Try.underlying81 rfl rfl (by intro h;cases h) (fun h=>by cases h)
theorem jub:tt 81=some ⟨.other,1,8,[.nilFunc]⟩:=rfl
theorem jmz:aj Try.prog 82 jph:=ak (z:= .nilFunc) (by kernel_rfl) Try.underlying82 rfl rfl (by intro h;cases h) (fun h=>by cases h)
theorem juc:tt 82=some ⟨.other,1,8,[.nilFunc]⟩:=rfl
theorem jm0:aj Try.prog 83 jpi:=ak (z:= .nilFunc) (by kernel_rfl) Try.underlying83 rfl rfl (by intro h;cases h) (fun h=>by cases h)
theorem jud:tt 83=some ⟨.other,1,8,[.nilFunc]⟩:=rfl
theorem jm1:aj Try.prog 84 jpj:=ak (z:=(.slice none 0 0)) (by kernel_rfl) Try.underlying84 rfl rfl (by intro h;cases h) (fun _=>rfl)
theorem jue:tt 84=some ⟨.slice 25,1,24,[(.slice none 0 0)]⟩:=rfl
theorem jm2:aj Try.prog 85 jpk:=ak (z:=(.slice none 0 0)) (by kernel_rfl) Try.underlying85 rfl rfl (by intro h;cases h) (fun _=>rfl)
theorem juf:tt 85=some ⟨.slice 126,1,24,[(.slice none 0 0)]⟩:=rfl
theorem jm3:aj Try.prog 86 jpl:=ak (z:= .agg #[(.slice none 0 0),(.slice none 0 0),(.bool false)]) (by kernel_rfl) Try.underlying86 rfl rfl (by intro h;cases h) (fun h=>by cases h)
theorem jug:tt 86=some ⟨.strct false [(0,84),(1,85),(2,4)],3,56,[(.slice none 0 0),(.slice none 0 0),(.bool false)]⟩:=rfl
theorem jm4:aj Try.prog 87 jpm:=ak (z:= .agg #[(.slice none 0 0),(.slice none 0 0),(.bool false)]) (by kernel_rfl) Try.underlying87 rfl rfl (by intro h;cases h) (fun h=>by cases h)
theorem juh:tt 87=some ⟨.strct false [(0,84),(1,85),(2,4)],3,56,[(.slice none 0 0),(.slice none 0 0),(.bool false)]⟩:=rfl
theorem jm5:aj Try.prog 88 jpn:=ak (z:=(.slice none 0 0)) (by kernel_rfl) Try.underlying88 rfl rfl (by intro h;cases h) (fun _=>rfl)
theorem jui:tt 88=some ⟨.slice 4,1,24,[(.slice none 0 0)]⟩:=rfl
theorem jm6:aj Try.prog 89 jpo:=ak (z:= .agg #[(.slice none 0 0),(.slice none 0 0),(.bool false),(.int .i64 0),(.slice none 0 0)]) (by kernel_rfl) Try.underlying89 rfl rfl (by intro h;cases h) (fun h=>by cases h)
theorem juj:tt 89=some ⟨.strct false [(0,87),(3,3),(4,88)],5,88,[(.slice none 0 0),(.slice none 0 0),(.bool false),(.int .i64 0),(.slice none 0 0)]⟩:=rfl
theorem jm7:aj Try.prog 90 jpp:=ak (z:= .agg #[(.slice none 0 0),(.slice none 0 0),(.bool false),(.int .i64 0),(.slice none 0 0)]) (by kernel_rfl) Try.underlying90 rfl rfl (by intro h;cases h) (fun h=>by cases h)
theorem juk:tt 90=some ⟨.strct false [(0,87),(3,3),(4,88)],5,88,[(.slice none 0 0),(.slice none 0 0),(.bool false),(.int .i64 0),(.slice none 0 0)]⟩:=rfl
theorem jm8:aj Try.prog 92 jpq:=ak (z:= .nilFunc) (by kernel_rfl) Try.underlying92 rfl rfl (by intro h;cases h) (fun h=>by cases h)
theorem jul:tt 92=some ⟨.other,1,8,[.nilFunc]⟩:=rfl
theorem jm9:aj Try.prog 93 jpr:=ak (z:= .nilFunc) (by kernel_rfl) Try.underlying93 rfl rfl (by intro h;cases h) (fun h=>by cases h)
theorem jum:tt 93=some ⟨.other,1,8,[.nilFunc]⟩:=rfl
theorem jna:aj Try.prog 94 jps:=ak (z:= .nilFunc) (by kernel_rfl) Try.underlying94 rfl rfl (by intro h;cases h) (fun h=>by cases h)
theorem jun:tt 94=some ⟨.other,1,8,[.nilFunc]⟩:=rfl
theorem jnb:aj Try.prog 95 jpt:=ak (z:= .nilFunc) (by kernel_rfl) Try.underlying95 rfl rfl (by intro h;cases h) (fun h=>by cases h)
theorem juo:tt 95=some ⟨.other,1,8,[.nilFunc]⟩:=rfl
theorem jnc:aj Try.prog 96 jpu:=ak (z:= .nilFunc) (by kernel_rfl) Try.underlying96 rfl rfl (by intro h;cases h) (fun h=>by cases h)
theorem jup:tt 96=some ⟨.other,1,8,[.nilFunc]⟩:=rfl
theorem jnd:aj Try.prog 97 jpv:=ak (z:= .nilFunc) (by kernel_rfl) Try.underlying97 rfl rfl (by intro h;cases h) (fun h=>by cases h)
theorem juq:tt 97=some ⟨.other,1,8,[.nilFunc]⟩:=rfl
theorem jne:aj Try.prog 98 jpw:=ak (z:= .nilFunc) (by kernel_rfl) Try.underlying98 rfl rfl (by intro h;cases h) (fun h=>by cases h)
theorem jur:tt 98=some ⟨.other,1,8,[.nilFunc]⟩:=rfl
theorem jnf:aj Try.prog 99 jpx:=ak (z:= .nilFunc) (by kernel_rfl) Try.underlying99 rfl rfl (by intro h;cases h) (fun h=>by cases h)
theorem jus:tt 99=some ⟨.other,1,8,[.nilFunc]⟩:=rfl
theorem jh4:aj Try.prog 100 jfd:=ak (z:= .nilFunc) (by kernel_rfl) Try.underlying100 rfl rfl (by intro h;cases h) (fun h=>by cases h)
theorem jpy:tt 100=some ⟨.other,1,8,[.nilFunc]⟩:=rfl
theorem jh5:aj Try.prog 101 jfe:=ak (z:= .nilFunc) (by kernel_rfl) Try.underlying101 rfl rfl (by intro h;cases h) (fun h=>by cases h)
theorem jpz:tt 101=some ⟨.other,1,8,[.nilFunc]⟩:=rfl
theorem jh6:aj Try.prog 102 jff:=ak (z:= .nilFunc) (by kernel_rfl) Try.underlying102 rfl rfl (by intro h;cases h) (fun h=>by cases h)
theorem jp0:tt 102=some ⟨.other,1,8,[.nilFunc]⟩:=rfl
theorem jh7:aj Try.prog 103 jfg:=ak (z:= .nilFunc) (by kernel_rfl) Try.underlying103 rfl rfl (by intro h;cases h) (fun h=>by cases h)
theorem jp1:tt 103=some ⟨.other,1,8,[.nilFunc]⟩:=rfl
theorem jh8:aj Try.prog 104 jfh:=ak (z:= .nilFunc) (by kernel_rfl) Try.underlying104 rfl rfl (by intro h;cases h) (fun h=>by cases h)
theorem jp2:tt 104=some ⟨.other,1,8,[.nilFunc]⟩:=rfl
theorem jh9:aj Try.prog 105 jfi:=ak (z:= .agg #[(.int .i64 0),(.int .i64 0),(.bool false)]) (by kernel_rfl) Try.underlying105 rfl rfl (by exact fun _=>⟨by kernel_rfl,by kernel_rfl,by kernel_rfl⟩) (fun h=>by cases h)
theorem jp3:tt 105=some ⟨.strct true [(0,3),(1,3),(2,4)],3,24,[(.int .i64 0),(.int .i64 0),(.bool false)]⟩:=rfl
theorem jia:aj Try.prog 106 jfj:=ak (z:= .agg #[(.int .i64 0),(.int .i64 0),(.bool false)]) (by kernel_rfl) Try.underlying106 rfl rfl (by exact fun _=>⟨by kernel_rfl,by kernel_rfl,by kernel_rfl⟩) (fun h=>by cases h)
theorem jp4:tt 106=some ⟨.strct true [(0,3),(1,3),(2,4)],3,24,[(.int .i64 0),(.int .i64 0),(.bool false)]⟩:=rfl
theorem jib:aj Try.prog 107 jfk:=ak (z:=(.slice none 0 0)) (by kernel_rfl) Try.underlying107 rfl rfl (by intro h;cases h) (fun _=>rfl)
theorem jp5:tt 107=some ⟨.slice 106,1,24,[(.slice none 0 0)]⟩:=rfl
theorem jic:aj Try.prog 108 jfl:=ak (z:= .nilFunc) (by kernel_rfl) Try.underlying108 rfl rfl (by intro h;cases h) (fun h=>by cases h)
theorem jp6:tt 108=some ⟨.other,1,8,[.nilFunc]⟩:=rfl
theorem jid:aj Try.prog 109 jfm:=ak (z:= .nilFunc) (by kernel_rfl) Try.underlying109 rfl rfl (by intro h;cases h) (fun h=>by cases h)
theorem jp7:tt 109=some ⟨.other,1,8,[.nilFunc]⟩:=rfl
theorem jie:aj Try.prog 110 jfn:=ak (z:= .nilFunc) (by kernel_rfl) Try.underlying110 rfl rfl (by intro h;cases h) (fun h=>by cases h)
theorem jp8:tt 110=some ⟨.other,1,8,[.nilFunc]⟩:=rfl
theorem jif:aj Try.prog 111 jfo:=ak (z:= .nilFunc) (by kernel_rfl) Try.underlying111 rfl rfl (by intro h;cases h) (fun h=>by cases h)
theorem jp9:tt 111=some ⟨.other,1,8,[.nilFunc]⟩:=rfl
theorem jig:aj Try.prog 112 jfp:=ak (z:= .nilFunc) (by kernel_rfl) Try.underlying112 rfl rfl (by intro h;cases h) (fun h=>by cases h)
theorem jqa:tt 112=some ⟨.other,1,8,[.nilFunc]⟩:=rfl
theorem jih:aj Try.prog 113 jfq:=ak (z:= .nilFunc) (by kernel_rfl) Try.underlying113 rfl rfl (by intro h;cases h) (fun h=>by cases h)
theorem jqb:tt 113=some ⟨.other,1,8,[.nilFunc]⟩:=rfl
theorem jii:aj Try.prog 114 jfr:=ak (z:= .nilFunc) (by kernel_rfl) Try.underlying114 rfl rfl (by intro h;cases h) (fun h=>by cases h)
theorem jqc:tt 114=some ⟨.other,1,8,[.nilFunc]⟩:=rfl
theorem jij:aj Try.prog 115 jfs:=ak (z:=(.slice none 0 0)) (by kernel_rfl) Try.underlying115 rfl rfl (by intro h;cases h) (fun _=>rfl)
theorem jqd:tt 115=some ⟨.slice 121,1,24,[(.slice none 0 0)]⟩:=rfl
theorem jik:aj Try.prog 116 jft:=ak (z:=(.slice none 0 0)) (by kernel_rfl) Try.underlying116 rfl rfl (by intro h;cases h) (fun _=>rfl)
theorem jqe:tt 116=some ⟨.slice 119,1,24,[(.slice none 0 0)]⟩:=rfl
theorem jil:aj Try.prog 117 jfu:=ak (z:= .nilFunc) (by kernel_rfl) Try.underlying117 rfl rfl (by intro h;cases h) (fun h=>by cases h)
theorem jqf:tt 117=some ⟨.other,1,8,[.nilFunc]⟩:=rfl
theorem jim:aj Try.prog 118 jfv:=ak (z:= .agg #[(.bool false),(.int .i64 0),(.int .i64 0)]) (by kernel_rfl) Try.underlying118 rfl rfl (by exact fun _=>⟨by kernel_rfl,by kernel_rfl,by kernel_rfl⟩) (fun h=>by cases h)
theorem jqg:tt 118=some ⟨.strct true [(0,4),(1,3),(2,3)],3,24,[(.bool false),(.int .i64 0),(.int .i64 0)]⟩:=rfl
theorem jin:aj Try.prog 119 jfw:=ak (z:= .agg #[(.bool false),(.int .i64 0),(.int .i64 0)]) (by kernel_rfl) Try.underlying119 rfl rfl (by exact fun _=>⟨by kernel_rfl,by kernel_rfl,by kernel_rfl⟩) (fun h=>by cases h)
theorem jqh:tt 119=some ⟨.strct true [(0,4),(1,3),(2,3)],3,24,[(.bool false),(.int .i64 0),(.int .i64 0)]⟩:=rfl
theorem jio:aj Try.prog 120 jfx:=ak (z:= .agg #[(.int .i64 0),(.int .i64 0)]) (by kernel_rfl) Try.underlying120 rfl rfl (by exact fun _=>⟨by kernel_rfl,by kernel_rfl,by kernel_rfl⟩) (fun h=>by cases h)
theorem jqi:tt 120=some ⟨.strct true [(0,3),(1,3)],2,16,[(.int .i64 0),(.int .i64 0)]⟩:=rfl
theorem jip:aj Try.prog 121 jfy:=ak (z:= .agg #[(.int .i64 0),(.int .i64 0)]) (by kernel_rfl) Try.underlying121 rfl rfl (by exact fun _=>⟨by kernel_rfl,by kernel_rfl,by kernel_rfl⟩) (fun h=>by cases h)
theorem jqj:tt 121=some ⟨.strct true [(0,3),(1,3)],2,16,[(.int .i64 0),(.int .i64 0)]⟩:=rfl
theorem jiq:aj Try.prog 123 jfz:=ak (z:= .nilFunc) (by kernel_rfl) Try.underlying123 rfl rfl (by intro h;cases h) (fun h=>by cases h)
theorem jqk:tt 123=some ⟨.other,1,8,[.nilFunc]⟩:=rfl
theorem jir:aj Try.prog 124 jf0:=ak (z:= .nilFunc) (by kernel_rfl) Try.underlying124 rfl rfl (by intro h;cases h) (fun h=>by cases h)
theorem jql:tt 124=some ⟨.other,1,8,[.nilFunc]⟩:=rfl
theorem jis:aj Try.prog 125 jf1:=ak (z:= .agg #[(.int .i64 0),(.int .i64 0),(.int .i64 0)]) (by kernel_rfl) Try.underlying125 rfl rfl (by exact fun _=>⟨by kernel_rfl,by kernel_rfl,by kernel_rfl⟩) (fun h=>by cases h)
theorem jqm:tt 125=some ⟨.strct true [(0,3),(1,3),(2,3)],3,24,[(.int .i64 0),(.int .i64 0),(.int .i64 0)]⟩:=rfl
theorem jit:aj Try.prog 126 jf2:=ak (z:= .agg #[(.int .i64 0),(.int .i64 0),(.int .i64 0)]) (by kernel_rfl) Try.underlying126 rfl rfl (by exact fun _=>⟨by kernel_rfl,by kernel_rfl,by kernel_rfl⟩) (fun h=>by cases h)
theorem jqn:tt 126=some ⟨.strct true [(0,3),(1,3),(2,3)],3,24,[(.int .i64 0),(.int .i64 0),(.int .i64 0)]⟩:=rfl
theorem jiu:aj Try.prog 127 jf3:=ak (z:= .nilFunc) (by kernel_rfl) Try.underlying127 rfl rfl (by intro h;cases h) (fun h=>by cases h)
theorem jqo:tt 127=some ⟨.other,1,8,[.nilFunc]⟩:=rfl
theorem jiv:aj Try.prog 128 jf4:=ak (z:=(.map none)) (by kernel_rfl) Try.underlying128 rfl rfl (by intro h;cases h) (fun h=>by cases h)
theorem jqp:tt 128=some ⟨.map 3 4,1,8,[(.map none)]⟩:=rfl
theorem jiw:aj Try.prog 129 jf5:=ak (z:= .nilFunc) (by kernel_rfl) Try.underlying129 rfl rfl (by intro h;cases h) (fun h=>by cases h)
theorem jqq:tt 129=some ⟨.other,1,8,[.nilFunc]⟩:=rfl
theorem jix:aj Try.prog 131 jf6:=ak (z:= .nilFunc) (by kernel_rfl) Try.underlying131 rfl rfl (by intro h;cases h) (fun h=>by cases h)
theorem jqr:tt 131=some ⟨.other,1,8,[.nilFunc]⟩:=rfl
theorem jiy:aj Try.prog 132 jf7:=ak (z:= .nilFunc) (by kernel_rfl) Try.underlying132 rfl rfl (by intro h;cases h) (fun h=>by cases h)
theorem jqs:tt 132=some ⟨.other,1,8,[.nilFunc]⟩:=rfl
theorem jiz:aj Try.prog 133 jf8:=ak (z:= .nilFunc) (by kernel_rfl) Try.underlying133 rfl rfl (by intro h;cases h) (fun h=>by cases h)
theorem jqt:tt 133=some ⟨.other,1,8,[.nilFunc]⟩:=rfl
theorem ji0:aj Try.prog 134 jf9:=ak (z:= .nilFunc) (by kernel_rfl) Try.underlying134 rfl rfl (by intro h;cases h) (fun h=>by cases h)
theorem jqu:tt 134=some ⟨.other,1,8,[.nilFunc]⟩:=rfl
theorem ji1:aj Try.prog 135 jga:=ak (z:= .nilFunc) (by kernel_rfl) Try.underlying135 rfl rfl (by intro h;cases h) (fun h=>by cases h)
theorem jqv:tt 135=some ⟨.other,1,8,[.nilFunc]⟩:=rfl
theorem ji2:aj Try.prog 136 jgb:=ak (z:= .nilFunc) (by kernel_rfl) Try.underlying136 rfl rfl (by intro h;cases h) (fun h=>by cases h)
theorem jqw:tt 136=some ⟨.other,1,8,[.nilFunc]⟩:=rfl
theorem ji3:aj Try.prog 137 jgc:=ak (z:= .nilFunc) (by kernel_rfl) Try.underlying137 rfl rfl (by intro h;cases h) (fun h=>by cases h)
theorem jqx:tt 137=some ⟨.other,1,8,[.nilFunc]⟩:=rfl
theorem ji4:aj Try.prog 138 jgd:=ak (z:= .nilFunc) (by kernel_rfl) Try.underlying138 rfl rfl (by intro h;cases h) (fun h=>by cases h)
theorem jqy:tt 138=some ⟨.other,1,8,[.nilFunc]⟩:=rfl
theorem ji5:aj Try.prog 140 jge:=ak (z:= .nilFunc) (by kernel_rfl) Try.underlying140 rfl rfl (by intro h;cases h) (fun h=>by cases h)
theorem jqz:tt 140=some ⟨.other,1,8,[.nilFunc]⟩:=rfl
theorem ji6:aj Try.prog 141 jgf:=ak (z:= .nilFunc) (by kernel_rfl) Try.underlying141 rfl rfl (by intro h;cases h) (fun h=>by cases h)
theorem jq0:tt 141=some ⟨.other,1,8,[.nilFunc]⟩:=rfl
theorem ji7:aj Try.prog 142 jgg:=ak (z:=(.map none)) (by kernel_rfl) Try.underlying142 rfl rfl (by intro h;cases h) (fun h=>by cases h)
theorem jq1:tt 142=some ⟨.map 9 3,1,8,[(.map none)]⟩:=rfl
theorem ji8:aj Try.prog 143 jgh:=ak (z:= .nilFunc) (by kernel_rfl) Try.underlying143 rfl rfl (by intro h;cases h) (fun h=>by cases h)
theorem jq2:tt 143=some ⟨.other,1,8,[.nilFunc]⟩:=rfl
theorem ji9:aj Try.prog 144 jgi:=ak (z:= .nilFunc) (by kernel_rfl) Try.underlying144 rfl rfl (by intro h;cases h) (fun h=>by cases h)
theorem jq3:tt 144=some ⟨.other,1,8,[.nilFunc]⟩:=rfl
theorem jja:aj Try.prog 145 jgj:=ak (z:=(.int .u64 0)) (by kernel_rfl) Try.underlying145 rfl rfl (by intro h;cases h) (fun _=>rfl)
theorem jq4:tt 145=some ⟨.int .u64,1,8,[(.int .u64 0)]⟩:=rfl
theorem jjb:aj Try.prog 147 jgk:=ak (z:= .nilFunc) (by kernel_rfl) Try.underlying147 rfl rfl (by intro h;cases h) (fun h=>by cases h)
theorem jq5:tt 147=some ⟨.other,1,8,[.nilFunc]⟩:=rfl
theorem jjc:aj Try.prog 148 jgl:=ak (z:=(.int .u32 0)) (by kernel_rfl) Try.underlying148 rfl rfl (by intro h;cases h) (fun _=>rfl)
theorem jq6:tt 148=some ⟨.int .u32,1,4,[(.int .u32 0)]⟩:=rfl
theorem jjd:aj Try.prog 150 jgm:=ak (z:= .nilFunc) (by kernel_rfl) Try.underlying150 rfl rfl (by intro h;cases h) (fun h=>by cases h)
theorem jq7:tt 150=some ⟨.other,1,8,[.nilFunc]⟩:=rfl
theorem jje:aj Try.prog 151 jgn:=ak (z:=(.int .u64 0)) (by kernel_rfl) Try.underlying151 rfl rfl (by intro h;cases h) (fun _=>rfl)
theorem jq8:tt 151=some ⟨.int .u64,1,8,[(.int .u64 0)]⟩:=rfl
theorem jjf:aj Try.prog 153 jgo:=ak (z:= .nilFunc) (by kernel_rfl) Try.underlying153 rfl rfl (by intro h;cases h) (fun h=>by cases h)
theorem jq9:tt 153=some ⟨.other,1,8,[.nilFunc]⟩:=rfl
theorem jjg:aj Try.prog 154 jgp:=ak (z:= .nilFunc) (by kernel_rfl) Try.underlying154 rfl rfl (by intro h;cases h) (fun h=>by cases h)
theorem jra:tt 154=some ⟨.other,1,8,[.nilFunc]⟩:=rfl
theorem jjh:aj Try.prog 155 jgq:=ak (z:= .agg #[(.pointer none),(.pointer none),(.pointer none),(.string ⟨#[]⟩)]) (by kernel_rfl) Try.underlying155 rfl rfl (by intro h;cases h) (fun h=>by cases h)
theorem jrb:tt 155=some ⟨.strct false [(0,17),(1,17),(2,17),(3,9)],4,40,[(.pointer none),(.pointer none),(.pointer none),(.string ⟨#[]⟩)]⟩:=rfl
theorem jji:aj Try.prog 156 jgr:=ak (z:= .agg #[(.pointer none),(.pointer none),(.pointer none),(.string ⟨#[]⟩)]) (by kernel_rfl) Try.underlying156 rfl rfl (by intro h;cases h) (fun h=>by cases h)
theorem jrc:tt 156=some ⟨.strct false [(0,17),(1,17),(2,17),(3,9)],4,40,[(.pointer none),(.pointer none),(.pointer none),(.string ⟨#[]⟩)]⟩:=rfl
theorem jjj:aj Try.prog 157 jgs:=ak (z:= .agg #[]) (by kernel_rfl) Try.underlying157 rfl rfl (by intro h;cases h) (fun h=>by cases h)
theorem jrd:tt 157=some ⟨.arr false 0 16,0,0,[]⟩:=rfl
theorem jjk:aj Try.prog 158 jgt:=ak (z:= .agg #[]) (by kernel_rfl) Try.underlying158 rfl rfl (by intro h;cases h) (fun h=>by cases h)
theorem jre:tt 158=some ⟨.strct false [(0,157)],0,0,[]⟩:=rfl
theorem jjl:aj Try.prog 159 jgu:=ak (z:= .agg #[]) (by kernel_rfl) Try.underlying159 rfl rfl (by intro h;cases h) (fun h=>by cases h)
theorem jrf:tt 159=some ⟨.strct false [(0,157)],0,0,[]⟩:=rfl
theorem jjm:aj Try.prog 160 jgv:=ak (z:= .nilFunc) (by kernel_rfl) Try.underlying160 rfl rfl (by intro h;cases h) (fun h=>by cases h)
theorem jrg:tt 160=some ⟨.other,1,8,[.nilFunc]⟩:=rfl
theorem jjn:aj Try.prog 161 jgw:=ak (z:=(.int .u8 0)) (by kernel_rfl) Try.underlying161 rfl rfl (by intro h;cases h) (fun _=>rfl)
theorem jrh:tt 161=some ⟨.int .u8,1,1,[(.int .u8 0)]⟩:=rfl
theorem jjo:aj Try.prog 162 jgx:=ak (z:=(.int .u8 0)) (by kernel_rfl) Try.underlying162 rfl rfl (by intro h;cases h) (fun _=>rfl)
theorem jri:tt 162=some ⟨.int .u8,1,1,[(.int .u8 0)]⟩:=rfl
theorem jjp:aj Try.prog 163 jgy:=ak (z:= .nilFunc) (by kernel_rfl) Try.underlying163 rfl rfl (by intro h;cases h) (fun h=>by cases h)
theorem jrj:tt 163=some ⟨.other,1,8,[.nilFunc]⟩:=rfl
theorem jjq:aj Try.prog 164 jgz:=ak (z:=(.pointer none)) (by kernel_rfl) Try.underlying164 rfl rfl (by intro h;cases h) (fun h=>by cases h)
theorem jrk:tt 164=some ⟨.other,1,8,[(.pointer none)]⟩:=rfl
theorem jjr:aj Try.prog 165 jg0:=ak (z:=(.int .i32 0)) (by kernel_rfl) Try.underlying165 rfl rfl (by intro h;cases h) (fun _=>rfl)
theorem jrl:tt 165=some ⟨.int .i32,1,4,[(.int .i32 0)]⟩:=rfl
theorem jjs:aj Try.prog 166 jg1:=ak (z:=(.int .i32 0)) (by kernel_rfl) Try.underlying166 rfl rfl (by intro h;cases h) (fun _=>rfl)
theorem jrm:tt 166=some ⟨.int .i32,1,4,[(.int .i32 0)]⟩:=rfl
theorem jjt:aj Try.prog 167 jg2:=ak (z:= .agg #[(.int .u64 0),(.int .u64 0),(.int .u32 0),(.int .u8 0),(.int .u8 0),(.int .u8 0),(.int .u8 0), .nilFunc,(.pointer none),(.int .i32 0),(.int .i32 0)]) (by kernel_rfl) Try.underlying167 rfl rfl (by intro h;cases h) (fun h=>by cases h)
theorem jrn:tt 167=some ⟨.strct false [(0,12),(1,12),(2,148),(3,161),(4,5),(5,5),(6,162),(7,163),(8,164),(9,165),(10,166)],11,48,[(.int .u64 0),(.int .u64 0),(.int .u32 0),(.int .u8 0),(.int .u8 0),(.int .u8 0),(.int .u8 0), .nilFunc,(.pointer none),(.int .i32 0),(.int .i32 0)]⟩:=rfl
theorem jju:aj Try.prog 168 jg3:=ak (z:= .agg #[(.int .u64 0),(.int .u64 0),(.int .u32 0),(.int .u8 0),(.int .u8 0),(.int .u8 0),(.int .u8 0), .nilFunc,(.pointer none),(.int .i32 0),(.int .i32 0)]) (by kernel_rfl) Try.underlying168 rfl rfl (by intro h;cases h) (fun h=>by cases h)
theorem jro:tt 168=some ⟨.strct false [(0,12),(1,12),(2,148),(3,161),(4,5),(5,5),(6,162),(7,163),(8,164),(9,165),(10,166)],11,48,[(.int .u64 0),(.int .u64 0),(.int .u32 0),(.int .u8 0),(.int .u8 0),(.int .u8 0),(.int .u8 0), .nilFunc,(.pointer none),(.int .i32 0),(.int .i32 0)]⟩:=rfl
theorem jjv:aj Try.prog 169 jg4:=ak (z:=(.pointer none)) (by kernel_rfl) Try.underlying169 rfl rfl (by intro h;cases h) (fun h=>by cases h)
theorem jrp:tt 169=some ⟨.other,1,8,[(.pointer none)]⟩:=rfl
set_option maxRecDepth 100000 in
theorem fits:dl Try.prog tt:=by
 intro t x h;unfold tt at h;split at h
 ·cases h;exact jr6
 ·cases h;exact jr7
 ·cases h;exact jr8
 ·cases h;exact jr9
 ·cases h;exact jsa
 ·cases h;exact jsb
 ·cases h;exact jsc
 ·cases h;exact jsd
 ·cases h;exact jse
 ·cases h;exact jk9
 ·cases h;exact jla
 ·cases h;exact jlb
 ·cases h;exact jlc
 ·cases h;exact jld
 ·cases h;exact jle
 ·cases h;exact jlf
 ·cases h;exact jlg
 ·cases h;exact jlh
 ·cases h;exact jli
 ·cases h;exact jlj
 ·cases h;exact jlk
 ·cases h;exact jll
 ·cases h;exact jlm
 ·cases h;exact jln
 ·cases h;exact jlo
 ·cases h;exact jlp
 ·cases h;exact jlq
 ·cases h;exact jlr
 ·cases h;exact jls
 ·cases h;exact jlt
 ·cases h;exact jlu
 ·cases h;exact jlv
 ·cases h;exact jlw
 ·cases h;exact jlx
 ·cases h;exact jly
 ·cases h;exact jlz
 ·cases h;exact jl0
 ·cases h;exact jl1
 ·cases h;exact jl2
 ·cases h;exact jl3
 ·cases h;exact jl4
 ·cases h;exact jl5
 ·cases h;exact jl6
 ·cases h;exact jl7
 ·cases h;exact jl8
 ·cases h;exact jl9
 ·cases h;exact jma
 ·cases h;exact jmb
 ·cases h;exact jmc
 ·cases h;exact jmd
 ·cases h;exact jme
 ·cases h;exact jmf
 ·cases h;exact jmg
 ·cases h;exact jmh
 ·cases h;exact jmi
 ·cases h;exact jmj
 ·cases h;exact jmk
 ·cases h;exact jml
 ·cases h;exact jmm
 ·cases h;exact jmn
 ·cases h;exact jmo
 ·cases h;exact jmp
 ·cases h;exact jmq
 ·cases h;exact jmr
 ·cases h;exact jms
 ·cases h;exact jmt
 ·cases h;exact jmu
 ·cases h;exact jmv
 ·cases h;exact jmw
 ·cases h;exact jmx
 ·cases h;exact jmy
 ·cases h;exact jmz
 ·cases h;exact jm0
 ·cases h;exact jm1
 ·cases h;exact jm2
 ·cases h;exact jm3
 ·cases h;exact jm4
 ·cases h;exact jm5
 ·cases h;exact jm6
 ·cases h;exact jm7
 ·cases h;exact jm8
 ·cases h;exact jm9
 ·cases h;exact jna
 ·cases h;exact jnb
 ·cases h;exact jnc
 ·cases h;exact jnd
 ·cases h;exact jne
 ·cases h;exact jnf
 ·cases h;exact jh4
 ·cases h;exact jh5
 ·cases h;exact jh6
 ·cases h;exact jh7
 ·cases h;exact jh8
 ·cases h;exact jh9
 ·cases h;exact jia
 ·cases h;exact jib
 ·cases h;exact jic
 ·cases h;exact jid
 ·cases h;exact jie
 ·cases h;exact jif
 ·cases h;exact jig
 ·cases h;exact jih
 ·cases h;exact jii
 ·cases h;exact jij
 ·cases h;exact jik
 ·cases h;exact jil
 ·cases h;exact jim
 ·cases h;exact jin
 ·cases h;exact jio
 ·cases h;exact jip
 ·cases h;exact jiq
 ·cases h;exact jir
 ·cases h;exact jis
 ·cases h;exact jit
 ·cases h;exact jiu
 ·cases h;exact jiv
 ·cases h;exact jiw
 ·cases h;exact jix
 ·cases h;exact jiy
 ·cases h;exact jiz
 ·cases h;exact ji0
 ·cases h;exact ji1
 ·cases h;exact ji2
 ·cases h;exact ji3
 ·cases h;exact ji4
 ·cases h;exact ji5
 ·cases h;exact ji6
 ·cases h;exact ji7
 ·cases h;exact ji8
 ·cases h;exact ji9
 ·cases h;exact jja
 ·cases h;exact jjb
 ·cases h;exact jjc
 ·cases h;exact jjd
 ·cases h;exact jje
 ·cases h;exact jjf
 ·cases h;exact jjg
 ·cases h;exact jjh
 ·cases h;exact jji
 ·cases h;exact jjj
 ·cases h;exact jjk
 ·cases h;exact jjl
 ·cases h;exact jjm
 ·cases h;exact jjn
 ·cases h;exact jjo
 ·cases h;exact jjp
 ·cases h;exact jjq
 ·cases h;exact jjr
 ·cases h;exact jjs
 ·cases h;exact jjt
 ·cases h;exact jju
 ·cases h;exact jjv
 ·cases h
theorem bt:Try.prog.follows .mixedOrders=true:=rfl
attribute [go_sem] tt1 tt2 tt3 tt4 tt5 tt6 tt7 tt8 tt9 jsm jsn jso jsp jsq jsr jss jst jsu jsv jsw jsx jsy jsz js0 js1 js2 js3 js4 js5 js6 js7 js8 js9 jta jtb jtc jtd jte jtf jtg jth jti jtj jtk jtl jtm jtn jto jtp jtq jtr jts jtt jtu jtv jtw jtx jty jtz jt0 jt1 jt2 jt3 jt4 jt5 jt6 jt7 jt8 jt9 jua jub juc jud jue juf jug juh jui juj juk jul jum jun juo jup juq jur jus jpy jpz jp0 jp1 jp2 jp3 jp4 jp5 jp6 jp7 jp8 jp9 jqa jqb jqc jqd jqe jqf jqg jqh jqi jqj jqk jql jqm jqn jqo jqp jqq jqr jqs jqt jqu jqv jqw jqx jqy jqz jq0 jq1 jq2 jq3 jq4 jq5 jq6 jq7 jq8 jq9 jra jrb jrc jrd jre jrf jrg jrh jri jrj jrk jrl jrm jrn jro jrp
end Go.Proofs.Ytokeielgplbdeaa
