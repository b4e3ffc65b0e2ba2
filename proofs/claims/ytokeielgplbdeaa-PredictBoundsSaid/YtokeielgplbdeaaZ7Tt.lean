/-
  The types of this seat's program: a row a type (its kind, cells, bytes, the cells of its zero value), and that each row is the program's own. Made by program out of the translation.
-/
import Derived.Test.YtokeielgplbdeaaZ7KE
import Derived.Test.YtokeielgplbdeaaProg
import Derived.KernelRfl
set_option linter.all false
namespace Go.Proofs.Ytokeielgplbdeaa
open Go.K Go.M
theorem ak{P:Program}{t:TypeId}{k:TK}{sz by_:Nat}{zs:List Value}{z:Value}{d:TypeDesc}(h1:(P.info? t).map (fun i=>(i.zero,i.size,i.bytes))=some (some z,sz,by_))(h2:P.underlying t=some d)(h3:TK.of d=k.plain)(h4:z.cells.toList=zs)(h5:k.cmp=true→Cmp P t)(h6:k.one=true→zs=[z]):aj P t ⟨k,sz,by_,zs⟩:=by
 cases hi:P.info? t with
 |none=>simp[hi]at h1
 |some i=>
  simp only[hi,Option.map_some,Option.some.injEq,Prod.mk.injEq]at h1;exact⟨⟨i,d,z,hi,h2,h3,h1.2.1,h1.2.2,h1.1,h4⟩,h5,fun e=>⟨i,z,hi,h1.1,h6 e⟩⟩
def ti1:TI:=⟨.other,1,8,[.nilFunc]⟩
def ti2:TI:=⟨.int .i64,1,8,[(.int .i64 0)]⟩
def ti3:TI:=⟨.int .i64,1,8,[(.int .i64 0)]⟩
def ti4:TI:=⟨.bool,1,1,[(.bool false)]⟩
def ti5:TI:=⟨.int .u8,1,1,[(.int .u8 0)]⟩
def ti6:TI:=⟨.int .u8,1,1,[(.int .u8 0)]⟩
def ti7:TI:=⟨.strct true [(0,2),(1,3),(2,4),(3,6)],4,24,[(.int .i64 0),(.int .i64 0),(.bool false),(.int .u8 0)]⟩
def ti8:TI:=⟨.strct true [(0,2),(1,3),(2,4),(3,6)],4,24,[(.int .i64 0),(.int .i64 0),(.bool false),(.int .u8 0)]⟩
def ti9:TI:=⟨.str,1,16,[(.string ⟨#[]⟩)]⟩
def joa:TI:=⟨.str,1,16,[(.string ⟨#[]⟩)]⟩
def job:TI:=⟨.str,1,16,[(.string ⟨#[]⟩)]⟩
def joc:TI:=⟨.int .u64,1,8,[(.int .u64 0)]⟩
def jod:TI:=⟨.strct false [(0,9),(1,12)],2,24,[(.string ⟨#[]⟩),(.int .u64 0)]⟩
def joe:TI:=⟨.strct false [(0,9),(1,12)],2,24,[(.string ⟨#[]⟩),(.int .u64 0)]⟩
def jof:TI:=⟨.other,1,8,[(.pointer none)]⟩
def jog:TI:=⟨.other,1,8,[(.pointer none)]⟩
def joh:TI:=⟨.other,1,8,[(.pointer none)]⟩
def joi:TI:=⟨.strct false [(0,17)],1,8,[(.pointer none)]⟩
def joj:TI:=⟨.strct false [(0,17)],1,8,[(.pointer none)]⟩
def jok:TI:=⟨.other,1,16,[.nilIface]⟩
def jol:TI:=⟨.int .i32,1,4,[(.int .i32 0)]⟩
def jom:TI:=⟨.slice 68,1,24,[(.slice none 0 0)]⟩
def jon:TI:=⟨.strct false [(0,3),(1,22),(2,3),(3,3)],4,48,[(.int .i64 0),(.slice none 0 0),(.int .i64 0),(.int .i64 0)]⟩
def joo:TI:=⟨.strct false [(0,3),(1,22),(2,3),(3,3)],4,48,[(.int .i64 0),(.slice none 0 0),(.int .i64 0),(.int .i64 0)]⟩
def jop:TI:=⟨.slice 3,1,24,[(.slice none 0 0)]⟩
def joq:TI:=⟨.slice 40,1,24,[(.slice none 0 0)]⟩
def jor:TI:=⟨.other,1,8,[.nilFunc]⟩
def jos:TI:=⟨.other,1,8,[.nilFunc]⟩
def jot:TI:=⟨.int .i64,1,8,[(.int .i64 0)]⟩
def jou:TI:=⟨.other,1,8,[.nilFunc]⟩
def jov:TI:=⟨.other,1,8,[.nilFunc]⟩
def jow:TI:=⟨.other,1,8,[.nilFunc]⟩
def jox:TI:=⟨.other,1,8,[.nilFunc]⟩
def joy:TI:=⟨.other,1,8,[.nilFunc]⟩
def joz:TI:=⟨.other,1,8,[.nilFunc]⟩
def jo0:TI:=⟨.slice 5,1,24,[(.slice none 0 0)]⟩
def jo1:TI:=⟨.strct true [(0,3),(1,3),(2,4)],3,24,[(.int .i64 0),(.int .i64 0),(.bool false)]⟩
def jo2:TI:=⟨.strct true [(0,3),(1,3),(2,4)],3,24,[(.int .i64 0),(.int .i64 0),(.bool false)]⟩
def jo3:TI:=⟨.other,1,8,[.nilFunc]⟩
def jo4:TI:=⟨.other,1,8,[.nilFunc]⟩
def jo5:TI:=⟨.other,1,8,[.nilFunc]⟩
def jo6:TI:=⟨.other,1,8,[.nilFunc]⟩
def jo7:TI:=⟨.other,1,8,[.nilFunc]⟩
def jo8:TI:=⟨.other,1,8,[.nilFunc]⟩
def jo9:TI:=⟨.other,1,8,[.nilFunc]⟩
def jpa:TI:=⟨.other,1,8,[.nilFunc]⟩
def jpb:TI:=⟨.other,1,8,[.nilFunc]⟩
def jpc:TI:=⟨.other,1,8,[.nilFunc]⟩
def jpd:TI:=⟨.other,1,8,[.nilFunc]⟩
def jpe:TI:=⟨.other,1,8,[.nilFunc]⟩
def jpf:TI:=⟨.other,1,8,[.nilFunc]⟩
def jpg:TI:=⟨.other,1,8,[.nilFunc]⟩
def jph:TI:=⟨.other,1,8,[.nilFunc]⟩
def jpi:TI:=⟨.other,1,8,[.nilFunc]⟩
def jpj:TI:=⟨.other,1,8,[.nilFunc]⟩
def jpk:TI:=⟨.other,1,8,[.nilFunc]⟩
def jpl:TI:=⟨.other,1,8,[.nilFunc]⟩
def jpm:TI:=⟨.other,1,8,[.nilFunc]⟩
def jpn:TI:=⟨.strct false [(0,9),(1,25),(2,25)],3,64,[(.string ⟨#[]⟩),(.slice none 0 0),(.slice none 0 0)]⟩
def jpo:TI:=⟨.strct false [(0,9),(1,25),(2,25)],3,64,[(.string ⟨#[]⟩),(.slice none 0 0),(.slice none 0 0)]⟩
def jpp:TI:=⟨.other,1,8,[.nilFunc]⟩
def jpq:TI:=⟨.other,1,8,[.nilFunc]⟩
def jpr:TI:=⟨.other,1,8,[.nilFunc]⟩
def jps:TI:=⟨.other,1,8,[.nilFunc]⟩
def jpt:TI:=⟨.other,1,8,[.nilFunc]⟩
def jpu:TI:=⟨.other,1,8,[.nilFunc]⟩
def jpv:TI:=⟨.map 3 115,1,8,[(.map none)]⟩
def jpw:TI:=⟨.strct false [(0,75),(1,3),(2,3)],3,24,[(.map none),(.int .i64 0),(.int .i64 0)]⟩
def jpx:TI:=⟨.strct false [(0,75),(1,3),(2,3)],3,24,[(.map none),(.int .i64 0),(.int .i64 0)]⟩
def jpy:TI:=⟨.other,1,8,[.nilFunc]⟩
def jpz:TI:=⟨.other,1,8,[.nilFunc]⟩
def jp0:TI:=⟨.other,1,8,[.nilFunc]⟩
def jp1:TI:=⟨.other,1,8,[.nilFunc]⟩
def jp2:TI:=⟨.slice 25,1,24,[(.slice none 0 0)]⟩
def jp3:TI:=⟨.slice 126,1,24,[(.slice none 0 0)]⟩
def jp4:TI:=⟨.strct false [(0,84),(1,85),(2,4)],3,56,[(.slice none 0 0),(.slice none 0 0),(.bool false)]⟩
def jp5:TI:=⟨.strct false [(0,84),(1,85),(2,4)],3,56,[(.slice none 0 0),(.slice none 0 0),(.bool false)]⟩
def jp6:TI:=⟨.slice 4,1,24,[(.slice none 0 0)]⟩
def jp7:TI:=⟨.strct false [(0,87),(3,3),(4,88)],5,88,[(.slice none 0 0),(.slice none 0 0),(.bool false),(.int .i64 0),(.slice none 0 0)]⟩
def jp8:TI:=⟨.strct false [(0,87),(3,3),(4,88)],5,88,[(.slice none 0 0),(.slice none 0 0),(.bool false),(.int .i64 0),(.slice none 0 0)]⟩
def jp9:TI:=⟨.other,1,8,[.nilFunc]⟩
def jqa:TI:=⟨.other,1,8,[.nilFunc]⟩
def jqb:TI:=⟨.other,1,8,[.nilFunc]⟩
def jqc:TI:=⟨.other,1,8,[.nilFunc]⟩
def jqd:TI:=⟨.other,1,8,[.nilFunc]⟩
def jqe:TI:=⟨.other,1,8,[.nilFunc]⟩
def jqf:TI:=⟨.other,1,8,[.nilFunc]⟩
def jqg:TI:=⟨.other,1,8,[.nilFunc]⟩
def jf4:TI:=⟨.other,1,8,[.nilFunc]⟩
def jf5:TI:=⟨.other,1,8,[.nilFunc]⟩
def jf6:TI:=⟨.other,1,8,[.nilFunc]⟩
def jf7:TI:=⟨.other,1,8,[.nilFunc]⟩
def jf8:TI:=⟨.other,1,8,[.nilFunc]⟩
def jf9:TI:=⟨.strct true [(0,3),(1,3),(2,4)],3,24,[(.int .i64 0),(.int .i64 0),(.bool false)]⟩
def jga:TI:=⟨.strct true [(0,3),(1,3),(2,4)],3,24,[(.int .i64 0),(.int .i64 0),(.bool false)]⟩
def jgb:TI:=⟨.slice 106,1,24,[(.slice none 0 0)]⟩
def jgc:TI:=⟨.other,1,8,[.nilFunc]⟩
def jgd:TI:=⟨.other,1,8,[.nilFunc]⟩
def jge:TI:=⟨.other,1,8,[.nilFunc]⟩
def jgf:TI:=⟨.other,1,8,[.nilFunc]⟩
def jgg:TI:=⟨.other,1,8,[.nilFunc]⟩
def jgh:TI:=⟨.other,1,8,[.nilFunc]⟩
def jgi:TI:=⟨.other,1,8,[.nilFunc]⟩
def jgj:TI:=⟨.slice 121,1,24,[(.slice none 0 0)]⟩
def jgk:TI:=⟨.slice 119,1,24,[(.slice none 0 0)]⟩
def jgl:TI:=⟨.other,1,8,[.nilFunc]⟩
def jgm:TI:=⟨.strct true [(0,4),(1,3),(2,3)],3,24,[(.bool false),(.int .i64 0),(.int .i64 0)]⟩
def jgn:TI:=⟨.strct true [(0,4),(1,3),(2,3)],3,24,[(.bool false),(.int .i64 0),(.int .i64 0)]⟩
def jgo:TI:=⟨.strct true [(0,3),(1,3)],2,16,[(.int .i64 0),(.int .i64 0)]⟩
def jgp:TI:=⟨.strct true [(0,3),(1,3)],2,16,[(.int .i64 0),(.int .i64 0)]⟩
def jgq:TI:=⟨.other,1,8,[.nilFunc]⟩
def jgr:TI:=⟨.other,1,8,[.nilFunc]⟩
def jgs:TI:=⟨.strct true [(0,3),(1,3),(2,3)],3,24,[(.int .i64 0),(.int .i64 0),(.int .i64 0)]⟩
def jgt:TI:=⟨.strct true [(0,3),(1,3),(2,3)],3,24,[(.int .i64 0),(.int .i64 0),(.int .i64 0)]⟩
def jgu:TI:=⟨.other,1,8,[.nilFunc]⟩
def jgv:TI:=⟨.map 3 4,1,8,[(.map none)]⟩
def jgw:TI:=⟨.other,1,8,[.nilFunc]⟩
def jgx:TI:=⟨.other,1,8,[.nilFunc]⟩
def jgy:TI:=⟨.other,1,8,[.nilFunc]⟩
def jgz:TI:=⟨.other,1,8,[.nilFunc]⟩
def jg0:TI:=⟨.other,1,8,[.nilFunc]⟩
def jg1:TI:=⟨.other,1,8,[.nilFunc]⟩
def jg2:TI:=⟨.other,1,8,[.nilFunc]⟩
def jg3:TI:=⟨.other,1,8,[.nilFunc]⟩
def jg4:TI:=⟨.other,1,8,[.nilFunc]⟩
def jg5:TI:=⟨.other,1,8,[.nilFunc]⟩
def jg6:TI:=⟨.other,1,8,[.nilFunc]⟩
def jg7:TI:=⟨.map 9 3,1,8,[(.map none)]⟩
def jg8:TI:=⟨.other,1,8,[.nilFunc]⟩
def jg9:TI:=⟨.other,1,8,[.nilFunc]⟩
def jha:TI:=⟨.int .u64,1,8,[(.int .u64 0)]⟩
def jhb:TI:=⟨.other,1,8,[.nilFunc]⟩
def jhc:TI:=⟨.int .u32,1,4,[(.int .u32 0)]⟩
def jhd:TI:=⟨.other,1,8,[.nilFunc]⟩
def jhe:TI:=⟨.int .u64,1,8,[(.int .u64 0)]⟩
def jhf:TI:=⟨.other,1,8,[.nilFunc]⟩
def jhg:TI:=⟨.other,1,8,[.nilFunc]⟩
def jhh:TI:=⟨.strct false [(0,17),(1,17),(2,17),(3,9)],4,40,[(.pointer none),(.pointer none),(.pointer none),(.string ⟨#[]⟩)]⟩
def jhi:TI:=⟨.strct false [(0,17),(1,17),(2,17),(3,9)],4,40,[(.pointer none),(.pointer none),(.pointer none),(.string ⟨#[]⟩)]⟩
def jhj:TI:=⟨.arr false 0 16,0,0,[]⟩
def jhk:TI:=⟨.strct false [(0,157)],0,0,[]⟩
def jhl:TI:=⟨.strct false [(0,157)],0,0,[]⟩
def jhm:TI:=⟨.other,1,8,[.nilFunc]⟩
def jhn:TI:=⟨.int .u8,1,1,[(.int .u8 0)]⟩
def jho:TI:=⟨.int .u8,1,1,[(.int .u8 0)]⟩
def jhp:TI:=⟨.other,1,8,[.nilFunc]⟩
def jhq:TI:=⟨.other,1,8,[(.pointer none)]⟩
def jhr:TI:=⟨.int .i32,1,4,[(.int .i32 0)]⟩
def jhs:TI:=⟨.int .i32,1,4,[(.int .i32 0)]⟩
def jht:TI:=⟨.strct false [(0,12),(1,12),(2,148),(3,161),(4,5),(5,5),(6,162),(7,163),(8,164),(9,165),(10,166)],11,48,[(.int .u64 0),(.int .u64 0),(.int .u32 0),(.int .u8 0),(.int .u8 0),(.int .u8 0),(.int .u8 0), .nilFunc,(.pointer none),(.int .i32 0),(.int .i32 0)]⟩
def jhu:TI:=⟨.strct false [(0,12),(1,12),(2,148),(3,161),(4,5),(5,5),(6,162),(7,163),(8,164),(9,165),(10,166)],11,48,[(.int .u64 0),(.int .u64 0),(.int .u32 0),(.int .u8 0),(.int .u8 0),(.int .u8 0),(.int .u8 0), .nilFunc,(.pointer none),(.int .i32 0),(.int .i32 0)]⟩
def jhv:TI:=⟨.other,1,8,[(.pointer none)]⟩
def tt:TT
 |1=>some ti1
 |2=>some ti2
 |3=>some ti3
 |4=>some ti4
 |5=>some ti5
 |6=>some ti6
 |7=>some ti7
 |8=>some ti8
 |9=>some ti9
 |10=>some joa
 |11=>some job
 |12=>some joc
 |13=>some jod
 |14=>some joe
 |15=>some jof
 |16=>some jog
 |17=>some joh
 |18=>some joi
 |19=>some joj
 |20=>some jok
 |21=>some jol
 |22=>some jom
 |23=>some jon
 |24=>some joo
 |25=>some jop
 |26=>some joq
 |27=>some jor
 |28=>some jos
 |29=>some jot
 |31=>some jou
 |33=>some jov
 |34=>some jow
 |35=>some jox
 |36=>some joy
 |37=>some joz
 |38=>some jo0
 |39=>some jo1
 |40=>some jo2
 |42=>some jo3
 |43=>some jo4
 |45=>some jo5
 |46=>some jo6
 |47=>some jo7
 |48=>some jo8
 |49=>some jo9
 |50=>some jpa
 |51=>some jpb
 |53=>some jpc
 |54=>some jpd
 |55=>some jpe
 |57=>some jpf
 |59=>some jpg
 |60=>some jph
 |61=>some jpi
 |63=>some jpj
 |64=>some jpk
 |65=>some jpl
 |66=>some jpm
 |67=>some jpn
 |68=>some jpo
 |69=>some jpp
 |70=>some jpq
 |71=>some jpr
 |72=>some jps
 |73=>some jpt
 |74=>some jpu
 |75=>some jpv
 |76=>some jpw
 |77=>some jpx
 |79=>some jpy
 |81=>some jpz
 |82=>some jp0
 |83=>some jp1
 |84=>some jp2
 |85=>some jp3
 |86=>some jp4
 |87=>some jp5
 |88=>some jp6
 |89=>some jp7
 |90=>some jp8
 |92=>some jp9
 |93=>some jqa
 |94=>some jqb
 |95=>some jqc
 |96=>some jqd
 |97=>some jqe
 |98=>some jqf
 |99=>some jqg
 |100=>some jf4
 |101=>some jf5
 |102=>some jf6
 |103=>some jf7
 |104=>some jf8
 |105=>some jf9
 |106=>some jga
 |107=>some jgb
 |108=>some jgc
 |109=>some jgd
 |110=>some jge
 |111=>some jgf
 |112=>some jgg
 |113=>some jgh
 |114=>some jgi
 |115=>some jgj
 |116=>some jgk
 |117=>some jgl
 |118=>some jgm
 |119=>some jgn
 |120=>some jgo
 |121=>some jgp
 |123=>some jgq
 |124=>some jgr
 |125=>some jgs
 |126=>some jgt
 |127=>some jgu
 |128=>some jgv
 |129=>some jgw
 |131=>some jgx
 |132=>some jgy
 |133=>some jgz
 |134=>some jg0
 |135=>some jg1
 |136=>some jg2
 |137=>some jg3
 |138=>some jg4
 |140=>some jg5
 |141=>some jg6
 |142=>some jg7
 |143=>some jg8
 |144=>some jg9
 |145=>some jha
 |147=>some jhb
 |148=>some jhc
 |150=>some jhd
 |151=>some jhe
 |153=>some jhf
 |154=>some jhg
 |155=>some jhh
 |156=>some jhi
 |157=>some jhj
 |158=>some jhk
 |159=>some jhl
 |160=>some jhm
 |161=>some jhn
 |162=>some jho
 |163=>some jhp
 |164=>some jhq
 |165=>some jhr
 |166=>some jhs
 |167=>some jht
 |168=>some jhu
 |169=>some jhv
 |_=>none
theorem jsr:aj Try.prog 1 ti1:=ak (z:= .nilFunc) (by kernel_rfl) Try.underlying1 rfl rfl (by intro h;cases h) (fun h=>by cases h)
theorem tt1:tt 1=some ⟨.other,1,8,[.nilFunc]⟩:=rfl
theorem jss:aj Try.prog 2 ti2:=ak (z:=(.int .i64 0)) (by kernel_rfl) Try.underlying2 rfl rfl (by intro h;cases h) (fun _=>rfl)
theorem tt2:tt 2=some ⟨.int .i64,1,8,[(.int .i64 0)]⟩:=rfl
theorem jst:aj Try.prog 3 ti3:=ak (z:=(.int .i64 0)) (by kernel_rfl) Try.underlying3 rfl rfl (by intro h;cases h) (fun _=>rfl)
theorem tt3:tt 3=some ⟨.int .i64,1,8,[(.int .i64 0)]⟩:=rfl
theorem jsu:aj Try.prog 4 ti4:=ak (z:=(.bool false)) (by kernel_rfl) Try.underlying4 rfl rfl (by intro h;cases h) (fun _=>rfl)
theorem tt4:tt 4=some ⟨.bool,1,1,[(.bool false)]⟩:=rfl
theorem jsv:aj Try.prog 5 ti5:=ak (z:=(.int .u8 0)) (by kernel_rfl) Try.underlying5 rfl rfl (by intro h;cases h) (fun _=>rfl)
theorem tt5:tt 5=some ⟨.int .u8,1,1,[(.int .u8 0)]⟩:=rfl
theorem jsw:aj Try.prog 6 ti6:=ak (z:=(.int .u8 0)) (by kernel_rfl) Try.underlying6 rfl rfl (by intro h;cases h) (fun _=>rfl)
theorem tt6:tt 6=some ⟨.int .u8,1,1,[(.int .u8 0)]⟩:=rfl
theorem jsx:aj Try.prog 7 ti7:=ak (z:= .agg #[(.int .i64 0),(.int .i64 0),(.bool false),(.int .u8 0)]) (by kernel_rfl) Try.underlying7 rfl rfl (by exact fun _=>⟨by kernel_rfl,by kernel_rfl,by kernel_rfl⟩) (fun h=>by cases h)
theorem tt7:tt 7=some ⟨.strct true [(0,2),(1,3),(2,4),(3,6)],4,24,[(.int .i64 0),(.int .i64 0),(.bool false),(.int .u8 0)]⟩:=rfl
theorem jsy:aj Try.prog 8 ti8:=ak (z:= .agg #[(.int .i64 0),(.int .i64 0),(.bool false),(.int .u8 0)]) (by kernel_rfl) Try.underlying8 rfl rfl (by exact fun _=>⟨by kernel_rfl,by kernel_rfl,by kernel_rfl⟩) (fun h=>by cases h)
theorem tt8:tt 8=some ⟨.strct true [(0,2),(1,3),(2,4),(3,6)],4,24,[(.int .i64 0),(.int .i64 0),(.bool false),(.int .u8 0)]⟩:=rfl
theorem jsz:aj Try.prog 9 ti9:=ak (z:=(.string ⟨#[]⟩)) (by kernel_rfl) Try.underlying9 rfl rfl (by intro h;cases h) (fun _=>rfl)
theorem tt9:tt 9=some ⟨.str,1,16,[(.string ⟨#[]⟩)]⟩:=rfl
theorem jlt:aj Try.prog 10 joa:=ak (z:=(.string ⟨#[]⟩)) (by kernel_rfl) Try.underlying10 rfl rfl (by intro h;cases h) (fun _=>rfl)
theorem js8:tt 10=some ⟨.str,1,16,[(.string ⟨#[]⟩)]⟩:=rfl
theorem jlu:aj Try.prog 11 job:=ak (z:=(.string ⟨#[]⟩)) (by kernel_rfl) Try.underlying11 rfl rfl (by intro h;cases h) (fun _=>rfl)
theorem js9:tt 11=some ⟨.str,1,16,[(.string ⟨#[]⟩)]⟩:=rfl
theorem jlv:aj Try.prog 12 joc:=ak (z:=(.int .u64 0)) (by kernel_rfl) Try.underlying12 rfl rfl (by intro h;cases h) (fun _=>rfl)
theorem jta:tt 12=some ⟨.int .u64,1,8,[(.int .u64 0)]⟩:=rfl
theorem jlw:aj Try.prog 13 jod:=ak (z:= .agg #[(.string ⟨#[]⟩),(.int .u64 0)]) (by kernel_rfl) Try.underlying13 rfl rfl (by intro h;cases h) (fun h=>by cases h)
theorem jtb:tt 13=some ⟨.strct false [(0,9),(1,12)],2,24,[(.string ⟨#[]⟩),(.int .u64 0)]⟩:=rfl
theorem jlx:aj Try.prog 14 joe:=ak (z:= .agg #[(.string ⟨#[]⟩),(.int .u64 0)]) (by kernel_rfl) Try.underlying14 rfl rfl (by intro h;cases h) (fun h=>by cases h)
theorem jtc:tt 14=some ⟨.strct false [(0,9),(1,12)],2,24,[(.string ⟨#[]⟩),(.int .u64 0)]⟩:=rfl
theorem jly:aj Try.prog 15 jof:=ak (z:=(.pointer none)) (by kernel_rfl) Try.underlying15 rfl rfl (by intro h;cases h) (fun h=>by cases h)
theorem jtd:tt 15=some ⟨.other,1,8,[(.pointer none)]⟩:=rfl
theorem jlz:aj Try.prog 16 jog:=ak (z:=(.pointer none)) (by kernel_rfl) Try.underlying16 rfl rfl (by intro h;cases h) (fun h=>by cases h)
theorem jte:tt 16=some ⟨.other,1,8,[(.pointer none)]⟩:=rfl
theorem jl0:aj Try.prog 17 joh:=ak (z:=(.pointer none)) (by kernel_rfl) Try.underlying17 rfl rfl (by intro h;cases h) (fun h=>by cases h)
theorem jtf:tt 17=some ⟨.other,1,8,[(.pointer none)]⟩:=rfl
theorem jl1:aj Try.prog 18 joi:=ak (z:= .agg #[(.pointer none)]) (by kernel_rfl) Try.underlying18 rfl rfl (by intro h;cases h) (fun h=>by cases h)
theorem jtg:tt 18=some ⟨.strct false [(0,17)],1,8,[(.pointer none)]⟩:=rfl
theorem jl2:aj Try.prog 19 joj:=ak (z:= .agg #[(.pointer none)]) (by kernel_rfl) Try.underlying19 rfl rfl (by intro h;cases h) (fun h=>by cases h)
theorem jth:tt 19=some ⟨.strct false [(0,17)],1,8,[(.pointer none)]⟩:=rfl
theorem jl3:aj Try.prog 20 jok:=ak (z:= .nilIface) (by kernel_rfl) Try.underlying20 rfl rfl (by intro h;cases h) (fun h=>by cases h)
theorem jti:tt 20=some ⟨.other,1,16,[.nilIface]⟩:=rfl
theorem jl4:aj Try.prog 21 jol:=ak (z:=(.int .i32 0)) (by kernel_rfl) Try.underlying21 rfl rfl (by intro h;cases h) (fun _=>rfl)
theorem jtj:tt 21=some ⟨.int .i32,1,4,[(.int .i32 0)]⟩:=rfl
theorem jl5:aj Try.prog 22 jom:=ak (z:=(.slice none 0 0)) (by kernel_rfl) Try.underlying22 rfl rfl (by intro h;cases h) (fun _=>rfl)
theorem jtk:tt 22=some ⟨.slice 68,1,24,[(.slice none 0 0)]⟩:=rfl
theorem jl6:aj Try.prog 23 jon:=ak (z:= .agg #[(.int .i64 0),(.slice none 0 0),(.int .i64 0),(.int .i64 0)]) (by kernel_rfl) Try.underlying23 rfl rfl (by intro h;cases h) (fun h=>by cases h)
theorem jtl:tt 23=some ⟨.strct false [(0,3),(1,22),(2,3),(3,3)],4,48,[(.int .i64 0),(.slice none 0 0),(.int .i64 0),(.int .i64 0)]⟩:=rfl
theorem jl7:aj Try.prog 24 joo:=ak (z:= .agg #[(.int .i64 0),(.slice none 0 0),(.int .i64 0),(.int .i64 0)]) (by kernel_rfl) Try.underlying24 rfl rfl (by intro h;cases h) (fun h=>by cases h)
theorem jtm:tt 24=some ⟨.strct false [(0,3),(1,22),(2,3),(3,3)],4,48,[(.int .i64 0),(.slice none 0 0),(.int .i64 0),(.int .i64 0)]⟩:=rfl
theorem jl8:aj Try.prog 25 jop:=ak (z:=(.slice none 0 0)) (by kernel_rfl) Try.underlying25 rfl rfl (by intro h;cases h) (fun _=>rfl)
theorem jtn:tt 25=some ⟨.slice 3,1,24,[(.slice none 0 0)]⟩:=rfl
theorem jl9:aj Try.prog 26 joq:=ak (z:=(.slice none 0 0)) (by kernel_rfl) Try.underlying26 rfl rfl (by intro h;cases h) (fun _=>rfl)
theorem jto:tt 26=some ⟨.slice 40,1,24,[(.slice none 0 0)]⟩:=rfl
theorem jma:aj Try.prog 27 jor:=ak (z:= .nilFunc) (by kernel_rfl) Try.underlying27 rfl rfl (by intro h;cases h) (fun h=>by cases h)
theorem jtp:tt 27=some ⟨.other,1,8,[.nilFunc]⟩:=rfl
theorem jmb:aj Try.prog 28 jos:=ak (z:= .nilFunc) (by kernel_rfl) Try.underlying28 rfl rfl (by intro h;cases h) (fun h=>by cases h)
theorem jtq:tt 28=some ⟨.other,1,8,[.nilFunc]⟩:=rfl
theorem jmc:aj Try.prog 29 jot:=ak (z:=(.int .i64 0)) (by kernel_rfl) Try.underlying29 rfl rfl (by intro h;cases h) (fun _=>rfl)
theorem jtr:tt 29=some ⟨.int .i64,1,8,[(.int .i64 0)]⟩:=rfl
theorem jmd:aj Try.prog 31 jou:=ak (z:= .nilFunc) (by kernel_rfl) Try.underlying31 rfl rfl (by intro h;cases h) (fun h=>by cases h)
theorem jts:tt 31=some ⟨.other,1,8,[.nilFunc]⟩:=rfl
theorem jme:aj Try.prog 33 jov:=ak (z:= .nilFunc) (by kernel_rfl) Try.underlying33 rfl rfl (by intro h;cases h) (fun h=>by cases h)
theorem jtt:tt 33=some ⟨.other,1,8,[.nilFunc]⟩:=rfl
theorem jmf:aj Try.prog 34 jow:=ak (z:= .nilFunc) (by kernel_rfl) Try.underlying34 rfl rfl (by intro h;cases h) (fun h=>by cases h)
theorem jtu:tt 34=some ⟨.other,1,8,[.nilFunc]⟩:=rfl
theorem jmg:aj Try.prog 35 jox:=ak (z:= .nilFunc) (by kernel_rfl) Try.underlying35 rfl rfl (by intro h;cases h) (fun h=>by cases h)
theorem jtv:tt 35=some ⟨.other,1,8,[.nilFunc]⟩:=rfl
theorem jmh:aj Try.prog 36 joy:=ak (z:= .nilFunc) (by kernel_rfl) Try.underlying36 rfl rfl (by intro h;cases h) (fun h=>by cases h)
theorem jtw:tt 36=some ⟨.other,1,8,[.nilFunc]⟩:=rfl
theorem jmi:aj Try.prog 37 joz:=ak (z:= .nilFunc) (by kernel_rfl) Try.underlying37 rfl rfl (by intro h;cases h) (fun h=>by cases h)
theorem jtx:tt 37=some ⟨.other,1,8,[.nilFunc]⟩:=rfl
theorem jmj:aj Try.prog 38 jo0:=ak (z:=(.slice none 0 0)) (by kernel_rfl) Try.underlying38 rfl rfl (by intro h;cases h) (fun _=>rfl)
theorem jty:tt 38=some ⟨.slice 5,1,24,[(.slice none 0 0)]⟩:=rfl
theorem jmk:aj Try.prog 39 jo1:=ak (z:= .agg #[(.int .i64 0),(.int .i64 0),(.bool false)]) (by kernel_rfl) Try.underlying39 rfl rfl (by exact fun _=>⟨by kernel_rfl,by kernel_rfl,by kernel_rfl⟩) (fun h=>by cases h)
theorem jtz:tt 39=some ⟨.strct true [(0,3),(1,3),(2,4)],3,24,[(.int .i64 0),(.int .i64 0),(.bool false)]⟩:=rfl
theorem jml:aj Try.prog 40 jo2:=ak (z:= .agg #[(.int .i64 0),(.int .i64 0),(.bool false)]) (by kernel_rfl) Try.underlying40 rfl rfl (by exact fun _=>⟨by kernel_rfl,by kernel_rfl,by kernel_rfl⟩) (fun h=>by cases h)
theorem jt0:tt 40=some ⟨.strct true [(0,3),(1,3),(2,4)],3,24,[(.int .i64 0),(.int .i64 0),(.bool false)]⟩:=rfl
theorem jmm:aj Try.prog 42 jo3:=ak (z:= .nilFunc) (by kernel_rfl) Try.underlying42 rfl rfl (by intro h;cases h) (fun h=>by cases h)
theorem jt1:tt 42=some ⟨.other,1,8,[.nilFunc]⟩:=rfl
theorem jmn:aj Try.prog 43 jo4:=ak (z:= .nilFunc) (by kernel_rfl) Try.underlying43 rfl rfl (by intro h;cases h) (fun h=>by cases h)
theorem jt2:tt 43=some ⟨.other,1,8,[.nilFunc]⟩:=rfl
theorem jmo:aj Try.prog 45 jo5:=ak (z:= .nilFunc) (by kernel_rfl) Try.underlying45 rfl rfl (by intro h;cases h) (fun h=>by cases h)
theorem jt3:tt 45=some ⟨.other,1,8,[.nilFunc]⟩:=rfl
theorem jmp:aj Try.prog 46 jo6:=ak (z:= .nilFunc) (by kernel_rfl) Try.underlying46 rfl rfl (by intro h;cases h) (fun h=>by cases h)
theorem jt4:tt 46=some ⟨.other,1,8,[.nilFunc]⟩:=rfl
theorem jmq:aj Try.prog 47 jo7:=ak (z:= .nilFunc) (by kernel_rfl) Try.underlying47 rfl rfl (by intro h;cases h) (fun h=>by cases h)
theorem jt5:tt 47=some ⟨.other,1,8,[.nilFunc]⟩:=rfl
theorem jmr:aj Try.prog 48 jo8:=ak (z:= .nilFunc) (by kernel_rfl) Try.underlying48 rfl rfl (by intro h;cases h) (fun h=>by cases h)
theorem jt6:tt 48=some ⟨.other,1,8,[.nilFunc]⟩:=rfl
theorem jms:aj Try.prog 49 jo9:=ak (z:= .nilFunc) (by kernel_rfl) Try.underlying49 rfl rfl (by intro h;cases h) (fun h=>by cases h)
theorem jt7:tt 49=some ⟨.other,1,8,[.nilFunc]⟩:=rfl
theorem jmt:aj Try.prog 50 jpa:=ak (z:= .nilFunc) (by kernel_rfl) Try.underlying50 rfl rfl (by intro h;cases h) (fun h=>by cases h)
theorem jt8:tt 50=some ⟨.other,1,8,[.nilFunc]⟩:=rfl
theorem jmu:aj Try.prog 51 jpb:=ak (z:= .nilFunc) (by kernel_rfl) Try.underlying51 rfl rfl (by intro h;cases h) (fun h=>by cases h)
theorem jt9:tt 51=some ⟨.other,1,8,[.nilFunc]⟩:=rfl
theorem jmv:aj Try.prog 53 jpc:=ak (z:= .nilFunc) (by kernel_rfl) Try.underlying53 rfl rfl (by intro h;cases h) (fun h=>by cases h)
theorem jua:tt 53=some ⟨.other,1,8,[.nilFunc]⟩:=rfl
theorem jmw:aj Try.prog 54 jpd:=ak (z:= .nilFunc) (by kernel_rfl) Try.underlying54 rfl rfl (by intro h;cases h) (fun h=>by cases h)
theorem jub:tt 54=some ⟨.other,1,8,[.nilFunc]⟩:=rfl
theorem jmx:aj Try.prog 55 jpe:=ak (z:= .nilFunc) (by kernel_rfl) Try.underlying55 rfl rfl (by intro h;cases h) (fun h=>by cases h)
theorem juc:tt 55=some ⟨.other,1,8,[.nilFunc]⟩:=rfl
theorem jmy:aj Try.prog 57 jpf:=ak (z:= .nilFunc) (by kernel_rfl) Try.underlying57 rfl rfl (by intro h;cases h) (fun h=>by cases h)
theorem jud:tt 57=some ⟨.other,1,8,[.nilFunc]⟩:=rfl
theorem jmz:aj Try.prog 59 jpg:=ak (z:= .nilFunc) (by kernel_rfl) Try.underlying59 rfl rfl (by intro h;cases h) (fun h=>by cases h)
theorem jue:tt 59=some ⟨.other,1,8,[.nilFunc]⟩:=rfl
theorem jm0:aj Try.prog 60 jph:=ak (z:= .nilFunc) (by kernel_rfl) Try.underlying60 rfl rfl (by intro h;cases h) (fun h=>by cases h)
theorem juf:tt 60=some ⟨.other,1,8,[.nilFunc]⟩:=rfl
theorem jm1:aj Try.prog 61 jpi:=ak (z:= .nilFunc) (by kernel_rfl) Try.underlying61 rfl rfl (by intro h;cases h) (fun h=>by cases h)
theorem jug:tt 61=some ⟨.other,1,8,[.nilFunc]⟩:=rfl
theorem jm2:aj Try.prog 63 jpj:=ak (z:= .nilFunc) (by kernel_rfl) Try.underlying63 rfl rfl (by intro h;cases h) (fun h=>by cases h)
theorem juh:tt 63=some ⟨.other,1,8,[.nilFunc]⟩:=rfl
theorem jm3:aj Try.prog 64 jpk:=ak (z:= .nilFunc) (by kernel_rfl) Try.underlying64 rfl rfl (by intro h;cases h) (fun h=>by cases h)
theorem jui:tt 64=some ⟨.other,1,8,[.nilFunc]⟩:=rfl
theorem jm4:aj Try.prog 65 jpl:=ak (z:= .nilFunc) (by kernel_rfl) Try.underlying65 rfl rfl (by intro h;cases h) (fun h=>by cases h)
theorem juj:tt 65=some ⟨.other,1,8,[.nilFunc]⟩:=rfl
theorem jm5:aj Try.prog 66 jpm:=ak (z:= .nilFunc) (by kernel_rfl) Try.underlying66 rfl rfl (by intro h;cases h) (fun h=>by cases h)
theorem juk:tt 66=some ⟨.other,1,8,[.nilFunc]⟩:=rfl
theorem jm6:aj Try.prog 67 jpn:=ak (z:= .agg #[(.string ⟨#[]⟩),(.slice none 0 0),(.slice none 0 0)]) (by kernel_rfl) Try.underlying67 rfl rfl (by intro h;cases h) (fun h=>by cases h)
theorem jul:tt 67=some ⟨.strct false [(0,9),(1,25),(2,25)],3,64,[(.string ⟨#[]⟩),(.slice none 0 0),(.slice none 0 0)]⟩:=rfl
theorem jm7:aj Try.prog 68 jpo:=ak (z:= .agg #[(.string ⟨#[]⟩),(.slice none 0 0),(.slice none 0 0)]) (by kernel_rfl) Try.underlying68 rfl rfl (by intro h;cases h) (fun h=>by cases h)
theorem jum:tt 68=some ⟨.strct false [(0,9),(1,25),(2,25)],3,64,[(.string ⟨#[]⟩),(.slice none 0 0),(.slice none 0 0)]⟩:=rfl
theorem jm8:aj Try.prog 69 jpp:=ak (z:= .nilFunc) (by kernel_rfl) Try.underlying69 rfl rfl (by intro h;cases h) (fun h=>by cases h)
theorem jun:tt 69=some ⟨.other,1,8,[.nilFunc]⟩:=rfl
theorem jm9:aj Try.prog 70 jpq:=ak (z:= .nilFunc) (by kernel_rfl) Try.underlying70 rfl rfl (by intro h;cases h) (fun h=>by cases h)
theorem juo:tt 70=some ⟨.other,1,8,[.nilFunc]⟩:=rfl
theorem jna:aj Try.prog 71 jpr:=ak (z:= .nilFunc) (by kernel_rfl) Try.underlying71 rfl rfl (by intro h;cases h) (fun h=>by cases h)
theorem jup:tt 71=some ⟨.other,1,8,[.nilFunc]⟩:=rfl
theorem jnb:aj Try.prog 72 jps:=ak (z:= .nilFunc) (by kernel_rfl) Try.underlying72 rfl rfl (by intro h;cases h) (fun h=>by cases h)
theorem juq:tt 72=some ⟨.other,1,8,[.nilFunc]⟩:=rfl
theorem jnc:aj Try.prog 73 jpt:=ak (z:= .nilFunc) (by kernel_rfl) Try.underlying73 rfl rfl (by intro h;cases h) (fun h=>by cases h)
theorem jur:tt 73=some ⟨.other,1,8,[.nilFunc]⟩:=rfl
theorem jnd:aj Try.prog 74 jpu:=ak (z:= .nilFunc) (by kernel_rfl) Try.underlying74 rfl rfl (by intro h;cases h) (fun h=>by cases h)
theorem jus:tt 74=some ⟨.other,1,8,[.nilFunc]⟩:=rfl
theorem jne:aj Try.prog 75 jpv:=ak (z:=(.map none)) (by kernel_rfl) Try.underlying75 rfl rfl (by intro h;cases h) (fun h=>by cases h)
theorem jut:tt 75=some ⟨.map 3 115,1,8,[(.map none)]⟩:=rfl
theorem jnf:aj Try.prog 76 jpw:=ak (z:= .agg #[(.map none),(.int .i64 0),(.int .i64 0)]) (by kernel_rfl) Try.underlying76 rfl rfl (by intro h;cases h) (fun h=>by cases h)
theorem juu:tt 76=some ⟨.strct false [(0,75),(1,3),(2,3)],3,24,[(.map none),(.int .i64 0),(.int .i64 0)]⟩:=rfl
theorem jng:aj Try.prog 77 jpx:=ak (z:= .agg #[(.map none),(.int .i64 0),(.int .i64 0)]) (by kernel_rfl) Try.underlying77 rfl rfl (by intro h;cases h) (fun h=>by cases h)
theorem juv:tt 77=some ⟨.strct false [(0,75),(1,3),(2,3)],3,24,[(.map none),(.int .i64 0),(.int .i64 0)]⟩:=rfl
theorem jnh:aj Try.prog 79 jpy:=ak (z:= .nilFunc) (by kernel_rfl) Try.underlying79 rfl rfl (by intro h;cases h) (fun h=>by cases h)
theorem juw:tt 79=some ⟨.other,1,8,[.nilFunc]⟩:=rfl
theorem jni:aj Try.prog 81 jpz:=ak (z:= .nilFunc) (by kernel_rfl) Try.underlying81 rfl rfl (by intro h;cases h) (fun h=>by cases h)
theorem jux:tt 81=some ⟨.other,1,8,[.nilFunc]⟩:=rfl
theorem jnj:aj Try.prog 82 jp0:=ak (z:= .nilFunc) (by kernel_rfl) Try.underlying82 rfl rfl (by intro h;cases h) (fun h=>by cases h)
theorem juy:tt 82=some ⟨.other,1,8,[.nilFunc]⟩:=rfl
theorem jnk:aj Try.prog 83 jp1:=ak (z:= .nilFunc) (by kernel_rfl) Try.underlying83 rfl rfl (by intro h;cases h) (fun h=>by cases h)
theorem juz:tt 83=some ⟨.other,1,8,[.nilFunc]⟩:=rfl
theorem jnl:aj Try.prog 84 jp2:=ak (z:=(.slice none 0 0)) (by kernel_rfl) Try.underlying84 rfl rfl (by intro h;cases h) (fun _=>rfl)
theorem ju0:tt 84=some ⟨.slice 25,1,24,[(.slice none 0 0)]⟩:=rfl
theorem jnm:aj Try.prog 85 jp3:=ak (z:=(.slice none 0 0)) (by kernel_rfl) Try.underlying85 rfl rfl (by intro h;cases h) (fun _=>rfl)
theorem ju1:tt 85=some ⟨.slice 126,1,24,[(.slice none 0 0)]⟩:=rfl
theorem jnn:aj Try.prog 86 jp4:=ak (z:= .agg #[(.slice none 0 0),(.slice none 0 0),(.bool false)]) (by kernel_rfl) Try.underlying86 rfl rfl (by intro h;cases h) (fun h=>by cases h)
theorem ju2:tt 86=some ⟨.strct false [(0,84),(1,85),(2,4)],3,56,[(.slice none 0 0),(.slice none 0 0),(.bool false)]⟩:=rfl
theorem jno:aj Try.prog 87 jp5:=ak (z:= .agg #[(.slice none 0 0),(.slice none 0 0),(.bool false)]) (by kernel_rfl) Try.underlying87 rfl rfl (by intro h;cases h) (fun h=>by cases h)
theorem ju3:tt 87=some ⟨.strct false [(0,84),(1,85),(2,4)],3,56,[(.slice none 0 0),(.slice none 0 0),(.bool false)]⟩:=rfl
theorem jnp:aj Try.prog 88 jp6:=ak (z:=(.slice none 0 0)) (by kernel_rfl) Try.underlying88 rfl rfl (by intro h;cases h) (fun _=>rfl)
theorem ju4:tt 88=some ⟨.slice 4,1,24,[(.slice none 0 0)]⟩:=rfl
theorem jnq:aj Try.prog 89 jp7:=ak (z:= .agg #[(.slice none 0 0),(.slice none 0 0),(.bool false),(.int .i64 0),(.slice none 0 0)]) (by kernel_rfl) Try.underlying89 rfl rfl (by intro h;cases h) (fun h=>by cases h)
theorem ju5:tt 89=some ⟨.strct false [(0,87),(3,3),(4,88)],5,88,[(.slice none 0 0),(.slice none 0 0),(.bool false),(.int .i64 0),(.slice none 0 0)]⟩:=rfl
theorem jnr:aj Try.prog 90 jp8:=ak (z:= .agg #[(.slice none 0 0),(.slice none 0 0),(.bool false),(.int .i64 0),(.slice none 0 0)]) (by kernel_rfl) Try.underlying90 rfl rfl (by intro h;cases h) (fun h=>by cases h)
theorem ju6:tt 90=some ⟨.strct false [(0,87),(3,3),(4,88)],5,88,[(.slice none 0 0),(.slice none 0 0),(.bool false),(.int .i64 0),(.slice none 0 0)]⟩:=rfl
theorem jns:aj Try.prog 92 jp9:=ak (z:= .nilFunc) (by kernel_rfl) Try.underlying92 rfl rfl (by intro h;cases h) (fun h=>by cases h)
theorem ju7:tt 92=some ⟨.other,1,8,[.nilFunc]⟩:=rfl
theorem jnt:aj Try.prog 93 jqa:=ak (z:= .nilFunc) (by kernel_rfl) Try.underlying93 rfl rfl (by intro h;cases h) (fun h=>by cases h)
theorem ju8:tt 93=some ⟨.other,1,8,[.nilFunc]⟩:=rfl
theorem jnu:aj Try.prog 94 jqb:=ak (z:= .nilFunc) (by kernel_rfl) Try.underlying94 rfl rfl (by intro h;cases h) (fun h=>by cases h)
theorem ju9:tt 94=some ⟨.other,1,8,[.nilFunc]⟩:=rfl
theorem jnv:aj Try.prog 95 jqc:=ak (z:= .nilFunc) (by kernel_rfl) Try.underlying95 rfl rfl (by intro h;cases h) (fun h=>by cases h)
theorem jva:tt 95=some ⟨.other,1,8,[.nilFunc]⟩:=rfl
theorem jnw:aj Try.prog 96 jqd:=ak (z:= .nilFunc) (by kernel_rfl) Try.underlying96 rfl rfl (by intro h;cases h) (fun h=>by cases h)
theorem jvb:tt 96=some ⟨.other,1,8,[.nilFunc]⟩:=rfl
theorem jnx:aj Try.prog 97 jqe:=ak (z:= .nilFunc) (by kernel_rfl) Try.underlying97 rfl rfl (by intro h;cases h) (fun h=>by cases h)
theorem jvc:tt 97=some ⟨.other,1,8,[.nilFunc]⟩:=rfl
theorem jny:aj Try.prog 98 jqf:=ak (z:= .nilFunc) (by kernel_rfl) Try.underlying98 rfl rfl (by intro h;cases h) (fun h=>by cases h)
theorem jvd:tt 98=some ⟨.other,1,8,[.nilFunc]⟩:=rfl
theorem jnz:aj Try.prog 99 jqg:=ak (z:= .nilFunc) (by kernel_rfl) Try.underlying99 rfl rfl (by intro h;cases h) (fun h=>by cases h)
theorem jve:tt 99=some ⟨.other,1,8,[.nilFunc]⟩:=rfl
theorem jit:aj Try.prog 100 jf4:=ak (z:= .nilFunc) (by kernel_rfl) Try.underlying100 rfl rfl (by intro h;cases h) (fun h=>by cases h)
theorem jqh:tt 100=some ⟨.other,1,8,[.nilFunc]⟩:=rfl
theorem jiu:aj Try.prog 101 jf5:=ak (z:= .nilFunc) (by kernel_rfl) Try.underlying101 rfl rfl (by intro h;cases h) (fun h=>by cases h)
theorem jqi:tt 101=some ⟨.other,1,8,[.nilFunc]⟩:=rfl
theorem jiv:aj Try.prog 102 jf6:=ak (z:= .nilFunc) (by kernel_rfl) Try.underlying102 rfl rfl (by intro h;cases h) (fun h=>by cases h)
theorem jqj:tt 102=some ⟨.other,1,8,[.nilFunc]⟩:=rfl
theorem jiw:aj Try.prog 103 jf7:=ak (z:= .nilFunc) (by kernel_rfl) Try.underlying103 rfl rfl (by intro h;cases h) (fun h=>by cases h)
theorem jqk:tt 103=some ⟨.other,1,8,[.nilFunc]⟩:=rfl
theorem jix:aj Try.prog 104 jf8:=ak (z:= .nilFunc) (by kernel_rfl) Try.underlying104 rfl rfl (by intro h;cases h) (fun h=>by cases h)
theorem jql:tt 104=some ⟨.other,1,8,[.nilFunc]⟩:=rfl
theorem jiy:aj Try.prog 105 jf9:=ak (z:= .agg #[(.int .i64 0),(.int .i64 0),(.bool false)]) (by kernel_rfl) Try.underlying105 rfl rfl (by exact fun _=>⟨by kernel_rfl,by kernel_rfl,by kernel_rfl⟩) (fun h=>by cases h)
theorem jqm:tt 105=some ⟨.strct true [(0,3),(1,3),(2,4)],3,24,[(.int .i64 0),(.int .i64 0),(.bool false)]⟩:=rfl
theorem jiz:aj Try.prog 106 jga:=ak (z:= .agg #[(.int .i64 0),(.int .i64 0),(.bool false)]) (by kernel_rfl) Try.underlying106 rfl rfl (by exact fun _=>⟨by kernel_rfl,by kernel_rfl,by kernel_rfl⟩) (fun h=>by cases h)
theorem jqn:tt 106=some ⟨.strct true [(0,3),(1,3),(2,4)],3,24,[(.int .i64 0),(.int .i64 0),(.bool false)]⟩:=rfl
theorem ji0:aj Try.prog 107 jgb:=ak (z:=(.slice none 0 0)) (by kernel_rfl) Try.underlying107 rfl rfl (by intro h;cases h) (fun _=>rfl)
theorem jqo:tt 107=some ⟨.slice 106,1,24,[(.slice none 0 0)]⟩:=rfl
theorem ji1:aj Try.prog 108 jgc:=ak (z:= .nilFunc) (by kernel_rfl) Try.underlying108 rfl rfl (by intro h;cases h) (fun h=>by cases h)
theorem jqp:tt 108=some ⟨.other,1,8,[.nilFunc]⟩:=rfl
theorem ji2:aj Try.prog 109 jgd:=ak (z:= .nilFunc) (by kernel_rfl) Try.underlying109 rfl rfl (by intro h;cases h) (fun h=>by cases h)
theorem jqq:tt 109=some ⟨.other,1,8,[.nilFunc]⟩:=rfl
theorem ji3:aj Try.prog 110 jge:=ak (z:= .nilFunc) (by kernel_rfl) Try.underlying110 rfl rfl (by intro h;cases h) (fun h=>by cases h)
theorem jqr:tt 110=some ⟨.other,1,8,[.nilFunc]⟩:=rfl
theorem ji4:aj Try.prog 111 jgf:=ak (z:= .nilFunc) (by kernel_rfl) Try.underlying111 rfl rfl (by intro h;cases h) (fun h=>by cases h)
theorem jqs:tt 111=some ⟨.other,1,8,[.nilFunc]⟩:=rfl
theorem ji5:aj Try.prog 112 jgg:=ak (z:= .nilFunc) (by kernel_rfl) Try.underlying112 rfl rfl (by intro h;cases h) (fun h=>by cases h)
theorem jqt:tt 112=some ⟨.other,1,8,[.nilFunc]⟩:=rfl
theorem ji6:aj Try.prog 113 jgh:=ak (z:= .nilFunc) (by kernel_rfl) Try.underlying113 rfl rfl (by intro h;cases h) (fun h=>by cases h)
theorem jqu:tt 113=some ⟨.other,1,8,[.nilFunc]⟩:=rfl
theorem ji7:aj Try.prog 114 jgi:=ak (z:= .nilFunc) (by kernel_rfl) Try.underlying114 rfl rfl (by intro h;cases h) (fun h=>by cases h)
theorem jqv:tt 114=some ⟨.other,1,8,[.nilFunc]⟩:=rfl
theorem ji8:aj Try.prog 115 jgj:=ak (z:=(.slice none 0 0)) (by kernel_rfl) Try.underlying115 rfl rfl (by intro h;cases h) (fun _=>rfl)
theorem jqw:tt 115=some ⟨.slice 121,1,24,[(.slice none 0 0)]⟩:=rfl
theorem ji9:aj Try.prog 116 jgk:=ak (z:=(.slice none 0 0)) (by kernel_rfl) Try.underlying116 rfl rfl (by intro h;cases h) (fun _=>rfl)
theorem jqx:tt 116=some ⟨.slice 119,1,24,[(.slice none 0 0)]⟩:=rfl
theorem jja:aj Try.prog 117 jgl:=ak (z:= .nilFunc) (by kernel_rfl) Try.underlying117 rfl rfl (by intro h;cases h) (fun h=>by cases h)
theorem jqy:tt 117=some ⟨.other,1,8,[.nilFunc]⟩:=rfl
theorem jjb:aj Try.prog 118 jgm:=ak (z:= .agg #[(.bool false),(.int .i64 0),(.int .i64 0)]) (by kernel_rfl) Try.underlying118 rfl rfl (by exact fun _=>⟨by kernel_rfl,by kernel_rfl,by kernel_rfl⟩) (fun h=>by cases h)
theorem jqz:tt 118=some ⟨.strct true [(0,4),(1,3),(2,3)],3,24,[(.bool false),(.int .i64 0),(.int .i64 0)]⟩:=rfl
theorem jjc:aj Try.prog 119 jgn:=ak (z:= .agg #[(.bool false),(.int .i64 0),(.int .i64 0)]) (by kernel_rfl) Try.underlying119 rfl rfl (by exact fun _=>⟨by kernel_rfl,by kernel_rfl,by kernel_rfl⟩) (fun h=>by cases h)
theorem jq0:tt 119=some ⟨.strct true [(0,4),(1,3),(2,3)],3,24,[(.bool false),(.int .i64 0),(.int .i64 0)]⟩:=rfl
theorem jjd:aj Try.prog 120 jgo:=ak (z:= .agg #[(.int .i64 0),(.int .i64 0)]) (by kernel_rfl) Try.underlying120 rfl rfl (by exact fun _=>⟨by kernel_rfl,by kernel_rfl,by kernel_rfl⟩) (fun h=>by cases h)
theorem jq1:tt 120=some ⟨.strct true [(0,3),(1,3)],2,16,[(.int .i64 0),(.int .i64 0)]⟩:=rfl
theorem jje:aj Try.prog 121 jgp:=ak (z:= .agg #[(.int .i64 0),(.int .i64 0)]) (by kernel_rfl) Try.underlying121 rfl rfl (by exact fun _=>⟨by kernel_rfl,by kernel_rfl,by kernel_rfl⟩) (fun h=>by cases h)
theorem jq2:tt 121=some ⟨.strct true [(0,3),(1,3)],2,16,[(.int .i64 0),(.int .i64 0)]⟩:=rfl
theorem jjf:aj Try.prog 123 jgq:=ak (z:= .nilFunc) (by kernel_rfl) Try.underlying123 rfl rfl (by intro h;cases h) (fun h=>by cases h)
theorem jq3:tt 123=some ⟨.other,1,8,[.nilFunc]⟩:=rfl
theorem jjg:aj Try.prog 124 jgr:=ak (z:= .nilFunc) (by kernel_rfl) Try.underlying124 rfl rfl (by intro h;cases h) (fun h=>by cases h)
theorem jq4:tt 124=some ⟨.other,1,8,[.nilFunc]⟩:=rfl
theorem jjh:aj Try.prog 125 jgs:=ak (z:= .agg #[(.int .i64 0),(.int .i64 0),(.int .i64 0)]) (by kernel_rfl) Try.underlying125 rfl rfl (by exact fun _=>⟨by kernel_rfl,by kernel_rfl,by kernel_rfl⟩) (fun h=>by cases h)
theorem jq5:tt 125=some ⟨.strct true [(0,3),(1,3),(2,3)],3,24,[(.int .i64 0),(.int .i64 0),(.int .i64 0)]⟩:=rfl
theorem jji:aj Try.prog 126 jgt:=ak (z:= .agg #[(.int .i64 0),(.int .i64 0),(.int .i64 0)]) (by kernel_rfl) Try.underlying126 rfl rfl (by exact fun _=>⟨by kernel_rfl,by kernel_rfl,by kernel_rfl⟩) (fun h=>by cases h)
theorem jq6:tt 126=some ⟨.strct true [(0,3),(1,3),(2,3)],3,24,[(.int .i64 0),(.int .i64 0),(.int .i64 0)]⟩:=rfl
theorem jjj:aj Try.prog 127 jgu:=ak (z:= .nilFunc) (by kernel_rfl) Try.underlying127 rfl rfl (by intro h;cases h) (fun h=>by cases h)
theorem jq7:tt 127=some ⟨.other,1,8,[.nilFunc]⟩:=rfl
theorem jjk:aj Try.prog 128 jgv:=ak (z:=(.map none)) (by kernel_rfl) Try.underlying128 rfl rfl (by intro h;cases h) (fun h=>by cases h)
theorem jq8:tt 128=some ⟨.map 3 4,1,8,[(.map none)]⟩:=rfl
theorem jjl:aj Try.prog 129 jgw:=ak (z:= .nilFunc) (by kernel_rfl) Try.underlying129 rfl rfl (by intro h;cases h) (fun h=>by cases h)
theorem jq9:tt 129=some ⟨.other,1,8,[.nilFunc]⟩:=rfl
theorem jjm:aj Try.prog 131 jgx:=ak (z:= .nilFunc) (by kernel_rfl) Try.underlying131 rfl rfl (by intro h;cases h) (fun h=>by cases h)
theorem jra:tt 131=some ⟨.other,1,8,[.nilFunc]⟩:=rfl
theorem jjn:aj Try.prog 132 jgy:=ak (z:= .nilFunc) (by kernel_rfl) Try.underlying132 rfl rfl (by intro h;cases h) (fun h=>by cases h)
theorem jrb:tt 132=some ⟨.other,1,8,[.nilFunc]⟩:=rfl
theorem jjo:aj Try.prog 133 jgz:=ak (z:= .nilFunc) (by kernel_rfl) Try.underlying133 rfl rfl (by intro h;cases h) (fun h=>by cases h)
theorem jrc:tt 133=some ⟨.other,1,8,[.nilFunc]⟩:=rfl
theorem jjp:aj Try.prog 134 jg0:=ak (z:= .nilFunc) (by kernel_rfl) Try.underlying134 rfl rfl (by intro h;cases h) (fun h=>by cases h)
theorem jrd:tt 134=some ⟨.other,1,8,[.nilFunc]⟩:=rfl
theorem jjq:aj Try.prog 135 jg1:=ak (z:= .nilFunc) (by kernel_rfl) Try.underlying135 rfl rfl (by intro h;cases h) (fun h=>by cases h)
theorem jre:tt 135=some ⟨.other,1,8,[.nilFunc]⟩:=rfl
theorem jjr:aj Try.prog 136 jg2:=ak (z:= .nilFunc) (by kernel_rfl) Try.underlying136 rfl rfl (by intro h;cases h) (fun h=>by cases h)
theorem jrf:tt 136=some ⟨.other,1,8,[.nilFunc]⟩:=rfl
theorem jjs:aj Try.prog 137 jg3:=ak (z:= .nilFunc) (by kernel_rfl) Try.underlying137 rfl rfl (by intro h;cases h) (fun h=>by cases h)
theorem jrg:tt 137=some ⟨.other,1,8,[.nilFunc]⟩:=rfl
theorem jjt:aj Try.prog 138 jg4:=ak (z:= .nilFunc) (by kernel_rfl) Try.underlying138 rfl rfl (by intro h;cases h) (fun h=>by cases h)
theorem jrh:tt 138=some ⟨.other,1,8,[.nilFunc]⟩:=rfl
theorem jju:aj Try.prog 140 jg5:=ak (z:= .nilFunc) (by kernel_rfl) Try.underlying140 rfl rfl (by intro h;cases h) (fun h=>by cases h)
theorem jri:tt 140=some ⟨.other,1,8,[.nilFunc]⟩:=rfl
theorem jjv:aj Try.prog 141 jg6:=ak (z:= .nilFunc) (by kernel_rfl) Try.underlying141 rfl rfl (by intro h;cases h) (fun h=>by cases h)
theorem jrj:tt 141=some ⟨.other,1,8,[.nilFunc]⟩:=rfl
theorem jjw:aj Try.prog 142 jg7:=ak (z:=(.map none)) (by kernel_rfl) Try.underlying142 rfl rfl (by intro h;cases h) (fun h=>by cases h)
theorem jrk:tt 142=some ⟨.map 9 3,1,8,[(.map none)]⟩:=rfl
theorem jjx:aj Try.prog 143 jg8:=ak (z:= .nilFunc) (by kernel_rfl) Try.underlying143 rfl rfl (by intro h;cases h) (fun h=>by cases h)
theorem jrl:tt 143=some ⟨.other,1,8,[.nilFunc]⟩:=rfl
theorem jjy:aj Try.prog 144 jg9:=ak (z:= .nilFunc) (by kernel_rfl) Try.underlying144 rfl rfl (by intro h;cases h) (fun h=>by cases h)
theorem jrm:tt 144=some ⟨.other,1,8,[.nilFunc]⟩:=rfl
theorem jjz:aj Try.prog 145 jha:=ak (z:=(.int .u64 0)) (by kernel_rfl) Try.underlying145 rfl rfl (by intro h;cases h) (fun _=>rfl)
theorem jrn:tt 145=some ⟨.int .u64,1,8,[(.int .u64 0)]⟩:=rfl
theorem jj0:aj Try.prog 147 jhb:=ak (z:= .nilFunc) (by kernel_rfl) Try.underlying147 rfl rfl (by intro h;cases h) (fun h=>by cases h)
theorem jro:tt 147=some ⟨.other,1,8,[.nilFunc]⟩:=rfl
theorem jj1:aj Try.prog 148 jhc:=ak (z:=(.int .u32 0)) (by kernel_rfl) Try.underlying148 rfl rfl (by intro h;cases h) (fun _=>rfl)
theorem jrp:tt 148=some ⟨.int .u32,1,4,[(.int .u32 0)]⟩:=rfl
theorem jj2:aj Try.prog 150 jhd:=ak (z:= .nilFunc) (by kernel_rfl) Try.underlying150 rfl rfl (by intro h;cases h) (fun h=>by cases h)
theorem jrq:tt 150=some ⟨.other,1,8,[.nilFunc]⟩:=rfl
theorem jj3:aj Try.prog 151 jhe:=ak (z:=(.int .u64 0)) (by kernel_rfl) Try.underlying151 rfl rfl (by intro h;cases h) (fun _=>rfl)
theorem jrr:tt 151=some ⟨.int .u64,1,8,[(.int .u64 0)]⟩:=rfl
theorem jj4:aj Try.prog 153 jhf:=ak (z:= .nilFunc) (by kernel_rfl) Try.underlying153 rfl rfl (by intro h;cases h) (fun h=>by cases h)
theorem jrs:tt 153=some ⟨.other,1,8,[.nilFunc]⟩:=rfl
theorem jj5:aj Try.prog 154 jhg:=ak (z:= .nilFunc) (by kernel_rfl) Try.underlying154 rfl rfl (by intro h;cases h) (fun h=>by cases h)
theorem jrt:tt 154=some ⟨.other,1,8,[.nilFunc]⟩:=rfl
theorem jj6:aj Try.prog 155 jhh:=ak (z:= .agg #[(.pointer none),(.pointer none),(.pointer none),(.string ⟨#[]⟩)]) (by kernel_rfl) Try.underlying155 rfl rfl (by intro h;cases h) (fun h=>by cases h)
theorem jru:tt 155=some ⟨.strct false [(0,17),(1,17),(2,17),(3,9)],4,40,[(.pointer none),(.pointer none),(.pointer none),(.string ⟨#[]⟩)]⟩:=rfl
theorem jj7:aj Try.prog 156 jhi:=ak (z:= .agg #[(.pointer none),(.pointer none),(.pointer none),(.string ⟨#[]⟩)]) (by kernel_rfl) Try.underlying156 rfl rfl (by intro h;cases h) (fun h=>by cases h)
theorem jrv:tt 156=some ⟨.strct false [(0,17),(1,17),(2,17),(3,9)],4,40,[(.pointer none),(.pointer none),(.pointer none),(.string ⟨#[]⟩)]⟩:=rfl
theorem jj8:aj Try.prog 157 jhj:=ak (z:= .agg #[]) (by kernel_rfl) Try.underlying157 rfl rfl (by intro h;cases h) (fun h=>by cases h)
theorem jrw:tt 157=some ⟨.arr false 0 16,0,0,[]⟩:=rfl
theorem jj9:aj Try.prog 158 jhk:=ak (z:= .agg #[]) (by kernel_rfl) Try.underlying158 rfl rfl (by intro h;cases h) (fun h=>by cases h)
theorem jrx:tt 158=some ⟨.strct false [(0,157)],0,0,[]⟩:=rfl
theorem jka:aj Try.prog 159 jhl:=ak (z:= .agg #[]) (by kernel_rfl) Try.underlying159 rfl rfl (by intro h;cases h) (fun h=>by cases h)
theorem jry:tt 159=some ⟨.strct false [(0,157)],0,0,[]⟩:=rfl
theorem jkb:aj Try.prog 160 jhm:=ak (z:= .nilFunc) (by kernel_rfl) Try.underlying160 rfl rfl (by intro h;cases h) (fun h=>by cases h)
theorem jrz:tt 160=some ⟨.other,1,8,[.nilFunc]⟩:=rfl
theorem jkc:aj Try.prog 161 jhn:=ak (z:=(.int .u8 0)) (by kernel_rfl) Try.underlying161 rfl rfl (by intro h;cases h) (fun _=>rfl)
theorem jr0:tt 161=some ⟨.int .u8,1,1,[(.int .u8 0)]⟩:=rfl
theorem jkd:aj Try.prog 162 jho:=ak (z:=(.int .u8 0)) (by kernel_rfl) Try.underlying162 rfl rfl (by intro h;cases h) (fun _=>rfl)
theorem jr1:tt 162=some ⟨.int .u8,1,1,[(.int .u8 0)]⟩:=rfl
theorem jke:aj Try.prog 163 jhp:=ak (z:= .nilFunc) (by kernel_rfl) Try.underlying163 rfl rfl (by intro h;cases h) (fun h=>by cases h)
theorem jr2:tt 163=some ⟨.other,1,8,[.nilFunc]⟩:=rfl
theorem jkf:aj Try.prog 164 jhq:=ak (z:=(.pointer none)) (by kernel_rfl) Try.underlying164 rfl rfl (by intro h;cases h) (fun h=>by cases h)
theorem jr3:tt 164=some ⟨.other,1,8,[(.pointer none)]⟩:=rfl
theorem jkg:aj Try.prog 165 jhr:=ak (z:=(.int .i32 0)) (by kernel_rfl) Try.underlying165 rfl rfl (by intro h;cases h) (fun _=>rfl)
theorem jr4:tt 165=some ⟨.int .i32,1,4,[(.int .i32 0)]⟩:=rfl
theorem jkh:aj Try.prog 166 jhs:=ak (z:=(.int .i32 0)) (by kernel_rfl) Try.underlying166 rfl rfl (by intro h;cases h) (fun _=>rfl)
theorem jr5:tt 166=some ⟨.int .i32,1,4,[(.int .i32 0)]⟩:=rfl
theorem jki:aj Try.prog 167 jht:=ak (z:= .agg #[(.int .u64 0),(.int .u64 0),(.int .u32 0),(.int .u8 0),(.int .u8 0),(.int .u8 0),(.int .u8 0), .nilFunc,(.pointer none),(.int .i32 0),(.int .i32 0)]) (by kernel_rfl) Try.underlying167 rfl rfl (by intro h;cases h) (fun h=>by cases h)
theorem jr6:tt 167=some ⟨.strct false [(0,12),(1,12),(2,148),(3,161),(4,5),(5,5),(6,162),(7,163),(8,164),(9,165),(10,166)],11,48,[(.int .u64 0),(.int .u64 0),(.int .u32 0),(.int .u8 0),(.int .u8 0),(.int .u8 0),(.int .u8 0), .nilFunc,(.pointer none),(.int .i32 0),(.int .i32 0)]⟩:=rfl
theorem jkj:aj Try.prog 168 jhu:=ak (z:= .agg #[(.int .u64 0),(.int .u64 0),(.int .u32 0),(.int .u8 0),(.int .u8 0),(.int .u8 0),(.int .u8 0), .nilFunc,(.pointer none),(.int .i32 0),(.int .i32 0)]) (by kernel_rfl) Try.underlying168 rfl rfl (by intro h;cases h) (fun h=>by cases h)
theorem jr7:tt 168=some ⟨.strct false [(0,12),(1,12),(2,148),(3,161),(4,5),(5,5),(6,162),(7,163),(8,164),(9,165),(10,166)],11,48,[(.int .u64 0),(.int .u64 0),(.int .u32 0),(.int .u8 0),(.int .u8 0),(.int .u8 0),(.int .u8 0), .nilFunc,(.pointer none),(.int .i32 0),(.int .i32 0)]⟩:=rfl
theorem jkk:aj Try.prog 169 jhv:=ak (z:=(.pointer none)) (by kernel_rfl) Try.underlying169 rfl rfl (by intro h;cases h) (fun h=>by cases h)
theorem jr8:tt 169=some ⟨.other,1,8,[(.pointer none)]⟩:=rfl
set_option maxRecDepth 100000 in
theorem fits:dh Try.prog tt:=by
 intro t x h;unfold tt at h;split at h
 ·cases h;exact jsr
 ·cases h;exact jss
 ·cases h;exact jst
 ·cases h;exact jsu
 ·cases h;exact jsv
 ·cases h;exact jsw
 ·cases h;exact jsx
 ·cases h;exact jsy
 ·cases h;exact jsz
 ·cases h;exact jlt
 ·cases h;exact jlu
 ·cases h;exact jlv
 ·cases h;exact jlw
 ·cases h;exact jlx
 ·cases h;exact jly
 ·cases h;exact jlz
 ·cases h;exact jl0
 ·cases h;exact jl1
 ·cases h;exact jl2
 ·cases h;exact jl3
 ·cases h;exact jl4
 ·cases h;exact jl5
 ·cases h;exact jl6
 ·cases h;exact jl7
 ·cases h;exact jl8
 ·cases h;exact jl9
 ·cases h;exact jma
 ·cases h;exact jmb
 ·cases h;exact jmc
 ·cases h;exact jmd
 ·cases h;exact jme
 ·cases h;exact jmf
 ·cases h;exact jmg
 ·cases h;exact jmh
 ·cases h;exact jmi
 ·cases h;exact jmj
 ·cases h;exact jmk
 ·cases h;exact jml
 ·cases h;exact jmm
 ·cases h;exact jmn
 ·cases h;exact jmo
 ·cases h;exact jmp
 ·cases h;exact jmq
 ·cases h;exact jmr
 ·cases h;exact jms
 ·cases h;exact jmt
 ·cases h;exact jmu
 ·cases h;exact jmv
 ·cases h;exact jmw
 ·cases h;exact jmx
 ·cases h;exact jmy
 ·cases h;exact jmz
 ·cases h;exact jm0
 ·cases h;exact jm1
 ·cases h;exact jm2
 ·cases h;exact jm3
 ·cases h;exact jm4
 ·cases h;exact jm5
 ·cases h;exact jm6
 ·cases h;exact jm7
 ·cases h;exact jm8
 ·cases h;exact jm9
 ·cases h;exact jna
 ·cases h;exact jnb
 ·cases h;exact jnc
 ·cases h;exact jnd
 ·cases h;exact jne
 ·cases h;exact jnf
 ·cases h;exact jng
 ·cases h;exact jnh
 ·cases h;exact jni
 ·cases h;exact jnj
 ·cases h;exact jnk
 ·cases h;exact jnl
 ·cases h;exact jnm
 ·cases h;exact jnn
 ·cases h;exact jno
 ·cases h;exact jnp
 ·cases h;exact jnq
 ·cases h;exact jnr
 ·cases h;exact jns
 ·cases h;exact jnt
 ·cases h;exact jnu
 ·cases h;exact jnv
 ·cases h;exact jnw
 ·cases h;exact jnx
 ·cases h;exact jny
 ·cases h;exact jnz
 ·cases h;exact jit
 ·cases h;exact jiu
 ·cases h;exact jiv
 ·cases h;exact jiw
 ·cases h;exact jix
 ·cases h;exact jiy
 ·cases h;exact jiz
 ·cases h;exact ji0
 ·cases h;exact ji1
 ·cases h;exact ji2
 ·cases h;exact ji3
 ·cases h;exact ji4
 ·cases h;exact ji5
 ·cases h;exact ji6
 ·cases h;exact ji7
 ·cases h;exact ji8
 ·cases h;exact ji9
 ·cases h;exact jja
 ·cases h;exact jjb
 ·cases h;exact jjc
 ·cases h;exact jjd
 ·cases h;exact jje
 ·cases h;exact jjf
 ·cases h;exact jjg
 ·cases h;exact jjh
 ·cases h;exact jji
 ·cases h;exact jjj
 ·cases h;exact jjk
 ·cases h;exact jjl
 ·cases h;exact jjm
 ·cases h;exact jjn
 ·cases h;exact jjo
 ·cases h;exact jjp
 ·cases h;exact jjq
 ·cases h;exact jjr
 ·cases h;exact jjs
 ·cases h;exact jjt
 ·cases h;exact jju
 ·cases h;exact jjv
 ·cases h;exact jjw
 ·cases h;exact jjx
 ·cases h;exact jjy
 ·cases h;exact jjz
 ·cases h;exact jj0
 ·cases h;exact jj1
 ·cases h;exact jj2
 ·cases h;exact jj3
 ·cases h;exact jj4
 ·cases h;exact jj5
 ·cases h;exact jj6
 ·cases h;exact jj7
 ·cases h;exact jj8
 ·cases h;exact jj9
 ·cases h;exact jka
 ·cases h;exact jkb
 ·cases h;exact jkc
 ·cases h;exact jkd
 ·cases h;exact jke
 ·cases h;exact jkf
 ·cases h;exact jkg
 ·cases h;exact jkh
 ·cases h;exact jki
 ·cases h;exact jkj
 ·cases h;exact jkk
 ·cases h
theorem bi:Try.prog.follows .mixedOrders=true:=rfl
attribute [go_sem] tt1 tt2 tt3 tt4 tt5 tt6 tt7 tt8 tt9 js8 js9 jta jtb jtc jtd jte jtf jtg jth jti jtj jtk jtl jtm jtn jto jtp jtq jtr jts jtt jtu jtv jtw jtx jty jtz jt0 jt1 jt2 jt3 jt4 jt5 jt6 jt7 jt8 jt9 jua jub juc jud jue juf jug juh jui juj juk jul jum jun juo jup juq jur jus jut juu juv juw jux juy juz ju0 ju1 ju2 ju3 ju4 ju5 ju6 ju7 ju8 ju9 jva jvb jvc jvd jve jqh jqi jqj jqk jql jqm jqn jqo jqp jqq jqr jqs jqt jqu jqv jqw jqx jqy jqz jq0 jq1 jq2 jq3 jq4 jq5 jq6 jq7 jq8 jq9 jra jrb jrc jrd jre jrf jrg jrh jri jrj jrk jrl jrm jrn jro jrp jrq jrr jrs jrt jru jrv jrw jrx jry jrz jr0 jr1 jr2 jr3 jr4 jr5 jr6 jr7 jr8
end Go.Proofs.Ytokeielgplbdeaa
