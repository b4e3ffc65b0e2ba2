/-
  The types of this seat's program: a row a type (its kind, cells, bytes, the cells of its zero value), and that each row is the program's own. Made by program out of the translation.
-/
import Derived.Test.YtokeielgplbdeaaZ3KE
import Derived.Test.YtokeielgplbdeaaProg
import Derived.KernelRfl
set_option linter.all false
namespace Go.Proofs.Ytokeielgplbdeaa
open Go.K Go.M
theorem ak{P:Program}{t:TypeId}{k:TK}{sz by_:Nat}{zs:List Value}{z:Value}{d:TypeDesc}(h1:(P.info? t).map (fun i=>(i.zero,i.size,i.bytes))=some (some z,sz,by_))(h2:P.underlying t=some d)(h3:TK.of d=k.plain)(h4:z.cells.toList=zs)(h5:k.cmp=true→Cmp P t)(h6:k.one=true→zs=[z]):aj P t ⟨k,sz,by_,zs⟩:=by
 cases hi:P.info? t with
 |none=>simp[hi]at h1
 |some i=>
  simp only[hi,Option.map_some,Option.some.injEq,Prod.mk.injEq]at h1;exact⟨⟨i,d,z,hi,h2,h3,h1.2.1,h1.2.2,h1.1,h4⟩,h5,fun e=>⟨i,z,hi,h1.1,h6 e⟩⟩
def ti1:TI:=⟨.other,1,8,[.nilFunc]⟩
def ti2:TI:=⟨.int .i64,1,8,[(.int .i64 0)]⟩
def ti3:TI:=⟨.int .i64,1,8,[(.int .i64 0)]⟩
def ti4:TI:=⟨.bool,1,1,[(.bool false)]⟩
def ti5:TI:=⟨.int .u8,1,1,[(.int .u8 0)]⟩
def ti6:TI:=⟨.int .u8,1,1,[(.int .u8 0)]⟩
def ti7:TI:=⟨.strct true [(0,2),(1,3),(2,4),(3,6)],4,24,[(.int .i64 0),(.int .i64 0),(.bool false),(.int .u8 0)]⟩
def ti8:TI:=⟨.strct true [(0,2),(1,3),(2,4),(3,6)],4,24,[(.int .i64 0),(.int .i64 0),(.bool false),(.int .u8 0)]⟩
def ti9:TI:=⟨.str,1,16,[(.string ⟨#[]⟩)]⟩
def jo3:TI:=⟨.str,1,16,[(.string ⟨#[]⟩)]⟩
def jo4:TI:=⟨.str,1,16,[(.string ⟨#[]⟩)]⟩
def jo5:TI:=⟨.int .u64,1,8,[(.int .u64 0)]⟩
def jo6:TI:=⟨.strct false [(0,9),(1,12)],2,24,[(.string ⟨#[]⟩),(.int .u64 0)]⟩
def jo7:TI:=⟨.strct false [(0,9),(1,12)],2,24,[(.string ⟨#[]⟩),(.int .u64 0)]⟩
def jo8:TI:=⟨.other,1,8,[(.pointer none)]⟩
def jo9:TI:=⟨.other,1,8,[(.pointer none)]⟩
def jpa:TI:=⟨.other,1,8,[(.pointer none)]⟩
def jpb:TI:=⟨.strct false [(0,17)],1,8,[(.pointer none)]⟩
def jpc:TI:=⟨.strct false [(0,17)],1,8,[(.pointer none)]⟩
def jpd:TI:=⟨.other,1,16,[.nilIface]⟩
def jpe:TI:=⟨.int .i32,1,4,[(.int .i32 0)]⟩
def jpf:TI:=⟨.slice 68,1,24,[(.slice none 0 0)]⟩
def jpg:TI:=⟨.strct false [(0,3),(1,22),(2,3),(3,3)],4,48,[(.int .i64 0),(.slice none 0 0),(.int .i64 0),(.int .i64 0)]⟩
def jph:TI:=⟨.strct false [(0,3),(1,22),(2,3),(3,3)],4,48,[(.int .i64 0),(.slice none 0 0),(.int .i64 0),(.int .i64 0)]⟩
def jpi:TI:=⟨.slice 3,1,24,[(.slice none 0 0)]⟩
def jpj:TI:=⟨.slice 40,1,24,[(.slice none 0 0)]⟩
def jpk:TI:=⟨.other,1,8,[.nilFunc]⟩
def jpl:TI:=⟨.other,1,8,[.nilFunc]⟩
def jpm:TI:=⟨.int .i64,1,8,[(.int .i64 0)]⟩
def jpn:TI:=⟨.other,1,8,[.nilFunc]⟩
def jpo:TI:=⟨.other,1,8,[.nilFunc]⟩
def jpp:TI:=⟨.other,1,8,[.nilFunc]⟩
def jpq:TI:=⟨.other,1,8,[.nilFunc]⟩
def jpr:TI:=⟨.other,1,8,[.nilFunc]⟩
def jps:TI:=⟨.other,1,8,[.nilFunc]⟩
def jpt:TI:=⟨.slice 5,1,24,[(.slice none 0 0)]⟩
def jpu:TI:=⟨.strct true [(0,3),(1,3),(2,4)],3,24,[(.int .i64 0),(.int .i64 0),(.bool false)]⟩
def jpv:TI:=⟨.strct true [(0,3),(1,3),(2,4)],3,24,[(.int .i64 0),(.int .i64 0),(.bool false)]⟩
def jpw:TI:=⟨.other,1,8,[.nilFunc]⟩
def jpx:TI:=⟨.other,1,8,[.nilFunc]⟩
def jpy:TI:=⟨.other,1,8,[.nilFunc]⟩
def jpz:TI:=⟨.other,1,8,[.nilFunc]⟩
def jp0:TI:=⟨.other,1,8,[.nilFunc]⟩
def jp1:TI:=⟨.other,1,8,[.nilFunc]⟩
def jp2:TI:=⟨.other,1,8,[.nilFunc]⟩
def jp3:TI:=⟨.other,1,8,[.nilFunc]⟩
def jp4:TI:=⟨.other,1,8,[.nilFunc]⟩
def jp5:TI:=⟨.other,1,8,[.nilFunc]⟩
def jp6:TI:=⟨.other,1,8,[.nilFunc]⟩
def jp7:TI:=⟨.other,1,8,[.nilFunc]⟩
def jp8:TI:=⟨.other,1,8,[.nilFunc]⟩
def jp9:TI:=⟨.other,1,8,[.nilFunc]⟩
def jqa:TI:=⟨.other,1,8,[.nilFunc]⟩
def jqb:TI:=⟨.other,1,8,[.nilFunc]⟩
def jqc:TI:=⟨.other,1,8,[.nilFunc]⟩
def jqd:TI:=⟨.other,1,8,[.nilFunc]⟩
def jqe:TI:=⟨.other,1,8,[.nilFunc]⟩
def jqf:TI:=⟨.other,1,8,[.nilFunc]⟩
def jqg:TI:=⟨.strct false [(0,9),(1,25),(2,25)],3,64,[(.string ⟨#[]⟩),(.slice none 0 0),(.slice none 0 0)]⟩
def jqh:TI:=⟨.strct false [(0,9),(1,25),(2,25)],3,64,[(.string ⟨#[]⟩),(.slice none 0 0),(.slice none 0 0)]⟩
def jqi:TI:=⟨.other,1,8,[.nilFunc]⟩
def jqj:TI:=⟨.other,1,8,[.nilFunc]⟩
def jqk:TI:=⟨.other,1,8,[.nilFunc]⟩
def jql:TI:=⟨.other,1,8,[.nilFunc]⟩
def jqm:TI:=⟨.other,1,8,[.nilFunc]⟩
def jqn:TI:=⟨.other,1,8,[.nilFunc]⟩
def jqo:TI:=⟨.map 3 115,1,8,[(.map none)]⟩
def jqp:TI:=⟨.strct false [(0,75),(1,3),(2,3)],3,24,[(.map none),(.int .i64 0),(.int .i64 0)]⟩
def jqq:TI:=⟨.strct false [(0,75),(1,3),(2,3)],3,24,[(.map none),(.int .i64 0),(.int .i64 0)]⟩
def jqr:TI:=⟨.other,1,8,[.nilFunc]⟩
def jqs:TI:=⟨.other,1,8,[.nilFunc]⟩
def jqt:TI:=⟨.other,1,8,[.nilFunc]⟩
def jqu:TI:=⟨.other,1,8,[.nilFunc]⟩
def jqv:TI:=⟨.slice 25,1,24,[(.slice none 0 0)]⟩
def jqw:TI:=⟨.slice 126,1,24,[(.slice none 0 0)]⟩
def jqx:TI:=⟨.strct false [(0,84),(1,85),(2,4)],3,56,[(.slice none 0 0),(.slice none 0 0),(.bool false)]⟩
def jqy:TI:=⟨.strct false [(0,84),(1,85),(2,4)],3,56,[(.slice none 0 0),(.slice none 0 0),(.bool false)]⟩
def jqz:TI:=⟨.slice 4,1,24,[(.slice none 0 0)]⟩
def jq0:TI:=⟨.strct false [(0,87),(3,3),(4,88)],5,88,[(.slice none 0 0),(.slice none 0 0),(.bool false),(.int .i64 0),(.slice none 0 0)]⟩
def jq1:TI:=⟨.strct false [(0,87),(3,3),(4,88)],5,88,[(.slice none 0 0),(.slice none 0 0),(.bool false),(.int .i64 0),(.slice none 0 0)]⟩
def jq2:TI:=⟨.other,1,8,[.nilFunc]⟩
def jq3:TI:=⟨.other,1,8,[.nilFunc]⟩
def jq4:TI:=⟨.other,1,8,[.nilFunc]⟩
def jq5:TI:=⟨.other,1,8,[.nilFunc]⟩
def jq6:TI:=⟨.other,1,8,[.nilFunc]⟩
def jq7:TI:=⟨.other,1,8,[.nilFunc]⟩
def jq8:TI:=⟨.other,1,8,[.nilFunc]⟩
def jq9:TI:=⟨.other,1,8,[.nilFunc]⟩
def jgy:TI:=⟨.other,1,8,[.nilFunc]⟩
def jgz:TI:=⟨.other,1,8,[.nilFunc]⟩
def jg0:TI:=⟨.other,1,8,[.nilFunc]⟩
def jg1:TI:=⟨.other,1,8,[.nilFunc]⟩
def jg2:TI:=⟨.other,1,8,[.nilFunc]⟩
def jg3:TI:=⟨.strct true [(0,3),(1,3),(2,4)],3,24,[(.int .i64 0),(.int .i64 0),(.bool false)]⟩
def jg4:TI:=⟨.strct true [(0,3),(1,3),(2,4)],3,24,[(.int .i64 0),(.int .i64 0),(.bool false)]⟩
def jg5:TI:=⟨.slice 106,1,24,[(.slice none 0 0)]⟩
def jg6:TI:=⟨.other,1,8,[.nilFunc]⟩
def jg7:TI:=⟨.other,1,8,[.nilFunc]⟩
def jg8:TI:=⟨.other,1,8,[.nilFunc]⟩
def jg9:TI:=⟨.other,1,8,[.nilFunc]⟩
def jha:TI:=⟨.other,1,8,[.nilFunc]⟩
def jhb:TI:=⟨.other,1,8,[.nilFunc]⟩
def jhc:TI:=⟨.other,1,8,[.nilFunc]⟩
def jhd:TI:=⟨.slice 121,1,24,[(.slice none 0 0)]⟩
def jhe:TI:=⟨.slice 119,1,24,[(.slice none 0 0)]⟩
def jhf:TI:=⟨.other,1,8,[.nilFunc]⟩
def jhg:TI:=⟨.strct true [(0,4),(1,3),(2,3)],3,24,[(.bool false),(.int .i64 0),(.int .i64 0)]⟩
def jhh:TI:=⟨.strct true [(0,4),(1,3),(2,3)],3,24,[(.bool false),(.int .i64 0),(.int .i64 0)]⟩
def jhi:TI:=⟨.strct true [(0,3),(1,3)],2,16,[(.int .i64 0),(.int .i64 0)]⟩
def jhj:TI:=⟨.strct true [(0,3),(1,3)],2,16,[(.int .i64 0),(.int .i64 0)]⟩
def jhk:TI:=⟨.other,1,8,[.nilFunc]⟩
def jhl:TI:=⟨.other,1,8,[.nilFunc]⟩
def jhm:TI:=⟨.strct true [(0,3),(1,3),(2,3)],3,24,[(.int .i64 0),(.int .i64 0),(.int .i64 0)]⟩
def jhn:TI:=⟨.strct true [(0,3),(1,3),(2,3)],3,24,[(.int .i64 0),(.int .i64 0),(.int .i64 0)]⟩
def jho:TI:=⟨.other,1,8,[.nilFunc]⟩
def jhp:TI:=⟨.map 3 4,1,8,[(.map none)]⟩
def jhq:TI:=⟨.other,1,8,[.nilFunc]⟩
def jhr:TI:=⟨.other,1,8,[.nilFunc]⟩
def jhs:TI:=⟨.other,1,8,[.nilFunc]⟩
def jht:TI:=⟨.other,1,8,[.nilFunc]⟩
def jhu:TI:=⟨.other,1,8,[.nilFunc]⟩
def jhv:TI:=⟨.other,1,8,[.nilFunc]⟩
def jhw:TI:=⟨.other,1,8,[.nilFunc]⟩
def jhx:TI:=⟨.other,1,8,[.nilFunc]⟩
def jhy:TI:=⟨.other,1,8,[.nilFunc]⟩
def jhz:TI:=⟨.other,1,8,[.nilFunc]⟩
def jh0:TI:=⟨.other,1,8,[.nilFunc]⟩
def jh1:TI:=⟨.map 9 3,1,8,[(.map none)]⟩
def jh2:TI:=⟨.other,1,8,[.nilFunc]⟩
def jh3:TI:=⟨.other,1,8,[.nilFunc]⟩
def jh4:TI:=⟨.int .u64,1,8,[(.int .u64 0)]⟩
def jh5:TI:=⟨.other,1,8,[.nilFunc]⟩
def jh6:TI:=⟨.int .u32,1,4,[(.int .u32 0)]⟩
def jh7:TI:=⟨.other,1,8,[.nilFunc]⟩
def jh8:TI:=⟨.int .u64,1,8,[(.int .u64 0)]⟩
def jh9:TI:=⟨.other,1,8,[.nilFunc]⟩
def jia:TI:=⟨.other,1,8,[.nilFunc]⟩
def jib:TI:=⟨.strct false [(0,17),(1,17),(2,17),(3,9)],4,40,[(.pointer none),(.pointer none),(.pointer none),(.string ⟨#[]⟩)]⟩
def jic:TI:=⟨.strct false [(0,17),(1,17),(2,17),(3,9)],4,40,[(.pointer none),(.pointer none),(.pointer none),(.string ⟨#[]⟩)]⟩
def jid:TI:=⟨.arr false 0 16,0,0,[]⟩
def jie:TI:=⟨.strct false [(0,157)],0,0,[]⟩
def jif:TI:=⟨.strct false [(0,157)],0,0,[]⟩
def jig:TI:=⟨.other,1,8,[.nilFunc]⟩
def jih:TI:=⟨.int .u8,1,1,[(.int .u8 0)]⟩
def jii:TI:=⟨.int .u8,1,1,[(.int .u8 0)]⟩
def jij:TI:=⟨.other,1,8,[.nilFunc]⟩
def jik:TI:=⟨.other,1,8,[(.pointer none)]⟩
def jil:TI:=⟨.int .i32,1,4,[(.int .i32 0)]⟩
def jim:TI:=⟨.int .i32,1,4,[(.int .i32 0)]⟩
def jin:TI:=⟨.strct false [(0,12),(1,12),(2,148),(3,161),(4,5),(5,5),(6,162),(7,163),(8,164),(9,165),(10,166)],11,48,[(.int .u64 0),(.int .u64 0),(.int .u32 0),(.int .u8 0),(.int .u8 0),(.int .u8 0),(.int .u8 0), .nilFunc,(.pointer none),(.int .i32 0),(.int .i32 0)]⟩
def jio:TI:=⟨.strct false [(0,12),(1,12),(2,148),(3,161),(4,5),(5,5),(6,162),(7,163),(8,164),(9,165),(10,166)],11,48,[(.int .u64 0),(.int .u64 0),(.int .u32 0),(.int .u8 0),(.int .u8 0),(.int .u8 0),(.int .u8 0), .nilFunc,(.pointer none),(.int .i32 0),(.int .i32 0)]⟩
def jip:TI:=⟨.other,1,8,[(.pointer none)]⟩
def tt:TT
 |1=>some ti1
 |2=>some ti2
 |3=>some ti3
 |4=>some ti4
 |5=>some ti5
 |6=>some ti6
 |7=>some ti7
 |8=>some ti8
 |9=>some ti9
 |10=>some jo3
 |11=>some jo4
 |12=>some jo5
 |13=>some jo6
 |14=>some jo7
 |15=>some jo8
 |16=>some jo9
 |17=>some jpa
 |18=>some jpb
 |19=>some jpc
 |20=>some jpd
 |21=>some jpe
 |22=>some jpf
 |23=>some jpg
 |24=>some jph
 |25=>some jpi
 |26=>some jpj
 |27=>some jpk
 |28=>some jpl
 |29=>some jpm
 |31=>some jpn
 |33=>some jpo
 |34=>some jpp
 |35=>some jpq
 |36=>some jpr
 |37=>some jps
 |38=>some jpt
 |39=>some jpu
 |40=>some jpv
 |42=>some jpw
 |43=>some jpx
 |45=>some jpy
 |46=>some jpz
 |47=>some jp0
 |48=>some jp1
 |49=>some jp2
 |50=>some jp3
 |51=>some jp4
 |53=>some jp5
 |54=>some jp6
 |55=>some jp7
 |57=>some jp8
 |59=>some jp9
 |60=>some jqa
 |61=>some jqb
 |63=>some jqc
 |64=>some jqd
 |65=>some jqe
 |66=>some jqf
 |67=>some jqg
 |68=>some jqh
 |69=>some jqi
 |70=>some jqj
 |71=>some jqk
 |72=>some jql
 |73=>some jqm
 |74=>some jqn
 |75=>some jqo
 |76=>some jqp
 |77=>some jqq
 |79=>some jqr
 |81=>some jqs
 |82=>some jqt
 |83=>some jqu
 |84=>some jqv
 |85=>some jqw
 |86=>some jqx
 |87=>some jqy
 |88=>some jqz
 |89=>some jq0
 |90=>some jq1
 |92=>some jq2
 |93=>some jq3
 |94=>some jq4
 |95=>some jq5
 |96=>some jq6
 |97=>some jq7
 |98=>some jq8
 |99=>some jq9
 |100=>some jgy
 |101=>some jgz
 |102=>some jg0
 |103=>some jg1
 |104=>some jg2
 |105=>some jg3
 |106=>some jg4
 |107=>some jg5
 |108=>some jg6
 |109=>some jg7
 |110=>some jg8
 |111=>some jg9
 |112=>some jha
 |113=>some jhb
 |114=>some jhc
 |115=>some jhd
 |116=>some jhe
 |117=>some jhf
 |118=>some jhg
 |119=>some jhh
 |120=>some jhi
 |121=>some jhj
 |123=>some jhk
 |124=>some jhl
 |125=>some jhm
 |126=>some jhn
 |127=>some jho
 |128=>some jhp
 |129=>some jhq
 |131=>some jhr
 |132=>some jhs
 |133=>some jht
 |134=>some jhu
 |135=>some jhv
 |136=>some jhw
 |137=>some jhx
 |138=>some jhy
 |140=>some jhz
 |141=>some jh0
 |142=>some jh1
 |143=>some jh2
 |144=>some jh3
 |145=>some jh4
 |147=>some jh5
 |148=>some jh6
 |150=>some jh7
 |151=>some jh8
 |153=>some jh9
 |154=>some jia
 |155=>some jib
 |156=>some jic
 |157=>some jid
 |158=>some jie
 |159=>some jif
 |160=>some jig
 |161=>some jih
 |162=>some jii
 |163=>some jij
 |164=>some jik
 |165=>some jil
 |166=>some jim
 |167=>some jin
 |168=>some jio
 |169=>some jip
 |_=>none
theorem jtk:aj Try.prog 1 ti1:=ak (z:= .nilFunc) (by kernel_rfl) Try.underlying1 rfl rfl (by intro h;cases h) (fun h=>by cases h)
theorem tt1:tt 1=some ⟨.other,1,8,[.nilFunc]⟩:=rfl
theorem jtl:aj Try.prog 2 ti2:=ak (z:=(.int .i64 0)) (by kernel_rfl) Try.underlying2 rfl rfl (by intro h;cases h) (fun _=>rfl)
theorem tt2:tt 2=some ⟨.int .i64,1,8,[(.int .i64 0)]⟩:=rfl
theorem jtm:aj Try.prog 3 ti3:=ak (z:=(.int .i64 0)) (by kernel_rfl) Try.underlying3 rfl rfl (by intro h;cases h) (fun _=>rfl)
theorem tt3:tt 3=some ⟨.int .i64,1,8,[(.int .i64 0)]⟩:=rfl
theorem jtn:aj Try.prog 4 ti4:=ak (z:=(.bool false)) (by kernel_rfl) Try.underlying4 rfl rfl (by intro h;cases h) (fun _=>rfl)
theorem tt4:tt 4=some ⟨.bool,1,1,[(.bool false)]⟩:=rfl
theorem jto:aj Try.prog 5 ti5:=ak (z:=(.int .u8 0)) (by kernel_rfl) Try.underlying5 rfl rfl (by intro h;cases h) (fun _=>rfl)
theorem tt5:tt 5=some ⟨.int .u8,1,1,[(.int .u8 0)]⟩:=rfl
theorem jtp:aj Try.prog 6 ti6:=ak (z:=(.int .u8 0)) (by kernel_rfl) Try.underlying6 rfl rfl (by intro h;cases h) (fun _=>rfl)
theorem tt6:tt 6=some ⟨.int .u8,1,1,[(.int .u8 0)]⟩:=rfl
theorem jtq:aj Try.prog 7 ti7:=ak (z:= .agg #[(.int .i64 0),(.int .i64 0),(.bool false),(.int .u8 0)]) (by kernel_rfl) Try.underlying7 rfl rfl (by exact fun _=>⟨by kernel_rfl,by kernel_rfl,by kernel_rfl⟩) (fun h=>by cases h)
theorem tt7:tt 7=some ⟨.strct true [(0,2),(1,3),(2,4),(3,6)],4,24,[(.int .i64 0),(.int .i64 0),(.bool false),(.int .u8 0)]⟩:=rfl
theorem jtr:aj Try.prog 8 ti8:=ak (z:= .agg #[(.int .i64 0),(.int .i64 0),(.bool false),(.int .u8 0)]) (by kernel_rfl) Try.underlying8 rfl rfl (by exact fun _=>⟨by kernel_rfl,by kernel_rfl,by kernel_rfl⟩) (fun h=>by cases h)
theorem tt8:tt 8=some ⟨.strct true [(0,2),(1,3),(2,4),(3,6)],4,24,[(.int .i64 0),(.int .i64 0),(.bool false),(.int .u8 0)]⟩:=rfl
theorem jts:aj Try.prog 9 ti9:=ak (z:=(.string ⟨#[]⟩)) (by kernel_rfl) Try.underlying9 rfl rfl (by intro h;cases h) (fun _=>rfl)
theorem tt9:tt 9=some ⟨.str,1,16,[(.string ⟨#[]⟩)]⟩:=rfl
theorem jmn:aj Try.prog 10 jo3:=ak (z:=(.string ⟨#[]⟩)) (by kernel_rfl) Try.underlying10 rfl rfl (by intro h;cases h) (fun _=>rfl)
theorem jt1:tt 10=some ⟨.str,1,16,[(.string ⟨#[]⟩)]⟩:=rfl
theorem jmo:aj Try.prog 11 jo4:=ak (z:=(.string ⟨#[]⟩)) (by kernel_rfl) Try.underlying11 rfl rfl (by intro h;cases h) (fun _=>rfl)
theorem jt2:tt 11=some ⟨.str,1,16,[(.string ⟨#[]⟩)]⟩:=rfl
theorem jmp:aj Try.prog 12 jo5:=ak (z:=(.int .u64 0)) (by kernel_rfl) Try.underlying12 rfl rfl (by intro h;cases h) (fun _=>rfl)
theorem jt3:tt 12=some ⟨.int .u64,1,8,[(.int .u64 0)]⟩:=rfl
theorem jmq:aj Try.prog 13 jo6:=ak (z:= .agg #[(.string ⟨#[]⟩),(.int .u64 0)]) (by kernel_rfl) Try.underlying13 rfl rfl (by intro h;cases h) (fun h=>by cases h)
theorem jt4:tt 13=some ⟨.strct false [(0,9),(1,12)],2,24,[(.string ⟨#[]⟩),(.int .u64 0)]⟩:=rfl
theorem jmr:aj Try.prog 14 jo7:=ak (z:= .agg #[(.string ⟨#[]⟩),(.int .u64 0)]) (by kernel_rfl) Try.underlying14 rfl rfl (by intro h;cases h) (fun h=>by cases h)
theorem jt5:tt 14=some ⟨.strct false [(0,9),(1,12)],2,24,[(.string ⟨#[]⟩),(.int .u64 0)]⟩:=rfl
theorem jms:aj Try.prog 15 jo8:=ak (z:=(.pointer none)) (by kernel_rfl) Try.underlying15 rfl rfl (by intro h;cases h) (fun h=>by cases h)
theorem jt6:tt 15=some ⟨.other,1,8,[(.pointer none)]⟩:=rfl
theorem jmt:aj Try.prog 16 jo9:=ak (z:=(.pointer none)) (by kernel_rfl) Try.underlying16 rfl rfl (by intro h;cases h) (fun h=>by cases h)
theorem jt7:tt 16=some ⟨.other,1,8,[(.pointer none)]⟩:=rfl
theorem jmu:aj Try.prog 17 jpa:=ak (z:=(.pointer none)) (by kernel_rfl) Try.underlying17 rfl rfl (by intro h;cases h) (fun h=>by cases h)
theorem jt8:tt 17=some ⟨.other,1,8,[(.pointer none)]⟩:=rfl
theorem jmv:aj Try.prog 18 jpb:=ak (z:= .agg #[(.pointer none)]) (by kernel_rfl) Try.underlying18 rfl rfl (by intro h;cases h) (fun h=>by cases h)
theorem jt9:tt 18=some ⟨.strct false [(0,17)],1,8,[(.pointer none)]⟩:=rfl
theorem jmw:aj Try.prog 19 jpc:=ak (z:= .agg #[(.pointer none)]) (by kernel_rfl) Try.underlying19 rfl rfl (by intro h;cases h) (fun h=>by cases h)
theorem jua:tt 19=some ⟨.strct false [(0,17)],1,8,[(.pointer none)]⟩:=rfl
theorem jmx:aj Try.prog 20 jpd:=ak (z:= .nilIface) (by kernel_rfl) Try.underlying20 rfl rfl (by intro h;cases h) (fun h=>by cases h)
theorem jub:tt 20=some ⟨.other,1,16,[.nilIface]⟩:=rfl
theorem jmy:aj Try.prog 21 jpe:=ak (z:=(.int .i32 0)) (by kernel_rfl) Try.underlying21 rfl rfl (by intro h;cases h) (fun _=>rfl)
theorem juc:tt 21=some ⟨.int .i32,1,4,[(.int .i32 0)]⟩:=rfl
theorem jmz:aj Try.prog 22 jpf:=ak (z:=(.slice none 0 0)) (by kernel_rfl) Try.underlying22 rfl rfl (by intro h;cases h) (fun _=>rfl)
theorem jud:tt 22=some ⟨.slice 68,1,24,[(.slice none 0 0)]⟩:=rfl
theorem jm0:aj Try.prog 23 jpg:=ak (z:= .agg #[(.int .i64 0),(.slice none 0 0),(.int .i64 0),(.int .i64 0)]) (by kernel_rfl) Try.underlying23 rfl rfl (by intro h;cases h) (fun h=>by cases h)
theorem jue:tt 23=some ⟨.strct false [(0,3),(1,22),(2,3),(3,3)],4,48,[(.int .i64 0),(.slice none 0 0),(.int .i64 0),(.int .i64 0)]⟩:=rfl
theorem jm1:aj Try.prog 24 jph:=ak (z:= .agg #[(.int .i64 0),(.slice none 0 0),(.int .i64 0),(.int .i64 0)]) (by kernel_rfl) Try.underlying24 rfl rfl (by intro h;cases h) (fun h=>by cases h)
theorem juf:tt 24=some ⟨.strct false [(0,3),(1,22),(2,3),(3,3)],4,48,[(.int .i64 0),(.slice none 0 0),(.int .i64 0),(.int .i64 0)]⟩:=rfl
theorem jm2:aj Try.prog 25 jpi:=ak (z:=(.slice none 0 0)) (by kernel_rfl) Try.underlying25 rfl rfl (by intro h;cases h) (fun _=>rfl)
theorem jug:tt 25=some ⟨.slice 3,1,24,[(.slice none 0 0)]⟩:=rfl
theorem jm3:aj Try.prog 26 jpj:=ak (z:=(.slice none 0 0)) (by kernel_rfl) Try.underlying26 rfl rfl (by intro h;cases h) (fun _=>rfl)
theorem juh:tt 26=some ⟨.slice 40,1,24,[(.slice none 0 0)]⟩:=rfl
theorem jm4:aj Try.prog 27 jpk:=ak (z:= .nilFunc) (by kernel_rfl) Try.underlying27 rfl rfl (by intro h;cases h) (fun h=>by cases h)
theorem jui:tt 27=some ⟨.other,1,8,[.nilFunc]⟩:=rfl
theorem jm5:aj Try.prog 28 jpl:=ak (z:= .nilFunc) (by kernel_rfl) Try.underlying28 rfl rfl (by intro h;cases h) (fun h=>by cases h)
theorem juj:tt 28=some ⟨.other,1,8,[.nilFunc]⟩:=rfl
theorem jm6:aj Try.prog 29 jpm:=ak (z:=(.int .i64 0)) (by kernel_rfl) Try.underlying29 rfl rfl (by intro h;cases h) (fun _=>rfl)
theorem juk:tt 29=some ⟨.int .i64,1,8,[(.int .i64 0)]⟩:=rfl
theorem jm7:aj Try.prog 31 jpn:=ak (z:= .nilFunc) (by kernel_rfl) Try.underlying31 rfl rfl (by intro h;cases h) (fun h=>by cases h)
theorem jul:tt 31=some ⟨.other,1,8,[.nilFunc]⟩:=rfl
theorem jm8:aj Try.prog 33 jpo:=ak (z:= .nilFunc) (by kernel_rfl) Try.underlying33 rfl rfl (by intro h;cases h) (fun h=>by cases h)
theorem jum:tt 33=some ⟨.other,1,8,[.nilFunc]⟩:=rfl
theorem jm9:aj Try.prog 34 jpp:=ak (z:= .nilFunc) (by kernel_rfl) Try.underlying34 rfl rfl (by intro h;cases h) (fun h=>by cases h)
theorem jun:tt 34=some ⟨.other,1,8,[.nilFunc]⟩:=rfl
theorem jna:aj Try.prog 35 jpq:=ak (z:= .nilFunc) (by kernel_rfl) Try.underlying35 rfl rfl (by intro h;cases h) (fun h=>by cases h)
theorem juo:tt 35=some ⟨.other,1,8,[.nilFunc]⟩:=rfl
theorem jnb:aj Try.prog 36 jpr:=ak (z:= .nilFunc) (by kernel_rfl) Try.underlying36 rfl rfl (by intro h;cases h) (fun h=>by cases h)
theorem jup:tt 36=some ⟨.other,1,8,[.nilFunc]⟩:=rfl
theorem jnc:aj Try.prog 37 jps:=ak (z:= .nilFunc) (by kernel_rfl) Try.underlying37 rfl rfl (by intro h;cases h) (fun h=>by cases h)
theorem juq:tt 37=some ⟨.other,1,8,[.nilFunc]⟩:=rfl
theorem jnd:aj Try.prog 38 jpt:=ak (z:=(.slice none 0 0)) (by kernel_rfl) Try.underlying38 rfl rfl (by intro h;cases h) (fun _=>rfl)
theorem jur:tt 38=some ⟨.slice 5,1,24,[(.slice none 0 0)]⟩:=rfl
theorem jne:aj Try.prog 39 jpu:=ak (z:= .agg #[(.int .i64 0),(.int .i64 0),(.bool false)]) (by kernel_rfl) Try.underlying39 rfl rfl (by exact fun _=>⟨by kernel_rfl,by kernel_rfl,by kernel_rfl⟩) (fun h=>by cases h)
theorem jus:tt 39=some ⟨.strct true [(0,3),(1,3),(2,4)],3,24,[(.int .i64 0),(.int .i64 0),(.bool false)]⟩:=rfl
theorem jnf:aj Try.prog 40 jpv:=ak (z:= .agg #[(.int .i64 0),(.int .i64 0),(.bool false)]) (by kernel_rfl) Try.underlying40 rfl rfl (by exact fun _=>⟨by kernel_rfl,by kernel_rfl,by kernel_rfl⟩) (fun h=>by cases h)
theorem jut:tt 40=some ⟨.strct true [(0,3),(1,3),(2,4)],3,24,[(.int .i64 0),(.int .i64 0),(.bool false)]⟩:=rfl
theorem jng:aj Try.prog 42 jpw:=ak (z:= .nilFunc) (by kernel_rfl) Try.underlying42 rfl rfl (by intro h;cases h) (fun h=>by cases h)
theorem juu:tt 42=some ⟨.other,1,8,[.nilFunc]⟩:=rfl
theorem jnh:aj Try.prog 43 jpx:=ak (z:= .nilFunc) (by kernel_rfl) Try.underlying43 rfl rfl (by intro h;cases h) (fun h=>by cases h)
theorem juv:tt 43=some ⟨.other,1,8,[.nilFunc]⟩:=rfl
theorem jni:aj Try.prog 45 jpy:=ak (z:= .nilFunc) (by kernel_rfl) Try.underlying45 rfl rfl (by intro h;cases h) (fun h=>by cases h)
theorem juw:tt 45=some ⟨.other,1,8,[.nilFunc]⟩:=rfl
theorem jnj:aj Try.prog 46 jpz:=ak (z:= .nilFunc) (by kernel_rfl) Try.underlying46 rfl rfl (by intro h;cases h) (fun h=>by cases h)
theorem jux:tt 46=some ⟨.other,1,8,[.nilFunc]⟩:=rfl
theorem jnk:aj Try.prog 47 jp0:=ak (z:= .nilFunc) (by kernel_rfl) Try.underlying47 rfl rfl (by intro h;cases h) (fun h=>by cases h)
theorem juy:tt 47=some ⟨.other,1,8,[.nilFunc]⟩:=rfl
theorem jnl:aj Try.prog 48 jp1:=ak (z:= .nilFunc) (by kernel_rfl) Try.underlying48 rfl rfl (by intro h;cases h) (fun h=>by cases h)
theorem juz:tt 48=some ⟨.other,1,8,[.nilFunc]⟩:=rfl
theorem jnm:aj Try.prog 49 jp2:=ak (z:= .nilFunc) (by kernel_rfl) Try.underlying49 rfl rfl (by intro h;cases h) (fun h=>by cases h)
theorem ju0:tt 49=some ⟨.other,1,8,[.nilFunc]⟩:=rfl
theorem jnn:aj Try.prog 50 jp3:=ak (z:= .nilFunc) (by kernel_rfl) Try.underlying50 rfl rfl (by intro h;cases h) (fun h=>by cases h)
theorem ju1:tt 50=some ⟨.other,1,8,[.nilFunc]⟩:=rfl
theorem jno:aj Try.prog 51 jp4:=ak (z:= .nilFunc) (by kernel_rfl) Try.underlying51 rfl rfl (by intro h;cases h) (fun h=>by cases h)
theorem ju2:tt 51=some ⟨.other,1,8,[.nilFunc]⟩:=rfl
theorem jnp:aj Try.prog 53 jp5:=ak (z:= .nilFunc) (by kernel_rfl) Try.underlying53 rfl rfl (by intro h;cases h) (fun h=>by cases h)
theorem ju3:tt 53=some ⟨.other,1,8,[.nilFunc]⟩:=rfl
theorem jnq:aj Try.prog 54 jp6:=ak (z:= .nilFunc) (by kernel_rfl) Try.underlying54 rfl rfl (by intro h;cases h) (fun h=>by cases h)
theorem ju4:tt 54=some ⟨.other,1,8,[.nilFunc]⟩:=rfl
theorem jnr:aj Try.prog 55 jp7:=ak (z:= .nilFunc) (by kernel_rfl) Try.underlying55 rfl rfl (by intro h;cases h) (fun h=>by cases h)
theorem ju5:tt 55=some ⟨.other,1,8,[.nilFunc]⟩:=rfl
theorem jns:aj Try.prog 57 jp8:=ak (z:= .nilFunc) (by kernel_rfl) Try.underlying57 rfl rfl (by intro h;cases h) (fun h=>by cases h)
theorem ju6:tt 57=some ⟨.other,1,8,[.nilFunc]⟩:=rfl
theorem jnt:aj Try.prog 59 jp9:=ak (z:= .nilFunc) (by kernel_rfl) Try.underlying59 rfl rfl (by intro h;cases h) (fun h=>by cases h)
theorem ju7:tt 59=some ⟨.other,1,8,[.nilFunc]⟩:=rfl
theorem jnu:aj Try.prog 60 jqa:=ak (z:= .nilFunc) (by kernel_rfl) Try.underlying60 rfl rfl (by intro h;cases h) (fun h=>by cases h)
theorem ju8:tt 60=some ⟨.other,1,8,[.nilFunc]⟩:=rfl
theorem jnv:aj Try.prog 61 jqb:=ak (z:= .nilFunc) (by kernel_rfl) Try.underlying61 rfl rfl (by intro h;cases h) (fun h=>by cases h)
theorem ju9:tt 61=some ⟨.other,1,8,[.nilFunc]⟩:=rfl
theorem jnw:aj Try.prog 63 jqc:=ak (z:= .nilFunc) (by kernel_rfl) Try.underlying63 rfl rfl (by intro h;cases h) (fun h=>by cases h)
theorem jva:tt 63=some ⟨.other,1,8,[.nilFunc]⟩:=rfl
theorem jnx:aj Try.prog 64 jqd:=ak (z:= .nilFunc) (by kernel_rfl) Try.underlying64 rfl rfl (by intro h;cases h) (fun h=>by cases h)
theorem jvb:tt 64=some ⟨.other,1,8,[.nilFunc]⟩:=rfl
theorem jny:aj Try.prog 65 jqe:=ak (z:= .nilFunc) (by kernel_rfl) Try.underlying65 rfl rfl (by intro h;cases h) (fun h=>by cases h)
theorem jvc:tt 65=some ⟨.other,1,8,[.nilFunc]⟩:=rfl
theorem jnz:aj Try.prog 66 jqf:=ak (z:= .nilFunc) (by kernel_rfl) Try.underlying66 rfl rfl (by intro h;cases h) (fun h=>by cases h)
theorem jvd:tt 66=some ⟨.other,1,8,[.nilFunc]⟩:=rfl
theorem jn0:aj Try.prog 67 jqg:=ak (z:= .agg #[(.string ⟨#[]⟩),(.slice none 0 0),(.slice none 0 0)]) (by kernel_rfl) Try.underlying67 rfl rfl (by intro h;cases h) (fun h=>by cases h)
theorem jve:tt 67=some ⟨.strct false [(0,9),(1,25),(2,25)],3,64,[(.string ⟨#[]⟩),(.slice none 0 0),(.slice none 0 0)]⟩:=rfl
theorem jn1:aj Try.prog 68 jqh:=ak (z:= .agg #[(.string ⟨#[]⟩),(.slice none 0 0),(.slice none 0 0)]) (by kernel_rfl) Try.underlying68 rfl rfl (by intro h;cases h) (fun h=>by cases h)
theorem jvf:tt 68=some ⟨.strct false [(0,9),(1,25),(2,25)],3,64,[(.string ⟨#[]⟩),(.slice none 0 0),(.slice none 0 0)]⟩:=rfl
theorem jn2:aj Try.prog 69 jqi:=ak (z:= .nilFunc) (by kernel_rfl) Try.underlying69 rfl rfl (by intro h;cases h) (fun h=>by cases h)
theorem jvg:tt 69=some ⟨.other,1,8,[.nilFunc]⟩:=rfl
theorem jn3:aj Try.prog 70 jqj:=ak (z:= .nilFunc) (by kernel_rfl) Try.underlying70 rfl rfl (by intro h;cases h) (fun h=>by cases h)
theorem jvh:tt 70=some ⟨.other,1,8,[.nilFunc]⟩:=rfl
theorem jn4:aj Try.prog 71 jqk:=ak (z:= .nilFunc) (by kernel_rfl) Try.underlying71 rfl rfl (by intro h;cases h) (fun h=>by cases h)
theorem jvi:tt 71=some ⟨.other,1,8,[.nilFunc]⟩:=rfl
theorem jn5:aj Try.prog 72 jql:=ak (z:= .nilFunc) (by kernel_rfl) Try.underlying72 rfl rfl (by intro h;cases h) (fun h=>by cases h)
theorem jvj:tt 72=some ⟨.other,1,8,[.nilFunc]⟩:=rfl
theorem jn6:aj Try.prog 73 jqm:=ak (z:= .nilFunc) (by kernel_rfl) Try.underlying73 rfl rfl (by intro h;cases h) (fun h=>by cases h)
theorem jvk:tt 73=some ⟨.other,1,8,[.nilFunc]⟩:=rfl
theorem jn7:aj Try.prog 74 jqn:=ak (z:= .nilFunc) (by kernel_rfl) Try.underlying74 rfl rfl (by intro h;cases h) (fun h=>by cases h)
theorem jvl:tt 74=some ⟨.other,1,8,[.nilFunc]⟩:=rfl
theorem jn8:aj Try.prog 75 jqo:=ak (z:=(.map none)) (by kernel_rfl) Try.underlying75 rfl rfl (by intro h;cases h) (fun h=>by cases h)
theorem jvm:tt 75=some ⟨.map 3 115,1,8,[(.map none)]⟩:=rfl
theorem jn9:aj Try.prog 76 jqp:=ak (z:= .agg #[(.map none),(.int .i64 0),(.int .i64 0)]) (by kernel_rfl) Try.underlying76 rfl rfl (by intro h;cases h) (fun h=>by cases h)
theorem jvn:tt 76=some ⟨.strct false [(0,75),(1,3),(2,3)],3,24,[(.map none),(.int .i64 0),(.int .i64 0)]⟩:=rfl
theorem joa:aj Try.prog 77 jqq:=ak (z:= .agg #[(.map none),(.int .i64 0),(.int .i64 0)]) (by kernel_rfl) Try.underlying77 rfl rfl (by intro h;cases h) (fun h=>by cases h)
theorem jvo:tt 77=some ⟨.strct false [(0,75),(1,3),(2,3)],3,24,[(.map none),(.int .i64 0),(.int .i64 0)]⟩:=rfl
theorem job:aj Try.prog 79 jqr:=ak (z:= .nilFunc) (by kernel_rfl) Try.underlying79 rfl rfl (by intro h;cases h) (fun h=>by cases h)
theorem jvp:tt 79=some ⟨.other,1,8,[.nilFunc]⟩:=rfl
theorem joc:aj Try.prog 81 jqs:=ak (z:= .nilFunc) (by kernel_rfl) Try.underlying81 rfl rfl (by intro h;cases h) (fun h=>by cases h)
theorem jvq:tt 81=some ⟨.other,1,8,[.nilFunc]⟩:=rfl
theorem jod:aj Try.prog 82 jqt:=ak (z:= .nilFunc) (by kernel_rfl) Try.underlying82 rfl rfl (by intro h;cases h) (fun h=>by cases h)
theorem jvr:tt 82=some ⟨.other,1,8,[.nilFunc]⟩:=rfl
theorem joe:aj Try.prog 83 jqu:=ak (z:= .nilFunc) (by kernel_rfl) Try.underlying83 rfl rfl (by intro h;cases h) (fun h=>by cases h)
theorem jvs:tt 83=some ⟨.other,1,8,[.nilFunc]⟩:=rfl
theorem jof:aj Try.prog 84 jqv:=ak (z:=(.slice none 0 0)) (by kernel_rfl) Try.underlying84 rfl rfl (by intro h;cases h) (fun _=>rfl)
theorem jvt:tt 84=some ⟨.slice 25,1,24,[(.slice none 0 0)]⟩:=rfl
theorem jog:aj Try.prog 85 jqw:=ak (z:=(.slice none 0 0)) (by kernel_rfl) Try.underlying85 rfl rfl (by intro h;cases h) (fun _=>rfl)
theorem jvu:tt 85=some ⟨.slice 126,1,24,[(.slice none 0 0)]⟩:=rfl
theorem joh:aj Try.prog 86 jqx:=ak (z:= .agg #[(.slice none 0 0),(.slice none 0 0),(.bool false)]) (by kernel_rfl) Try.underlying86 rfl rfl (by intro h;cases h) (fun h=>by cases h)
theorem jvv:tt 86=some ⟨.strct false [(0,84),(1,85),(2,4)],3,56,[(.slice none 0 0),(.slice none 0 0),(.bool false)]⟩:=rfl
theorem joi:aj Try.prog 87 jqy:=ak (z:= .agg #[(.slice none 0 0),(.slice none 0 0),(.bool false)]) (by kernel_rfl) Try.underlying87 rfl rfl (by intro h;cases h) (fun h=>by cases h)
theorem jvw:tt 87=some ⟨.strct false [(0,84),(1,85),(2,4)],3,56,[(.slice none 0 0),(.slice none 0 0),(.bool false)]⟩:=rfl
theorem joj:aj Try.prog 88 jqz:=ak (z:=(.slice none 0 0)) (by kernel_rfl) Try.underlying88 rfl rfl (by intro h;cases h) (fun _=>rfl)
theorem jvx:tt 88=some ⟨.slice 4,1,24,[(.slice none 0 0)]⟩:=rfl
theorem jok:aj Try.prog 89 jq0:=ak (z:= .agg #[(.slice none 0 0),(.slice none 0 0),(.bool false),(.int .i64 0),(.slice none 0 0)]) (by kernel_rfl) Try.underlying89 rfl rfl (by intro h;cases h) (fun h=>by cases h)
theorem jvy:tt 89=some ⟨.strct false [(0,87),(3,3),(4,88)],5,88,[(.slice none 0 0),(.slice none 0 0),(.bool false),(.int .i64 0),(.slice none 0 0)]⟩:=rfl
theorem jol:aj Try.prog 90 jq1:=ak (z:= .agg #[(.slice none 0 0),(.slice none 0 0),(.bool false),(.int .i64 0),(.slice none 0 0)]) (by kernel_rfl) Try.underlying90 rfl rfl (by intro h;cases h) (fun h=>by cases h)
theorem jvz:tt 90=some ⟨.strct false [(0,87),(3,3),(4,88)],5,88,[(.slice none 0 0),(.slice none 0 0),(.bool false),(.int .i64 0),(.slice none 0 0)]⟩:=rfl
theorem jom:aj Try.prog 92 jq2:=ak (z:= .nilFunc) (by kernel_rfl) Try.underlying92 rfl rfl (by intro h;cases h) (fun h=>by cases h)
theorem jv0:tt 92=some ⟨.other,1,8,[.nilFunc]⟩:=rfl
theorem jon:aj Try.prog 93 jq3:=ak (z:= .nilFunc) (by kernel_rfl) Try.underlying93 rfl rfl (by intro h;cases h) (fun h=>by cases h)
theorem jv1:tt 93=some ⟨.other,1,8,[.nilFunc]⟩:=rfl
theorem joo:aj Try.prog 94 jq4:=ak (z:= .nilFunc) (by kernel_rfl) Try.underlying94 rfl rfl (by intro h;cases h) (fun h=>by cases h)
theorem jv2:tt 94=some ⟨.other,1,8,[.nilFunc]⟩:=rfl
theorem jop:aj Try.prog 95 jq5:=ak (z:= .nilFunc) (by kernel_rfl) Try.underlying95 rfl rfl (by intro h;cases h) (fun h=>by cases h)
theorem jv3:tt 95=some ⟨.other,1,8,[.nilFunc]⟩:=rfl
theorem joq:aj Try.prog 96 jq6:=ak (z:= .nilFunc) (by kernel_rfl) Try.underlying96 rfl rfl (by intro h;cases h) (fun h=>by cases h)
theorem jv4:tt 96=some ⟨.other,1,8,[.nilFunc]⟩:=rfl
theorem jor:aj Try.prog 97 jq7:=ak (z:= .nilFunc) (by kernel_rfl) Try.underlying97 rfl rfl (by intro h;cases h) (fun h=>by cases h)
theorem jv5:tt 97=some ⟨.other,1,8,[.nilFunc]⟩:=rfl
theorem jos:aj Try.prog 98 jq8:=ak (z:= .nilFunc) (by kernel_rfl) Try.underlying98 rfl rfl (by intro h;cases h) (fun h=>by cases h)
theorem jv6:tt 98=some ⟨.other,1,8,[.nilFunc]⟩:=rfl
theorem jot:aj Try.prog 99 jq9:=ak (z:= .nilFunc) (by kernel_rfl) Try.underlying99 rfl rfl (by intro h;cases h) (fun h=>by cases h)
theorem jv7:tt 99=some ⟨.other,1,8,[.nilFunc]⟩:=rfl
theorem jjm:aj Try.prog 100 jgy:=ak (z:= .nilFunc) (by kernel_rfl) Try.underlying100 rfl rfl (by intro h;cases h) (fun h=>by cases h)
theorem jra:tt 100=some ⟨.other,1,8,[.nilFunc]⟩:=rfl
theorem jjn:aj Try.prog 101 jgz:=ak (z:= .nilFunc) (by kernel_rfl) Try.underlying101 rfl rfl (by intro h;cases h) (fun h=>by cases h)
theorem jrb:tt 101=some ⟨.other,1,8,[.nilFunc]⟩:=rfl
theorem jjo:aj Try.prog 102 jg0:=ak (z:= .nilFunc) (by kernel_rfl) Try.underlying102 rfl rfl (by intro h;cases h) (fun h=>by cases h)
theorem jrc:tt 102=some ⟨.other,1,8,[.nilFunc]⟩:=rfl
theorem jjp:aj Try.prog 103 jg1:=ak (z:= .nilFunc) (by kernel_rfl) Try.underlying103 rfl rfl (by intro h;cases h) (fun h=>by cases h)
theorem jrd:tt 103=some ⟨.other,1,8,[.nilFunc]⟩:=rfl
theorem jjq:aj Try.prog 104 jg2:=ak (z:= .nilFunc) (by kernel_rfl) Try.underlying104 rfl rfl (by intro h;cases h) (fun h=>by cases h)
theorem jre:tt 104=some ⟨.other,1,8,[.nilFunc]⟩:=rfl
theorem jjr:aj Try.prog 105 jg3:=ak (z:= .agg #[(.int .i64 0),(.int .i64 0),(.bool false)]) (by kernel_rfl) Try.underlying105 rfl rfl (by exact fun _=>⟨by kernel_rfl,by kernel_rfl,by kernel_rfl⟩) (fun h=>by cases h)
theorem jrf:tt 105=some ⟨.strct true [(0,3),(1,3),(2,4)],3,24,[(.int .i64 0),(.int .i64 0),(.bool false)]⟩:=rfl
theorem jjs:aj Try.prog 106 jg4:=ak (z:= .agg #[(.int .i64 0),(.int .i64 0),(.bool false)]) (by kernel_rfl) Try.underlying106 rfl rfl (by exact fun _=>⟨by kernel_rfl,by kernel_rfl,by kernel_rfl⟩) (fun h=>by cases h)
theorem jrg:tt 106=some ⟨.strct true [(0,3),(1,3),(2,4)],3,24,[(.int .i64 0),(.int .i64 0),(.bool false)]⟩:=rfl
theorem jjt:aj Try.prog 107 jg5:=ak (z:=(.slice none 0 0)) (by kernel_rfl) Try.underlying107 rfl rfl (by intro h;cases h) (fun _=>rfl)
theorem jrh:tt 107=some ⟨.slice 106,1,24,[(.slice none 0 0)]⟩:=rfl
theorem jju:aj Try.prog 108 jg6:=ak (z:= .nilFunc) (by kernel_rfl) Try.underlying108 rfl rfl (by intro h;cases h) (fun h=>by cases h)
theorem jri:tt 108=some ⟨.other,1,8,[.nilFunc]⟩:=rfl
theorem jjv:aj Try.prog 109 jg7:=ak (z:= .nilFunc) (by kernel_rfl) Try.underlying109 rfl rfl (by intro h;cases h) (fun h=>by cases h)
theorem jrj:tt 109=some ⟨.other,1,8,[.nilFunc]⟩:=rfl
theorem jjw:aj Try.prog 110 jg8:=ak (z:= .nilFunc) (by kernel_rfl) Try.underlying110 rfl rfl (by intro h;cases h) (fun h=>by cases h)
theorem jrk:tt 110=some ⟨.other,1,8,[.nilFunc]⟩:=rfl
theorem jjx:aj Try.prog 111 jg9:=ak (z:= .nilFunc) (by kernel_rfl) Try.underlying111 rfl rfl (by intro h;cases h) (fun h=>by cases h)
theorem jrl:tt 111=some ⟨.other,1,8,[.nilFunc]⟩:=rfl
theorem jjy:aj Try.prog 112 jha:=ak (z:= .nilFunc) (by kernel_rfl) Try.underlying112 rfl rfl (by intro h;cases h) (fun h=>by cases h)
theorem jrm:tt 112=some ⟨.other,1,8,[.nilFunc]⟩:=rfl
theorem jjz:aj Try.prog 113 jhb:=ak (z:= .nilFunc) (by kernel_rfl) Try.underlying113 rfl rfl (by intro h;cases h) (fun h=>by cases h)
theorem jrn:tt 113=some ⟨.other,1,8,[.nilFunc]⟩:=rfl
theorem jj0:aj Try.prog 114 jhc:=ak (z:= .nilFunc) (by kernel_rfl) Try.underlying114 rfl rfl (by intro h;cases h) (fun h=>by cases h)
theorem jro:tt 114=some ⟨.other,1,8,[.nilFunc]⟩:=rfl
theorem jj1:aj Try.prog 115 jhd:=ak (z:=(.slice none 0 0)) (by kernel_rfl) Try.underlying115 rfl rfl (by intro h;cases h) (fun _=>rfl)
theorem jrp:tt 115=some ⟨.slice 121,1,24,[(.slice none 0 0)]⟩:=rfl
theorem jj2:aj Try.prog 116 jhe:=ak (z:=(.slice none 0 0)) (by kernel_rfl) Try.underlying116 rfl rfl (by intro h;cases h) (fun _=>rfl)
theorem jrq:tt 116=some ⟨.slice 119,1,24,[(.slice none 0 0)]⟩:=rfl
theorem jj3:aj Try.prog 117 jhf:=ak (z:= .nilFunc) (by kernel_rfl) Try.underlying117 rfl rfl (by intro h;cases h) (fun h=>by cases h)
theorem jrr:tt 117=some ⟨.other,1,8,[.nilFunc]⟩:=rfl
theorem jj4:aj Try.prog 118 jhg:=ak (z:= .agg #[(.bool false),(.int .i64 0),(.int .i64 0)]) (by kernel_rfl) Try.underlying118 rfl rfl (by exact fun _=>⟨by kernel_rfl,by kernel_rfl,by kernel_rfl⟩) (fun h=>by cases h)
theorem jrs:tt 118=some ⟨.strct true [(0,4),(1,3),(2,3)],3,24,[(.bool false),(.int .i64 0),(.int .i64 0)]⟩:=rfl
theorem jj5:aj Try.prog 119 jhh:=ak (z:= .agg #[(.bool false),(.int .i64 0),(.int .i64 0)]) (by kernel_rfl) Try.underlying119 rfl rfl (by exact fun _=>⟨by kernel_rfl,by kernel_rfl,by kernel_rfl⟩) (fun h=>by cases h)
theorem jrt:tt 119=some ⟨.strct true [(0,4),(1,3),(2,3)],3,24,[(.bool false),(.int .i64 0),(.int .i64 0)]⟩:=rfl
theorem jj6:aj Try.prog 120 jhi:=ak (z:= .agg #[(.int .i64 0),(.int .i64 0)]) (by kernel_rfl) Try.underlying120 rfl rfl (by exact fun _=>⟨by kernel_rfl,by kernel_rfl,by kernel_rfl⟩) (fun h=>by cases h)
theorem jru:tt 120=some ⟨.strct true [(0,3),(1,3)],2,16,[(.int .i64 0),(.int .i64 0)]⟩:=rfl
theorem jj7:aj Try.prog 121 jhj:=ak (z:= .agg #[(.int .i64 0),(.int .i64 0)]) (by kernel_rfl) Try.underlying121 rfl rfl (by exact fun _=>⟨by kernel_rfl,by kernel_rfl,by kernel_rfl⟩) (fun h=>by cases h)
theorem jrv:tt 121=some ⟨.strct true [(0,3),(1,3)],2,16,[(.int .i64 0),(.int .i64 0)]⟩:=rfl
theorem jj8:aj Try.prog 123 jhk:=ak (z:= .nilFunc) (by kernel_rfl) Try.underlying123 rfl rfl (by intro h;cases h) (fun h=>by cases h)
theorem jrw:tt 123=some ⟨.other,1,8,[.nilFunc]⟩:=rfl
theorem jj9:aj Try.prog 124 jhl:=ak (z:= .nilFunc) (by kernel_rfl) Try.underlying124 rfl rfl (by intro h;cases h) (fun h=>by cases h)
theorem jrx:tt 124=some ⟨.other,1,8,[.nilFunc]⟩:=rfl
theorem jka:aj Try.prog 125 jhm:=ak (z:= .agg #[(.int .i64 0),(.int .i64 0),(.int .i64 0)]) (by kernel_rfl) Try.underlying125 rfl rfl (by exact fun _=>⟨by kernel_rfl,by kernel_rfl,by kernel_rfl⟩) (fun h=>by cases h)
theorem jry:tt 125=some ⟨.strct true [(0,3),(1,3),(2,3)],3,24,[(.int .i64 0),(.int .i64 0),(.int .i64 0)]⟩:=rfl
theorem jkb:aj Try.prog 126 jhn:=ak (z:= .agg #[(.int .i64 0),(.int .i64 0),(.int .i64 0)]) (by kernel_rfl) Try.underlying126 rfl rfl (by exact fun _=>⟨by kernel_rfl,by kernel_rfl,by kernel_rfl⟩) (fun h=>by cases h)
theorem jrz:tt 126=some ⟨.strct true [(0,3),(1,3),(2,3)],3,24,[(.int .i64 0),(.int .i64 0),(.int .i64 0)]⟩:=rfl
theorem jkc:aj Try.prog 127 jho:=ak (z:= .nilFunc) (by kernel_rfl) Try.underlying127 rfl rfl (by intro h;cases h) (fun h=>by cases h)
theorem jr0:tt 127=some ⟨.other,1,8,[.nilFunc]⟩:=rfl
theorem jkd:aj Try.prog 128 jhp:=ak (z:=(.map none)) (by kernel_rfl) Try.underlying128 rfl rfl (by intro h;cases h) (fun h=>by cases h)
theorem jr1:tt 128=some ⟨.map 3 4,1,8,[(.map none)]⟩:=rfl
theorem jke:aj Try.prog 129 jhq:=ak (z:= .nilFunc) (by kernel_rfl) Try.underlying129 rfl rfl (by intro h;cases h) (fun h=>by cases h)
theorem jr2:tt 129=some ⟨.other,1,8,[.nilFunc]⟩:=rfl
theorem jkf:aj Try.prog 131 jhr:=ak (z:= .nilFunc) (by kernel_rfl) Try.underlying131 rfl rfl (by intro h;cases h) (fun h=>by cases h)
theorem jr3:tt 131=some ⟨.other,1,8,[.nilFunc]⟩:=rfl
theorem jkg:aj Try.prog 132 jhs:=ak (z:= .nilFunc) (by kernel_rfl) Try.underlying132 rfl rfl (by intro h;cases h) (fun h=>by cases h)
theorem jr4:tt 132=some ⟨.other,1,8,[.nilFunc]⟩:=rfl
theorem jkh:aj Try.prog 133 jht:=ak (z:= .nilFunc) (by kernel_rfl) Try.underlying133 rfl rfl (by intro h;cases h) (fun h=>by cases h)
theorem jr5:tt 133=some ⟨.other,1,8,[.nilFunc]⟩:=rfl
theorem jki:aj Try.prog 134 jhu:=ak (z:= .nilFunc) (by kernel_rfl) Try.underlying134 rfl rfl (by intro h;cases h) (fun h=>by cases h)
theorem jr6:tt 134=some ⟨.other,1,8,[.nilFunc]⟩:=rfl
theorem jkj:aj Try.prog 135 jhv:=ak (z:= .nilFunc) (by kernel_rfl) Try.underlying135 rfl rfl (by intro h;cases h) (fun h=>by cases h)
theorem jr7:tt 135=some ⟨.other,1,8,[.nilFunc]⟩:=rfl
theorem jkk:aj Try.prog 136 jhw:=ak (z:= .nilFunc) (by kernel_rfl) Try.underlying136 rfl rfl (by intro h;cases h) (fun h=>by cases h)
theorem jr8:tt 136=some ⟨.other,1,8,[.nilFunc]⟩:=rfl
theorem jkl:aj Try.prog 137 jhx:=ak (z:= .nilFunc) (by kernel_rfl) Try.underlying137 rfl rfl (by intro h;cases h) (fun h=>by cases h)
theorem jr9:tt 137=some ⟨.other,1,8,[.nilFunc]⟩:=rfl
theorem jkm:aj Try.prog 138 jhy:=ak (z:= .nilFunc) (by kernel_rfl) Try.underlying138 rfl rfl (by intro h;cases h) (fun h=>by cases h)
theorem jsa:tt 138=some ⟨.other,1,8,[.nilFunc]⟩:=rfl
theorem jkn:aj Try.prog 140 jhz:=ak (z:= .nilFunc) (by kernel_rfl) Try.underlying140 rfl rfl (by intro h;cases h) (fun h=>by cases h)
theorem jsb:tt 140=some ⟨.other,1,8,[.nilFunc]⟩:=rfl
theorem jko:aj Try.prog 141 jh0:=ak (z:= .nilFunc) (by kernel_rfl) Try.underlying141 rfl rfl (by intro h;cases h) (fun h=>by cases h)
theorem jsc:tt 141=some ⟨.other,1,8,[.nilFunc]⟩:=rfl
theorem jkp:aj Try.prog 142 jh1:=ak (z:=(.map none)) (by kernel_rfl) Try.underlying142 rfl rfl (by intro h;cases h) (fun h=>by cases h)
theorem jsd:tt 142=some ⟨.map 9 3,1,8,[(.map none)]⟩:=rfl
theorem jkq:aj Try.prog 143 jh2:=ak (z:= .nilFunc) (by kernel_rfl) Try.underlying143 rfl rfl (by intro h;cases h) (fun h=>by cases h)
theorem jse:tt 143=some ⟨.other,1,8,[.nilFunc]⟩:=rfl
theorem jkr:aj Try.prog 144 jh3:=ak (z:= .nilFunc) (by kernel_rfl) Try.underlying144 rfl rfl (by intro h;cases h) (fun h=>by cases h)
theorem jsf:tt 144=some ⟨.other,1,8,[.nilFunc]⟩:=rfl
theorem jks:aj Try.prog 145 jh4:=ak (z:=(.int .u64 0)) (by kernel_rfl) Try.underlying145 rfl rfl (by intro h;cases h) (fun _=>rfl)
theorem jsg:tt 145=some ⟨.int .u64,1,8,[(.int .u64 0)]⟩:=rfl
theorem jkt:aj Try.prog 147 jh5:=ak (z:= .nilFunc) (by kernel_rfl) Try.underlying147 rfl rfl (by intro h;cases h) (fun h=>by cases h)
theorem jsh:tt 147=some ⟨.other,1,8,[.nilFunc]⟩:=rfl
theorem jku:aj Try.prog 148 jh6:=ak (z:=(.int .u32 0)) (by kernel_rfl) Try.underlying148 rfl rfl (by intro h;cases h) (fun _=>rfl)
theorem jsi:tt 148=some ⟨.int .u32,1,4,[(.int .u32 0)]⟩:=rfl
theorem jkv:aj Try.prog 150 jh7:=ak (z:= .nilFunc) (by kernel_rfl) Try.underlying150 rfl rfl (by intro h;cases h) (fun h=>by cases h)
theorem jsj:tt 150=some ⟨.other,1,8,[.nilFunc]⟩:=rfl
theorem jkw:aj Try.prog 151 jh8:=ak (z:=(.int .u64 0)) (by kernel_rfl) Try.underlying151 rfl rfl (by intro h;cases h) (fun _=>rfl)
theorem jsk:tt 151=some ⟨.int .u64,1,8,[(.int .u64 0)]⟩:=rfl
theorem jkx:aj Try.prog 153 jh9:=ak (z:= .nilFunc) (by kernel_rfl) Try.underlying153 rfl rfl (by intro h;cases h) (fun h=>by cases h)
theorem jsl:tt 153=some ⟨.other,1,8,[.nilFunc]⟩:=rfl
theorem jky:aj Try.prog 154 jia:=ak (z:= .nilFunc) (by kernel_rfl) Try.underlying154 rfl rfl (by intro h;cases h) (fun h=>by cases h)
theorem jsm:tt 154=some ⟨.other,1,8,[.nilFunc]⟩:=rfl
theorem jkz:aj Try.prog 155 jib:=ak (z:= .agg #[(.pointer none),(.pointer none),(.pointer none),(.string ⟨#[]⟩)]) (by kernel_rfl) Try.underlying155 rfl rfl (by intro h;cases h) (fun h=>by cases h)
theorem jsn:tt 155=some ⟨.strct false [(0,17),(1,17),(2,17),(3,9)],4,40,[(.pointer none),(.pointer none),(.pointer none),(.string ⟨#[]⟩)]⟩:=rfl
theorem jk0:aj Try.prog 156 jic:=ak (z:= .agg #[(.pointer none),(.pointer none),(.pointer none),(.string ⟨#[]⟩)]) (by kernel_rfl) Try.underlying156 rfl rfl (by intro h;cases h) (fun h=>by cases h)
theorem jso:tt 156=some ⟨.strct false [(0,17),(1,17),(2,17),(3,9)],4,40,[(.pointer none),(.pointer none),(.pointer none),(.string ⟨#[]⟩)]⟩:=rfl
theorem jk1:aj Try.prog 157 jid:=ak (z:= .agg #[]) (by kernel_rfl) Try.underlying157 rfl rfl (by intro h;cases h) (fun h=>by cases h)
theorem jsp:tt 157=some ⟨.arr false 0 16,0,0,[]⟩:=rfl
theorem jk2:aj Try.prog 158 jie:=ak (z:= .agg #[]) (by kernel_rfl) Try.underlying158 rfl rfl (by intro h;cases h) (fun h=>by cases h)
theorem jsq:tt 158=some ⟨.strct false [(0,157)],0,0,[]⟩:=rfl
theorem jk3:aj Try.prog 159 jif:=ak (z:= .agg #[]) (by kernel_rfl) Try.underlying159 rfl rfl (by intro h;cases h) (fun h=>by cases h)
theorem jsr:tt 159=some ⟨.strct false [(0,157)],0,0,[]⟩:=rfl
theorem jk4:aj Try.prog 160 jig:=ak (z:= .nilFunc) (by kernel_rfl) Try.underlying160 rfl rfl (by intro h;cases h) (fun h=>by cases h)
theorem jss:tt 160=some ⟨.other,1,8,[.nilFunc]⟩:=rfl
theorem jk5:aj Try.prog 161 jih:=ak (z:=(.int .u8 0)) (by kernel_rfl) Try.underlying161 rfl rfl (by intro h;cases h) (fun _=>rfl)
theorem jst:tt 161=some ⟨.int .u8,1,1,[(.int .u8 0)]⟩:=rfl
theorem jk6:aj Try.prog 162 jii:=ak (z:=(.int .u8 0)) (by kernel_rfl) Try.underlying162 rfl rfl (by intro h;cases h) (fun _=>rfl)
theorem jsu:tt 162=some ⟨.int .u8,1,1,[(.int .u8 0)]⟩:=rfl
theorem jk7:aj Try.prog 163 jij:=ak (z:= .nilFunc) (by kernel_rfl) Try.underlying163 rfl rfl (by intro h;cases h) (fun h=>by cases h)
theorem jsv:tt 163=some ⟨.other,1,8,[.nilFunc]⟩:=rfl
theorem jk8:aj Try.prog 164 jik:=ak (z:=(.pointer none)) (by kernel_rfl) Try.underlying164 rfl rfl (by intro h;cases h) (fun h=>by cases h)
theorem jsw:tt 164=some ⟨.other,1,8,[(.pointer none)]⟩:=rfl
theorem jk9:aj Try.prog 165 jil:=ak (z:=(.int .i32 0)) (by kernel_rfl) Try.underlying165 rfl rfl (by intro h;cases h) (fun _=>rfl)
theorem jsx:tt 165=some ⟨.int .i32,1,4,[(.int .i32 0)]⟩:=rfl
theorem jla:aj Try.prog 166 jim:=ak (z:=(.int .i32 0)) (by kernel_rfl) Try.underlying166 rfl rfl (by intro h;cases h) (fun _=>rfl)
theorem jsy:tt 166=some ⟨.int .i32,1,4,[(.int .i32 0)]⟩:=rfl
theorem jlb:aj Try.prog 167 jin:=ak (z:= .agg #[(.int .u64 0),(.int .u64 0),(.int .u32 0),(.int .u8 0),(.int .u8 0),(.int .u8 0),(.int .u8 0), .nilFunc,(.pointer none),(.int .i32 0),(.int .i32 0)]) (by kernel_rfl) Try.underlying167 rfl rfl (by intro h;cases h) (fun h=>by cases h)
theorem jsz:tt 167=some ⟨.strct false [(0,12),(1,12),(2,148),(3,161),(4,5),(5,5),(6,162),(7,163),(8,164),(9,165),(10,166)],11,48,[(.int .u64 0),(.int .u64 0),(.int .u32 0),(.int .u8 0),(.int .u8 0),(.int .u8 0),(.int .u8 0), .nilFunc,(.pointer none),(.int .i32 0),(.int .i32 0)]⟩:=rfl
theorem jlc:aj Try.prog 168 jio:=ak (z:= .agg #[(.int .u64 0),(.int .u64 0),(.int .u32 0),(.int .u8 0),(.int .u8 0),(.int .u8 0),(.int .u8 0), .nilFunc,(.pointer none),(.int .i32 0),(.int .i32 0)]) (by kernel_rfl) Try.underlying168 rfl rfl (by intro h;cases h) (fun h=>by cases h)
theorem js0:tt 168=some ⟨.strct false [(0,12),(1,12),(2,148),(3,161),(4,5),(5,5),(6,162),(7,163),(8,164),(9,165),(10,166)],11,48,[(.int .u64 0),(.int .u64 0),(.int .u32 0),(.int .u8 0),(.int .u8 0),(.int .u8 0),(.int .u8 0), .nilFunc,(.pointer none),(.int .i32 0),(.int .i32 0)]⟩:=rfl
theorem jld:aj Try.prog 169 jip:=ak (z:=(.pointer none)) (by kernel_rfl) Try.underlying169 rfl rfl (by intro h;cases h) (fun h=>by cases h)
theorem js1:tt 169=some ⟨.other,1,8,[(.pointer none)]⟩:=rfl
set_option maxRecDepth 100000 in
theorem fits:dh Try.prog tt:=by
 intro t x h;unfold tt at h;split at h
 ·cases h;exact jtk
 ·cases h;exact jtl
 ·cases h;exact jtm
 ·cases h;exact jtn
 ·cases h;exact jto
 ·cases h;exact jtp
 ·cases h;exact jtq
 ·cases h;exact jtr
 ·cases h;exact jts
 ·cases h;exact jmn
 ·cases h;exact jmo
 ·cases h;exact jmp
 ·cases h;exact jmq
 ·cases h;exact jmr
 ·cases h;exact jms
 ·cases h;exact jmt
 ·cases h;exact jmu
 ·cases h;exact jmv
 ·cases h;exact jmw
 ·cases h;exact jmx
 ·cases h;exact jmy
 ·cases h;exact jmz
 ·cases h;exact jm0
 ·cases h;exact jm1
 ·cases h;exact jm2
 ·cases h;exact jm3
 ·cases h;exact jm4
 ·cases h;exact jm5
 ·cases h;exact jm6
 ·cases h;exact jm7
 ·cases h;exact jm8
 ·cases h;exact jm9
 ·cases h;exact jna
 ·cases h;exact jnb
 ·cases h;exact jnc
 ·cases h;exact jnd
 ·cases h;exact jne
 ·cases h;exact jnf
 ·cases h;exact jng
 ·cases h;exact jnh
 ·cases h;exact jni
 ·cases h;exact jnj
 ·cases h;exact jnk
 ·cases h;exact jnl
 ·cases h;exact jnm
 ·cases h;exact jnn
 ·cases h;exact jno
 ·cases h;exact jnp
 ·cases h;exact jnq
 ·cases h;exact jnr
 ·cases h;exact jns
 ·cases h;exact jnt
 ·cases h;exact jnu
 ·cases h;exact jnv
 ·cases h;exact jnw
 ·cases h;exact jnx
 ·cases h;exact jny
 ·cases h;exact jnz
 ·cases h;exact jn0
 ·cases h;exact jn1
 ·cases h;exact jn2
 ·cases h;exact jn3
 ·cases h;exact jn4
 ·cases h;exact jn5
 ·cases h;exact jn6
 ·cases h;exact jn7
 ·cases h;exact jn8
 ·cases h;exact jn9
 ·cases h;exact joa
 ·cases h;exact job
 ·cases h;exact joc
 ·cases h;exact jod
 ·cases h;exact joe
 ·cases h;exact jof
 ·cases h;exact jog
 ·cases h;exact joh
 ·cases h;exact joi
 ·cases h;exact joj
 ·cases h;exact jok
 ·cases h;exact jol
 ·cases h;exact jom
 ·cases h;exact jon
 ·cases h;exact joo
 ·cases h;exact jop
 ·cases h;exact joq
 ·cases h;exact jor
 ·cases h;exact jos
 ·cases h;exact jot
 ·cases h;exact jjm
 ·cases h;exact jjn
 ·cases h;exact jjo
 ·cases h;exact jjp
 ·cases h;exact jjq
 ·cases h;exact jjr
 ·cases h;exact jjs
 ·cases h;exact jjt
 ·cases h;exact jju
 ·cases h;exact jjv
 ·cases h;exact jjw
 ·cases h;exact jjx
 ·cases h;exact jjy
 ·cases h;exact jjz
 ·cases h;exact jj0
 ·cases h;exact jj1
 ·cases h;exact jj2
 ·cases h;exact jj3
 ·cases h;exact jj4
 ·cases h;exact jj5
 ·cases h;exact jj6
 ·cases h;exact jj7
 ·cases h;exact jj8
 ·cases h;exact jj9
 ·cases h;exact jka
 ·cases h;exact jkb
 ·cases h;exact jkc
 ·cases h;exact jkd
 ·cases h;exact jke
 ·cases h;exact jkf
 ·cases h;exact jkg
 ·cases h;exact jkh
 ·cases h;exact jki
 ·cases h;exact jkj
 ·cases h;exact jkk
 ·cases h;exact jkl
 ·cases h;exact jkm
 ·cases h;exact jkn
 ·cases h;exact jko
 ·cases h;exact jkp
 ·cases h;exact jkq
 ·cases h;exact jkr
 ·cases h;exact jks
 ·cases h;exact jkt
 ·cases h;exact jku
 ·cases h;exact jkv
 ·cases h;exact jkw
 ·cases h;exact jkx
 ·cases h;exact jky
 ·cases h;exact jkz
 ·cases h;exact jk0
 ·cases h;exact jk1
 ·cases h;exact jk2
 ·cases h;exact jk3
 ·cases h;exact jk4
 ·cases h;exact jk5
 ·cases h;exact jk6
 ·cases h;exact jk7
 ·cases h;exact jk8
 ·cases h;exact jk9
 ·cases h;exact jla
 ·cases h;exact jlb
 ·cases h;exact jlc
 ·cases h;exact jld
 ·cases h
theorem bj:Try.prog.follows .mixedOrders=true:=rfl
attribute [go_sem] tt1 tt2 tt3 tt4 tt5 tt6 tt7 tt8 tt9 jt1 jt2 jt3 jt4 jt5 jt6 jt7 jt8 jt9 jua jub juc jud jue juf jug juh jui juj juk jul jum jun juo jup juq jur jus jut juu juv juw jux juy juz ju0 ju1 ju2 ju3 ju4 ju5 ju6 ju7 ju8 ju9 jva jvb jvc jvd jve jvf jvg jvh jvi jvj jvk jvl jvm jvn jvo jvp jvq jvr jvs jvt jvu jvv jvw jvx jvy jvz jv0 jv1 jv2 jv3 jv4 jv5 jv6 jv7 jra jrb jrc jrd jre jrf jrg jrh jri jrj jrk jrl jrm jrn jro jrp jrq jrr jrs jrt jru jrv jrw jrx jry jrz jr0 jr1 jr2 jr3 jr4 jr5 jr6 jr7 jr8 jr9 jsa jsb jsc jsd jse jsf jsg jsh jsi jsj jsk jsl jsm jsn jso jsp jsq jsr jss jst jsu jsv jsw jsx jsy jsz js0 js1
end Go.Proofs.Ytokeielgplbdeaa
