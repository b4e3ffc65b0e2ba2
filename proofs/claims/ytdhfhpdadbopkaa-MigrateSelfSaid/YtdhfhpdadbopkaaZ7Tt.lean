/-
  The types of this seat's program: a row a type (its kind, cells, bytes, the cells of its zero value), and that each row is the program's own. Made by program out of the translation.
-/
import Derived.Test.YtdhfhpdadbopkaaZ7KE
import Derived.Test.YtdhfhpdadbopkaaProg
import Derived.KernelRfl
set_option linter.all false
namespace Go.Proofs.Ytdhfhpdadbopkaa
open Go.K Go.M
theorem am{P:Program}{t:TypeId}{k:TK}{sz by_:Nat}{zs:List Value}{z:Value}{d:TypeDesc}(h1:(P.info? t).map (fun i=>(i.zero,i.size,i.bytes))=some (some z,sz,by_))(h2:P.underlying t=some d)(h3:TK.of d=k.plain)(h4:z.cells.toList=zs)(h5:k.cmp=true→Cmp P t)(h6:k.one=true→zs=[z]):al P t ⟨k,sz,by_,zs⟩:=by
 cases hi:P.info? t with
 |none=>simp[hi]at h1
 |some i=>
  simp only[hi,Option.map_some,Option.some.injEq,Prod.mk.injEq]at h1;exact⟨⟨i,d,z,hi,h2,h3,h1.2.1,h1.2.2,h1.1,h4⟩,h5,fun e=>⟨i,z,hi,h1.1,h6 e⟩⟩
def ti1:TI:=⟨.other,1,8,[.nilFunc]⟩
def ti2:TI:=⟨.int .i64,1,8,[(.int .i64 0)]⟩
def ti3:TI:=⟨.int .i64,1,8,[(.int .i64 0)]⟩
def ti4:TI:=⟨.bool,1,1,[(.bool false)]⟩
def ti5:TI:=⟨.int .u8,1,1,[(.int .u8 0)]⟩
def ti6:TI:=⟨.int .u8,1,1,[(.int .u8 0)]⟩
def ti7:TI:=⟨.strct true [(0,2),(1,3),(2,4),(3,6)],4,24,[(.int .i64 0),(.int .i64 0),(.bool false),(.int .u8 0)]⟩
def ti8:TI:=⟨.strct true [(0,2),(1,3),(2,4),(3,6)],4,24,[(.int .i64 0),(.int .i64 0),(.bool false),(.int .u8 0)]⟩
def ti9:TI:=⟨.str,1,16,[(.string ⟨#[]⟩)]⟩
def jph:TI:=⟨.str,1,16,[(.string ⟨#[]⟩)]⟩
def jpi:TI:=⟨.str,1,16,[(.string ⟨#[]⟩)]⟩
def jpj:TI:=⟨.int .u64,1,8,[(.int .u64 0)]⟩
def jpk:TI:=⟨.strct false [(0,9),(1,12)],2,24,[(.string ⟨#[]⟩),(.int .u64 0)]⟩
def jpl:TI:=⟨.strct false [(0,9),(1,12)],2,24,[(.string ⟨#[]⟩),(.int .u64 0)]⟩
def jpm:TI:=⟨.other,1,8,[(.pointer none)]⟩
def jpn:TI:=⟨.other,1,8,[(.pointer none)]⟩
def jpo:TI:=⟨.other,1,8,[(.pointer none)]⟩
def jpp:TI:=⟨.strct false [(0,17)],1,8,[(.pointer none)]⟩
def jpq:TI:=⟨.strct false [(0,17)],1,8,[(.pointer none)]⟩
def jpr:TI:=⟨.other,1,16,[.nilIface]⟩
def jps:TI:=⟨.int .i32,1,4,[(.int .i32 0)]⟩
def jpt:TI:=⟨.slice 43,1,24,[(.slice none 0 0)]⟩
def jpu:TI:=⟨.strct false [(0,3),(1,22),(2,3),(3,3)],4,48,[(.int .i64 0),(.slice none 0 0),(.int .i64 0),(.int .i64 0)]⟩
def jpv:TI:=⟨.strct false [(0,3),(1,22),(2,3),(3,3)],4,48,[(.int .i64 0),(.slice none 0 0),(.int .i64 0),(.int .i64 0)]⟩
def jpw:TI:=⟨.slice 3,1,24,[(.slice none 0 0)]⟩
def jpx:TI:=⟨.slice 48,1,24,[(.slice none 0 0)]⟩
def jpy:TI:=⟨.strct false [(0,25),(1,25),(2,26)],3,72,[(.slice none 0 0),(.slice none 0 0),(.slice none 0 0)]⟩
def jpz:TI:=⟨.strct false [(0,25),(1,25),(2,26)],3,72,[(.slice none 0 0),(.slice none 0 0),(.slice none 0 0)]⟩
def jp0:TI:=⟨.other,1,8,[.nilFunc]⟩
def jp1:TI:=⟨.other,1,8,[.nilFunc]⟩
def jp2:TI:=⟨.other,1,8,[.nilFunc]⟩
def jp3:TI:=⟨.other,1,8,[.nilFunc]⟩
def jp4:TI:=⟨.other,1,8,[.nilFunc]⟩
def jp5:TI:=⟨.int .i64,1,8,[(.int .i64 0)]⟩
def jp6:TI:=⟨.other,1,8,[.nilFunc]⟩
def jp7:TI:=⟨.other,1,8,[.nilFunc]⟩
def jp8:TI:=⟨.slice 25,1,24,[(.slice none 0 0)]⟩
def jp9:TI:=⟨.other,1,8,[.nilFunc]⟩
def jqa:TI:=⟨.other,1,8,[.nilFunc]⟩
def jqb:TI:=⟨.strct false [(0,9),(1,25),(2,25)],3,64,[(.string ⟨#[]⟩),(.slice none 0 0),(.slice none 0 0)]⟩
def jqc:TI:=⟨.strct false [(0,9),(1,25),(2,25)],3,64,[(.string ⟨#[]⟩),(.slice none 0 0),(.slice none 0 0)]⟩
def jqd:TI:=⟨.other,1,8,[.nilFunc]⟩
def jqe:TI:=⟨.other,1,8,[.nilFunc]⟩
def jqf:TI:=⟨.other,1,8,[.nilFunc]⟩
def jqg:TI:=⟨.other,1,8,[.nilFunc]⟩
def jqh:TI:=⟨.arr false 2 25,2,48,[(.slice none 0 0),(.slice none 0 0)]⟩
def jqi:TI:=⟨.other,1,8,[.nilFunc]⟩
def jqj:TI:=⟨.other,1,8,[.nilFunc]⟩
def jqk:TI:=⟨.slice 83,1,24,[(.slice none 0 0)]⟩
def jql:TI:=⟨.other,1,8,[.nilFunc]⟩
def jqm:TI:=⟨.other,1,8,[.nilFunc]⟩
def jqn:TI:=⟨.other,1,8,[.nilFunc]⟩
def jqo:TI:=⟨.other,1,8,[.nilFunc]⟩
def jqp:TI:=⟨.other,1,8,[.nilFunc]⟩
def jqq:TI:=⟨.other,1,8,[.nilFunc]⟩
def jqr:TI:=⟨.slice 9,1,24,[(.slice none 0 0)]⟩
def jqs:TI:=⟨.other,1,8,[.nilFunc]⟩
def jqt:TI:=⟨.other,1,8,[.nilFunc]⟩
def jqu:TI:=⟨.other,1,8,[.nilFunc]⟩
def jqv:TI:=⟨.other,1,8,[.nilFunc]⟩
def jqw:TI:=⟨.other,1,8,[.nilFunc]⟩
def jqx:TI:=⟨.other,1,8,[.nilFunc]⟩
def jqy:TI:=⟨.other,1,8,[.nilFunc]⟩
def jqz:TI:=⟨.other,1,8,[.nilFunc]⟩
def jq0:TI:=⟨.other,1,8,[.nilFunc]⟩
def jq1:TI:=⟨.other,1,8,[.nilFunc]⟩
def jq2:TI:=⟨.other,1,8,[.nilFunc]⟩
def jq3:TI:=⟨.other,1,8,[.nilFunc]⟩
def jq4:TI:=⟨.other,1,8,[.nilFunc]⟩
def jq5:TI:=⟨.other,1,8,[.nilFunc]⟩
def jq6:TI:=⟨.other,1,8,[.nilFunc]⟩
def jq7:TI:=⟨.other,1,8,[.nilFunc]⟩
def jq8:TI:=⟨.other,1,8,[.nilFunc]⟩
def jq9:TI:=⟨.other,1,8,[.nilFunc]⟩
def jra:TI:=⟨.strct false [(0,25),(1,25)],2,48,[(.slice none 0 0),(.slice none 0 0)]⟩
def jrb:TI:=⟨.strct false [(0,25),(1,25)],2,48,[(.slice none 0 0),(.slice none 0 0)]⟩
def jrc:TI:=⟨.other,1,8,[.nilFunc]⟩
def jrd:TI:=⟨.other,1,8,[.nilFunc]⟩
def jre:TI:=⟨.slice 92,1,24,[(.slice none 0 0)]⟩
def jrf:TI:=⟨.other,1,8,[.nilFunc]⟩
def jrg:TI:=⟨.other,1,8,[.nilFunc]⟩
def jrh:TI:=⟨.strct false [(0,3),(1,25),(2,25)],3,56,[(.int .i64 0),(.slice none 0 0),(.slice none 0 0)]⟩
def jri:TI:=⟨.strct false [(0,3),(1,25),(2,25)],3,56,[(.int .i64 0),(.slice none 0 0),(.slice none 0 0)]⟩
def jrj:TI:=⟨.other,1,8,[.nilFunc]⟩
def jrk:TI:=⟨.other,1,8,[.nilFunc]⟩
def jrl:TI:=⟨.other,1,8,[.nilFunc]⟩
def jrm:TI:=⟨.slice 102,1,24,[(.slice none 0 0)]⟩
def jhn:TI:=⟨.other,1,8,[.nilFunc]⟩
def jho:TI:=⟨.strct false [(0,3),(1,25),(2,25)],3,56,[(.int .i64 0),(.slice none 0 0),(.slice none 0 0)]⟩
def jhp:TI:=⟨.strct false [(0,3),(1,25),(2,25)],3,56,[(.int .i64 0),(.slice none 0 0),(.slice none 0 0)]⟩
def jhq:TI:=⟨.other,1,8,[.nilFunc]⟩
def jhr:TI:=⟨.other,1,8,[.nilFunc]⟩
def jhs:TI:=⟨.other,1,8,[.nilFunc]⟩
def jht:TI:=⟨.other,1,8,[.nilFunc]⟩
def jhu:TI:=⟨.other,1,8,[.nilFunc]⟩
def jhv:TI:=⟨.other,1,8,[.nilFunc]⟩
def jhw:TI:=⟨.other,1,8,[.nilFunc]⟩
def jhx:TI:=⟨.other,1,8,[.nilFunc]⟩
def jhy:TI:=⟨.other,1,8,[.nilFunc]⟩
def jhz:TI:=⟨.other,1,8,[.nilFunc]⟩
def jh0:TI:=⟨.map 9 4,1,8,[(.map none)]⟩
def jh1:TI:=⟨.other,1,8,[.nilFunc]⟩
def jh2:TI:=⟨.other,1,8,[.nilFunc]⟩
def jh3:TI:=⟨.other,1,8,[.nilFunc]⟩
def jh4:TI:=⟨.other,1,8,[.nilFunc]⟩
def jh5:TI:=⟨.other,1,8,[.nilFunc]⟩
def jh6:TI:=⟨.other,1,8,[.nilFunc]⟩
def jh7:TI:=⟨.other,1,8,[.nilFunc]⟩
def jh8:TI:=⟨.other,1,8,[.nilFunc]⟩
def jh9:TI:=⟨.other,1,8,[.nilFunc]⟩
def jia:TI:=⟨.slice 129,1,24,[(.slice none 0 0)]⟩
def jib:TI:=⟨.other,1,8,[.nilFunc]⟩
def jic:TI:=⟨.strct false [(0,3),(1,25)],2,32,[(.int .i64 0),(.slice none 0 0)]⟩
def jid:TI:=⟨.strct false [(0,3),(1,25)],2,32,[(.int .i64 0),(.slice none 0 0)]⟩
def jie:TI:=⟨.other,1,8,[.nilFunc]⟩
def jif:TI:=⟨.other,1,8,[.nilFunc]⟩
def jig:TI:=⟨.other,1,8,[.nilFunc]⟩
def jih:TI:=⟨.slice 4,1,24,[(.slice none 0 0)]⟩
def jii:TI:=⟨.other,1,8,[.nilFunc]⟩
def jij:TI:=⟨.other,1,8,[.nilFunc]⟩
def jik:TI:=⟨.other,1,8,[.nilFunc]⟩
def jil:TI:=⟨.other,1,8,[.nilFunc]⟩
def jim:TI:=⟨.other,1,8,[.nilFunc]⟩
def jin:TI:=⟨.other,1,8,[.nilFunc]⟩
def jio:TI:=⟨.other,1,8,[.nilFunc]⟩
def jip:TI:=⟨.other,1,8,[.nilFunc]⟩
def jiq:TI:=⟨.other,1,8,[(.pointer none)]⟩
def jir:TI:=⟨.slice 5,1,24,[(.slice none 0 0)]⟩
def jis:TI:=⟨.strct false [(0,143),(1,144)],2,32,[(.pointer none),(.slice none 0 0)]⟩
def jit:TI:=⟨.strct false [(0,143),(1,144)],2,32,[(.pointer none),(.slice none 0 0)]⟩
def jiu:TI:=⟨.other,1,16,[.nilIface]⟩
def jiv:TI:=⟨.other,1,16,[.nilIface]⟩
def jiw:TI:=⟨.other,1,8,[.nilFunc]⟩
def jix:TI:=⟨.int .u64,1,8,[(.int .u64 0)]⟩
def jiy:TI:=⟨.other,1,8,[.nilFunc]⟩
def jiz:TI:=⟨.other,1,8,[.nilFunc]⟩
def ji0:TI:=⟨.other,1,8,[.nilFunc]⟩
def ji1:TI:=⟨.other,1,8,[.nilFunc]⟩
def ji2:TI:=⟨.other,1,8,[(.pointer none)]⟩
def ji3:TI:=⟨.other,1,8,[(.pointer none)]⟩
def ji4:TI:=⟨.other,1,8,[.nilFunc]⟩
def ji5:TI:=⟨.strct false [(0,17),(1,17),(2,17),(3,9)],4,40,[(.pointer none),(.pointer none),(.pointer none),(.string ⟨#[]⟩)]⟩
def ji6:TI:=⟨.strct false [(0,17),(1,17),(2,17),(3,9)],4,40,[(.pointer none),(.pointer none),(.pointer none),(.string ⟨#[]⟩)]⟩
def ji7:TI:=⟨.arr false 0 16,0,0,[]⟩
def ji8:TI:=⟨.strct false [(0,160)],0,0,[]⟩
def ji9:TI:=⟨.strct false [(0,160)],0,0,[]⟩
def jja:TI:=⟨.other,1,8,[.nilFunc]⟩
def jjb:TI:=⟨.int .u32,1,4,[(.int .u32 0)]⟩
def jjc:TI:=⟨.int .u8,1,1,[(.int .u8 0)]⟩
def jjd:TI:=⟨.int .u8,1,1,[(.int .u8 0)]⟩
def jje:TI:=⟨.other,1,8,[.nilFunc]⟩
def jjf:TI:=⟨.int .i32,1,4,[(.int .i32 0)]⟩
def jjg:TI:=⟨.int .i32,1,4,[(.int .i32 0)]⟩
def jjh:TI:=⟨.strct false [(0,12),(1,12),(2,164),(3,165),(4,5),(5,5),(6,166),(7,167),(8,155),(9,168),(10,169)],11,48,[(.int .u64 0),(.int .u64 0),(.int .u32 0),(.int .u8 0),(.int .u8 0),(.int .u8 0),(.int .u8 0), .nilFunc,(.pointer none),(.int .i32 0),(.int .i32 0)]⟩
def jji:TI:=⟨.strct false [(0,12),(1,12),(2,164),(3,165),(4,5),(5,5),(6,166),(7,167),(8,155),(9,168),(10,169)],11,48,[(.int .u64 0),(.int .u64 0),(.int .u32 0),(.int .u8 0),(.int .u8 0),(.int .u8 0),(.int .u8 0), .nilFunc,(.pointer none),(.int .i32 0),(.int .i32 0)]⟩
def tt:TT
 |1=>some ti1
 |2=>some ti2
 |3=>some ti3
 |4=>some ti4
 |5=>some ti5
 |6=>some ti6
 |7=>some ti7
 |8=>some ti8
 |9=>some ti9
 |10=>some jph
 |11=>some jpi
 |12=>some jpj
 |13=>some jpk
 |14=>some jpl
 |15=>some jpm
 |16=>some jpn
 |17=>some jpo
 |18=>some jpp
 |19=>some jpq
 |20=>some jpr
 |21=>some jps
 |22=>some jpt
 |23=>some jpu
 |24=>some jpv
 |25=>some jpw
 |26=>some jpx
 |27=>some jpy
 |28=>some jpz
 |29=>some jp0
 |30=>some jp1
 |31=>some jp2
 |32=>some jp3
 |33=>some jp4
 |34=>some jp5
 |36=>some jp6
 |37=>some jp7
 |38=>some jp8
 |40=>some jp9
 |41=>some jqa
 |42=>some jqb
 |43=>some jqc
 |44=>some jqd
 |45=>some jqe
 |46=>some jqf
 |47=>some jqg
 |48=>some jqh
 |49=>some jqi
 |51=>some jqj
 |52=>some jqk
 |53=>some jql
 |54=>some jqm
 |55=>some jqn
 |56=>some jqo
 |58=>some jqp
 |59=>some jqq
 |60=>some jqr
 |62=>some jqs
 |64=>some jqt
 |65=>some jqu
 |67=>some jqv
 |68=>some jqw
 |69=>some jqx
 |70=>some jqy
 |71=>some jqz
 |72=>some jq0
 |73=>some jq1
 |74=>some jq2
 |75=>some jq3
 |76=>some jq4
 |77=>some jq5
 |78=>some jq6
 |79=>some jq7
 |80=>some jq8
 |81=>some jq9
 |82=>some jra
 |83=>some jrb
 |84=>some jrc
 |86=>some jrd
 |87=>some jre
 |89=>some jrf
 |90=>some jrg
 |91=>some jrh
 |92=>some jri
 |93=>some jrj
 |95=>some jrk
 |97=>some jrl
 |98=>some jrm
 |100=>some jhn
 |101=>some jho
 |102=>some jhp
 |103=>some jhq
 |105=>some jhr
 |106=>some jhs
 |108=>some jht
 |109=>some jhu
 |110=>some jhv
 |111=>some jhw
 |112=>some jhx
 |113=>some jhy
 |115=>some jhz
 |116=>some jh0
 |117=>some jh1
 |118=>some jh2
 |119=>some jh3
 |120=>some jh4
 |121=>some jh5
 |122=>some jh6
 |123=>some jh7
 |124=>some jh8
 |125=>some jh9
 |126=>some jia
 |127=>some jib
 |128=>some jic
 |129=>some jid
 |130=>some jie
 |131=>some jif
 |132=>some jig
 |133=>some jih
 |135=>some jii
 |136=>some jij
 |137=>some jik
 |138=>some jil
 |139=>some jim
 |140=>some jin
 |141=>some jio
 |142=>some jip
 |143=>some jiq
 |144=>some jir
 |145=>some jis
 |146=>some jit
 |147=>some jiu
 |148=>some jiv
 |149=>some jiw
 |150=>some jix
 |151=>some jiy
 |152=>some jiz
 |153=>some ji0
 |154=>some ji1
 |155=>some ji2
 |156=>some ji3
 |157=>some ji4
 |158=>some ji5
 |159=>some ji6
 |160=>some ji7
 |161=>some ji8
 |162=>some ji9
 |163=>some jja
 |164=>some jjb
 |165=>some jjc
 |166=>some jjd
 |167=>some jje
 |168=>some jjf
 |169=>some jjg
 |170=>some jjh
 |171=>some jji
 |_=>none
theorem jt1:al Try.prog 1 ti1:=am (z:= .nilFunc) (by kernel_rfl) Try.underlying1 rfl rfl (by intro h;cases h) (fun h=>by cases h)
theorem tt1:tt 1=some ⟨.other,1,8,[.nilFunc]⟩:=rfl
theorem jt2:al Try.prog 2 ti2:=am (z:=(.int .i64 0)) (by kernel_rfl) Try.underlying2 rfl rfl (by intro h;cases h) (fun _=>rfl)
theorem tt2:tt 2=some ⟨.int .i64,1,8,[(.int .i64 0)]⟩:=rfl
theorem jt3:al Try.prog 3 ti3:=am (z:=(.int .i64 0)) (by kernel_rfl) Try.underlying3 rfl rfl (by intro h;cases h) (fun _=>rfl)
theorem tt3:tt 3=some ⟨.int .i64,1,8,[(.int .i64 0)]⟩:=rfl
theorem jt4:al Try.prog 4 ti4:=am (z:=(.bool false)) (by kernel_rfl) Try.underlying4 rfl rfl (by intro h;cases h) (fun _=>rfl)
theorem tt4:tt 4=some ⟨.bool,1,1,[(.bool false)]⟩:=rfl
theorem jt5:al Try.prog 5 ti5:=am (z:=(.int .u8 0)) (by kernel_rfl) Try.underlying5 rfl rfl (by intro h;cases h) (fun _=>rfl)
theorem tt5:tt 5=some ⟨.int .u8,1,1,[(.int .u8 0)]⟩:=rfl
theorem jt6:al Try.prog 6 ti6:=am (z:=(.int .u8 0)) (by kernel_rfl) Try.underlying6 rfl rfl (by intro h;cases h) (fun _=>rfl)
theorem tt6:tt 6=some ⟨.int .u8,1,1,[(.int .u8 0)]⟩:=rfl
theorem jt7:al Try.prog 7 ti7:=am (z:= .agg #[(.int .i64 0),(.int .i64 0),(.bool false),(.int .u8 0)]) (by kernel_rfl) Try.underlying7 rfl rfl (by exact fun _=>⟨by kernel_rfl,by kernel_rfl,by kernel_rfl⟩) (fun h=>by cases h)
theorem tt7:tt 7=some ⟨.strct true [(0,2),(1,3),(2,4),(3,6)],4,24,[(.int .i64 0),(.int .i64 0),(.bool false),(.int .u8 0)]⟩:=rfl
theorem jt8:al Try.prog 8 ti8:=am (z:= .agg #[(.int .i64 0),(.int .i64 0),(.bool false),(.int .u8 0)]) (by kernel_rfl) Try.underlying8 rfl rfl (by exact fun _=>⟨by kernel_rfl,by kernel_rfl,by kernel_rfl⟩) (fun h=>by cases h)
theorem tt8:tt 8=some ⟨.strct true [(0,2),(1,3),(2,4),(3,6)],4,24,[(.int .i64 0),(.int .i64 0),(.bool false),(.int .u8 0)]⟩:=rfl
theorem jt9:al Try.prog 9 ti9:=am (z:=(.string ⟨#[]⟩)) (by kernel_rfl) Try.underlying9 rfl rfl (by intro h;cases h) (fun _=>rfl)
theorem tt9:tt 9=some ⟨.str,1,16,[(.string ⟨#[]⟩)]⟩:=rfl
theorem jm4:al Try.prog 10 jph:=am (z:=(.string ⟨#[]⟩)) (by kernel_rfl) Try.underlying10 rfl rfl (by intro h;cases h) (fun _=>rfl)
theorem jug:tt 10=some ⟨.str,1,16,[(.string ⟨#[]⟩)]⟩:=rfl
theorem jm5:al Try.prog 11 jpi:=am (z:=(.string ⟨#[]⟩)) (by kernel_rfl) Try.underlying11 rfl rfl (by intro h;cases h) (fun _=>rfl)
theorem juh:tt 11=some ⟨.str,1,16,[(.string ⟨#[]⟩)]⟩:=rfl
theorem jm6:al Try.prog 12 jpj:=am (z:=(.int .u64 0)) (by kernel_rfl) Try.underlying12 rfl rfl (by intro h;cases h) (fun _=>rfl)
theorem jui:tt 12=some ⟨.int .u64,1,8,[(.int .u64 0)]⟩:=rfl
theorem jm7:al Try.prog 13 jpk:=am (z:= .agg #[(.string ⟨#[]⟩),(.int .u64 0)]) (by kernel_rfl) Try.underlying13 rfl rfl (by intro h;cases h) (fun h=>by cases h)
theorem juj:tt 13=some ⟨.strct false [(0,9),(1,12)],2,24,[(.string ⟨#[]⟩),(.int .u64 0)]⟩:=rfl
theorem jm8:al Try.prog 14 jpl:=am (z:= .agg #[(.string ⟨#[]⟩),(.int .u64 0)]) (by kernel_rfl) Try.underlying14 rfl rfl (by intro h;cases h) (fun h=>by cases h)
theorem juk:tt 14=some ⟨.strct false [(0,9),(1,12)],2,24,[(.string ⟨#[]⟩),(.int .u64 0)]⟩:=rfl
theorem jm9:al Try.prog 15 jpm:=am (z:=(.pointer none)) (by kernel_rfl) Try.underlying15 rfl rfl (by intro h;cases h) (fun h=>by cases h)
theorem jul:tt 15=some ⟨.other,1,8,[(.pointer none)]⟩:=rfl
theorem jna:al Try.prog 16 jpn:=am (z:=(.pointer none)) (by kernel_rfl) Try.underlying16 rfl rfl (by intro h;cases h) (fun h=>by cases h)
theorem jum:tt 16=some ⟨.other,1,8,[(.pointer none)]⟩:=rfl
theorem jnb:al Try.prog 17 jpo:=am (z:=(.pointer none)) (by kernel_rfl) Try.underlying17 rfl rfl (by intro h;cases h) (fun h=>by cases h)
theorem jun:tt 17=some ⟨.other,1,8,[(.pointer none)]⟩:=rfl
theorem jnc:al Try.prog 18 jpp:=am (z:= .agg #[(.pointer none)]) (by kernel_rfl) Try.underlying18 rfl rfl (by intro h;cases h) (fun h=>by cases h)
theorem juo:tt 18=some ⟨.strct false [(0,17)],1,8,[(.pointer none)]⟩:=rfl
theorem jnd:al Try.prog 19 jpq:=am (z:= .agg #[(.pointer none)]) (by kernel_rfl) Try.underlying19 rfl rfl (by intro h;cases h) (fun h=>by cases h)
theorem jup:tt 19=some ⟨.strct false [(0,17)],1,8,[(.pointer none)]⟩:=rfl
theorem jne:al Try.prog 20 jpr:=am (z:= .nilIface) (by kernel_rfl) Try.underlying20 rfl rfl (by intro h;cases h) (fun h=>by cases h)
theorem juq:tt 20=some ⟨.other,1,16,[.nilIface]⟩:=rfl
theorem jnf:al Try.prog 21 jps:=am (z:=(.int .i32 0)) (by kernel_rfl) Try.underlying21 rfl rfl (by intro h;cases h) (fun _=>rfl)
theorem jur:tt 21=some ⟨.int .i32,1,4,[(.int .i32 0)]⟩:=rfl
theorem jng:al Try.prog 22 jpt:=am (z:=(.slice none 0 0)) (by kernel_rfl) Try.underlying22 rfl rfl (by intro h;cases h) (fun h=>by cases h)
theorem jus:tt 22=some ⟨.slice 43,1,24,[(.slice none 0 0)]⟩:=rfl
theorem jnh:al Try.prog 23 jpu:=am (z:= .agg #[(.int .i64 0),(.slice none 0 0),(.int .i64 0),(.int .i64 0)]) (by kernel_rfl) Try.underlying23 rfl rfl (by intro h;cases h) (fun h=>by cases h)
theorem jut:tt 23=some ⟨.strct false [(0,3),(1,22),(2,3),(3,3)],4,48,[(.int .i64 0),(.slice none 0 0),(.int .i64 0),(.int .i64 0)]⟩:=rfl
theorem jni:al Try.prog 24 jpv:=am (z:= .agg #[(.int .i64 0),(.slice none 0 0),(.int .i64 0),(.int .i64 0)]) (by kernel_rfl) Try.underlying24 rfl rfl (by intro h;cases h) (fun h=>by cases h)
theorem juu:tt 24=some ⟨.strct false [(0,3),(1,22),(2,3),(3,3)],4,48,[(.int .i64 0),(.slice none 0 0),(.int .i64 0),(.int .i64 0)]⟩:=rfl
theorem jnj:al Try.prog 25 jpw:=am (z:=(.slice none 0 0)) (by kernel_rfl) Try.underlying25 rfl rfl (by intro h;cases h) (fun h=>by cases h)
theorem juv:tt 25=some ⟨.slice 3,1,24,[(.slice none 0 0)]⟩:=rfl
theorem jnk:al Try.prog 26 jpx:=am (z:=(.slice none 0 0)) (by kernel_rfl) Try.underlying26 rfl rfl (by intro h;cases h) (fun h=>by cases h)
theorem juw:tt 26=some ⟨.slice 48,1,24,[(.slice none 0 0)]⟩:=rfl
theorem jnl:al Try.prog 27 jpy:=am (z:= .agg #[(.slice none 0 0),(.slice none 0 0),(.slice none 0 0)]) (by kernel_rfl) Try.underlying27 rfl rfl (by intro h;cases h) (fun h=>by cases h)
theorem jux:tt 27=some ⟨.strct false [(0,25),(1,25),(2,26)],3,72,[(.slice none 0 0),(.slice none 0 0),(.slice none 0 0)]⟩:=rfl
theorem jnm:al Try.prog 28 jpz:=am (z:= .agg #[(.slice none 0 0),(.slice none 0 0),(.slice none 0 0)]) (by kernel_rfl) Try.underlying28 rfl rfl (by intro h;cases h) (fun h=>by cases h)
theorem juy:tt 28=some ⟨.strct false [(0,25),(1,25),(2,26)],3,72,[(.slice none 0 0),(.slice none 0 0),(.slice none 0 0)]⟩:=rfl
theorem jnn:al Try.prog 29 jp0:=am (z:= .nilFunc) (by kernel_rfl) Try.underlying29 rfl rfl (by intro h;cases h) (fun h=>by cases h)
theorem juz:tt 29=some ⟨.other,1,8,[.nilFunc]⟩:=rfl
theorem jno:al Try.prog 30 jp1:=am (z:= .nilFunc) (by kernel_rfl) Try.underlying30 rfl rfl (by intro h;cases h) (fun h=>by cases h)
theorem ju0:tt 30=some ⟨.other,1,8,[.nilFunc]⟩:=rfl
theorem jnp:al Try.prog 31 jp2:=am (z:= .nilFunc) (by kernel_rfl) Try.underlying31 rfl rfl (by intro h;cases h) (fun h=>by cases h)
theorem ju1:tt 31=some ⟨.other,1,8,[.nilFunc]⟩:=rfl
theorem jnq:al Try.prog 32 jp3:=am (z:= .nilFunc) (by kernel_rfl) Try.underlying32 rfl rfl (by intro h;cases h) (fun h=>by cases h)
theorem ju2:tt 32=some ⟨.other,1,8,[.nilFunc]⟩:=rfl
theorem jnr:al Try.prog 33 jp4:=am (z:= .nilFunc) (by kernel_rfl) Try.underlying33 rfl rfl (by intro h;cases h) (fun h=>by cases h)
theorem ju3:tt 33=some ⟨.other,1,8,[.nilFunc]⟩:=rfl
theorem jns:al Try.prog 34 jp5:=am (z:=(.int .i64 0)) (by kernel_rfl) Try.underlying34 rfl rfl (by intro h;cases h) (fun _=>rfl)
theorem ju4:tt 34=some ⟨.int .i64,1,8,[(.int .i64 0)]⟩:=rfl
theorem jnt:al Try.prog 36 jp6:=am (z:= .nilFunc) (by kernel_rfl) Try.underlying36 rfl rfl (by intro h;cases h) (fun h=>by cases h)
theorem ju5:tt 36=some ⟨.other,1,8,[.nilFunc]⟩:=rfl
theorem jnu:al Try.prog 37 jp7:=am (z:= .nilFunc) (by kernel_rfl) Try.underlying37 rfl rfl (by intro h;cases h) (fun h=>by cases h)
theorem ju6:tt 37=some ⟨.other,1,8,[.nilFunc]⟩:=rfl
theorem jnv:al Try.prog 38 jp8:=am (z:=(.slice none 0 0)) (by kernel_rfl) Try.underlying38 rfl rfl (by intro h;cases h) (fun h=>by cases h)
theorem ju7:tt 38=some ⟨.slice 25,1,24,[(.slice none 0 0)]⟩:=rfl
theorem jnw:al Try.prog 40 jp9:=am (z:= .nilFunc) (by kernel_rfl) Try.underlying40 rfl rfl (by intro h;cases h) (fun h=>by cases h)
theorem ju8:tt 40=some ⟨.other,1,8,[.nilFunc]⟩:=rfl
theorem jnx:al Try.prog 41 jqa:=am (z:= .nilFunc) (by kernel_rfl) Try.underlying41 rfl rfl (by intro h;cases h) (fun h=>by cases h)
theorem ju9:tt 41=some ⟨.other,1,8,[.nilFunc]⟩:=rfl
theorem jny:al Try.prog 42 jqb:=am (z:= .agg #[(.string ⟨#[]⟩),(.slice none 0 0),(.slice none 0 0)]) (by kernel_rfl) Try.underlying42 rfl rfl (by intro h;cases h) (fun h=>by cases h)
theorem jva:tt 42=some ⟨.strct false [(0,9),(1,25),(2,25)],3,64,[(.string ⟨#[]⟩),(.slice none 0 0),(.slice none 0 0)]⟩:=rfl
theorem jnz:al Try.prog 43 jqc:=am (z:= .agg #[(.string ⟨#[]⟩),(.slice none 0 0),(.slice none 0 0)]) (by kernel_rfl) Try.underlying43 rfl rfl (by intro h;cases h) (fun h=>by cases h)
theorem jvb:tt 43=some ⟨.strct false [(0,9),(1,25),(2,25)],3,64,[(.string ⟨#[]⟩),(.slice none 0 0),(.slice none 0 0)]⟩:=rfl
theorem jn0:al Try.prog 44 jqd:=am (z:= .nilFunc) (by kernel_rfl) Try.underlying44 rfl rfl (by intro h;cases h) (fun h=>by cases h)
theorem jvc:tt 44=some ⟨.other,1,8,[.nilFunc]⟩:=rfl
theorem jn1:al Try.prog 45 jqe:=am (z:= .nilFunc) (by kernel_rfl) Try.underlying45 rfl rfl (by intro h;cases h) (fun h=>by cases h)
theorem jvd:tt 45=some ⟨.other,1,8,[.nilFunc]⟩:=rfl
theorem jn2:al Try.prog 46 jqf:=am (z:= .nilFunc) (by kernel_rfl) Try.underlying46 rfl rfl (by intro h;cases h) (fun h=>by cases h)
theorem jve:tt 46=some ⟨.other,1,8,[.nilFunc]⟩:=rfl
theorem jn3:al Try.prog 47 jqg:=am (z:= .nilFunc) (by kernel_rfl) Try.underlying47 rfl rfl (by intro h;cases h) (fun h=>by cases h)
theorem jvf:tt 47=some ⟨.other,1,8,[.nilFunc]⟩:=rfl
theorem jn4:al Try.prog 48 jqh:=am (z:= .agg #[(.slice none 0 0),(.slice none 0 0)]) (by kernel_rfl) Try.underlying48 rfl rfl (by intro h;cases h) (fun h=>by cases h)
theorem jvg:tt 48=some ⟨.arr false 2 25,2,48,[(.slice none 0 0),(.slice none 0 0)]⟩:=rfl
theorem jn5:al Try.prog 49 jqi:=am (z:= .nilFunc) (by kernel_rfl) Try.underlying49 rfl rfl (by intro h;cases h) (fun h=>by cases h)
theorem jvh:tt 49=some ⟨.other,1,8,[.nilFunc]⟩:=rfl
theorem jn6:al Try.prog 51 jqj:=am (z:= .nilFunc) (by kernel_rfl) Try.underlying51 rfl rfl (by intro h;cases h) (fun h=>by cases h)
theorem jvi:tt 51=some ⟨.other,1,8,[.nilFunc]⟩:=rfl
theorem jn7:al Try.prog 52 jqk:=am (z:=(.slice none 0 0)) (by kernel_rfl) Try.underlying52 rfl rfl (by intro h;cases h) (fun h=>by cases h)
theorem jvj:tt 52=some ⟨.slice 83,1,24,[(.slice none 0 0)]⟩:=rfl
theorem jn8:al Try.prog 53 jql:=am (z:= .nilFunc) (by kernel_rfl) Try.underlying53 rfl rfl (by intro h;cases h) (fun h=>by cases h)
theorem jvk:tt 53=some ⟨.other,1,8,[.nilFunc]⟩:=rfl
theorem jn9:al Try.prog 54 jqm:=am (z:= .nilFunc) (by kernel_rfl) Try.underlying54 rfl rfl (by intro h;cases h) (fun h=>by cases h)
theorem jvl:tt 54=some ⟨.other,1,8,[.nilFunc]⟩:=rfl
theorem joa:al Try.prog 55 jqn:=am (z:= .nilFunc) (by kernel_rfl) Try.underlying55 rfl rfl (by intro h;cases h) (fun h=>by cases h)
theorem jvm:tt 55=some ⟨.other,1,8,[.nilFunc]⟩:=rfl
theorem job:al Try.prog 56 jqo:=am (z:= .nilFunc) (by kernel_rfl) Try.underlying56 rfl rfl (by intro h;cases h) (fun h=>by cases h)
theorem jvn:tt 56=some ⟨.other,1,8,[.nilFunc]⟩:=rfl
theorem joc:al Try.prog 58 jqp:=am (z:= .nilFunc) (by kernel_rfl) Try.underlying58 rfl rfl (by intro h;cases h) (fun h=>by cases h)
theorem jvo:tt 58=some ⟨.other,1,8,[.nilFunc]⟩:=rfl
theorem jod:al Try.prog 59 jqq:=am (z:= .nilFunc) (by kernel_rfl) Try.underlying59 rfl rfl (by intro h;cases h) (fun h=>by cases h)
theorem jvp:tt 59=some ⟨.other,1,8,[.nilFunc]⟩:=rfl
theorem joe:al Try.prog 60 jqr:=am (z:=(.slice none 0 0)) (by kernel_rfl) Try.underlying60 rfl rfl (by intro h;cases h) (fun h=>by cases h)
theorem jvq:tt 60=some ⟨.slice 9,1,24,[(.slice none 0 0)]⟩:=rfl
theorem jof:al Try.prog 62 jqs:=am (z:= .nilFunc) (by kernel_rfl) Try.underlying62 rfl rfl (by intro h;cases h) (fun h=>by cases h)
theorem jvr:tt 62=some ⟨.other,1,8,[.nilFunc]⟩:=rfl
theorem jog:al Try.prog 64 jqt:=am (z:= .nilFunc) (by kernel_rfl) Try.underlying64 rfl rfl (by intro h;cases h) (fun h=>by cases h)
theorem jvs:tt 64=some ⟨.other,1,8,[.nilFunc]⟩:=rfl
theorem joh:al Try.prog 65 jqu:=am (z:= .nilFunc) (by kernel_rfl) Try.underlying65 rfl rfl (by intro h;cases h) (fun h=>by cases h)
theorem jvt:tt 65=some ⟨.other,1,8,[.nilFunc]⟩:=rfl
theorem joi:al Try.prog 67 jqv:=am (z:= .nilFunc) (by kernel_rfl) Try.underlying67 rfl rfl (by intro h;cases h) (fun h=>by cases h)
theorem jvu:tt 67=some ⟨.other,1,8,[.nilFunc]⟩:=rfl
theorem joj:al Try.prog 68 jqw:=am (z:= .nilFunc) (by kernel_rfl) Try.underlying68 rfl rfl (by intro h;cases h) (fun h=>by cases h)
theorem jvv:tt 68=some ⟨.other,1,8,[.nilFunc]⟩:=rfl
theorem jok:al Try.prog 69 jqx:=am (z:= .nilFunc) (by kernel_rfl) Try.underlying69 rfl rfl (by intro h;cases h) (fun h=>by cases h)
theorem jvw:tt 69=some ⟨.other,1,8,[.nilFunc]⟩:=rfl
theorem jol:al Try.prog 70 jqy:=am (z:= .nilFunc) (by kernel_rfl) Try.underlying70 rfl rfl (by intro h;cases h) (fun h=>by cases h)
theorem jvx:tt 70=some ⟨.other,1,8,[.nilFunc]⟩:=rfl
theorem jom:al Try.prog 71 jqz:=am (z:= .nilFunc) (by kernel_rfl) Try.underlying71 rfl rfl (by intro h;cases h) (fun h=>by cases h)
theorem jvy:tt 71=some ⟨.other,1,8,[.nilFunc]⟩:=rfl
theorem jon:al Try.prog 72 jq0:=am (z:= .nilFunc) (by kernel_rfl) Try.underlying72 rfl rfl (by intro h;cases h) (fun h=>by cases h)
theorem jvz:tt 72=some ⟨.other,1,8,[.nilFunc]⟩:=rfl
theorem joo:al Try.prog 73 jq1:=am (z:= .nilFunc) (by kernel_rfl) Try.underlying73 rfl rfl (by intro h;cases h) (fun h=>by cases h)
theorem jv0:tt 73=some ⟨.other,1,8,[.nilFunc]⟩:=rfl
theorem jop:al Try.prog 74 jq2:=am (z:= .nilFunc) (by kernel_rfl) Try.underlying74 rfl rfl (by intro h;cases h) (fun h=>by cases h)
theorem jv1:tt 74=some ⟨.other,1,8,[.nilFunc]⟩:=rfl
theorem joq:al Try.prog 75 jq3:=am (z:= .nilFunc) (by kernel_rfl) Try.underlying75 rfl rfl (by intro h;cases h) (fun h=>by cases h)
theorem jv2:tt 75=some ⟨.other,1,8,[.nilFunc]⟩:=rfl
theorem jor:al Try.prog 76 jq4:=am (z:= .nilFunc) (by kernel_rfl) Try.underlying76 rfl rfl (by intro h;cases h) (fun h=>by cases h)
theorem jv3:tt 76=some ⟨.other,1,8,[.nilFunc]⟩:=rfl
theorem jos:al Try.prog 77 jq5:=am (z:= .nilFunc) (by kernel_rfl) Try.underlying77 rfl rfl (by intro h;cases h) (fun h=>by cases h)
theorem jv4:tt 77=some ⟨.other,1,8,[.nilFunc]⟩:=rfl
theorem jot:al Try.prog 78 jq6:=am (z:= .nilFunc) (by kernel_rfl) Try.underlying78 rfl rfl (by intro h;cases h) (fun h=>by cases h)
theorem jv5:tt 78=some ⟨.other,1,8,[.nilFunc]⟩:=rfl
theorem jou:al Try.prog 79 jq7:=am (z:= .nilFunc) (by kernel_rfl) Try.underlying79 rfl rfl (by intro h;cases h) (fun h=>by cases h)
theorem jv6:tt 79=some ⟨.other,1,8,[.nilFunc]⟩:=rfl
theorem jov:al Try.prog 80 jq8:=am (z:= .nilFunc) (by kernel_rfl) Try.underlying80 rfl rfl (by intro h;cases h) (fun h=>by cases h)
theorem jv7:tt 80=some ⟨.other,1,8,[.nilFunc]⟩:=rfl
theorem jow:al Try.prog 81 jq9:=am (z:= .nilFunc) (by kernel_rfl) Try.underlying81 rfl rfl (by intro h;cases h) (fun h=>by cases h)
theorem jv8:tt 81=some ⟨.other,1,8,[.nilFunc]⟩:=rfl
theorem jox:al Try.prog 82 jra:=am (z:= .agg #[(.slice none 0 0),(.slice none 0 0)]) (by kernel_rfl) Try.underlying82 rfl rfl (by intro h;cases h) (fun h=>by cases h)
theorem jv9:tt 82=some ⟨.strct false [(0,25),(1,25)],2,48,[(.slice none 0 0),(.slice none 0 0)]⟩:=rfl
theorem joy:al Try.prog 83 jrb:=am (z:= .agg #[(.slice none 0 0),(.slice none 0 0)]) (by kernel_rfl) Try.underlying83 rfl rfl (by intro h;cases h) (fun h=>by cases h)
theorem jwa:tt 83=some ⟨.strct false [(0,25),(1,25)],2,48,[(.slice none 0 0),(.slice none 0 0)]⟩:=rfl
theorem joz:al Try.prog 84 jrc:=am (z:= .nilFunc) (by kernel_rfl) Try.underlying84 rfl rfl (by intro h;cases h) (fun h=>by cases h)
theorem jwb:tt 84=some ⟨.other,1,8,[.nilFunc]⟩:=rfl
theorem jo0:al Try.prog 86 jrd:=am (z:= .nilFunc) (by kernel_rfl) Try.underlying86 rfl rfl (by intro h;cases h) (fun h=>by cases h)
theorem jwc:tt 86=some ⟨.other,1,8,[.nilFunc]⟩:=rfl
theorem jo1:al Try.prog 87 jre:=am (z:=(.slice none 0 0)) (by kernel_rfl) Try.underlying87 rfl rfl (by intro h;cases h) (fun h=>by cases h)
theorem jwd:tt 87=some ⟨.slice 92,1,24,[(.slice none 0 0)]⟩:=rfl
theorem jo2:al Try.prog 89 jrf:=am (z:= .nilFunc) (by kernel_rfl) Try.underlying89 rfl rfl (by intro h;cases h) (fun h=>by cases h)
theorem jwe:tt 89=some ⟨.other,1,8,[.nilFunc]⟩:=rfl
theorem jo3:al Try.prog 90 jrg:=am (z:= .nilFunc) (by kernel_rfl) Try.underlying90 rfl rfl (by intro h;cases h) (fun h=>by cases h)
theorem jwf:tt 90=some ⟨.other,1,8,[.nilFunc]⟩:=rfl
theorem jo4:al Try.prog 91 jrh:=am (z:= .agg #[(.int .i64 0),(.slice none 0 0),(.slice none 0 0)]) (by kernel_rfl) Try.underlying91 rfl rfl (by intro h;cases h) (fun h=>by cases h)
theorem jwg:tt 91=some ⟨.strct false [(0,3),(1,25),(2,25)],3,56,[(.int .i64 0),(.slice none 0 0),(.slice none 0 0)]⟩:=rfl
theorem jo5:al Try.prog 92 jri:=am (z:= .agg #[(.int .i64 0),(.slice none 0 0),(.slice none 0 0)]) (by kernel_rfl) Try.underlying92 rfl rfl (by intro h;cases h) (fun h=>by cases h)
theorem jwh:tt 92=some ⟨.strct false [(0,3),(1,25),(2,25)],3,56,[(.int .i64 0),(.slice none 0 0),(.slice none 0 0)]⟩:=rfl
theorem jo6:al Try.prog 93 jrj:=am (z:= .nilFunc) (by kernel_rfl) Try.underlying93 rfl rfl (by intro h;cases h) (fun h=>by cases h)
theorem jwi:tt 93=some ⟨.other,1,8,[.nilFunc]⟩:=rfl
theorem jo7:al Try.prog 95 jrk:=am (z:= .nilFunc) (by kernel_rfl) Try.underlying95 rfl rfl (by intro h;cases h) (fun h=>by cases h)
theorem jwj:tt 95=some ⟨.other,1,8,[.nilFunc]⟩:=rfl
theorem jo8:al Try.prog 97 jrl:=am (z:= .nilFunc) (by kernel_rfl) Try.underlying97 rfl rfl (by intro h;cases h) (fun h=>by cases h)
theorem jwk:tt 97=some ⟨.other,1,8,[.nilFunc]⟩:=rfl
theorem jo9:al Try.prog 98 jrm:=am (z:=(.slice none 0 0)) (by kernel_rfl) Try.underlying98 rfl rfl (by intro h;cases h) (fun h=>by cases h)
theorem jwl:tt 98=some ⟨.slice 102,1,24,[(.slice none 0 0)]⟩:=rfl
theorem jka:al Try.prog 100 jhn:=am (z:= .nilFunc) (by kernel_rfl) Try.underlying100 rfl rfl (by intro h;cases h) (fun h=>by cases h)
theorem jro:tt 100=some ⟨.other,1,8,[.nilFunc]⟩:=rfl
theorem jkb:al Try.prog 101 jho:=am (z:= .agg #[(.int .i64 0),(.slice none 0 0),(.slice none 0 0)]) (by kernel_rfl) Try.underlying101 rfl rfl (by intro h;cases h) (fun h=>by cases h)
theorem jrp:tt 101=some ⟨.strct false [(0,3),(1,25),(2,25)],3,56,[(.int .i64 0),(.slice none 0 0),(.slice none 0 0)]⟩:=rfl
theorem jkc:al Try.prog 102 jhp:=am (z:= .agg #[(.int .i64 0),(.slice none 0 0),(.slice none 0 0)]) (by kernel_rfl) Try.underlying102 rfl rfl (by intro h;cases h) (fun h=>by cases h)
theorem jrq:tt 102=some ⟨.strct false [(0,3),(1,25),(2,25)],3,56,[(.int .i64 0),(.slice none 0 0),(.slice none 0 0)]⟩:=rfl
theorem jkd:al Try.prog 103 jhq:=am (z:= .nilFunc) (by kernel_rfl) Try.underlying103 rfl rfl (by intro h;cases h) (fun h=>by cases h)
theorem jrr:tt 103=some ⟨.other,1,8,[.nilFunc]⟩:=rfl
theorem jke:al Try.prog 105 jhr:=am (z:= .nilFunc) (by kernel_rfl) Try.underlying105 rfl rfl (by intro h;cases h) (fun h=>by cases h)
theorem jrs:tt 105=some ⟨.other,1,8,[.nilFunc]⟩:=rfl
theorem jkf:al Try.prog 106 jhs:=am (z:= .nilFunc) (by kernel_rfl) Try.underlying106 rfl rfl (by intro h;cases h) (fun h=>by cases h)
theorem jrt:tt 106=some ⟨.other,1,8,[.nilFunc]⟩:=rfl
theorem jkg:al Try.prog 108 jht:=am (z:= .nilFunc) (by kernel_rfl) Try.underlying108 rfl rfl (by intro h;cases h) (fun h=>by cases h)
theorem jru:tt 108=some ⟨.other,1,8,[.nilFunc]⟩:=rfl
theorem jkh:al Try.prog 109 jhu:=am (z:= .nilFunc) (by kernel_rfl) Try.underlying109 rfl rfl (by intro h;cases h) (fun h=>by cases h)
theorem jrv:tt 109=some ⟨.other,1,8,[.nilFunc]⟩:=rfl
theorem jki:al Try.prog 110 jhv:=am (z:= .nilFunc) (by kernel_rfl) Try.underlying110 rfl rfl (by intro h;cases h) (fun h=>by cases h)
theorem jrw:tt 110=some ⟨.other,1,8,[.nilFunc]⟩:=rfl
theorem jkj:al Try.prog 111 jhw:=am (z:= .nilFunc) (by kernel_rfl) Try.underlying111 rfl rfl (by intro h;cases h) (fun h=>by cases h)
theorem jrx:tt 111=some ⟨.other,1,8,[.nilFunc]⟩:=rfl
theorem jkk:al Try.prog 112 jhx:=am (z:= .nilFunc) (by kernel_rfl) Try.underlying112 rfl rfl (by intro h;cases h) (fun h=>by cases h)
theorem jry:tt 112=some ⟨.other,1,8,[.nilFunc]⟩:=rfl
theorem jkl:al Try.prog 113 jhy:=am (z:= .nilFunc) (by kernel_rfl) Try.underlying113 rfl rfl (by intro h;cases h) (fun h=>by cases h)
theorem jrz:tt 113=some ⟨.other,1,8,[.nilFunc]⟩:=rfl
theorem jkm:al Try.prog 115 jhz:=am (z:= .nilFunc) (by kernel_rfl) Try.underlying115 rfl rfl (by intro h;cases h) (fun h=>by cases h)
theorem jr0:tt 115=some ⟨.other,1,8,[.nilFunc]⟩:=rfl
theorem jkn:al Try.prog 116 jh0:=am (z:=(.map none)) (by kernel_rfl) Try.underlying116 rfl rfl (by intro h;cases h) (fun h=>by cases h)
theorem jr1:tt 116=some ⟨.map 9 4,1,8,[(.map none)]⟩:=rfl
theorem jko:al Try.prog 117 jh1:=am (z:= .nilFunc) (by kernel_rfl) Try.underlying117 rfl rfl (by intro h;cases h) (fun h=>by cases h)
theorem jr2:tt 117=some ⟨.other,1,8,[.nilFunc]⟩:=rfl
theorem jkp:al Try.prog 118 jh2:=am (z:= .nilFunc) (by kernel_rfl) Try.underlying118 rfl rfl (by intro h;cases h) (fun h=>by cases h)
theorem jr3:tt 118=some ⟨.other,1,8,[.nilFunc]⟩:=rfl
theorem jkq:al Try.prog 119 jh3:=am (z:= .nilFunc) (by kernel_rfl) Try.underlying119 rfl rfl (by intro h;cases h) (fun h=>by cases h)
theorem jr4:tt 119=some ⟨.other,1,8,[.nilFunc]⟩:=rfl
theorem jkr:al Try.prog 120 jh4:=am (z:= .nilFunc) (by kernel_rfl) Try.underlying120 rfl rfl (by intro h;cases h) (fun h=>by cases h)
theorem jr5:tt 120=some ⟨.other,1,8,[.nilFunc]⟩:=rfl
theorem jks:al Try.prog 121 jh5:=am (z:= .nilFunc) (by kernel_rfl) Try.underlying121 rfl rfl (by intro h;cases h) (fun h=>by cases h)
theorem jr6:tt 121=some ⟨.other,1,8,[.nilFunc]⟩:=rfl
theorem jkt:al Try.prog 122 jh6:=am (z:= .nilFunc) (by kernel_rfl) Try.underlying122 rfl rfl (by intro h;cases h) (fun h=>by cases h)
theorem jr7:tt 122=some ⟨.other,1,8,[.nilFunc]⟩:=rfl
theorem jku:al Try.prog 123 jh7:=am (z:= .nilFunc) (by kernel_rfl) Try.underlying123 rfl rfl (by intro h;cases h) (fun h=>by cases h)
theorem jr8:tt 123=some ⟨.other,1,8,[.nilFunc]⟩:=rfl
theorem jkv:al Try.prog 124 jh8:=am (z:= .nilFunc) (by kernel_rfl) Try.underlying124 rfl rfl (by intro h;cases h) (fun h=>by cases h)
theorem jr9:tt 124=some ⟨.other,1,8,[.nilFunc]⟩:=rfl
theorem jkw:al Try.prog 125 jh9:=am (z:= .nilFunc) (by kernel_rfl) Try.underlying125 rfl rfl (by intro h;cases h) (fun h=>by cases h)
theorem jsa:tt 125=some ⟨.other,1,8,[.nilFunc]⟩:=rfl
theorem jkx:al Try.prog 126 jia:=am (z:=(.slice none 0 0)) (by kernel_rfl) Try.underlying126 rfl rfl (by intro h;cases h) (fun h=>by cases h)
theorem jsb:tt 126=some ⟨.slice 129,1,24,[(.slice none 0 0)]⟩:=rfl
theorem jky:al Try.prog 127 jib:=am (z:= .nilFunc) (by kernel_rfl) Try.underlying127 rfl rfl (by intro h;cases h) (fun h=>by cases h)
theorem jsc:tt 127=some ⟨.other,1,8,[.nilFunc]⟩:=rfl
theorem jkz:al Try.prog 128 jic:=am (z:= .agg #[(.int .i64 0),(.slice none 0 0)]) (by kernel_rfl) Try.underlying128 rfl rfl (by intro h;cases h) (fun h=>by cases h)
theorem jsd:tt 128=some ⟨.strct false [(0,3),(1,25)],2,32,[(.int .i64 0),(.slice none 0 0)]⟩:=rfl
theorem jk0:al Try.prog 129 jid:=am (z:= .agg #[(.int .i64 0),(.slice none 0 0)]) (by kernel_rfl) Try.underlying129 rfl rfl (by intro h;cases h) (fun h=>by cases h)
theorem jse:tt 129=some ⟨.strct false [(0,3),(1,25)],2,32,[(.int .i64 0),(.slice none 0 0)]⟩:=rfl
theorem jk1:al Try.prog 130 jie:=am (z:= .nilFunc) (by kernel_rfl) Try.underlying130 rfl rfl (by intro h;cases h) (fun h=>by cases h)
theorem jsf:tt 130=some ⟨.other,1,8,[.nilFunc]⟩:=rfl
theorem jk2:al Try.prog 131 jif:=am (z:= .nilFunc) (by kernel_rfl) Try.underlying131 rfl rfl (by intro h;cases h) (fun h=>by cases h)
theorem jsg:tt 131=some ⟨.other,1,8,[.nilFunc]⟩:=rfl
theorem jk3:al Try.prog 132 jig:=am (z:= .nilFunc) (by kernel_rfl) Try.underlying132 rfl rfl (by intro h;cases h) (fun h=>by cases h)
theorem jsh:tt 132=some ⟨.other,1,8,[.nilFunc]⟩:=rfl
theorem jk4:al Try.prog 133 jih:=am (z:=(.slice none 0 0)) (by kernel_rfl) Try.underlying133 rfl rfl (by intro h;cases h) (fun h=>by cases h)
theorem jsi:tt 133=some ⟨.slice 4,1,24,[(.slice none 0 0)]⟩:=rfl
theorem jk5:al Try.prog 135 jii:=am (z:= .nilFunc) (by kernel_rfl) Try.underlying135 rfl rfl (by intro h;cases h) (fun h=>by cases h)
theorem jsj:tt 135=some ⟨.other,1,8,[.nilFunc]⟩:=rfl
theorem jk6:al Try.prog 136 jij:=am (z:= .nilFunc) (by kernel_rfl) Try.underlying136 rfl rfl (by intro h;cases h) (fun h=>by cases h)
theorem jsk:tt 136=some ⟨.other,1,8,[.nilFunc]⟩:=rfl
theorem jk7:al Try.prog 137 jik:=am (z:= .nilFunc) (by kernel_rfl) Try.underlying137 rfl rfl (by intro h;cases h) (fun h=>by cases h)
theorem jsl:tt 137=some ⟨.other,1,8,[.nilFunc]⟩:=rfl
theorem jk8:al Try.prog 138 jil:=am (z:= .nilFunc) (by kernel_rfl) Try.underlying138 rfl rfl (by intro h;cases h) (fun h=>by cases h)
theorem jsm:tt 138=some ⟨.other,1,8,[.nilFunc]⟩:=rfl
theorem jk9:al Try.prog 139 jim:=am (z:= .nilFunc) (by kernel_rfl) Try.underlying139 rfl rfl (by intro h;cases h) (fun h=>by cases h)
theorem jsn:tt 139=some ⟨.other,1,8,[.nilFunc]⟩:=rfl
theorem jla:al Try.prog 140 jin:=am (z:= .nilFunc) (by kernel_rfl) Try.underlying140 rfl rfl (by intro h;cases h) (fun h=>by cases h)
theorem jso:tt 140=some ⟨.other,1,8,[.nilFunc]⟩:=rfl
theorem jlb:al Try.prog 141 jio:=am (z:= .nilFunc) (by kernel_rfl) Try.underlying141 rfl rfl (by intro h;cases h) (fun h=>by cases h)
theorem jsp:tt 141=some ⟨.other,1,8,[.nilFunc]⟩:=rfl
theorem jlc:al Try.prog 142 jip:=am (z:= .nilFunc) (by kernel_rfl) Try.underlying142 rfl rfl (by intro h;cases h) (fun h=>by cases h)
theorem jsq:tt 142=some ⟨.other,1,8,[.nilFunc]⟩:=rfl
theorem jld:al Try.prog 143 jiq:=am (z:=(.pointer none)) (by kernel_rfl) Try.underlying143 rfl rfl (by intro h;cases h) (fun h=>by cases h)
theorem jsr:tt 143=some ⟨.other,1,8,[(.pointer none)]⟩:=rfl
theorem jle:al Try.prog 144 jir:=am (z:=(.slice none 0 0)) (by kernel_rfl) Try.underlying144 rfl rfl (by intro h;cases h) (fun h=>by cases h)
theorem jss:tt 144=some ⟨.slice 5,1,24,[(.slice none 0 0)]⟩:=rfl
theorem jlf:al Try.prog 145 jis:=am (z:= .agg #[(.pointer none),(.slice none 0 0)]) (by kernel_rfl) Try.underlying145 rfl rfl (by intro h;cases h) (fun h=>by cases h)
theorem jst:tt 145=some ⟨.strct false [(0,143),(1,144)],2,32,[(.pointer none),(.slice none 0 0)]⟩:=rfl
theorem jlg:al Try.prog 146 jit:=am (z:= .agg #[(.pointer none),(.slice none 0 0)]) (by kernel_rfl) Try.underlying146 rfl rfl (by intro h;cases h) (fun h=>by cases h)
theorem jsu:tt 146=some ⟨.strct false [(0,143),(1,144)],2,32,[(.pointer none),(.slice none 0 0)]⟩:=rfl
theorem jlh:al Try.prog 147 jiu:=am (z:= .nilIface) (by kernel_rfl) Try.underlying147 rfl rfl (by intro h;cases h) (fun h=>by cases h)
theorem jsv:tt 147=some ⟨.other,1,16,[.nilIface]⟩:=rfl
theorem jli:al Try.prog 148 jiv:=am (z:= .nilIface) (by kernel_rfl) Try.underlying148 rfl rfl (by intro h;cases h) (fun h=>by cases h)
theorem jsw:tt 148=some ⟨.other,1,16,[.nilIface]⟩:=rfl
theorem jlj:al Try.prog 149 jiw:=am (z:= .nilFunc) (by kernel_rfl) Try.underlying149 rfl rfl (by intro h;cases h) (fun h=>by cases h)
theorem jsx:tt 149=some ⟨.other,1,8,[.nilFunc]⟩:=rfl
theorem jlk:al Try.prog 150 jix:=am (z:=(.int .u64 0)) (by kernel_rfl) Try.underlying150 rfl rfl (by intro h;cases h) (fun _=>rfl)
theorem jsy:tt 150=some ⟨.int .u64,1,8,[(.int .u64 0)]⟩:=rfl
theorem jll:al Try.prog 151 jiy:=am (z:= .nilFunc) (by kernel_rfl) Try.underlying151 rfl rfl (by intro h;cases h) (fun h=>by cases h)
theorem jsz:tt 151=some ⟨.other,1,8,[.nilFunc]⟩:=rfl
theorem jlm:al Try.prog 152 jiz:=am (z:= .nilFunc) (by kernel_rfl) Try.underlying152 rfl rfl (by intro h;cases h) (fun h=>by cases h)
theorem js0:tt 152=some ⟨.other,1,8,[.nilFunc]⟩:=rfl
theorem jln:al Try.prog 153 ji0:=am (z:= .nilFunc) (by kernel_rfl) Try.underlying153 rfl rfl (by intro h;cases h) (fun h=>by cases h)
theorem js1:tt 153=some ⟨.other,1,8,[.nilFunc]⟩:=rfl
theorem jlo:al Try.prog 154 ji1:=am (z:= .nilFunc) (by kernel_rfl) Try.underlying154 rfl rfl (by intro h;cases h) (fun h=>by cases h)
theorem js2:tt 154=some ⟨.other,1,8,[.nilFunc]⟩:=rfl
theorem jlp:al Try.prog 155 ji2:=am (z:=(.pointer none)) (by kernel_rfl) Try.underlying155 rfl rfl (by intro h;cases h) (fun h=>by cases h)
theorem js3:tt 155=some ⟨.other,1,8,[(.pointer none)]⟩:=rfl
theorem jlq:al Try.prog 156 ji3:=am (z:=(.pointer none)) (by kernel_rfl) Try.underlying156 rfl rfl (by intro h;cases h) (fun h=>by cases h)
theorem js4:tt 156=some ⟨.other,1,8,[(.pointer none)]⟩:=rfl
theorem jlr:al Try.prog 157 ji4:=am (z:= .nilFunc) (by kernel_rfl) Try.underlying157 rfl rfl (by intro h;cases h) (fun h=>by cases h)
theorem js5:tt 157=some ⟨.other,1,8,[.nilFunc]⟩:=rfl
theorem jls:al Try.prog 158 ji5:=am (z:= .agg #[(.pointer none),(.pointer none),(.pointer none),(.string ⟨#[]⟩)]) (by kernel_rfl) Try.underlying158 rfl rfl (by intro h;cases h) (fun h=>by cases h)
theorem js6:tt 158=some ⟨.strct false [(0,17),(1,17),(2,17),(3,9)],4,40,[(.pointer none),(.pointer none),(.pointer none),(.string ⟨#[]⟩)]⟩:=rfl
theorem jlt:al Try.prog 159 ji6:=am (z:= .agg #[(.pointer none),(.pointer none),(.pointer none),(.string ⟨#[]⟩)]) (by kernel_rfl) Try.underlying159 rfl rfl (by intro h;cases h) (fun h=>by cases h)
theorem js7:tt 159=some ⟨.strct false [(0,17),(1,17),(2,17),(3,9)],4,40,[(.pointer none),(.pointer none),(.pointer none),(.string ⟨#[]⟩)]⟩:=rfl
theorem jlu:al Try.prog 160 ji7:=am (z:= .agg #[]) (by kernel_rfl) Try.underlying160 rfl rfl (by intro h;cases h) (fun h=>by cases h)
theorem js8:tt 160=some ⟨.arr false 0 16,0,0,[]⟩:=rfl
theorem jlv:al Try.prog 161 ji8:=am (z:= .agg #[]) (by kernel_rfl) Try.underlying161 rfl rfl (by intro h;cases h) (fun h=>by cases h)
theorem js9:tt 161=some ⟨.strct false [(0,160)],0,0,[]⟩:=rfl
theorem jlw:al Try.prog 162 ji9:=am (z:= .agg #[]) (by kernel_rfl) Try.underlying162 rfl rfl (by intro h;cases h) (fun h=>by cases h)
theorem jta:tt 162=some ⟨.strct false [(0,160)],0,0,[]⟩:=rfl
theorem jlx:al Try.prog 163 jja:=am (z:= .nilFunc) (by kernel_rfl) Try.underlying163 rfl rfl (by intro h;cases h) (fun h=>by cases h)
theorem jtb:tt 163=some ⟨.other,1,8,[.nilFunc]⟩:=rfl
theorem jly:al Try.prog 164 jjb:=am (z:=(.int .u32 0)) (by kernel_rfl) Try.underlying164 rfl rfl (by intro h;cases h) (fun _=>rfl)
theorem jtc:tt 164=some ⟨.int .u32,1,4,[(.int .u32 0)]⟩:=rfl
theorem jlz:al Try.prog 165 jjc:=am (z:=(.int .u8 0)) (by kernel_rfl) Try.underlying165 rfl rfl (by intro h;cases h) (fun _=>rfl)
theorem jtd:tt 165=some ⟨.int .u8,1,1,[(.int .u8 0)]⟩:=rfl
theorem jl0:al Try.prog 166 jjd:=am (z:=(.int .u8 0)) (by kernel_rfl) Try.underlying166 rfl rfl (by intro h;cases h) (fun _=>rfl)
theorem jte:tt 166=some ⟨.int .u8,1,1,[(.int .u8 0)]⟩:=rfl
theorem jl1:al Try.prog 167 jje:=am (z:= .nilFunc) (by kernel_rfl) Try.underlying167 rfl rfl (by intro h;cases h) (fun h=>by cases h)
theorem jtf:tt 167=some ⟨.other,1,8,[.nilFunc]⟩:=rfl
theorem jl2:al Try.prog 168 jjf:=am (z:=(.int .i32 0)) (by kernel_rfl) Try.underlying168 rfl rfl (by intro h;cases h) (fun _=>rfl)
theorem jtg:tt 168=some ⟨.int .i32,1,4,[(.int .i32 0)]⟩:=rfl
theorem jl3:al Try.prog 169 jjg:=am (z:=(.int .i32 0)) (by kernel_rfl) Try.underlying169 rfl rfl (by intro h;cases h) (fun _=>rfl)
theorem jth:tt 169=some ⟨.int .i32,1,4,[(.int .i32 0)]⟩:=rfl
theorem jl4:al Try.prog 170 jjh:=am (z:= .agg #[(.int .u64 0),(.int .u64 0),(.int .u32 0),(.int .u8 0),(.int .u8 0),(.int .u8 0),(.int .u8 0), .nilFunc,(.pointer none),(.int .i32 0),(.int .i32 0)]) (by kernel_rfl) Try.underlying170 rfl rfl (by intro h;cases h) (fun h=>by cases h)
theorem jti:tt 170=some ⟨.strct false [(0,12),(1,12),(2,164),(3,165),(4,5),(5,5),(6,166),(7,167),(8,155),(9,168),(10,169)],11,48,[(.int .u64 0),(.int .u64 0),(.int .u32 0),(.int .u8 0),(.int .u8 0),(.int .u8 0),(.int .u8 0), .nilFunc,(.pointer none),(.int .i32 0),(.int .i32 0)]⟩:=rfl
theorem jl5:al Try.prog 171 jji:=am (z:= .agg #[(.int .u64 0),(.int .u64 0),(.int .u32 0),(.int .u8 0),(.int .u8 0),(.int .u8 0),(.int .u8 0), .nilFunc,(.pointer none),(.int .i32 0),(.int .i32 0)]) (by kernel_rfl) Try.underlying171 rfl rfl (by intro h;cases h) (fun h=>by cases h)
theorem jtj:tt 171=some ⟨.strct false [(0,12),(1,12),(2,164),(3,165),(4,5),(5,5),(6,166),(7,167),(8,155),(9,168),(10,169)],11,48,[(.int .u64 0),(.int .u64 0),(.int .u32 0),(.int .u8 0),(.int .u8 0),(.int .u8 0),(.int .u8 0), .nilFunc,(.pointer none),(.int .i32 0),(.int .i32 0)]⟩:=rfl
set_option maxRecDepth 100000 in
theorem fits:fh Try.prog tt:=by
 intro t x h;unfold tt at h;split at h
 ·cases h;exact jt1
 ·cases h;exact jt2
 ·cases h;exact jt3
 ·cases h;exact jt4
 ·cases h;exact jt5
 ·cases h;exact jt6
 ·cases h;exact jt7
 ·cases h;exact jt8
 ·cases h;exact jt9
 ·cases h;exact jm4
 ·cases h;exact jm5
 ·cases h;exact jm6
 ·cases h;exact jm7
 ·cases h;exact jm8
 ·cases h;exact jm9
 ·cases h;exact jna
 ·cases h;exact jnb
 ·cases h;exact jnc
 ·cases h;exact jnd
 ·cases h;exact jne
 ·cases h;exact jnf
 ·cases h;exact jng
 ·cases h;exact jnh
 ·cases h;exact jni
 ·cases h;exact jnj
 ·cases h;exact jnk
 ·cases h;exact jnl
 ·cases h;exact jnm
 ·cases h;exact jnn
 ·cases h;exact jno
 ·cases h;exact jnp
 ·cases h;exact jnq
 ·cases h;exact jnr
 ·cases h;exact jns
 ·cases h;exact jnt
 ·cases h;exact jnu
 ·cases h;exact jnv
 ·cases h;exact jnw
 ·cases h;exact jnx
 ·cases h;exact jny
 ·cases h;exact jnz
 ·cases h;exact jn0
 ·cases h;exact jn1
 ·cases h;exact jn2
 ·cases h;exact jn3
 ·cases h;exact jn4
 ·cases h;exact jn5
 ·cases h;exact jn6
 ·cases h;exact jn7
 ·cases h;exact jn8
 ·cases h;exact jn9
 ·cases h;exact joa
 ·cases h;exact job
 ·cases h;exact joc
 ·cases h;exact jod
 ·cases h;exact joe
 ·cases h;exact jof
 ·cases h;exact jog
 ·cases h;exact joh
 ·cases h;exact joi
 ·cases h;exact joj
 ·cases h;exact jok
 ·cases h;exact jol
 ·cases h;exact jom
 ·cases h;exact jon
 ·cases h;exact joo
 ·cases h;exact jop
 ·cases h;exact joq
 ·cases h;exact jor
 ·cases h;exact jos
 ·cases h;exact jot
 ·cases h;exact jou
 ·cases h;exact jov
 ·cases h;exact jow
 ·cases h;exact jox
 ·cases h;exact joy
 ·cases h;exact joz
 ·cases h;exact jo0
 ·cases h;exact jo1
 ·cases h;exact jo2
 ·cases h;exact jo3
 ·cases h;exact jo4
 ·cases h;exact jo5
 ·cases h;exact jo6
 ·cases h;exact jo7
 ·cases h;exact jo8
 ·cases h;exact jo9
 ·cases h;exact jka
 ·cases h;exact jkb
 ·cases h;exact jkc
 ·cases h;exact jkd
 ·cases h;exact jke
 ·cases h;exact jkf
 ·cases h;exact jkg
 ·cases h;exact jkh
 ·cases h;exact jki
 ·cases h;exact jkj
 ·cases h;exact jkk
 ·cases h;exact jkl
 ·cases h;exact jkm
 ·cases h;exact jkn
 ·cases h;exact jko
 ·cases h;exact jkp
 ·cases h;exact jkq
 ·cases h;exact jkr
 ·cases h;exact jks
 ·cases h;exact jkt
 ·cases h;exact jku
 ·cases h;exact jkv
 ·cases h;exact jkw
 ·cases h;exact jkx
 ·cases h;exact jky
 ·cases h;exact jkz
 ·cases h;exact jk0
 ·cases h;exact jk1
 ·cases h;exact jk2
 ·cases h;exact jk3
 ·cases h;exact jk4
 ·cases h;exact jk5
 ·cases h;exact jk6
 ·cases h;exact jk7
 ·cases h;exact jk8
 ·cases h;exact jk9
 ·cases h;exact jla
 ·cases h;exact jlb
 ·cases h;exact jlc
 ·cases h;exact jld
 ·cases h;exact jle
 ·cases h;exact jlf
 ·cases h;exact jlg
 ·cases h;exact jlh
 ·cases h;exact jli
 ·cases h;exact jlj
 ·cases h;exact jlk
 ·cases h;exact jll
 ·cases h;exact jlm
 ·cases h;exact jln
 ·cases h;exact jlo
 ·cases h;exact jlp
 ·cases h;exact jlq
 ·cases h;exact jlr
 ·cases h;exact jls
 ·cases h;exact jlt
 ·cases h;exact jlu
 ·cases h;exact jlv
 ·cases h;exact jlw
 ·cases h;exact jlx
 ·cases h;exact jly
 ·cases h;exact jlz
 ·cases h;exact jl0
 ·cases h;exact jl1
 ·cases h;exact jl2
 ·cases h;exact jl3
 ·cases h;exact jl4
 ·cases h;exact jl5
 ·cases h
theorem mixed:Try.prog.follows .mixedOrders=true:=rfl
attribute [go_sem] tt1 tt2 tt3 tt4 tt5 tt6 tt7 tt8 tt9 jug juh jui juj juk jul jum jun juo jup juq jur jus jut juu juv juw jux juy juz ju0 ju1 ju2 ju3 ju4 ju5 ju6 ju7 ju8 ju9 jva jvb jvc jvd jve jvf jvg jvh jvi jvj jvk jvl jvm jvn jvo jvp jvq jvr jvs jvt jvu jvv jvw jvx jvy jvz jv0 jv1 jv2 jv3 jv4 jv5 jv6 jv7 jv8 jv9 jwa jwb jwc jwd jwe jwf jwg jwh jwi jwj jwk jwl jro jrp jrq jrr jrs jrt jru jrv jrw jrx jry jrz jr0 jr1 jr2 jr3 jr4 jr5 jr6 jr7 jr8 jr9 jsa jsb jsc jsd jse jsf jsg jsh jsi jsj jsk jsl jsm jsn jso jsp jsq jsr jss jst jsu jsv jsw jsx jsy jsz js0 js1 js2 js3 js4 js5 js6 js7 js8 js9 jta jtb jtc jtd jte jtf jtg jth jti jtj
end Go.Proofs.Ytdhfhpdadbopkaa
