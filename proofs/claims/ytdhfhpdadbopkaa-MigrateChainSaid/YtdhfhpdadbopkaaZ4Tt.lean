/-
  The types of this seat's program: a row a type (its kind, cells, bytes, the cells of its zero value), and that each row is the program's own. Made by program out of the translation.
-/
import Derived.Test.YtdhfhpdadbopkaaZ4KE
import Derived.Test.YtdhfhpdadbopkaaProg
import Derived.KernelRfl
set_option linter.all false
namespace Go.Proofs.Ytdhfhpdadbopkaa
open Go.K Go.M
theorem ak{P:Program}{t:TypeId}{k:TK}{sz by_:Nat}{zs:List Value}{z:Value}{d:TypeDesc}(h1:(P.info? t).map (fun i=>(i.zero,i.size,i.bytes))=some (some z,sz,by_))(h2:P.underlying t=some d)(h3:TK.of d=k.plain)(h4:z.cells.toList=zs)(h5:k.cmp=true→Cmp P t)(h6:k.one=true→zs=[z]):aj P t ⟨k,sz,by_,zs⟩:=by
 cases hi:P.info? t with
 |none=>simp[hi]at h1
 |some i=>
  simp only[hi,Option.map_some,Option.some.injEq,Prod.mk.injEq]at h1;exact⟨⟨i,d,z,hi,h2,h3,h1.2.1,h1.2.2,h1.1,h4⟩,h5,fun e=>⟨i,z,hi,h1.1,h6 e⟩⟩
def ti1:TI:=⟨.other,1,8,[.nilFunc]⟩
def ti2:TI:=⟨.int .i64,1,8,[(.int .i64 0)]⟩
def ti3:TI:=⟨.int .i64,1,8,[(.int .i64 0)]⟩
def ti4:TI:=⟨.bool,1,1,[(.bool false)]⟩
def ti5:TI:=⟨.int .u8,1,1,[(.int .u8 0)]⟩
def ti6:TI:=⟨.int .u8,1,1,[(.int .u8 0)]⟩
def ti7:TI:=⟨.strct true [(0,2),(1,3),(2,4),(3,6)],4,24,[(.int .i64 0),(.int .i64 0),(.bool false),(.int .u8 0)]⟩
def ti8:TI:=⟨.strct true [(0,2),(1,3),(2,4),(3,6)],4,24,[(.int .i64 0),(.int .i64 0),(.bool false),(.int .u8 0)]⟩
def ti9:TI:=⟨.str,1,16,[(.string ⟨#[]⟩)]⟩
def jgw:TI:=⟨.str,1,16,[(.string ⟨#[]⟩)]⟩
def jgx:TI:=⟨.str,1,16,[(.string ⟨#[]⟩)]⟩
def jgy:TI:=⟨.int .u64,1,8,[(.int .u64 0)]⟩
def jgz:TI:=⟨.strct false [(0,9),(1,12)],2,24,[(.string ⟨#[]⟩),(.int .u64 0)]⟩
def jg0:TI:=⟨.strct false [(0,9),(1,12)],2,24,[(.string ⟨#[]⟩),(.int .u64 0)]⟩
def jg1:TI:=⟨.other,1,8,[(.pointer none)]⟩
def jg2:TI:=⟨.other,1,8,[(.pointer none)]⟩
def jg3:TI:=⟨.other,1,8,[(.pointer none)]⟩
def jg4:TI:=⟨.strct false [(0,17)],1,8,[(.pointer none)]⟩
def jg5:TI:=⟨.strct false [(0,17)],1,8,[(.pointer none)]⟩
def jg6:TI:=⟨.other,1,16,[.nilIface]⟩
def jg7:TI:=⟨.int .i32,1,4,[(.int .i32 0)]⟩
def jg8:TI:=⟨.slice 43,1,24,[(.slice none 0 0)]⟩
def jg9:TI:=⟨.strct false [(0,3),(1,22),(2,3),(3,3)],4,48,[(.int .i64 0),(.slice none 0 0),(.int .i64 0),(.int .i64 0)]⟩
def jha:TI:=⟨.strct false [(0,3),(1,22),(2,3),(3,3)],4,48,[(.int .i64 0),(.slice none 0 0),(.int .i64 0),(.int .i64 0)]⟩
def jhb:TI:=⟨.slice 3,1,24,[(.slice none 0 0)]⟩
def jhc:TI:=⟨.slice 48,1,24,[(.slice none 0 0)]⟩
def jhd:TI:=⟨.strct false [(0,25),(1,25),(2,26)],3,72,[(.slice none 0 0),(.slice none 0 0),(.slice none 0 0)]⟩
def jhe:TI:=⟨.strct false [(0,25),(1,25),(2,26)],3,72,[(.slice none 0 0),(.slice none 0 0),(.slice none 0 0)]⟩
def jhf:TI:=⟨.other,1,8,[.nilFunc]⟩
def jhg:TI:=⟨.other,1,8,[.nilFunc]⟩
def jhh:TI:=⟨.other,1,8,[.nilFunc]⟩
def jhi:TI:=⟨.other,1,8,[.nilFunc]⟩
def jhj:TI:=⟨.other,1,8,[.nilFunc]⟩
def jhk:TI:=⟨.int .i64,1,8,[(.int .i64 0)]⟩
def jhl:TI:=⟨.other,1,8,[.nilFunc]⟩
def jhm:TI:=⟨.other,1,8,[.nilFunc]⟩
def jhn:TI:=⟨.slice 25,1,24,[(.slice none 0 0)]⟩
def jho:TI:=⟨.other,1,8,[.nilFunc]⟩
def jhp:TI:=⟨.other,1,8,[.nilFunc]⟩
def jhq:TI:=⟨.strct false [(0,9),(1,25),(2,25)],3,64,[(.string ⟨#[]⟩),(.slice none 0 0),(.slice none 0 0)]⟩
def jhr:TI:=⟨.strct false [(0,9),(1,25),(2,25)],3,64,[(.string ⟨#[]⟩),(.slice none 0 0),(.slice none 0 0)]⟩
def jhs:TI:=⟨.other,1,8,[.nilFunc]⟩
def jht:TI:=⟨.other,1,8,[.nilFunc]⟩
def jhu:TI:=⟨.other,1,8,[.nilFunc]⟩
def jhv:TI:=⟨.other,1,8,[.nilFunc]⟩
def jhw:TI:=⟨.arr false 2 25,2,48,[(.slice none 0 0),(.slice none 0 0)]⟩
def jhx:TI:=⟨.other,1,8,[.nilFunc]⟩
def jhy:TI:=⟨.other,1,8,[.nilFunc]⟩
def jhz:TI:=⟨.slice 83,1,24,[(.slice none 0 0)]⟩
def jh0:TI:=⟨.other,1,8,[.nilFunc]⟩
def jh1:TI:=⟨.other,1,8,[.nilFunc]⟩
def jh2:TI:=⟨.other,1,8,[.nilFunc]⟩
def jh3:TI:=⟨.other,1,8,[.nilFunc]⟩
def jh4:TI:=⟨.other,1,8,[.nilFunc]⟩
def jh5:TI:=⟨.other,1,8,[.nilFunc]⟩
def jh6:TI:=⟨.slice 9,1,24,[(.slice none 0 0)]⟩
def jh7:TI:=⟨.other,1,8,[.nilFunc]⟩
def jh8:TI:=⟨.other,1,8,[.nilFunc]⟩
def jh9:TI:=⟨.other,1,8,[.nilFunc]⟩
def jia:TI:=⟨.other,1,8,[.nilFunc]⟩
def jib:TI:=⟨.other,1,8,[.nilFunc]⟩
def jic:TI:=⟨.other,1,8,[.nilFunc]⟩
def jid:TI:=⟨.other,1,8,[.nilFunc]⟩
def jie:TI:=⟨.other,1,8,[.nilFunc]⟩
def jif:TI:=⟨.other,1,8,[.nilFunc]⟩
def jig:TI:=⟨.other,1,8,[.nilFunc]⟩
def jih:TI:=⟨.other,1,8,[.nilFunc]⟩
def jii:TI:=⟨.other,1,8,[.nilFunc]⟩
def jij:TI:=⟨.other,1,8,[.nilFunc]⟩
def jik:TI:=⟨.other,1,8,[.nilFunc]⟩
def jil:TI:=⟨.other,1,8,[.nilFunc]⟩
def jim:TI:=⟨.other,1,8,[.nilFunc]⟩
def jin:TI:=⟨.other,1,8,[.nilFunc]⟩
def jio:TI:=⟨.other,1,8,[.nilFunc]⟩
def jip:TI:=⟨.strct false [(0,25),(1,25)],2,48,[(.slice none 0 0),(.slice none 0 0)]⟩
def jiq:TI:=⟨.strct false [(0,25),(1,25)],2,48,[(.slice none 0 0),(.slice none 0 0)]⟩
def jir:TI:=⟨.other,1,8,[.nilFunc]⟩
def jis:TI:=⟨.other,1,8,[.nilFunc]⟩
def jit:TI:=⟨.slice 92,1,24,[(.slice none 0 0)]⟩
def jiu:TI:=⟨.other,1,8,[.nilFunc]⟩
def jiv:TI:=⟨.other,1,8,[.nilFunc]⟩
def jiw:TI:=⟨.strct false [(0,3),(1,25),(2,25)],3,56,[(.int .i64 0),(.slice none 0 0),(.slice none 0 0)]⟩
def jix:TI:=⟨.strct false [(0,3),(1,25),(2,25)],3,56,[(.int .i64 0),(.slice none 0 0),(.slice none 0 0)]⟩
def jiy:TI:=⟨.other,1,8,[.nilFunc]⟩
def jiz:TI:=⟨.other,1,8,[.nilFunc]⟩
def ji0:TI:=⟨.other,1,8,[.nilFunc]⟩
def ji1:TI:=⟨.slice 102,1,24,[(.slice none 0 0)]⟩
def q83:TI:=⟨.other,1,8,[.nilFunc]⟩
def q84:TI:=⟨.strct false [(0,3),(1,25),(2,25)],3,56,[(.int .i64 0),(.slice none 0 0),(.slice none 0 0)]⟩
def q85:TI:=⟨.strct false [(0,3),(1,25),(2,25)],3,56,[(.int .i64 0),(.slice none 0 0),(.slice none 0 0)]⟩
def q86:TI:=⟨.other,1,8,[.nilFunc]⟩
def q87:TI:=⟨.other,1,8,[.nilFunc]⟩
def q88:TI:=⟨.other,1,8,[.nilFunc]⟩
def q89:TI:=⟨.other,1,8,[.nilFunc]⟩
def q9a:TI:=⟨.other,1,8,[.nilFunc]⟩
def q9b:TI:=⟨.other,1,8,[.nilFunc]⟩
def q9c:TI:=⟨.other,1,8,[.nilFunc]⟩
def q9d:TI:=⟨.other,1,8,[.nilFunc]⟩
def q9e:TI:=⟨.other,1,8,[.nilFunc]⟩
def q9f:TI:=⟨.other,1,8,[.nilFunc]⟩
def q9g:TI:=⟨.map 9 4,1,8,[(.map none)]⟩
def q9h:TI:=⟨.other,1,8,[.nilFunc]⟩
def q9i:TI:=⟨.other,1,8,[.nilFunc]⟩
def q9j:TI:=⟨.other,1,8,[.nilFunc]⟩
def q9k:TI:=⟨.other,1,8,[.nilFunc]⟩
def q9l:TI:=⟨.other,1,8,[.nilFunc]⟩
def q9m:TI:=⟨.other,1,8,[.nilFunc]⟩
def q9n:TI:=⟨.other,1,8,[.nilFunc]⟩
def q9o:TI:=⟨.other,1,8,[.nilFunc]⟩
def q9p:TI:=⟨.other,1,8,[.nilFunc]⟩
def q9q:TI:=⟨.slice 129,1,24,[(.slice none 0 0)]⟩
def q9r:TI:=⟨.other,1,8,[.nilFunc]⟩
def q9s:TI:=⟨.strct false [(0,3),(1,25)],2,32,[(.int .i64 0),(.slice none 0 0)]⟩
def q9t:TI:=⟨.strct false [(0,3),(1,25)],2,32,[(.int .i64 0),(.slice none 0 0)]⟩
def q9u:TI:=⟨.other,1,8,[.nilFunc]⟩
def q9v:TI:=⟨.other,1,8,[.nilFunc]⟩
def q9w:TI:=⟨.other,1,8,[.nilFunc]⟩
def q9x:TI:=⟨.slice 4,1,24,[(.slice none 0 0)]⟩
def q9y:TI:=⟨.other,1,8,[.nilFunc]⟩
def q9z:TI:=⟨.other,1,8,[.nilFunc]⟩
def q90:TI:=⟨.other,1,8,[.nilFunc]⟩
def q91:TI:=⟨.other,1,8,[.nilFunc]⟩
def q92:TI:=⟨.other,1,8,[.nilFunc]⟩
def q93:TI:=⟨.other,1,8,[.nilFunc]⟩
def q94:TI:=⟨.other,1,8,[.nilFunc]⟩
def q95:TI:=⟨.other,1,8,[.nilFunc]⟩
def q96:TI:=⟨.other,1,8,[(.pointer none)]⟩
def q97:TI:=⟨.slice 5,1,24,[(.slice none 0 0)]⟩
def q98:TI:=⟨.strct false [(0,143),(1,144)],2,32,[(.pointer none),(.slice none 0 0)]⟩
def q99:TI:=⟨.strct false [(0,143),(1,144)],2,32,[(.pointer none),(.slice none 0 0)]⟩
def jaa:TI:=⟨.other,1,16,[.nilIface]⟩
def jab:TI:=⟨.other,1,16,[.nilIface]⟩
def jac:TI:=⟨.other,1,8,[.nilFunc]⟩
def jad:TI:=⟨.int .u64,1,8,[(.int .u64 0)]⟩
def jae:TI:=⟨.other,1,8,[.nilFunc]⟩
def jaf:TI:=⟨.other,1,8,[.nilFunc]⟩
def jag:TI:=⟨.other,1,8,[.nilFunc]⟩
def jah:TI:=⟨.other,1,8,[.nilFunc]⟩
def jai:TI:=⟨.other,1,8,[(.pointer none)]⟩
def jaj:TI:=⟨.other,1,8,[(.pointer none)]⟩
def jak:TI:=⟨.other,1,8,[.nilFunc]⟩
def jal:TI:=⟨.strct false [(0,17),(1,17),(2,17),(3,9)],4,40,[(.pointer none),(.pointer none),(.pointer none),(.string ⟨#[]⟩)]⟩
def jam:TI:=⟨.strct false [(0,17),(1,17),(2,17),(3,9)],4,40,[(.pointer none),(.pointer none),(.pointer none),(.string ⟨#[]⟩)]⟩
def jan:TI:=⟨.arr false 0 16,0,0,[]⟩
def jao:TI:=⟨.strct false [(0,160)],0,0,[]⟩
def jap:TI:=⟨.strct false [(0,160)],0,0,[]⟩
def jaq:TI:=⟨.other,1,8,[.nilFunc]⟩
def jar:TI:=⟨.int .u32,1,4,[(.int .u32 0)]⟩
def jas:TI:=⟨.int .u8,1,1,[(.int .u8 0)]⟩
def jat:TI:=⟨.int .u8,1,1,[(.int .u8 0)]⟩
def jau:TI:=⟨.other,1,8,[.nilFunc]⟩
def jav:TI:=⟨.int .i32,1,4,[(.int .i32 0)]⟩
def jaw:TI:=⟨.int .i32,1,4,[(.int .i32 0)]⟩
def jax:TI:=⟨.strct false [(0,12),(1,12),(2,164),(3,165),(4,5),(5,5),(6,166),(7,167),(8,155),(9,168),(10,169)],11,48,[(.int .u64 0),(.int .u64 0),(.int .u32 0),(.int .u8 0),(.int .u8 0),(.int .u8 0),(.int .u8 0), .nilFunc,(.pointer none),(.int .i32 0),(.int .i32 0)]⟩
def jay:TI:=⟨.strct false [(0,12),(1,12),(2,164),(3,165),(4,5),(5,5),(6,166),(7,167),(8,155),(9,168),(10,169)],11,48,[(.int .u64 0),(.int .u64 0),(.int .u32 0),(.int .u8 0),(.int .u8 0),(.int .u8 0),(.int .u8 0), .nilFunc,(.pointer none),(.int .i32 0),(.int .i32 0)]⟩
def tt:TT
 |1=>some ti1
 |2=>some ti2
 |3=>some ti3
 |4=>some ti4
 |5=>some ti5
 |6=>some ti6
 |7=>some ti7
 |8=>some ti8
 |9=>some ti9
 |10=>some jgw
 |11=>some jgx
 |12=>some jgy
 |13=>some jgz
 |14=>some jg0
 |15=>some jg1
 |16=>some jg2
 |17=>some jg3
 |18=>some jg4
 |19=>some jg5
 |20=>some jg6
 |21=>some jg7
 |22=>some jg8
 |23=>some jg9
 |24=>some jha
 |25=>some jhb
 |26=>some jhc
 |27=>some jhd
 |28=>some jhe
 |29=>some jhf
 |30=>some jhg
 |31=>some jhh
 |32=>some jhi
 |33=>some jhj
 |34=>some jhk
 |36=>some jhl
 |37=>some jhm
 |38=>some jhn
 |40=>some jho
 |41=>some jhp
 |42=>some jhq
 |43=>some jhr
 |44=>some jhs
 |45=>some jht
 |46=>some jhu
 |47=>some jhv
 |48=>some jhw
 |49=>some jhx
 |51=>some jhy
 |52=>some jhz
 |53=>some jh0
 |54=>some jh1
 |55=>some jh2
 |56=>some jh3
 |58=>some jh4
 |59=>some jh5
 |60=>some jh6
 |62=>some jh7
 |64=>some jh8
 |65=>some jh9
 |67=>some jia
 |68=>some jib
 |69=>some jic
 |70=>some jid
 |71=>some jie
 |72=>some jif
 |73=>some jig
 |74=>some jih
 |75=>some jii
 |76=>some jij
 |77=>some jik
 |78=>some jil
 |79=>some jim
 |80=>some jin
 |81=>some jio
 |82=>some jip
 |83=>some jiq
 |84=>some jir
 |86=>some jis
 |87=>some jit
 |89=>some jiu
 |90=>some jiv
 |91=>some jiw
 |92=>some jix
 |93=>some jiy
 |95=>some jiz
 |97=>some ji0
 |98=>some ji1
 |100=>some q83
 |101=>some q84
 |102=>some q85
 |103=>some q86
 |105=>some q87
 |106=>some q88
 |108=>some q89
 |109=>some q9a
 |110=>some q9b
 |111=>some q9c
 |112=>some q9d
 |113=>some q9e
 |115=>some q9f
 |116=>some q9g
 |117=>some q9h
 |118=>some q9i
 |119=>some q9j
 |120=>some q9k
 |121=>some q9l
 |122=>some q9m
 |123=>some q9n
 |124=>some q9o
 |125=>some q9p
 |126=>some q9q
 |127=>some q9r
 |128=>some q9s
 |129=>some q9t
 |130=>some q9u
 |131=>some q9v
 |132=>some q9w
 |133=>some q9x
 |135=>some q9y
 |136=>some q9z
 |137=>some q90
 |138=>some q91
 |139=>some q92
 |140=>some q93
 |141=>some q94
 |142=>some q95
 |143=>some q96
 |144=>some q97
 |145=>some q98
 |146=>some q99
 |147=>some jaa
 |148=>some jab
 |149=>some jac
 |150=>some jad
 |151=>some jae
 |152=>some jaf
 |153=>some jag
 |154=>some jah
 |155=>some jai
 |156=>some jaj
 |157=>some jak
 |158=>some jal
 |159=>some jam
 |160=>some jan
 |161=>some jao
 |162=>some jap
 |163=>some jaq
 |164=>some jar
 |165=>some jas
 |166=>some jat
 |167=>some jau
 |168=>some jav
 |169=>some jaw
 |170=>some jax
 |171=>some jay
 |_=>none
theorem jlh:aj Try.prog 1 ti1:=ak (z:= .nilFunc) (by kernel_rfl) Try.underlying1 rfl rfl (by intro h;cases h) (fun h=>by cases h)
theorem tt1:tt 1=some ⟨.other,1,8,[.nilFunc]⟩:=rfl
theorem jli:aj Try.prog 2 ti2:=ak (z:=(.int .i64 0)) (by kernel_rfl) Try.underlying2 rfl rfl (by intro h;cases h) (fun _=>rfl)
theorem tt2:tt 2=some ⟨.int .i64,1,8,[(.int .i64 0)]⟩:=rfl
theorem jlj:aj Try.prog 3 ti3:=ak (z:=(.int .i64 0)) (by kernel_rfl) Try.underlying3 rfl rfl (by intro h;cases h) (fun _=>rfl)
theorem tt3:tt 3=some ⟨.int .i64,1,8,[(.int .i64 0)]⟩:=rfl
theorem jlk:aj Try.prog 4 ti4:=ak (z:=(.bool false)) (by kernel_rfl) Try.underlying4 rfl rfl (by intro h;cases h) (fun _=>rfl)
theorem tt4:tt 4=some ⟨.bool,1,1,[(.bool false)]⟩:=rfl
theorem jll:aj Try.prog 5 ti5:=ak (z:=(.int .u8 0)) (by kernel_rfl) Try.underlying5 rfl rfl (by intro h;cases h) (fun _=>rfl)
theorem tt5:tt 5=some ⟨.int .u8,1,1,[(.int .u8 0)]⟩:=rfl
theorem jlm:aj Try.prog 6 ti6:=ak (z:=(.int .u8 0)) (by kernel_rfl) Try.underlying6 rfl rfl (by intro h;cases h) (fun _=>rfl)
theorem tt6:tt 6=some ⟨.int .u8,1,1,[(.int .u8 0)]⟩:=rfl
theorem jln:aj Try.prog 7 ti7:=ak (z:= .agg #[(.int .i64 0),(.int .i64 0),(.bool false),(.int .u8 0)]) (by kernel_rfl) Try.underlying7 rfl rfl (by exact fun _=>⟨by kernel_rfl,by kernel_rfl,by kernel_rfl⟩) (fun h=>by cases h)
theorem tt7:tt 7=some ⟨.strct true [(0,2),(1,3),(2,4),(3,6)],4,24,[(.int .i64 0),(.int .i64 0),(.bool false),(.int .u8 0)]⟩:=rfl
theorem jlo:aj Try.prog 8 ti8:=ak (z:= .agg #[(.int .i64 0),(.int .i64 0),(.bool false),(.int .u8 0)]) (by kernel_rfl) Try.underlying8 rfl rfl (by exact fun _=>⟨by kernel_rfl,by kernel_rfl,by kernel_rfl⟩) (fun h=>by cases h)
theorem tt8:tt 8=some ⟨.strct true [(0,2),(1,3),(2,4),(3,6)],4,24,[(.int .i64 0),(.int .i64 0),(.bool false),(.int .u8 0)]⟩:=rfl
theorem jlp:aj Try.prog 9 ti9:=ak (z:=(.string ⟨#[]⟩)) (by kernel_rfl) Try.underlying9 rfl rfl (by intro h;cases h) (fun _=>rfl)
theorem tt9:tt 9=some ⟨.str,1,16,[(.string ⟨#[]⟩)]⟩:=rfl
theorem jei:aj Try.prog 10 jgw:=ak (z:=(.string ⟨#[]⟩)) (by kernel_rfl) Try.underlying10 rfl rfl (by intro h;cases h) (fun _=>rfl)
theorem jlw:tt 10=some ⟨.str,1,16,[(.string ⟨#[]⟩)]⟩:=rfl
theorem jej:aj Try.prog 11 jgx:=ak (z:=(.string ⟨#[]⟩)) (by kernel_rfl) Try.underlying11 rfl rfl (by intro h;cases h) (fun _=>rfl)
theorem jlx:tt 11=some ⟨.str,1,16,[(.string ⟨#[]⟩)]⟩:=rfl
theorem jek:aj Try.prog 12 jgy:=ak (z:=(.int .u64 0)) (by kernel_rfl) Try.underlying12 rfl rfl (by intro h;cases h) (fun _=>rfl)
theorem jly:tt 12=some ⟨.int .u64,1,8,[(.int .u64 0)]⟩:=rfl
theorem jel:aj Try.prog 13 jgz:=ak (z:= .agg #[(.string ⟨#[]⟩),(.int .u64 0)]) (by kernel_rfl) Try.underlying13 rfl rfl (by intro h;cases h) (fun h=>by cases h)
theorem jlz:tt 13=some ⟨.strct false [(0,9),(1,12)],2,24,[(.string ⟨#[]⟩),(.int .u64 0)]⟩:=rfl
theorem jem:aj Try.prog 14 jg0:=ak (z:= .agg #[(.string ⟨#[]⟩),(.int .u64 0)]) (by kernel_rfl) Try.underlying14 rfl rfl (by intro h;cases h) (fun h=>by cases h)
theorem jl0:tt 14=some ⟨.strct false [(0,9),(1,12)],2,24,[(.string ⟨#[]⟩),(.int .u64 0)]⟩:=rfl
theorem jen:aj Try.prog 15 jg1:=ak (z:=(.pointer none)) (by kernel_rfl) Try.underlying15 rfl rfl (by intro h;cases h) (fun h=>by cases h)
theorem jl1:tt 15=some ⟨.other,1,8,[(.pointer none)]⟩:=rfl
theorem jeo:aj Try.prog 16 jg2:=ak (z:=(.pointer none)) (by kernel_rfl) Try.underlying16 rfl rfl (by intro h;cases h) (fun h=>by cases h)
theorem jl2:tt 16=some ⟨.other,1,8,[(.pointer none)]⟩:=rfl
theorem jep:aj Try.prog 17 jg3:=ak (z:=(.pointer none)) (by kernel_rfl) Try.underlying17 rfl rfl (by intro h;cases h) (fun h=>by cases h)
theorem jl3:tt 17=some ⟨.other,1,8,[(.pointer none)]⟩:=rfl
theorem jeq:aj Try.prog 18 jg4:=ak (z:= .agg #[(.pointer none)]) (by kernel_rfl) Try.underlying18 rfl rfl (by intro h;cases h) (fun h=>by cases h)
theorem jl4:tt 18=some ⟨.strct false [(0,17)],1,8,[(.pointer none)]⟩:=rfl
theorem jer:aj Try.prog 19 jg5:=ak (z:= .agg #[(.pointer none)]) (by kernel_rfl) Try.underlying19 rfl rfl (by intro h;cases h) (fun h=>by cases h)
theorem jl5:tt 19=some ⟨.strct false [(0,17)],1,8,[(.pointer none)]⟩:=rfl
theorem jes:aj Try.prog 20 jg6:=ak (z:= .nilIface) (by kernel_rfl) Try.underlying20 rfl rfl (by intro h;cases h) (fun h=>by cases h)
theorem jl6:tt 20=some ⟨.other,1,16,[.nilIface]⟩:=rfl
theorem jet:aj Try.prog 21 jg7:=ak (z:=(.int .i32 0)) (by kernel_rfl) Try.underlying21 rfl rfl (by intro h;cases h) (fun _=>rfl)
theorem jl7:tt 21=some ⟨.int .i32,1,4,[(.int .i32 0)]⟩:=rfl
theorem jeu:aj Try.prog 22 jg8:=ak (z:=(.slice none 0 0)) (by kernel_rfl) Try.underlying22 rfl rfl (by intro h;cases h) (fun h=>by cases h)
theorem jl8:tt 22=some ⟨.slice 43,1,24,[(.slice none 0 0)]⟩:=rfl
theorem jev:aj Try.prog 23 jg9:=ak (z:= .agg #[(.int .i64 0),(.slice none 0 0),(.int .i64 0),(.int .i64 0)]) (by kernel_rfl) Try.underlying23 rfl rfl (by intro h;cases h) (fun h=>by cases h)
theorem jl9:tt 23=some ⟨.strct false [(0,3),(1,22),(2,3),(3,3)],4,48,[(.int .i64 0),(.slice none 0 0),(.int .i64 0),(.int .i64 0)]⟩:=rfl
theorem jew:aj Try.prog 24 jha:=ak (z:= .agg #[(.int .i64 0),(.slice none 0 0),(.int .i64 0),(.int .i64 0)]) (by kernel_rfl) Try.underlying24 rfl rfl (by intro h;cases h) (fun h=>by cases h)
theorem jma:tt 24=some ⟨.strct false [(0,3),(1,22),(2,3),(3,3)],4,48,[(.int .i64 0),(.slice none 0 0),(.int .i64 0),(.int .i64 0)]⟩:=rfl
theorem jex:aj Try.prog 25 jhb:=ak (z:=(.slice none 0 0)) (by kernel_rfl) Try.underlying25 rfl rfl (by intro h;cases h) (fun h=>by cases h)
theorem jmb:tt 25=some ⟨.slice 3,1,24,[(.slice none 0 0)]⟩:=rfl
theorem jey:aj Try.prog 26 jhc:=ak (z:=(.slice none 0 0)) (by kernel_rfl) Try.underlying26 rfl rfl (by intro h;cases h) (fun h=>by cases h)
theorem jmc:tt 26=some ⟨.slice 48,1,24,[(.slice none 0 0)]⟩:=rfl
theorem jez:aj Try.prog 27 jhd:=ak (z:= .agg #[(.slice none 0 0),(.slice none 0 0),(.slice none 0 0)]) (by kernel_rfl) Try.underlying27 rfl rfl (by intro h;cases h) (fun h=>by cases h)
theorem jmd:tt 27=some ⟨.strct false [(0,25),(1,25),(2,26)],3,72,[(.slice none 0 0),(.slice none 0 0),(.slice none 0 0)]⟩:=rfl
theorem je0:aj Try.prog 28 jhe:=ak (z:= .agg #[(.slice none 0 0),(.slice none 0 0),(.slice none 0 0)]) (by kernel_rfl) Try.underlying28 rfl rfl (by intro h;cases h) (fun h=>by cases h)
theorem jme:tt 28=some ⟨.strct false [(0,25),(1,25),(2,26)],3,72,[(.slice none 0 0),(.slice none 0 0),(.slice none 0 0)]⟩:=rfl
theorem je1:aj Try.prog 29 jhf:=ak (z:= .nilFunc) (by kernel_rfl) Try.underlying29 rfl rfl (by intro h;cases h) (fun h=>by cases h)
theorem jmf:tt 29=some ⟨.other,1,8,[.nilFunc]⟩:=rfl
theorem je2:aj Try.prog 30 jhg:=ak (z:= .nilFunc) (by kernel_rfl) Try.underlying30 rfl rfl (by intro h;cases h) (fun h=>by cases h)
theorem jmg:tt 30=some ⟨.other,1,8,[.nilFunc]⟩:=rfl
theorem je3:aj Try.prog 31 jhh:=ak (z:= .nilFunc) (by kernel_rfl) Try.underlying31 rfl rfl (by intro h;cases h) (fun h=>by cases h)
theorem jmh:tt 31=some ⟨.other,1,8,[.nilFunc]⟩:=rfl
theorem je4:aj Try.prog 32 jhi:=ak (z:= .nilFunc) (by kernel_rfl) Try.underlying32 rfl rfl (by intro h;cases h) (fun h=>by cases h)
theorem jmi:tt 32=some ⟨.other,1,8,[.nilFunc]⟩:=rfl
theorem je5:aj Try.prog 33 jhj:=ak (z:= .nilFunc) (by kernel_rfl) Try.underlying33 rfl rfl (by intro h;cases h) (fun h=>by cases h)
theorem jmj:tt 33=some ⟨.other,1,8,[.nilFunc]⟩:=rfl
theorem je6:aj Try.prog 34 jhk:=ak (z:=(.int .i64 0)) (by kernel_rfl) Try.underlying34 rfl rfl (by intro h;cases h) (fun _=>rfl)
theorem jmk:tt 34=some ⟨.int .i64,1,8,[(.int .i64 0)]⟩:=rfl
theorem je7:aj Try.prog 36 jhl:=ak (z:= .nilFunc) (by kernel_rfl) Try.underlying36 rfl rfl (by intro h;cases h) (fun h=>by cases h)
theorem jml:tt 36=some ⟨.other,1,8,[.nilFunc]⟩:=rfl
theorem je8:aj Try.prog 37 jhm:=ak (z:= .nilFunc) (by kernel_rfl) Try.underlying37 rfl rfl (by intro h;cases h) (fun h=>by cases h)
theorem jmm:tt 37=some ⟨.other,1,8,[.nilFunc]⟩:=rfl
theorem je9:aj Try.prog 38 jhn:=ak (z:=(.slice none 0 0)) (by kernel_rfl) Try.underlying38 rfl rfl (by intro h;cases h) (fun h=>by cases h)
theorem jmn:tt 38=some ⟨.slice 25,1,24,[(.slice none 0 0)]⟩:=rfl
theorem jfa:aj Try.prog 40 jho:=ak (z:= .nilFunc) (by kernel_rfl) Try.underlying40 rfl rfl (by intro h;cases h) (fun h=>by cases h)
theorem jmo:tt 40=some ⟨.other,1,8,[.nilFunc]⟩:=rfl
theorem jfb:aj Try.prog 41 jhp:=ak (z:= .nilFunc) (by kernel_rfl) Try.underlying41 rfl rfl (by intro h;cases h) (fun h=>by cases h)
theorem jmp:tt 41=some ⟨.other,1,8,[.nilFunc]⟩:=rfl
theorem jfc:aj Try.prog 42 jhq:=ak (z:= .agg #[(.string ⟨#[]⟩),(.slice none 0 0),(.slice none 0 0)]) (by kernel_rfl) Try.underlying42 rfl rfl (by intro h;cases h) (fun h=>by cases h)
theorem jmq:tt 42=some ⟨.strct false [(0,9),(1,25),(2,25)],3,64,[(.string ⟨#[]⟩),(.slice none 0 0),(.slice none 0 0)]⟩:=rfl
theorem jfd:aj Try.prog 43 jhr:=ak (z:= .agg #[(.string ⟨#[]⟩),(.slice none 0 0),(.slice none 0 0)]) (by kernel_rfl) Try.underlying43 rfl rfl (by intro h;cases h) (fun h=>by cases h)
theorem jmr:tt 43=some ⟨.strct false [(0,9),(1,25),(2,25)],3,64,[(.string ⟨#[]⟩),(.slice none 0 0),(.slice none 0 0)]⟩:=rfl
theorem jfe:aj Try.prog 44 jhs:=ak (z:= .nilFunc) (by kernel_rfl) Try.underlying44 rfl rfl (by intro h;cases h) (fun h=>by cases h)
theorem jms:tt 44=some ⟨.other,1,8,[.nilFunc]⟩:=rfl
theorem jff:aj Try.prog 45 jht:=ak (z:= .nilFunc) (by kernel_rfl) Try.underlying45 rfl rfl (by intro h;cases h) (fun h=>by cases h)
theorem jmt:tt 45=some ⟨.other,1,8,[.nilFunc]⟩:=rfl
theorem jfg:aj Try.prog 46 jhu:=ak (z:= .nilFunc) (by kernel_rfl) Try.underlying46 rfl rfl (by intro h;cases h) (fun h=>by cases h)
theorem jmu:tt 46=some ⟨.other,1,8,[.nilFunc]⟩:=rfl
theorem jfh:aj Try.prog 47 jhv:=ak (z:= .nilFunc) (by kernel_rfl) Try.underlying47 rfl rfl (by intro h;cases h) (fun h=>by cases h)
theorem jmv:tt 47=some ⟨.other,1,8,[.nilFunc]⟩:=rfl
theorem jfi:aj Try.prog 48 jhw:=ak (z:= .agg #[(.slice none 0 0),(.slice none 0 0)]) (by kernel_rfl) Try.underlying48 rfl rfl (by intro h;cases h) (fun h=>by cases h)
theorem jmw:tt 48=some ⟨.arr false 2 25,2,48,[(.slice none 0 0),(.slice none 0 0)]⟩:=rfl
theorem jfj:aj Try.prog 49 jhx:=ak (z:= .nilFunc) (by kernel_rfl) Try.underlying49 rfl rfl (by intro h;cases h) (fun h=>by cases h)
theorem jmx:tt 49=some ⟨.other,1,8,[.nilFunc]⟩:=rfl
theorem jfk:aj Try.prog 51 jhy:=ak (z:= .nilFunc) (by kernel_rfl) Try.underlying51 rfl rfl (by intro h;cases h) (fun h=>by cases h)
theorem jmy:tt 51=some ⟨.other,1,8,[.nilFunc]⟩:=rfl
theorem jfl:aj Try.prog 52 jhz:=ak (z:=(.slice none 0 0)) (by kernel_rfl) Try.underlying52 rfl rfl (by intro h;cases h) (fun h=>by cases h)
theorem jmz:tt 52=some ⟨.slice 83,1,24,[(.slice none 0 0)]⟩:=rfl
theorem jfm:aj Try.prog 53 jh0:=ak (z:= .nilFunc) (by kernel_rfl) Try.underlying53 rfl rfl (by intro h;cases h) (fun h=>by cases h)
theorem jm0:tt 53=some ⟨.other,1,8,[.nilFunc]⟩:=rfl
theorem jfn:aj Try.prog 54 jh1:=ak (z:= .nilFunc) (by kernel_rfl) Try.underlying54 rfl rfl (by intro h;cases h) (fun h=>by cases h)
theorem jm1:tt 54=some ⟨.other,1,8,[.nilFunc]⟩:=rfl
theorem jfo:aj Try.prog 55 jh2:=ak (z:= .nilFunc) (by kernel_rfl) Try.underlying55 rfl rfl (by intro h;cases h) (fun h=>by cases h)
theorem jm2:tt 55=some ⟨.other,1,8,[.nilFunc]⟩:=rfl
theorem jfp:aj Try.prog 56 jh3:=ak (z:= .nilFunc) (by kernel_rfl) Try.underlying56 rfl rfl (by intro h;cases h) (fun h=>by cases h)
theorem jm3:tt 56=some ⟨.other,1,8,[.nilFunc]⟩:=rfl
theorem jfq:aj Try.prog 58 jh4:=ak (z:= .nilFunc) (by kernel_rfl) Try.underlying58 rfl rfl (by intro h;cases h) (fun h=>by cases h)
theorem jm4:tt 58=some ⟨.other,1,8,[.nilFunc]⟩:=rfl
theorem jfr:aj Try.prog 59 jh5:=ak (z:= .nilFunc) (by kernel_rfl) Try.underlying59 rfl rfl (by intro h;cases h) (fun h=>by cases h)
theorem jm5:tt 59=some ⟨.other,1,8,[.nilFunc]⟩:=rfl
theorem jfs:aj Try.prog 60 jh6:=ak (z:=(.slice none 0 0)) (by kernel_rfl) Try.underlying60 rfl rfl (by intro h;cases h) (fun h=>by cases h)
theorem jm6:tt 60=some ⟨.slice 9,1,24,[(.slice none 0 0)]⟩:=rfl
theorem jft:aj Try.prog 62 jh7:=ak (z:= .nilFunc) (by kernel_rfl) Try.underlying62 rfl rfl (by intro h;cases h) (fun h=>by cases h)
theorem jm7:tt 62=some ⟨.other,1,8,[.nilFunc]⟩:=rfl
theorem jfu:aj Try.prog 64 jh8:=ak (z:= .nilFunc) (by kernel_rfl) Try.underlying64 rfl rfl (by intro h;cases h) (fun h=>by cases h)
theorem jm8:tt 64=some ⟨.other,1,8,[.nilFunc]⟩:=rfl
theorem jfv:aj Try.prog 65 jh9:=ak (z:= .nilFunc) (by kernel_rfl) Try.underlying65 rfl rfl (by intro h;cases h) (fun h=>by cases h)
theorem jm9:tt 65=some ⟨.other,1,8,[.nilFunc]⟩:=rfl
theorem jfw:aj Try.prog 67 jia:=ak (z:= .nilFunc) (by kernel_rfl) Try.underlying67 rfl rfl (by intro h;cases h) (fun h=>by cases h)
theorem jna:tt 67=some ⟨.other,1,8,[.nilFunc]⟩:=rfl
theorem jfx:aj Try.prog 68 jib:=ak (z:= .nilFunc) (by kernel_rfl) Try.underlying68 rfl rfl (by intro h;cases h) (fun h=>by cases h)
theorem jnb:tt 68=some ⟨.other,1,8,[.nilFunc]⟩:=rfl
theorem jfy:aj Try.prog 69 jic:=ak (z:= .nilFunc) (by kernel_rfl) Try.underlying69 rfl rfl (by intro h;cases h) (fun h=>by cases h)
theorem jnc:tt 69=some ⟨.other,1,8,[.nilFunc]⟩:=rfl
theorem jfz:aj Try.prog 70 jid:=ak (z:= .nilFunc) (by kernel_rfl) Try.underlying70 rfl rfl (by intro h;cases h) (fun h=>by cases h)
theorem jnd:tt 70=some ⟨.other,1,8,[.nilFunc]⟩:=rfl
theorem jf0:aj Try.prog 71 jie:=ak (z:= .nilFunc) (by kernel_rfl) Try.underlying71 rfl rfl (by intro h;cases h) (fun h=>by cases h)
theorem jne:tt 71=some ⟨.other,1,8,[.nilFunc]⟩:=rfl
theorem jf1:aj Try.prog 72 jif:=ak (z:= .nilFunc) (by kernel_rfl) Try.underlying72 rfl rfl (by intro h;cases h) (fun h=>by cases h)
theorem jnf:tt 72=some ⟨.other,1,8,[.nilFunc]⟩:=rfl
theorem jf2:aj Try.prog 73 jig:=ak (z:= .nilFunc) (by kernel_rfl) Try.underlying73 rfl rfl (by intro h;cases h) (fun h=>by cases h)
theorem jng:tt 73=some ⟨.other,1,8,[.nilFunc]⟩:=rfl
theorem jf3:aj Try.prog 74 jih:=ak (z:= .nilFunc) (by kernel_rfl) Try.underlying74 rfl rfl (by intro h;cases h) (fun h=>by cases h)
theorem jnh:tt 74=some ⟨.other,1,8,[.nilFunc]⟩:=rfl
theorem jf4:aj Try.prog 75 jii:=ak (z:= .nilFunc) (by kernel_rfl) Try.underlying75 rfl rfl (by intro h;cases h) (fun h=>by cases h)
theorem jni:tt 75=some ⟨.other,1,8,[.nilFunc]⟩:=rfl
theorem jf5:aj Try.prog 76 jij:=ak (z:= .nilFunc) (by kernel_rfl) Try.underlying76 rfl rfl (by intro h;cases h) (fun h=>by cases h)
theorem jnj:tt 76=some ⟨.other,1,8,[.nilFunc]⟩:=rfl
theorem jf6:aj Try.prog 77 jik:=ak (z:= .nilFunc) (by kernel_rfl) Try.underlying77 rfl rfl (by intro h;cases h) (fun h=>by cases h)
theorem jnk:tt 77=some ⟨.other,1,8,[.nilFunc]⟩:=rfl
theorem jf7:aj Try.prog 78 jil:=ak (z:= .nilFunc) (by kernel_rfl) Try.underlying78 rfl rfl (by intro h;cases h) (fun h=>by cases h)
theorem jnl:tt 78=some ⟨.other,1,8,[.nilFunc]⟩:=rfl
theorem jf8:aj Try.prog 79 jim:=ak (z:= .nilFunc) (by kernel_rfl) Try.underlying79 rfl rfl (by intro h;cases h) (fun h=>by cases h)
theorem jnm:tt 79=some ⟨.other,1,8,[.nilFunc]⟩:=rfl
theorem jf9:aj Try.prog 80 jin:=ak (z:= .nilFunc) (by kernel_rfl) Try.underlying80 rfl rfl (by intro h;cases h) (fun h=>by cases h)
theorem jnn:tt 80=some ⟨.other,1,8,[.nilFunc]⟩:=rfl
theorem jga:aj Try.prog 81 jio:=ak (z:= .nilFunc) (by kernel_rfl) Try.underlying81 rfl rfl (by intro h;cases h) (fun h=>by cases h)
theorem jno:tt 81=some ⟨.other,1,8,[.nilFunc]⟩:=rfl
theorem jgb:aj Try.prog 82 jip:=ak (z:= .agg #[(.slice none 0 0),(.slice none 0 0)]) (by kernel_rfl) Try.underlying82 rfl rfl (by intro h;cases h) (fun h=>by cases h)
theorem jnp:tt 82=some ⟨.strct false [(0,25),(1,25)],2,48,[(.slice none 0 0),(.slice none 0 0)]⟩:=rfl
theorem jgc:aj Try.prog 83 jiq:=ak (z:= .agg #[(.slice none 0 0),(.slice none 0 0)]) (by kernel_rfl) Try.underlying83 rfl rfl (by intro h;cases h) (fun h=>by cases h)
theorem jnq:tt 83=some ⟨.strct false [(0,25),(1,25)],2,48,[(.slice none 0 0),(.slice none 0 0)]⟩:=rfl
theorem jgd:aj Try.prog 84 jir:=ak (z:= .nilFunc) (by kernel_rfl) Try.underlying84 rfl rfl (by intro h;cases h) (fun h=>by cases h)
theorem jnr:tt 84=some ⟨.other,1,8,[.nilFunc]⟩:=rfl
theorem jge:aj Try.prog 86 jis:=ak (z:= .nilFunc) (by kernel_rfl) Try.underlying86 rfl rfl (by intro h;cases h) (fun h=>by cases h)
theorem jns:tt 86=some ⟨.other,1,8,[.nilFunc]⟩:=rfl
theorem jgf:aj Try.prog 87 jit:=ak (z:=(.slice none 0 0)) (by kernel_rfl) Try.underlying87 rfl rfl (by intro h;cases h) (fun h=>by cases h)
theorem jnt:tt 87=some ⟨.slice 92,1,24,[(.slice none 0 0)]⟩:=rfl
theorem jgg:aj Try.prog 89 jiu:=ak (z:= .nilFunc) (by kernel_rfl) Try.underlying89 rfl rfl (by intro h;cases h) (fun h=>by cases h)
theorem jnu:tt 89=some ⟨.other,1,8,[.nilFunc]⟩:=rfl
theorem jgh:aj Try.prog 90 jiv:=ak (z:= .nilFunc) (by kernel_rfl) Try.underlying90 rfl rfl (by intro h;cases h) (fun h=>by cases h)
theorem jnv:tt 90=some ⟨.other,1,8,[.nilFunc]⟩:=rfl
theorem jgi:aj Try.prog 91 jiw:=ak (z:= .agg #[(.int .i64 0),(.slice none 0 0),(.slice none 0 0)]) (by kernel_rfl) Try.underlying91 rfl rfl (by intro h;cases h) (fun h=>by cases h)
theorem jnw:tt 91=some ⟨.strct false [(0,3),(1,25),(2,25)],3,56,[(.int .i64 0),(.slice none 0 0),(.slice none 0 0)]⟩:=rfl
theorem jgj:aj Try.prog 92 jix:=ak (z:= .agg #[(.int .i64 0),(.slice none 0 0),(.slice none 0 0)]) (by kernel_rfl) Try.underlying92 rfl rfl (by intro h;cases h) (fun h=>by cases h)
theorem jnx:tt 92=some ⟨.strct false [(0,3),(1,25),(2,25)],3,56,[(.int .i64 0),(.slice none 0 0),(.slice none 0 0)]⟩:=rfl
theorem jgk:aj Try.prog 93 jiy:=ak (z:= .nilFunc) (by kernel_rfl) Try.underlying93 rfl rfl (by intro h;cases h) (fun h=>by cases h)
theorem jny:tt 93=some ⟨.other,1,8,[.nilFunc]⟩:=rfl
theorem jgl:aj Try.prog 95 jiz:=ak (z:= .nilFunc) (by kernel_rfl) Try.underlying95 rfl rfl (by intro h;cases h) (fun h=>by cases h)
theorem jnz:tt 95=some ⟨.other,1,8,[.nilFunc]⟩:=rfl
theorem jgm:aj Try.prog 97 ji0:=ak (z:= .nilFunc) (by kernel_rfl) Try.underlying97 rfl rfl (by intro h;cases h) (fun h=>by cases h)
theorem jn0:tt 97=some ⟨.other,1,8,[.nilFunc]⟩:=rfl
theorem jgn:aj Try.prog 98 ji1:=ak (z:=(.slice none 0 0)) (by kernel_rfl) Try.underlying98 rfl rfl (by intro h;cases h) (fun h=>by cases h)
theorem jn1:tt 98=some ⟨.slice 102,1,24,[(.slice none 0 0)]⟩:=rfl
theorem jbq:aj Try.prog 100 q83:=ak (z:= .nilFunc) (by kernel_rfl) Try.underlying100 rfl rfl (by intro h;cases h) (fun h=>by cases h)
theorem ji3:tt 100=some ⟨.other,1,8,[.nilFunc]⟩:=rfl
theorem jbr:aj Try.prog 101 q84:=ak (z:= .agg #[(.int .i64 0),(.slice none 0 0),(.slice none 0 0)]) (by kernel_rfl) Try.underlying101 rfl rfl (by intro h;cases h) (fun h=>by cases h)
theorem ji4:tt 101=some ⟨.strct false [(0,3),(1,25),(2,25)],3,56,[(.int .i64 0),(.slice none 0 0),(.slice none 0 0)]⟩:=rfl
theorem jbs:aj Try.prog 102 q85:=ak (z:= .agg #[(.int .i64 0),(.slice none 0 0),(.slice none 0 0)]) (by kernel_rfl) Try.underlying102 rfl rfl (by intro h;cases h) (fun h=>by cases h)
theorem ji5:tt 102=some ⟨.strct false [(0,3),(1,25),(2,25)],3,56,[(.int .i64 0),(.slice none 0 0),(.slice none 0 0)]⟩:=rfl
theorem jbt:aj Try.prog 103 q86:=ak (z:= .nilFunc) (by kernel_rfl) Try.underlying103 rfl rfl (by intro h;cases h) (fun h=>by cases h)
theorem ji6:tt 103=some ⟨.other,1,8,[.nilFunc]⟩:=rfl
theorem jbu:aj Try.prog 105 q87:=ak (z:= .nilFunc) (by kernel_rfl) Try.underlying105 rfl rfl (by intro h;cases h) (fun h=>by cases h)
theorem ji7:tt 105=some ⟨.other,1,8,[.nilFunc]⟩:=rfl
theorem jbv:aj Try.prog 106 q88:=ak (z:= .nilFunc) (by kernel_rfl) Try.underlying106 rfl rfl (by intro h;cases h) (fun h=>by cases h)
theorem ji8:tt 106=some ⟨.other,1,8,[.nilFunc]⟩:=rfl
theorem jbw:aj Try.prog 108 q89:=ak (z:= .nilFunc) (by kernel_rfl) Try.underlying108 rfl rfl (by intro h;cases h) (fun h=>by cases h)
theorem ji9:tt 108=some ⟨.other,1,8,[.nilFunc]⟩:=rfl
theorem jbx:aj Try.prog 109 q9a:=ak (z:= .nilFunc) (by kernel_rfl) Try.underlying109 rfl rfl (by intro h;cases h) (fun h=>by cases h)
theorem jja:tt 109=some ⟨.other,1,8,[.nilFunc]⟩:=rfl
theorem jby:aj Try.prog 110 q9b:=ak (z:= .nilFunc) (by kernel_rfl) Try.underlying110 rfl rfl (by intro h;cases h) (fun h=>by cases h)
theorem jjb:tt 110=some ⟨.other,1,8,[.nilFunc]⟩:=rfl
theorem jbz:aj Try.prog 111 q9c:=ak (z:= .nilFunc) (by kernel_rfl) Try.underlying111 rfl rfl (by intro h;cases h) (fun h=>by cases h)
theorem jjc:tt 111=some ⟨.other,1,8,[.nilFunc]⟩:=rfl
theorem jb0:aj Try.prog 112 q9d:=ak (z:= .nilFunc) (by kernel_rfl) Try.underlying112 rfl rfl (by intro h;cases h) (fun h=>by cases h)
theorem jjd:tt 112=some ⟨.other,1,8,[.nilFunc]⟩:=rfl
theorem jb1:aj Try.prog 113 q9e:=ak (z:= .nilFunc) (by kernel_rfl) Try.underlying113 rfl rfl (by intro h;cases h) (fun h=>by cases h)
theorem jje:tt 113=some ⟨.other,1,8,[.nilFunc]⟩:=rfl
theorem jb2:aj Try.prog 115 q9f:=ak (z:= .nilFunc) (by kernel_rfl) Try.underlying115 rfl rfl (by intro h;cases h) (fun h=>by cases h)
theorem jjf:tt 115=some ⟨.other,1,8,[.nilFunc]⟩:=rfl
theorem jb3:aj Try.prog 116 q9g:=ak (z:=(.map none)) (by kernel_rfl) Try.underlying116 rfl rfl (by intro h;cases h) (fun h=>by cases h)
theorem jjg:tt 116=some ⟨.map 9 4,1,8,[(.map none)]⟩:=rfl
theorem jb4:aj Try.prog 117 q9h:=ak (z:= .nilFunc) (by kernel_rfl) Try.underlying117 rfl rfl (by intro h;cases h) (fun h=>by cases h)
theorem jjh:tt 117=some ⟨.other,1,8,[.nilFunc]⟩:=rfl
theorem jb5:aj Try.prog 118 q9i:=ak (z:= .nilFunc) (by kernel_rfl) Try.underlying118 rfl rfl (by intro h;cases h) (fun h=>by cases h)
theorem jji:tt 118=some ⟨.other,1,8,[.nilFunc]⟩:=rfl
theorem jb6:aj Try.prog 119 q9j:=ak (z:= .nilFunc) (by kernel_rfl) Try.underlying119 rfl rfl (by intro h;cases h) (fun h=>by cases h)
theorem jjj:tt 119=some ⟨.other,1,8,[.nilFunc]⟩:=rfl
theorem jb7:aj Try.prog 120 q9k:=ak (z:= .nilFunc) (by kernel_rfl) Try.underlying120 rfl rfl (by intro h;cases h) (fun h=>by cases h)
theorem jjk:tt 120=some ⟨.other,1,8,[.nilFunc]⟩:=rfl
theorem jb8:aj Try.prog 121 q9l:=ak (z:= .nilFunc) (by kernel_rfl) Try.underlying121 rfl rfl (by intro h;cases h) (fun h=>by cases h)
theorem jjl:tt 121=some ⟨.other,1,8,[.nilFunc]⟩:=rfl
theorem jb9:aj Try.prog 122 q9m:=ak (z:= .nilFunc) (by kernel_rfl) Try.underlying122 rfl rfl (by intro h;cases h) (fun h=>by cases h)
theorem jjm:tt 122=some ⟨.other,1,8,[.nilFunc]⟩:=rfl
theorem jca:aj Try.prog 123 q9n:=ak (z:= .nilFunc) (by kernel_rfl) Try.underlying123 rfl rfl (by intro h;cases h) (fun h=>by cases h)
theorem jjn:tt 123=some ⟨.other,1,8,[.nilFunc]⟩:=rfl
theorem jcb:aj Try.prog 124 q9o:=ak (z:= .nilFunc) (by kernel_rfl) Try.underlying124 rfl rfl (by intro h;cases h) (fun h=>by cases h)
theorem jjo:tt 124=some ⟨.other,1,8,[.nilFunc]⟩:=rfl
theorem jcc:aj Try.prog 125 q9p:=ak (z:= .nilFunc) (by kernel_rfl) Try.underlying125 rfl rfl (by intro h;cases h) (fun h=>by cases h)
theorem jjp:tt 125=some ⟨.other,1,8,[.nilFunc]⟩:=rfl
theorem jcd:aj Try.prog 126 q9q:=ak (z:=(.slice none 0 0)) (by kernel_rfl) Try.underlying126 rfl rfl (by intro h;cases h) (fun h=>by cases h)
theorem jjq:tt 126=some ⟨.slice 129,1,24,[(.slice none 0 0)]⟩:=rfl
theorem jce:aj Try.prog 127 q9r:=ak (z:= .nilFunc) (by kernel_rfl) Try.underlying127 rfl rfl (by intro h;cases h) (fun h=>by cases h)
theorem jjr:tt 127=some ⟨.other,1,8,[.nilFunc]⟩:=rfl
theorem jcf:aj Try.prog 128 q9s:=ak (z:= .agg #[(.int .i64 0),(.slice none 0 0)]) (by kernel_rfl) Try.underlying128 rfl rfl (by intro h;cases h) (fun h=>by cases h)
theorem jjs:tt 128=some ⟨.strct false [(0,3),(1,25)],2,32,[(.int .i64 0),(.slice none 0 0)]⟩:=rfl
theorem jcg:aj Try.prog 129 q9t:=ak (z:= .agg #[(.int .i64 0),(.slice none 0 0)]) (by kernel_rfl) Try.underlying129 rfl rfl (by intro h;cases h) (fun h=>by cases h)
theorem jjt:tt 129=some ⟨.strct false [(0,3),(1,25)],2,32,[(.int .i64 0),(.slice none 0 0)]⟩:=rfl
theorem jch:aj Try.prog 130 q9u:=ak (z:= .nilFunc) (by kernel_rfl) Try.underlying130 rfl rfl (by intro h;cases h) (fun h=>by cases h)
theorem jju:tt 130=some ⟨.other,1,8,[.nilFunc]⟩:=rfl
theorem jci:aj Try.prog 131 q9v:=ak (z:= .nilFunc) (by kernel_rfl) Try.underlying131 rfl rfl (by intro h;cases h) (fun h=>by cases h)
theorem jjv:tt 131=some ⟨.other,1,8,[.nilFunc]⟩:=rfl
theorem jcj:aj Try.prog 132 q9w:=ak (z:= .nilFunc) (by kernel_rfl) Try.underlying132 rfl rfl (by intro h;cases h) (fun h=>by cases h)
theorem jjw:tt 132=some ⟨.other,1,8,[.nilFunc]⟩:=rfl
theorem jck:aj Try.prog 133 q9x:=ak (z:=(.slice none 0 0)) (by kernel_rfl) Try.underlying133 rfl rfl (by intro h;cases h) (fun h=>by cases h)
theorem jjx:tt 133=some ⟨.slice 4,1,24,[(.slice none 0 0)]⟩:=rfl
theorem jcl:aj Try.prog 135 q9y:=ak (z:= .nilFunc) (by kernel_rfl) Try.underlying135 rfl rfl (by intro h;cases h) (fun h=>by cases h)
theorem jjy:tt 135=some ⟨.other,1,8,[.nilFunc]⟩:=rfl
theorem jcm:aj Try.prog 136 q9z:=ak (z:= .nilFunc) (by kernel_rfl) Try.underlying136 rfl rfl (by intro h;cases h) (fun h=>by cases h)
theorem jjz:tt 136=some ⟨.other,1,8,[.nilFunc]⟩:=rfl
theorem jcn:aj Try.prog 137 q90:=ak (z:= .nilFunc) (by kernel_rfl) Try.underlying137 rfl rfl (by intro h;cases h) (fun h=>by cases h)
theorem jj0:tt 137=some ⟨.other,1,8,[.nilFunc]⟩:=rfl
theorem jco:aj Try.prog 138 q91:=ak (z:= .nilFunc) (by kernel_rfl) Try.underlying138 rfl rfl (by intro h;cases h) (fun h=>by cases h)
theorem jj1:tt 138=some ⟨.other,1,8,[.nilFunc]⟩:=rfl
theorem jcp:aj Try.prog 139 q92:=ak (z:= .nilFunc) (by kernel_rfl) Try.underlying139 rfl rfl (by intro h;cases h) (fun h=>by cases h)
theorem jj2:tt 139=some ⟨.other,1,8,[.nilFunc]⟩:=rfl
theorem jcq:aj Try.prog 140 q93:=ak (z:= .nilFunc) (by kernel_rfl) Try.underlying140 rfl rfl (by intro h;cases h) (fun h=>by cases h)
theorem jj3:tt 140=some ⟨.other,1,8,[.nilFunc]⟩:=rfl
theorem jcr:aj Try.prog 141 q94:=ak (z:= .nilFunc) (by kernel_rfl) Try.underlying141 rfl rfl (by intro h;cases h) (fun h=>by cases h)
theorem jj4:tt 141=some ⟨.other,1,8,[.nilFunc]⟩:=rfl
theorem jcs:aj Try.prog 142 q95:=ak (z:= .nilFunc) (by kernel_rfl) Try.underlying142 rfl rfl (by intro h;cases h) (fun h=>by cases h)
theorem jj5:tt 142=some ⟨.other,1,8,[.nilFunc]⟩:=rfl
theorem jct:aj Try.prog 143 q96:=ak (z:=(.pointer none)) (by kernel_rfl) Try.underlying143 rfl rfl (by intro h;cases h) (fun h=>by cases h)
theorem jj6:tt 143=some ⟨.other,1,8,[(.pointer none)]⟩:=rfl
theorem jcu:aj Try.prog 144 q97:=ak (z:=(.slice none 0 0)) (by kernel_rfl) Try.underlying144 rfl rfl (by intro h;cases h) (fun h=>by cases h)
theorem jj7:tt 144=some ⟨.slice 5,1,24,[(.slice none 0 0)]⟩:=rfl
theorem jcv:aj Try.prog 145 q98:=ak (z:= .agg #[(.pointer none),(.slice none 0 0)]) (by kernel_rfl) Try.underlying145 rfl rfl (by intro h;cases h) (fun h=>by cases h)
theorem jj8:tt 145=some ⟨.strct false [(0,143),(1,144)],2,32,[(.pointer none),(.slice none 0 0)]⟩:=rfl
theorem jcw:aj Try.prog 146 q99:=ak (z:= .agg #[(.pointer none),(.slice none 0 0)]) (by kernel_rfl) Try.underlying146 rfl rfl (by intro h;cases h) (fun h=>by cases h)
theorem jj9:tt 146=some ⟨.strct false [(0,143),(1,144)],2,32,[(.pointer none),(.slice none 0 0)]⟩:=rfl
theorem jcx:aj Try.prog 147 jaa:=ak (z:= .nilIface) (by kernel_rfl) Try.underlying147 rfl rfl (by intro h;cases h) (fun h=>by cases h)
theorem jka:tt 147=some ⟨.other,1,16,[.nilIface]⟩:=rfl
theorem jcy:aj Try.prog 148 jab:=ak (z:= .nilIface) (by kernel_rfl) Try.underlying148 rfl rfl (by intro h;cases h) (fun h=>by cases h)
theorem jkb:tt 148=some ⟨.other,1,16,[.nilIface]⟩:=rfl
theorem jcz:aj Try.prog 149 jac:=ak (z:= .nilFunc) (by kernel_rfl) Try.underlying149 rfl rfl (by intro h;cases h) (fun h=>by cases h)
theorem jkc:tt 149=some ⟨.other,1,8,[.nilFunc]⟩:=rfl
theorem jc0:aj Try.prog 150 jad:=ak (z:=(.int .u64 0)) (by kernel_rfl) Try.underlying150 rfl rfl (by intro h;cases h) (fun _=>rfl)
theorem jkd:tt 150=some ⟨.int .u64,1,8,[(.int .u64 0)]⟩:=rfl
theorem jc1:aj Try.prog 151 jae:=ak (z:= .nilFunc) (by kernel_rfl) Try.underlying151 rfl rfl (by intro h;cases h) (fun h=>by cases h)
theorem jke:tt 151=some ⟨.other,1,8,[.nilFunc]⟩:=rfl
theorem jc2:aj Try.prog 152 jaf:=ak (z:= .nilFunc) (by kernel_rfl) Try.underlying152 rfl rfl (by intro h;cases h) (fun h=>by cases h)
theorem jkf:tt 152=some ⟨.other,1,8,[.nilFunc]⟩:=rfl
theorem jc3:aj Try.prog 153 jag:=ak (z:= .nilFunc) (by kernel_rfl) Try.underlying153 rfl rfl (by intro h;cases h) (fun h=>by cases h)
theorem jkg:tt 153=some ⟨.other,1,8,[.nilFunc]⟩:=rfl
theorem jc4:aj Try.prog 154 jah:=ak (z:= .nilFunc) (by kernel_rfl) Try.underlying154 rfl rfl (by intro h;cases h) (fun h=>by cases h)
theorem jkh:tt 154=some ⟨.other,1,8,[.nilFunc]⟩:=rfl
theorem jc5:aj Try.prog 155 jai:=ak (z:=(.pointer none)) (by kernel_rfl) Try.underlying155 rfl rfl (by intro h;cases h) (fun h=>by cases h)
theorem jki:tt 155=some ⟨.other,1,8,[(.pointer none)]⟩:=rfl
theorem jc6:aj Try.prog 156 jaj:=ak (z:=(.pointer none)) (by kernel_rfl) Try.underlying156 rfl rfl (by intro h;cases h) (fun h=>by cases h)
theorem jkj:tt 156=some ⟨.other,1,8,[(.pointer none)]⟩:=rfl
theorem jc7:aj Try.prog 157 jak:=ak (z:= .nilFunc) (by kernel_rfl) Try.underlying157 rfl rfl (by intro h;cases h) (fun h=>by cases h)
theorem jkk:tt 157=some ⟨.other,1,8,[.nilFunc]⟩:=rfl
theorem jc8:aj Try.prog 158 jal:=ak (z:= .agg #[(.pointer none),(.pointer none),(.pointer none),(.string ⟨#[]⟩)]) (by kernel_rfl) Try.underlying158 rfl rfl (by intro h;cases h) (fun h=>by cases h)
theorem jkl:tt 158=some ⟨.strct false [(0,17),(1,17),(2,17),(3,9)],4,40,[(.pointer none),(.pointer none),(.pointer none),(.string ⟨#[]⟩)]⟩:=rfl
theorem jc9:aj Try.prog 159 jam:=ak (z:= .agg #[(.pointer none),(.pointer none),(.pointer none),(.string ⟨#[]⟩)]) (by kernel_rfl) Try.underlying159 rfl rfl (by intro h;cases h) (fun h=>by cases h)
theorem jkm:tt 159=some ⟨.strct false [(0,17),(1,17),(2,17),(3,9)],4,40,[(.pointer none),(.pointer none),(.pointer none),(.string ⟨#[]⟩)]⟩:=rfl
theorem jda:aj Try.prog 160 jan:=ak (z:= .agg #[]) (by kernel_rfl) Try.underlying160 rfl rfl (by intro h;cases h) (fun h=>by cases h)
theorem jkn:tt 160=some ⟨.arr false 0 16,0,0,[]⟩:=rfl
theorem jdb:aj Try.prog 161 jao:=ak (z:= .agg #[]) (by kernel_rfl) Try.underlying161 rfl rfl (by intro h;cases h) (fun h=>by cases h)
theorem jko:tt 161=some ⟨.strct false [(0,160)],0,0,[]⟩:=rfl
theorem jdc:aj Try.prog 162 jap:=ak (z:= .agg #[]) (by kernel_rfl) Try.underlying162 rfl rfl (by intro h;cases h) (fun h=>by cases h)
theorem jkp:tt 162=some ⟨.strct false [(0,160)],0,0,[]⟩:=rfl
theorem jdd:aj Try.prog 163 jaq:=ak (z:= .nilFunc) (by kernel_rfl) Try.underlying163 rfl rfl (by intro h;cases h) (fun h=>by cases h)
theorem jkq:tt 163=some ⟨.other,1,8,[.nilFunc]⟩:=rfl
theorem jde:aj Try.prog 164 jar:=ak (z:=(.int .u32 0)) (by kernel_rfl) Try.underlying164 rfl rfl (by intro h;cases h) (fun _=>rfl)
theorem jkr:tt 164=some ⟨.int .u32,1,4,[(.int .u32 0)]⟩:=rfl
theorem jdf:aj Try.prog 165 jas:=ak (z:=(.int .u8 0)) (by kernel_rfl) Try.underlying165 rfl rfl (by intro h;cases h) (fun _=>rfl)
theorem jks:tt 165=some ⟨.int .u8,1,1,[(.int .u8 0)]⟩:=rfl
theorem jdg:aj Try.prog 166 jat:=ak (z:=(.int .u8 0)) (by kernel_rfl) Try.underlying166 rfl rfl (by intro h;cases h) (fun _=>rfl)
theorem jkt:tt 166=some ⟨.int .u8,1,1,[(.int .u8 0)]⟩:=rfl
theorem jdh:aj Try.prog 167 jau:=ak (z:= .nilFunc) (by kernel_rfl) Try.underlying167 rfl rfl (by intro h;cases h) (fun h=>by cases h)
theorem jku:tt 167=some ⟨.other,1,8,[.nilFunc]⟩:=rfl
theorem jdi:aj Try.prog 168 jav:=ak (z:=(.int .i32 0)) (by kernel_rfl) Try.underlying168 rfl rfl (by intro h;cases h) (fun _=>rfl)
theorem jkv:tt 168=some ⟨.int .i32,1,4,[(.int .i32 0)]⟩:=rfl
theorem jdj:aj Try.prog 169 jaw:=ak (z:=(.int .i32 0)) (by kernel_rfl) Try.underlying169 rfl rfl (by intro h;cases h) (fun _=>rfl)
theorem jkw:tt 169=some ⟨.int .i32,1,4,[(.int .i32 0)]⟩:=rfl
theorem jdk:aj Try.prog 170 jax:=ak (z:= .agg #[(.int .u64 0),(.int .u64 0),(.int .u32 0),(.int .u8 0),(.int .u8 0),(.int .u8 0),(.int .u8 0), .nilFunc,(.pointer none),(.int .i32 0),(.int .i32 0)]) (by kernel_rfl) Try.underlying170 rfl rfl (by intro h;cases h) (fun h=>by cases h)
theorem jkx:tt 170=some ⟨.strct false [(0,12),(1,12),(2,164),(3,165),(4,5),(5,5),(6,166),(7,167),(8,155),(9,168),(10,169)],11,48,[(.int .u64 0),(.int .u64 0),(.int .u32 0),(.int .u8 0),(.int .u8 0),(.int .u8 0),(.int .u8 0), .nilFunc,(.pointer none),(.int .i32 0),(.int .i32 0)]⟩:=rfl
theorem jdl:aj Try.prog 171 jay:=ak (z:= .agg #[(.int .u64 0),(.int .u64 0),(.int .u32 0),(.int .u8 0),(.int .u8 0),(.int .u8 0),(.int .u8 0), .nilFunc,(.pointer none),(.int .i32 0),(.int .i32 0)]) (by kernel_rfl) Try.underlying171 rfl rfl (by intro h;cases h) (fun h=>by cases h)
theorem jky:tt 171=some ⟨.strct false [(0,12),(1,12),(2,164),(3,165),(4,5),(5,5),(6,166),(7,167),(8,155),(9,168),(10,169)],11,48,[(.int .u64 0),(.int .u64 0),(.int .u32 0),(.int .u8 0),(.int .u8 0),(.int .u8 0),(.int .u8 0), .nilFunc,(.pointer none),(.int .i32 0),(.int .i32 0)]⟩:=rfl
set_option maxRecDepth 100000 in
theorem fits:dr Try.prog tt:=by
 intro t x h;unfold tt at h;split at h
 ·cases h;exact jlh
 ·cases h;exact jli
 ·cases h;exact jlj
 ·cases h;exact jlk
 ·cases h;exact jll
 ·cases h;exact jlm
 ·cases h;exact jln
 ·cases h;exact jlo
 ·cases h;exact jlp
 ·cases h;exact jei
 ·cases h;exact jej
 ·cases h;exact jek
 ·cases h;exact jel
 ·cases h;exact jem
 ·cases h;exact jen
 ·cases h;exact jeo
 ·cases h;exact jep
 ·cases h;exact jeq
 ·cases h;exact jer
 ·cases h;exact jes
 ·cases h;exact jet
 ·cases h;exact jeu
 ·cases h;exact jev
 ·cases h;exact jew
 ·cases h;exact jex
 ·cases h;exact jey
 ·cases h;exact jez
 ·cases h;exact je0
 ·cases h;exact je1
 ·cases h;exact je2
 ·cases h;exact je3
 ·cases h;exact je4
 ·cases h;exact je5
 ·cases h;exact je6
 ·cases h;exact je7
 ·cases h;exact je8
 ·cases h;exact je9
 ·cases h;exact jfa
 ·cases h;exact jfb
 ·cases h;exact jfc
 ·cases h;exact jfd
 ·cases h;exact jfe
 ·cases h;exact jff
 ·cases h;exact jfg
 ·cases h;exact jfh
 ·cases h;exact jfi
 ·cases h;exact jfj
 ·cases h;exact jfk
 ·cases h;exact jfl
 ·cases h;exact jfm
 ·cases h;exact jfn
 ·cases h;exact jfo
 ·cases h;exact jfp
 ·cases h;exact jfq
 ·cases h;exact jfr
 ·cases h;exact jfs
 ·cases h;exact jft
 ·cases h;exact jfu
 ·cases h;exact jfv
 ·cases h;exact jfw
 ·cases h;exact jfx
 ·cases h;exact jfy
 ·cases h;exact jfz
 ·cases h;exact jf0
 ·cases h;exact jf1
 ·cases h;exact jf2
 ·cases h;exact jf3
 ·cases h;exact jf4
 ·cases h;exact jf5
 ·cases h;exact jf6
 ·cases h;exact jf7
 ·cases h;exact jf8
 ·cases h;exact jf9
 ·cases h;exact jga
 ·cases h;exact jgb
 ·cases h;exact jgc
 ·cases h;exact jgd
 ·cases h;exact jge
 ·cases h;exact jgf
 ·cases h;exact jgg
 ·cases h;exact jgh
 ·cases h;exact jgi
 ·cases h;exact jgj
 ·cases h;exact jgk
 ·cases h;exact jgl
 ·cases h;exact jgm
 ·cases h;exact jgn
 ·cases h;exact jbq
 ·cases h;exact jbr
 ·cases h;exact jbs
 ·cases h;exact jbt
 ·cases h;exact jbu
 ·cases h;exact jbv
 ·cases h;exact jbw
 ·cases h;exact jbx
 ·cases h;exact jby
 ·cases h;exact jbz
 ·cases h;exact jb0
 ·cases h;exact jb1
 ·cases h;exact jb2
 ·cases h;exact jb3
 ·cases h;exact jb4
 ·cases h;exact jb5
 ·cases h;exact jb6
 ·cases h;exact jb7
 ·cases h;exact jb8
 ·cases h;exact jb9
 ·cases h;exact jca
 ·cases h;exact jcb
 ·cases h;exact jcc
 ·cases h;exact jcd
 ·cases h;exact jce
 ·cases h;exact jcf
 ·cases h;exact jcg
 ·cases h;exact jch
 ·cases h;exact jci
 ·cases h;exact jcj
 ·cases h;exact jck
 ·cases h;exact jcl
 ·cases h;exact jcm
 ·cases h;exact jcn
 ·cases h;exact jco
 ·cases h;exact jcp
 ·cases h;exact jcq
 ·cases h;exact jcr
 ·cases h;exact jcs
 ·cases h;exact jct
 ·cases h;exact jcu
 ·cases h;exact jcv
 ·cases h;exact jcw
 ·cases h;exact jcx
 ·cases h;exact jcy
 ·cases h;exact jcz
 ·cases h;exact jc0
 ·cases h;exact jc1
 ·cases h;exact jc2
 ·cases h;exact jc3
 ·cases h;exact jc4
 ·cases h;exact jc5
 ·cases h;exact jc6
 ·cases h;exact jc7
 ·cases h;exact jc8
 ·cases h;exact jc9
 ·cases h;exact jda
 ·cases h;exact jdb
 ·cases h;exact jdc
 ·cases h;exact jdd
 ·cases h;exact jde
 ·cases h;exact jdf
 ·cases h;exact jdg
 ·cases h;exact jdh
 ·cases h;exact jdi
 ·cases h;exact jdj
 ·cases h;exact jdk
 ·cases h;exact jdl
 ·cases h
theorem mixed:Try.prog.follows .mixedOrders=true:=rfl
attribute [go_sem] tt1 tt2 tt3 tt4 tt5 tt6 tt7 tt8 tt9 jlw jlx jly jlz jl0 jl1 jl2 jl3 jl4 jl5 jl6 jl7 jl8 jl9 jma jmb jmc jmd jme jmf jmg jmh jmi jmj jmk jml jmm jmn jmo jmp jmq jmr jms jmt jmu jmv jmw jmx jmy jmz jm0 jm1 jm2 jm3 jm4 jm5 jm6 jm7 jm8 jm9 jna jnb jnc jnd jne jnf jng jnh jni jnj jnk jnl jnm jnn jno jnp jnq jnr jns jnt jnu jnv jnw jnx jny jnz jn0 jn1 ji3 ji4 ji5 ji6 ji7 ji8 ji9 jja jjb jjc jjd jje jjf jjg jjh jji jjj jjk jjl jjm jjn jjo jjp jjq jjr jjs jjt jju jjv jjw jjx jjy jjz jj0 jj1 jj2 jj3 jj4 jj5 jj6 jj7 jj8 jj9 jka jkb jkc jkd jke jkf jkg jkh jki jkj jkk jkl jkm jkn jko jkp jkq jkr jks jkt jku jkv jkw jkx jky
end Go.Proofs.Ytdhfhpdadbopkaa
