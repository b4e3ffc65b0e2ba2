/-
  The types of this seat's program: a row a type (its kind, cells, bytes, the cells of its zero value), and that each row is the program's own. Made by program out of the translation.
-/
import Derived.Test.YtdhfhpdadbopkaaZ5KE
import Derived.Test.YtdhfhpdadbopkaaProg
import Derived.KernelRfl
set_option linter.all false
namespace Go.Proofs.Ytdhfhpdadbopkaa
open Go.K Go.M
theorem ak{P:Program}{t:TypeId}{k:TK}{sz by_:Nat}{zs:List Value}{z:Value}{d:TypeDesc}(h1:(P.info? t).map (fun i=>(i.zero,i.size,i.bytes))=some (some z,sz,by_))(h2:P.underlying t=some d)(h3:TK.of d=k.plain)(h4:z.cells.toList=zs)(h5:k.cmp=true→Cmp P t)(h6:k.one=true→zs=[z]):aj P t ⟨k,sz,by_,zs⟩:=by
 cases hi:P.info? t with
 |none=>simp[hi]at h1
 |some i=>
  simp only[hi,Option.map_some,Option.some.injEq,Prod.mk.injEq]at h1;exact⟨⟨i,d,z,hi,h2,h3,h1.2.1,h1.2.2,h1.1,h4⟩,h5,fun e=>⟨i,z,hi,h1.1,h6 e⟩⟩
def ti1:TI:=⟨.other,1,8,[.nilFunc]⟩
def ti2:TI:=⟨.int .i64,1,8,[(.int .i64 0)]⟩
def ti3:TI:=⟨.int .i64,1,8,[(.int .i64 0)]⟩
def ti4:TI:=⟨.bool,1,1,[(.bool false)]⟩
def ti5:TI:=⟨.int .u8,1,1,[(.int .u8 0)]⟩
def ti6:TI:=⟨.int .u8,1,1,[(.int .u8 0)]⟩
def ti7:TI:=⟨.strct true [(0,2),(1,3),(2,4),(3,6)],4,24,[(.int .i64 0),(.int .i64 0),(.bool false),(.int .u8 0)]⟩
def ti8:TI:=⟨.strct true [(0,2),(1,3),(2,4),(3,6)],4,24,[(.int .i64 0),(.int .i64 0),(.bool false),(.int .u8 0)]⟩
def ti9:TI:=⟨.str,1,16,[(.string ⟨#[]⟩)]⟩
def jk3:TI:=⟨.str,1,16,[(.string ⟨#[]⟩)]⟩
def jk4:TI:=⟨.str,1,16,[(.string ⟨#[]⟩)]⟩
def jk5:TI:=⟨.int .u64,1,8,[(.int .u64 0)]⟩
def jk6:TI:=⟨.strct false [(0,9),(1,12)],2,24,[(.string ⟨#[]⟩),(.int .u64 0)]⟩
def jk7:TI:=⟨.strct false [(0,9),(1,12)],2,24,[(.string ⟨#[]⟩),(.int .u64 0)]⟩
def jk8:TI:=⟨.other,1,8,[(.pointer none)]⟩
def jk9:TI:=⟨.other,1,8,[(.pointer none)]⟩
def jla:TI:=⟨.other,1,8,[(.pointer none)]⟩
def jlb:TI:=⟨.strct false [(0,17)],1,8,[(.pointer none)]⟩
def jlc:TI:=⟨.strct false [(0,17)],1,8,[(.pointer none)]⟩
def jld:TI:=⟨.other,1,16,[.nilIface]⟩
def jle:TI:=⟨.int .i32,1,4,[(.int .i32 0)]⟩
def jlf:TI:=⟨.slice 43,1,24,[(.slice none 0 0)]⟩
def jlg:TI:=⟨.strct false [(0,3),(1,22),(2,3),(3,3)],4,48,[(.int .i64 0),(.slice none 0 0),(.int .i64 0),(.int .i64 0)]⟩
def jlh:TI:=⟨.strct false [(0,3),(1,22),(2,3),(3,3)],4,48,[(.int .i64 0),(.slice none 0 0),(.int .i64 0),(.int .i64 0)]⟩
def jli:TI:=⟨.slice 3,1,24,[(.slice none 0 0)]⟩
def jlj:TI:=⟨.slice 48,1,24,[(.slice none 0 0)]⟩
def jlk:TI:=⟨.strct false [(0,25),(1,25),(2,26)],3,72,[(.slice none 0 0),(.slice none 0 0),(.slice none 0 0)]⟩
def jll:TI:=⟨.strct false [(0,25),(1,25),(2,26)],3,72,[(.slice none 0 0),(.slice none 0 0),(.slice none 0 0)]⟩
def jlm:TI:=⟨.other,1,8,[.nilFunc]⟩
def jln:TI:=⟨.other,1,8,[.nilFunc]⟩
def jlo:TI:=⟨.other,1,8,[.nilFunc]⟩
def jlp:TI:=⟨.other,1,8,[.nilFunc]⟩
def jlq:TI:=⟨.other,1,8,[.nilFunc]⟩
def jlr:TI:=⟨.int .i64,1,8,[(.int .i64 0)]⟩
def jls:TI:=⟨.other,1,8,[.nilFunc]⟩
def jlt:TI:=⟨.other,1,8,[.nilFunc]⟩
def jlu:TI:=⟨.slice 25,1,24,[(.slice none 0 0)]⟩
def jlv:TI:=⟨.other,1,8,[.nilFunc]⟩
def jlw:TI:=⟨.other,1,8,[.nilFunc]⟩
def jlx:TI:=⟨.strct false [(0,9),(1,25),(2,25)],3,64,[(.string ⟨#[]⟩),(.slice none 0 0),(.slice none 0 0)]⟩
def jly:TI:=⟨.strct false [(0,9),(1,25),(2,25)],3,64,[(.string ⟨#[]⟩),(.slice none 0 0),(.slice none 0 0)]⟩
def jlz:TI:=⟨.other,1,8,[.nilFunc]⟩
def jl0:TI:=⟨.other,1,8,[.nilFunc]⟩
def jl1:TI:=⟨.other,1,8,[.nilFunc]⟩
def jl2:TI:=⟨.other,1,8,[.nilFunc]⟩
def jl3:TI:=⟨.arr false 2 25,2,48,[(.slice none 0 0),(.slice none 0 0)]⟩
def jl4:TI:=⟨.other,1,8,[.nilFunc]⟩
def jl5:TI:=⟨.other,1,8,[.nilFunc]⟩
def jl6:TI:=⟨.slice 83,1,24,[(.slice none 0 0)]⟩
def jl7:TI:=⟨.other,1,8,[.nilFunc]⟩
def jl8:TI:=⟨.other,1,8,[.nilFunc]⟩
def jl9:TI:=⟨.other,1,8,[.nilFunc]⟩
def jma:TI:=⟨.other,1,8,[.nilFunc]⟩
def jmb:TI:=⟨.other,1,8,[.nilFunc]⟩
def jmc:TI:=⟨.other,1,8,[.nilFunc]⟩
def jmd:TI:=⟨.slice 9,1,24,[(.slice none 0 0)]⟩
def jme:TI:=⟨.other,1,8,[.nilFunc]⟩
def jmf:TI:=⟨.other,1,8,[.nilFunc]⟩
def jmg:TI:=⟨.other,1,8,[.nilFunc]⟩
def jmh:TI:=⟨.other,1,8,[.nilFunc]⟩
def jmi:TI:=⟨.other,1,8,[.nilFunc]⟩
def jmj:TI:=⟨.other,1,8,[.nilFunc]⟩
def jmk:TI:=⟨.other,1,8,[.nilFunc]⟩
def jml:TI:=⟨.other,1,8,[.nilFunc]⟩
def jmm:TI:=⟨.other,1,8,[.nilFunc]⟩
def jmn:TI:=⟨.other,1,8,[.nilFunc]⟩
def jmo:TI:=⟨.other,1,8,[.nilFunc]⟩
def jmp:TI:=⟨.other,1,8,[.nilFunc]⟩
def jmq:TI:=⟨.other,1,8,[.nilFunc]⟩
def jmr:TI:=⟨.other,1,8,[.nilFunc]⟩
def jms:TI:=⟨.other,1,8,[.nilFunc]⟩
def jmt:TI:=⟨.other,1,8,[.nilFunc]⟩
def jmu:TI:=⟨.other,1,8,[.nilFunc]⟩
def jmv:TI:=⟨.other,1,8,[.nilFunc]⟩
def jmw:TI:=⟨.strct false [(0,25),(1,25)],2,48,[(.slice none 0 0),(.slice none 0 0)]⟩
def jmx:TI:=⟨.strct false [(0,25),(1,25)],2,48,[(.slice none 0 0),(.slice none 0 0)]⟩
def jmy:TI:=⟨.other,1,8,[.nilFunc]⟩
def jmz:TI:=⟨.other,1,8,[.nilFunc]⟩
def jm0:TI:=⟨.slice 92,1,24,[(.slice none 0 0)]⟩
def jm1:TI:=⟨.other,1,8,[.nilFunc]⟩
def jm2:TI:=⟨.other,1,8,[.nilFunc]⟩
def jm3:TI:=⟨.strct false [(0,3),(1,25),(2,25)],3,56,[(.int .i64 0),(.slice none 0 0),(.slice none 0 0)]⟩
def jm4:TI:=⟨.strct false [(0,3),(1,25),(2,25)],3,56,[(.int .i64 0),(.slice none 0 0),(.slice none 0 0)]⟩
def jm5:TI:=⟨.other,1,8,[.nilFunc]⟩
def jm6:TI:=⟨.other,1,8,[.nilFunc]⟩
def jm7:TI:=⟨.other,1,8,[.nilFunc]⟩
def jm8:TI:=⟨.slice 102,1,24,[(.slice none 0 0)]⟩
def jda:TI:=⟨.other,1,8,[.nilFunc]⟩
def jdb:TI:=⟨.strct false [(0,3),(1,25),(2,25)],3,56,[(.int .i64 0),(.slice none 0 0),(.slice none 0 0)]⟩
def jdc:TI:=⟨.strct false [(0,3),(1,25),(2,25)],3,56,[(.int .i64 0),(.slice none 0 0),(.slice none 0 0)]⟩
def jdd:TI:=⟨.other,1,8,[.nilFunc]⟩
def jde:TI:=⟨.other,1,8,[.nilFunc]⟩
def jdf:TI:=⟨.other,1,8,[.nilFunc]⟩
def jdg:TI:=⟨.other,1,8,[.nilFunc]⟩
def jdh:TI:=⟨.other,1,8,[.nilFunc]⟩
def jdi:TI:=⟨.other,1,8,[.nilFunc]⟩
def jdj:TI:=⟨.other,1,8,[.nilFunc]⟩
def jdk:TI:=⟨.other,1,8,[.nilFunc]⟩
def jdl:TI:=⟨.other,1,8,[.nilFunc]⟩
def jdm:TI:=⟨.other,1,8,[.nilFunc]⟩
def jdn:TI:=⟨.map 9 4,1,8,[(.map none)]⟩
def jdo:TI:=⟨.other,1,8,[.nilFunc]⟩
def jdp:TI:=⟨.other,1,8,[.nilFunc]⟩
def jdq:TI:=⟨.other,1,8,[.nilFunc]⟩
def jdr:TI:=⟨.other,1,8,[.nilFunc]⟩
def jds:TI:=⟨.other,1,8,[.nilFunc]⟩
def jdt:TI:=⟨.other,1,8,[.nilFunc]⟩
def jdu:TI:=⟨.other,1,8,[.nilFunc]⟩
def jdv:TI:=⟨.other,1,8,[.nilFunc]⟩
def jdw:TI:=⟨.other,1,8,[.nilFunc]⟩
def jdx:TI:=⟨.slice 129,1,24,[(.slice none 0 0)]⟩
def jdy:TI:=⟨.other,1,8,[.nilFunc]⟩
def jdz:TI:=⟨.strct false [(0,3),(1,25)],2,32,[(.int .i64 0),(.slice none 0 0)]⟩
def jd0:TI:=⟨.strct false [(0,3),(1,25)],2,32,[(.int .i64 0),(.slice none 0 0)]⟩
def jd1:TI:=⟨.other,1,8,[.nilFunc]⟩
def jd2:TI:=⟨.other,1,8,[.nilFunc]⟩
def jd3:TI:=⟨.other,1,8,[.nilFunc]⟩
def jd4:TI:=⟨.slice 4,1,24,[(.slice none 0 0)]⟩
def jd5:TI:=⟨.other,1,8,[.nilFunc]⟩
def jd6:TI:=⟨.other,1,8,[.nilFunc]⟩
def jd7:TI:=⟨.other,1,8,[.nilFunc]⟩
def jd8:TI:=⟨.other,1,8,[.nilFunc]⟩
def jd9:TI:=⟨.other,1,8,[.nilFunc]⟩
def jea:TI:=⟨.other,1,8,[.nilFunc]⟩
def jeb:TI:=⟨.other,1,8,[.nilFunc]⟩
def jec:TI:=⟨.other,1,8,[.nilFunc]⟩
def jed:TI:=⟨.other,1,8,[(.pointer none)]⟩
def jee:TI:=⟨.slice 5,1,24,[(.slice none 0 0)]⟩
def jef:TI:=⟨.strct false [(0,143),(1,144)],2,32,[(.pointer none),(.slice none 0 0)]⟩
def jeg:TI:=⟨.strct false [(0,143),(1,144)],2,32,[(.pointer none),(.slice none 0 0)]⟩
def jeh:TI:=⟨.other,1,16,[.nilIface]⟩
def jei:TI:=⟨.other,1,16,[.nilIface]⟩
def jej:TI:=⟨.other,1,8,[.nilFunc]⟩
def jek:TI:=⟨.int .u64,1,8,[(.int .u64 0)]⟩
def jel:TI:=⟨.other,1,8,[.nilFunc]⟩
def jem:TI:=⟨.other,1,8,[.nilFunc]⟩
def jen:TI:=⟨.other,1,8,[.nilFunc]⟩
def jeo:TI:=⟨.other,1,8,[.nilFunc]⟩
def jep:TI:=⟨.other,1,8,[(.pointer none)]⟩
def jeq:TI:=⟨.other,1,8,[(.pointer none)]⟩
def jer:TI:=⟨.other,1,8,[.nilFunc]⟩
def jes:TI:=⟨.strct false [(0,17),(1,17),(2,17),(3,9)],4,40,[(.pointer none),(.pointer none),(.pointer none),(.string ⟨#[]⟩)]⟩
def jet:TI:=⟨.strct false [(0,17),(1,17),(2,17),(3,9)],4,40,[(.pointer none),(.pointer none),(.pointer none),(.string ⟨#[]⟩)]⟩
def jeu:TI:=⟨.arr false 0 16,0,0,[]⟩
def jev:TI:=⟨.strct false [(0,160)],0,0,[]⟩
def jew:TI:=⟨.strct false [(0,160)],0,0,[]⟩
def jex:TI:=⟨.other,1,8,[.nilFunc]⟩
def jey:TI:=⟨.int .u32,1,4,[(.int .u32 0)]⟩
def jez:TI:=⟨.int .u8,1,1,[(.int .u8 0)]⟩
def je0:TI:=⟨.int .u8,1,1,[(.int .u8 0)]⟩
def je1:TI:=⟨.other,1,8,[.nilFunc]⟩
def je2:TI:=⟨.int .i32,1,4,[(.int .i32 0)]⟩
def je3:TI:=⟨.int .i32,1,4,[(.int .i32 0)]⟩
def je4:TI:=⟨.strct false [(0,12),(1,12),(2,164),(3,165),(4,5),(5,5),(6,166),(7,167),(8,155),(9,168),(10,169)],11,48,[(.int .u64 0),(.int .u64 0),(.int .u32 0),(.int .u8 0),(.int .u8 0),(.int .u8 0),(.int .u8 0), .nilFunc,(.pointer none),(.int .i32 0),(.int .i32 0)]⟩
def je5:TI:=⟨.strct false [(0,12),(1,12),(2,164),(3,165),(4,5),(5,5),(6,166),(7,167),(8,155),(9,168),(10,169)],11,48,[(.int .u64 0),(.int .u64 0),(.int .u32 0),(.int .u8 0),(.int .u8 0),(.int .u8 0),(.int .u8 0), .nilFunc,(.pointer none),(.int .i32 0),(.int .i32 0)]⟩
def tt:TT
 |1=>some ti1
 |2=>some ti2
 |3=>some ti3
 |4=>some ti4
 |5=>some ti5
 |6=>some ti6
 |7=>some ti7
 |8=>some ti8
 |9=>some ti9
 |10=>some jk3
 |11=>some jk4
 |12=>some jk5
 |13=>some jk6
 |14=>some jk7
 |15=>some jk8
 |16=>some jk9
 |17=>some jla
 |18=>some jlb
 |19=>some jlc
 |20=>some jld
 |21=>some jle
 |22=>some jlf
 |23=>some jlg
 |24=>some jlh
 |25=>some jli
 |26=>some jlj
 |27=>some jlk
 |28=>some jll
 |29=>some jlm
 |30=>some jln
 |31=>some jlo
 |32=>some jlp
 |33=>some jlq
 |34=>some jlr
 |36=>some jls
 |37=>some jlt
 |38=>some jlu
 |40=>some jlv
 |41=>some jlw
 |42=>some jlx
 |43=>some jly
 |44=>some jlz
 |45=>some jl0
 |46=>some jl1
 |47=>some jl2
 |48=>some jl3
 |49=>some jl4
 |51=>some jl5
 |52=>some jl6
 |53=>some jl7
 |54=>some jl8
 |55=>some jl9
 |56=>some jma
 |58=>some jmb
 |59=>some jmc
 |60=>some jmd
 |62=>some jme
 |64=>some jmf
 |65=>some jmg
 |67=>some jmh
 |68=>some jmi
 |69=>some jmj
 |70=>some jmk
 |71=>some jml
 |72=>some jmm
 |73=>some jmn
 |74=>some jmo
 |75=>some jmp
 |76=>some jmq
 |77=>some jmr
 |78=>some jms
 |79=>some jmt
 |80=>some jmu
 |81=>some jmv
 |82=>some jmw
 |83=>some jmx
 |84=>some jmy
 |86=>some jmz
 |87=>some jm0
 |89=>some jm1
 |90=>some jm2
 |91=>some jm3
 |92=>some jm4
 |93=>some jm5
 |95=>some jm6
 |97=>some jm7
 |98=>some jm8
 |100=>some jda
 |101=>some jdb
 |102=>some jdc
 |103=>some jdd
 |105=>some jde
 |106=>some jdf
 |108=>some jdg
 |109=>some jdh
 |110=>some jdi
 |111=>some jdj
 |112=>some jdk
 |113=>some jdl
 |115=>some jdm
 |116=>some jdn
 |117=>some jdo
 |118=>some jdp
 |119=>some jdq
 |120=>some jdr
 |121=>some jds
 |122=>some jdt
 |123=>some jdu
 |124=>some jdv
 |125=>some jdw
 |126=>some jdx
 |127=>some jdy
 |128=>some jdz
 |129=>some jd0
 |130=>some jd1
 |131=>some jd2
 |132=>some jd3
 |133=>some jd4
 |135=>some jd5
 |136=>some jd6
 |137=>some jd7
 |138=>some jd8
 |139=>some jd9
 |140=>some jea
 |141=>some jeb
 |142=>some jec
 |143=>some jed
 |144=>some jee
 |145=>some jef
 |146=>some jeg
 |147=>some jeh
 |148=>some jei
 |149=>some jej
 |150=>some jek
 |151=>some jel
 |152=>some jem
 |153=>some jen
 |154=>some jeo
 |155=>some jep
 |156=>some jeq
 |157=>some jer
 |158=>some jes
 |159=>some jet
 |160=>some jeu
 |161=>some jev
 |162=>some jew
 |163=>some jex
 |164=>some jey
 |165=>some jez
 |166=>some je0
 |167=>some je1
 |168=>some je2
 |169=>some je3
 |170=>some je4
 |171=>some je5
 |_=>none
theorem jpo:aj Try.prog 1 ti1:=ak (z:= .nilFunc) (by kernel_rfl) Try.underlying1 rfl rfl (by intro h;cases h) (fun h=>by cases h)
theorem tt1:tt 1=some ⟨.other,1,8,[.nilFunc]⟩:=rfl
theorem jpp:aj Try.prog 2 ti2:=ak (z:=(.int .i64 0)) (by kernel_rfl) Try.underlying2 rfl rfl (by intro h;cases h) (fun _=>rfl)
theorem tt2:tt 2=some ⟨.int .i64,1,8,[(.int .i64 0)]⟩:=rfl
theorem jpq:aj Try.prog 3 ti3:=ak (z:=(.int .i64 0)) (by kernel_rfl) Try.underlying3 rfl rfl (by intro h;cases h) (fun _=>rfl)
theorem tt3:tt 3=some ⟨.int .i64,1,8,[(.int .i64 0)]⟩:=rfl
theorem jpr:aj Try.prog 4 ti4:=ak (z:=(.bool false)) (by kernel_rfl) Try.underlying4 rfl rfl (by intro h;cases h) (fun _=>rfl)
theorem tt4:tt 4=some ⟨.bool,1,1,[(.bool false)]⟩:=rfl
theorem jps:aj Try.prog 5 ti5:=ak (z:=(.int .u8 0)) (by kernel_rfl) Try.underlying5 rfl rfl (by intro h;cases h) (fun _=>rfl)
theorem tt5:tt 5=some ⟨.int .u8,1,1,[(.int .u8 0)]⟩:=rfl
theorem jpt:aj Try.prog 6 ti6:=ak (z:=(.int .u8 0)) (by kernel_rfl) Try.underlying6 rfl rfl (by intro h;cases h) (fun _=>rfl)
theorem tt6:tt 6=some ⟨.int .u8,1,1,[(.int .u8 0)]⟩:=rfl
theorem jpu:aj Try.prog 7 ti7:=ak (z:= .agg #[(.int .i64 0),(.int .i64 0),(.bool false),(.int .u8 0)]) (by kernel_rfl) Try.underlying7 rfl rfl (by exact fun _=>⟨by kernel_rfl,by kernel_rfl,by kernel_rfl⟩) (fun h=>by cases h)
theorem tt7:tt 7=some ⟨.strct true [(0,2),(1,3),(2,4),(3,6)],4,24,[(.int .i64 0),(.int .i64 0),(.bool false),(.int .u8 0)]⟩:=rfl
theorem jpv:aj Try.prog 8 ti8:=ak (z:= .agg #[(.int .i64 0),(.int .i64 0),(.bool false),(.int .u8 0)]) (by kernel_rfl) Try.underlying8 rfl rfl (by exact fun _=>⟨by kernel_rfl,by kernel_rfl,by kernel_rfl⟩) (fun h=>by cases h)
theorem tt8:tt 8=some ⟨.strct true [(0,2),(1,3),(2,4),(3,6)],4,24,[(.int .i64 0),(.int .i64 0),(.bool false),(.int .u8 0)]⟩:=rfl
theorem jpw:aj Try.prog 9 ti9:=ak (z:=(.string ⟨#[]⟩)) (by kernel_rfl) Try.underlying9 rfl rfl (by intro h;cases h) (fun _=>rfl)
theorem tt9:tt 9=some ⟨.str,1,16,[(.string ⟨#[]⟩)]⟩:=rfl
theorem jiq:aj Try.prog 10 jk3:=ak (z:=(.string ⟨#[]⟩)) (by kernel_rfl) Try.underlying10 rfl rfl (by intro h;cases h) (fun _=>rfl)
theorem jp3:tt 10=some ⟨.str,1,16,[(.string ⟨#[]⟩)]⟩:=rfl
theorem jir:aj Try.prog 11 jk4:=ak (z:=(.string ⟨#[]⟩)) (by kernel_rfl) Try.underlying11 rfl rfl (by intro h;cases h) (fun _=>rfl)
theorem jp4:tt 11=some ⟨.str,1,16,[(.string ⟨#[]⟩)]⟩:=rfl
theorem jis:aj Try.prog 12 jk5:=ak (z:=(.int .u64 0)) (by kernel_rfl) Try.underlying12 rfl rfl (by intro h;cases h) (fun _=>rfl)
theorem jp5:tt 12=some ⟨.int .u64,1,8,[(.int .u64 0)]⟩:=rfl
theorem jit:aj Try.prog 13 jk6:=ak (z:= .agg #[(.string ⟨#[]⟩),(.int .u64 0)]) (by kernel_rfl) Try.underlying13 rfl rfl (by intro h;cases h) (fun h=>by cases h)
theorem jp6:tt 13=some ⟨.strct false [(0,9),(1,12)],2,24,[(.string ⟨#[]⟩),(.int .u64 0)]⟩:=rfl
theorem jiu:aj Try.prog 14 jk7:=ak (z:= .agg #[(.string ⟨#[]⟩),(.int .u64 0)]) (by kernel_rfl) Try.underlying14 rfl rfl (by intro h;cases h) (fun h=>by cases h)
theorem jp7:tt 14=some ⟨.strct false [(0,9),(1,12)],2,24,[(.string ⟨#[]⟩),(.int .u64 0)]⟩:=rfl
theorem jiv:aj Try.prog 15 jk8:=ak (z:=(.pointer none)) (by kernel_rfl) Try.underlying15 rfl rfl (by intro h;cases h) (fun h=>by cases h)
theorem jp8:tt 15=some ⟨.other,1,8,[(.pointer none)]⟩:=rfl
theorem jiw:aj Try.prog 16 jk9:=ak (z:=(.pointer none)) (by kernel_rfl) Try.underlying16 rfl rfl (by intro h;cases h) (fun h=>by cases h)
theorem jp9:tt 16=some ⟨.other,1,8,[(.pointer none)]⟩:=rfl
theorem jix:aj Try.prog 17 jla:=ak (z:=(.pointer none)) (by kernel_rfl) Try.underlying17 rfl rfl (by intro h;cases h) (fun h=>by cases h)
theorem jqa:tt 17=some ⟨.other,1,8,[(.pointer none)]⟩:=rfl
theorem jiy:aj Try.prog 18 jlb:=ak (z:= .agg #[(.pointer none)]) (by kernel_rfl) Try.underlying18 rfl rfl (by intro h;cases h) (fun h=>by cases h)
theorem jqb:tt 18=some ⟨.strct false [(0,17)],1,8,[(.pointer none)]⟩:=rfl
theorem jiz:aj Try.prog 19 jlc:=ak (z:= .agg #[(.pointer none)]) (by kernel_rfl) Try.underlying19 rfl rfl (by intro h;cases h) (fun h=>by cases h)
theorem jqc:tt 19=some ⟨.strct false [(0,17)],1,8,[(.pointer none)]⟩:=rfl
theorem ji0:aj Try.prog 20 jld:=ak (z:= .nilIface) (by kernel_rfl) Try.underlying20 rfl rfl (by intro h;cases h) (fun h=>by cases h)
theorem jqd:tt 20=some ⟨.other,1,16,[.nilIface]⟩:=rfl
theorem ji1:aj Try.prog 21 jle:=ak (z:=(.int .i32 0)) (by kernel_rfl) Try.underlying21 rfl rfl (by intro h;cases h) (fun _=>rfl)
theorem jqe:tt 21=some ⟨.int .i32,1,4,[(.int .i32 0)]⟩:=rfl
theorem ji2:aj Try.prog 22 jlf:=ak (z:=(.slice none 0 0)) (by kernel_rfl) Try.underlying22 rfl rfl (by intro h;cases h) (fun h=>by cases h)
theorem jqf:tt 22=some ⟨.slice 43,1,24,[(.slice none 0 0)]⟩:=rfl
theorem ji3:aj Try.prog 23 jlg:=ak (z:= .agg #[(.int .i64 0),(.slice none 0 0),(.int .i64 0),(.int .i64 0)]) (by kernel_rfl) Try.underlying23 rfl rfl (by intro h;cases h) (fun h=>by cases h)
theorem jqg:tt 23=some ⟨.strct false [(0,3),(1,22),(2,3),(3,3)],4,48,[(.int .i64 0),(.slice none 0 0),(.int .i64 0),(.int .i64 0)]⟩:=rfl
theorem ji4:aj Try.prog 24 jlh:=ak (z:= .agg #[(.int .i64 0),(.slice none 0 0),(.int .i64 0),(.int .i64 0)]) (by kernel_rfl) Try.underlying24 rfl rfl (by intro h;cases h) (fun h=>by cases h)
theorem jqh:tt 24=some ⟨.strct false [(0,3),(1,22),(2,3),(3,3)],4,48,[(.int .i64 0),(.slice none 0 0),(.int .i64 0),(.int .i64 0)]⟩:=rfl
theorem ji5:aj Try.prog 25 jli:=ak (z:=(.slice none 0 0)) (by kernel_rfl) Try.underlying25 rfl rfl (by intro h;cases h) (fun h=>by cases h)
theorem jqi:tt 25=some ⟨.slice 3,1,24,[(.slice none 0 0)]⟩:=rfl
theorem ji6:aj Try.prog 26 jlj:=ak (z:=(.slice none 0 0)) (by kernel_rfl) Try.underlying26 rfl rfl (by intro h;cases h) (fun h=>by cases h)
theorem jqj:tt 26=some ⟨.slice 48,1,24,[(.slice none 0 0)]⟩:=rfl
theorem ji7:aj Try.prog 27 jlk:=ak (z:= .agg #[(.slice none 0 0),(.slice none 0 0),(.slice none 0 0)]) (by kernel_rfl) Try.underlying27 rfl rfl (by intro h;cases h) (fun h=>by cases h)
theorem jqk:tt 27=some ⟨.strct false [(0,25),(1,25),(2,26)],3,72,[(.slice none 0 0),(.slice none 0 0),(.slice none 0 0)]⟩:=rfl
theorem ji8:aj Try.prog 28 jll:=ak (z:= .agg #[(.slice none 0 0),(.slice none 0 0),(.slice none 0 0)]) (by kernel_rfl) Try.underlying28 rfl rfl (by intro h;cases h) (fun h=>by cases h)
theorem jql:tt 28=some ⟨.strct false [(0,25),(1,25),(2,26)],3,72,[(.slice none 0 0),(.slice none 0 0),(.slice none 0 0)]⟩:=rfl
theorem ji9:aj Try.prog 29 jlm:=ak (z:= .nilFunc) (by kernel_rfl) Try.underlying29 rfl rfl (by intro h;cases h) (fun h=>by cases h)
theorem jqm:tt 29=some ⟨.other,1,8,[.nilFunc]⟩:=rfl
theorem jja:aj Try.prog 30 jln:=ak (z:= .nilFunc) (by kernel_rfl) Try.underlying30 rfl rfl (by intro h;cases h) (fun h=>by cases h)
theorem jqn:tt 30=some ⟨.other,1,8,[.nilFunc]⟩:=rfl
theorem jjb:aj Try.prog 31 jlo:=ak (z:= .nilFunc) (by kernel_rfl) Try.underlying31 rfl rfl (by intro h;cases h) (fun h=>by cases h)
theorem jqo:tt 31=some ⟨.other,1,8,[.nilFunc]⟩:=rfl
theorem jjc:aj Try.prog 32 jlp:=ak (z:= .nilFunc) (by kernel_rfl) Try.underlying32 rfl rfl (by intro h;cases h) (fun h=>by cases h)
theorem jqp:tt 32=some ⟨.other,1,8,[.nilFunc]⟩:=rfl
theorem jjd:aj Try.prog 33 jlq:=ak (z:= .nilFunc) (by kernel_rfl) Try.underlying33 rfl rfl (by intro h;cases h) (fun h=>by cases h)
theorem jqq:tt 33=some ⟨.other,1,8,[.nilFunc]⟩:=rfl
theorem jje:aj Try.prog 34 jlr:=ak (z:=(.int .i64 0)) (by kernel_rfl) Try.underlying34 rfl rfl (by intro h;cases h) (fun _=>rfl)
theorem jqr:tt 34=some ⟨.int .i64,1,8,[(.int .i64 0)]⟩:=rfl
theorem jjf:aj Try.prog 36 jls:=ak (z:= .nilFunc) (by kernel_rfl) Try.underlying36 rfl rfl (by intro h;cases h) (fun h=>by cases h)
theorem jqs:tt 36=some ⟨.other,1,8,[.nilFunc]⟩:=rfl
theorem jjg:aj Try.prog 37 jlt:=ak (z:= .nilFunc) (by kernel_rfl) Try.underlying37 rfl rfl (by intro h;cases h) (fun h=>by cases h)
theorem jqt:tt 37=some ⟨.other,1,8,[.nilFunc]⟩:=rfl
theorem jjh:aj Try.prog 38 jlu:=ak (z:=(.slice none 0 0)) (by kernel_rfl) Try.underlying38 rfl rfl (by intro h;cases h) (fun h=>by cases h)
theorem jqu:tt 38=some ⟨.slice 25,1,24,[(.slice none 0 0)]⟩:=rfl
theorem jji:aj Try.prog 40 jlv:=ak (z:= .nilFunc) (by kernel_rfl) Try.underlying40 rfl rfl (by intro h;cases h) (fun h=>by cases h)
theorem jqv:tt 40=some ⟨.other,1,8,[.nilFunc]⟩:=rfl
theorem jjj:aj Try.prog 41 jlw:=ak (z:= .nilFunc) (by kernel_rfl) Try.underlying41 rfl rfl (by intro h;cases h) (fun h=>by cases h)
theorem jqw:tt 41=some ⟨.other,1,8,[.nilFunc]⟩:=rfl
theorem jjk:aj Try.prog 42 jlx:=ak (z:= .agg #[(.string ⟨#[]⟩),(.slice none 0 0),(.slice none 0 0)]) (by kernel_rfl) Try.underlying42 rfl rfl (by intro h;cases h) (fun h=>by cases h)
theorem jqx:tt 42=some ⟨.strct false [(0,9),(1,25),(2,25)],3,64,[(.string ⟨#[]⟩),(.slice none 0 0),(.slice none 0 0)]⟩:=rfl
theorem jjl:aj Try.prog 43 jly:=ak (z:= .agg #[(.string ⟨#[]⟩),(.slice none 0 0),(.slice none 0 0)]) (by kernel_rfl) Try.underlying43 rfl rfl (by intro h;cases h) (fun h=>by cases h)
theorem jqy:tt 43=some ⟨.strct false [(0,9),(1,25),(2,25)],3,64,[(.string ⟨#[]⟩),(.slice none 0 0),(.slice none 0 0)]⟩:=rfl
theorem jjm:aj Try.prog 44 jlz:=ak (z:= .nilFunc) (by kernel_rfl) Try.underlying44 rfl rfl (by intro h;cases h) (fun h=>by cases h)
theorem jqz:tt 44=some ⟨.other,1,8,[.nilFunc]⟩:=rfl
theorem jjn:aj Try.prog 45 jl0:=ak (z:= .nilFunc) (by kernel_rfl) Try.underlying45 rfl rfl (by intro h;cases h) (fun h=>by cases h)
theorem jq0:tt 45=some ⟨.other,1,8,[.nilFunc]⟩:=rfl
theorem jjo:aj Try.prog 46 jl1:=ak (z:= .nilFunc) (by kernel_rfl) Try.underlying46 rfl rfl (by intro h;cases h) (fun h=>by cases h)
theorem jq1:tt 46=some ⟨.other,1,8,[.nilFunc]⟩:=rfl
theorem jjp:aj Try.prog 47 jl2:=ak (z:= .nilFunc) (by kernel_rfl) Try.underlying47 rfl rfl (by intro h;cases h) (fun h=>by cases h)
theorem jq2:tt 47=some ⟨.other,1,8,[.nilFunc]⟩:=rfl
theorem jjq:aj Try.prog 48 jl3:=ak (z:= .agg #[(.slice none 0 0),(.slice none 0 0)]) (by kernel_rfl) Try.underlying48 rfl rfl (by intro h;cases h) (fun h=>by cases h)
theorem jq3:tt 48=some ⟨.arr false 2 25,2,48,[(.slice none 0 0),(.slice none 0 0)]⟩:=rfl
theorem jjr:aj Try.prog 49 jl4:=ak (z:= .nilFunc) (by kernel_rfl) Try.underlying49 rfl rfl (by intro h;cases h) (fun h=>by cases h)
theorem jq4:tt 49=some ⟨.other,1,8,[.nilFunc]⟩:=rfl
theorem jjs:aj Try.prog 51 jl5:=ak (z:= .nilFunc) (by kernel_rfl) Try.underlying51 rfl rfl (by intro h;cases h) (fun h=>by cases h)
theorem jq5:tt 51=some ⟨.other,1,8,[.nilFunc]⟩:=rfl
theorem jjt:aj Try.prog 52 jl6:=ak (z:=(.slice none 0 0)) (by kernel_rfl) Try.underlying52 rfl rfl (by intro h;cases h) (fun h=>by cases h)
theorem jq6:tt 52=some ⟨.slice 83,1,24,[(.slice none 0 0)]⟩:=rfl
theorem jju:aj Try.prog 53 jl7:=ak (z:= .nilFunc) (by kernel_rfl) Try.underlying53 rfl rfl (by intro h;cases h) (fun h=>by cases h)
theorem jq7:tt 53=some ⟨.other,1,8,[.nilFunc]⟩:=rfl
theorem jjv:aj Try.prog 54 jl8:=ak (z:= .nilFunc) (by kernel_rfl) Try.underlying54 rfl rfl (by intro h;cases h) (fun h=>by cases h)
theorem jq8:tt 54=some ⟨.other,1,8,[.nilFunc]⟩:=rfl
theorem jjw:aj Try.prog 55 jl9:=ak (z:= .nilFunc) (by kernel_rfl) Try.underlying55 rfl rfl (by intro h;cases h) (fun h=>by cases h)
theorem jq9:tt 55=some ⟨.other,1,8,[.nilFunc]⟩:=rfl
theorem jjx:aj Try.prog 56 jma:=ak (z:= .nilFunc) (by kernel_rfl) Try.underlying56 rfl rfl (by intro h;cases h) (fun h=>by cases h)
theorem jra:tt 56=some ⟨.other,1,8,[.nilFunc]⟩:=rfl
theorem jjy:aj Try.prog 58 jmb:=ak (z:= .nilFunc) (by kernel_rfl) Try.underlying58 rfl rfl (by intro h;cases h) (fun h=>by cases h)
theorem jrb:tt 58=some ⟨.other,1,8,[.nilFunc]⟩:=rfl
theorem jjz:aj Try.prog 59 jmc:=ak (z:= .nilFunc) (by kernel_rfl) Try.underlying59 rfl rfl (by intro h;cases h) (fun h=>by cases h)
theorem jrc:tt 59=some ⟨.other,1,8,[.nilFunc]⟩:=rfl
theorem jj0:aj Try.prog 60 jmd:=ak (z:=(.slice none 0 0)) (by kernel_rfl) Try.underlying60 rfl rfl (by intro h;cases h) (fun h=>by cases h)
theorem jrd:tt 60=some ⟨.slice 9,1,24,[(.slice none 0 0)]⟩:=rfl
theorem jj1:aj Try.prog 62 jme:=ak (z:= .nilFunc) (by kernel_rfl) Try.underlying62 rfl rfl (by intro h;cases h) (fun h=>by cases h)
theorem jre:tt 62=some ⟨.other,1,8,[.nilFunc]⟩:=rfl
theorem jj2:aj Try.prog 64 jmf:=ak (z:= .nilFunc) (by kernel_rfl) Try.underlying64 rfl rfl (by intro h;cases h) (fun h=>by cases h)
theorem jrf:tt 64=some ⟨.other,1,8,[.nilFunc]⟩:=rfl
theorem jj3:aj Try.prog 65 jmg:=ak (z:= .nilFunc) (by kernel_rfl) Try.underlying65 rfl rfl (by intro h;cases h) (fun h=>by cases h)
theorem jrg:tt 65=some ⟨.other,1,8,[.nilFunc]⟩:=rfl
theorem jj4:aj Try.prog 67 jmh:=ak (z:= .nilFunc) (by kernel_rfl) Try.underlying67 rfl rfl (by intro h;cases h) (fun h=>by cases h)
theorem jrh:tt 67=some ⟨.other,1,8,[.nilFunc]⟩:=rfl
theorem jj5:aj Try.prog 68 jmi:=ak (z:= .nilFunc) (by kernel_rfl) Try.underlying68 rfl rfl (by intro h;cases h) (fun h=>by cases h)
theorem jri:tt 68=some ⟨.other,1,8,[.nilFunc]⟩:=rfl
theorem jj6:aj Try.prog 69 jmj:=ak (z:= .nilFunc) (by kernel_rfl) Try.underlying69 rfl rfl (by intro h;cases h) (fun h=>by cases h)
theorem jrj:tt 69=some ⟨.other,1,8,[.nilFunc]⟩:=rfl
theorem jj7:aj Try.prog 70 jmk:=ak (z:= .nilFunc) (by kernel_rfl) Try.underlying70 rfl rfl (by intro h;cases h) (fun h=>by cases h)
theorem jrk:tt 70=some ⟨.other,1,8,[.nilFunc]⟩:=rfl
theorem jj8:aj Try.prog 71 jml:=ak (z:= .nilFunc) (by kernel_rfl) Try.underlying71 rfl rfl (by intro h;cases h) (fun h=>by cases h)
theorem jrl:tt 71=some ⟨.other,1,8,[.nilFunc]⟩:=rfl
theorem jj9:aj Try.prog 72 jmm:=ak (z:= .nilFunc) (by kernel_rfl) Try.underlying72 rfl rfl (by intro h;cases h) (fun h=>by cases h)
theorem jrm:tt 72=some ⟨.other,1,8,[.nilFunc]⟩:=rfl
theorem jka:aj Try.prog 73 jmn:=ak (z:= .nilFunc) (by kernel_rfl) Try.underlying73 rfl rfl (by intro h;cases h) (fun h=>by cases h)
theorem jrn:tt 73=some ⟨.other,1,8,[.nilFunc]⟩:=rfl
theorem jkb:aj Try.prog 74 jmo:=ak (z:= .nilFunc) (by kernel_rfl) Try.underlying74 rfl rfl (by intro h;cases h) (fun h=>by cases h)
theorem jro:tt 74=some ⟨.other,1,8,[.nilFunc]⟩:=rfl
theorem jkc:aj Try.prog 75 jmp:=ak (z:= .nilFunc) (by kernel_rfl) Try.underlying75 rfl rfl (by intro h;cases h) (fun h=>by cases h)
theorem jrp:tt 75=some ⟨.other,1,8,[.nilFunc]⟩:=rfl
theorem jkd:aj Try.prog 76 jmq:=ak (z:= .nilFunc) (by kernel_rfl) Try.underlying76 rfl rfl (by intro h;cases h) (fun h=>by cases h)
theorem jrq:tt 76=some ⟨.other,1,8,[.nilFunc]⟩:=rfl
theorem jke:aj Try.prog 77 jmr:=ak (z:= .nilFunc) (by kernel_rfl) Try.underlying77 rfl rfl (by intro h;cases h) (fun h=>by cases h)
theorem jrr:tt 77=some ⟨.other,1,8,[.nilFunc]⟩:=rfl
theorem jkf:aj Try.prog 78 jms:=ak (z:= .nilFunc) (by kernel_rfl) Try.underlying78 rfl rfl (by intro h;cases h) (fun h=>by cases h)
theorem jrs:tt 78=some ⟨.other,1,8,[.nilFunc]⟩:=rfl
theorem jkg:aj Try.prog 79 jmt:=ak (z:= .nilFunc) (by kernel_rfl) Try.underlying79 rfl rfl (by intro h;cases h) (fun h=>by cases h)
theorem jrt:tt 79=some ⟨.other,1,8,[.nilFunc]⟩:=rfl
theorem jkh:aj Try.prog 80 jmu:=ak (z:= .nilFunc) (by kernel_rfl) Try.underlying80 rfl rfl (by intro h;cases h) (fun h=>by cases h)
theorem jru:tt 80=some ⟨.other,1,8,[.nilFunc]⟩:=rfl
theorem jki:aj Try.prog 81 jmv:=ak (z:= .nilFunc) (by kernel_rfl) Try.underlying81 rfl rfl (by intro h;cases h) (fun h=>by cases h)
theorem jrv:tt 81=some ⟨.other,1,8,[.nilFunc]⟩:=rfl
theorem jkj:aj Try.prog 82 jmw:=ak (z:= .agg #[(.slice none 0 0),(.slice none 0 0)]) (by kernel_rfl) Try.underlying82 rfl rfl (by intro h;cases h) (fun h=>by cases h)
theorem jrw:tt 82=some ⟨.strct false [(0,25),(1,25)],2,48,[(.slice none 0 0),(.slice none 0 0)]⟩:=rfl
theorem jkk:aj Try.prog 83 jmx:=ak (z:= .agg #[(.slice none 0 0),(.slice none 0 0)]) (by kernel_rfl) Try.underlying83 rfl rfl (by intro h;cases h) (fun h=>by cases h)
theorem jrx:tt 83=some ⟨.strct false [(0,25),(1,25)],2,48,[(.slice none 0 0),(.slice none 0 0)]⟩:=rfl
theorem jkl:aj Try.prog 84 jmy:=ak (z:= .nilFunc) (by kernel_rfl) Try.underlying84 rfl rfl (by intro h;cases h) (fun h=>by cases h)
theorem jry:tt 84=some ⟨.other,1,8,[.nilFunc]⟩:=rfl
theorem jkm:aj Try.prog 86 jmz:=ak (z:= .nilFunc) (by kernel_rfl) Try.underlying86 rfl rfl (by intro h;cases h) (fun h=>by cases h)
theorem jrz:tt 86=some ⟨.other,1,8,[.nilFunc]⟩:=rfl
theorem jkn:aj Try.prog 87 jm0:=ak (z:=(.slice none 0 0)) (by kernel_rfl) Try.underlying87 rfl rfl (by intro h;cases h) (fun h=>by cases h)
theorem jr0:tt 87=some ⟨.slice 92,1,24,[(.slice none 0 0)]⟩:=rfl
theorem jko:aj Try.prog 89 jm1:=ak (z:= .nilFunc) (by kernel_rfl) Try.underlying89 rfl rfl (by intro h;cases h) (fun h=>by cases h)
theorem jr1:tt 89=some ⟨.other,1,8,[.nilFunc]⟩:=rfl
theorem jkp:aj Try.prog 90 jm2:=ak (z:= .nilFunc) (by kernel_rfl) Try.underlying90 rfl rfl (by intro h;cases h) (fun h=>by cases h)
theorem jr2:tt 90=some ⟨.other,1,8,[.nilFunc]⟩:=rfl
theorem jkq:aj Try.prog 91 jm3:=ak (z:= .agg #[(.int .i64 0),(.slice none 0 0),(.slice none 0 0)]) (by kernel_rfl) Try.underlying91 rfl rfl (by intro h;cases h) (fun h=>by cases h)
theorem jr3:tt 91=some ⟨.strct false [(0,3),(1,25),(2,25)],3,56,[(.int .i64 0),(.slice none 0 0),(.slice none 0 0)]⟩:=rfl
theorem jkr:aj Try.prog 92 jm4:=ak (z:= .agg #[(.int .i64 0),(.slice none 0 0),(.slice none 0 0)]) (by kernel_rfl) Try.underlying92 rfl rfl (by intro h;cases h) (fun h=>by cases h)
theorem jr4:tt 92=some ⟨.strct false [(0,3),(1,25),(2,25)],3,56,[(.int .i64 0),(.slice none 0 0),(.slice none 0 0)]⟩:=rfl
theorem jks:aj Try.prog 93 jm5:=ak (z:= .nilFunc) (by kernel_rfl) Try.underlying93 rfl rfl (by intro h;cases h) (fun h=>by cases h)
theorem jr5:tt 93=some ⟨.other,1,8,[.nilFunc]⟩:=rfl
theorem jkt:aj Try.prog 95 jm6:=ak (z:= .nilFunc) (by kernel_rfl) Try.underlying95 rfl rfl (by intro h;cases h) (fun h=>by cases h)
theorem jr6:tt 95=some ⟨.other,1,8,[.nilFunc]⟩:=rfl
theorem jku:aj Try.prog 97 jm7:=ak (z:= .nilFunc) (by kernel_rfl) Try.underlying97 rfl rfl (by intro h;cases h) (fun h=>by cases h)
theorem jr7:tt 97=some ⟨.other,1,8,[.nilFunc]⟩:=rfl
theorem jkv:aj Try.prog 98 jm8:=ak (z:=(.slice none 0 0)) (by kernel_rfl) Try.underlying98 rfl rfl (by intro h;cases h) (fun h=>by cases h)
theorem jr8:tt 98=some ⟨.slice 102,1,24,[(.slice none 0 0)]⟩:=rfl
theorem jfx:aj Try.prog 100 jda:=ak (z:= .nilFunc) (by kernel_rfl) Try.underlying100 rfl rfl (by intro h;cases h) (fun h=>by cases h)
theorem jna:tt 100=some ⟨.other,1,8,[.nilFunc]⟩:=rfl
theorem jfy:aj Try.prog 101 jdb:=ak (z:= .agg #[(.int .i64 0),(.slice none 0 0),(.slice none 0 0)]) (by kernel_rfl) Try.underlying101 rfl rfl (by intro h;cases h) (fun h=>by cases h)
theorem jnb:tt 101=some ⟨.strct false [(0,3),(1,25),(2,25)],3,56,[(.int .i64 0),(.slice none 0 0),(.slice none 0 0)]⟩:=rfl
theorem jfz:aj Try.prog 102 jdc:=ak (z:= .agg #[(.int .i64 0),(.slice none 0 0),(.slice none 0 0)]) (by kernel_rfl) Try.underlying102 rfl rfl (by intro h;cases h) (fun h=>by cases h)
theorem jnc:tt 102=some ⟨.strct false [(0,3),(1,25),(2,25)],3,56,[(.int .i64 0),(.slice none 0 0),(.slice none 0 0)]⟩:=rfl
theorem jf0:aj Try.prog 103 jdd:=ak (z:= .nilFunc) (by kernel_rfl) Try.underlying103 rfl rfl (by intro h;cases h) (fun h=>by cases h)
theorem jnd:tt 103=some ⟨.other,1,8,[.nilFunc]⟩:=rfl
theorem jf1:aj Try.prog 105 jde:=ak (z:= .nilFunc) (by kernel_rfl) Try.underlying105 rfl rfl (by intro h;cases h) (fun h=>by cases h)
theorem jne:tt 105=some ⟨.other,1,8,[.nilFunc]⟩:=rfl
theorem jf2:aj Try.prog 106 jdf:=ak (z:= .nilFunc) (by kernel_rfl) Try.underlying106 rfl rfl (by intro h;cases h) (fun h=>by cases h)
theorem jnf:tt 106=some ⟨.other,1,8,[.nilFunc]⟩:=rfl
theorem jf3:aj Try.prog 108 jdg:=ak (z:= .nilFunc) (by kernel_rfl) Try.underlying108 rfl rfl (by intro h;cases h) (fun h=>by cases h)
theorem jng:tt 108=some ⟨.other,1,8,[.nilFunc]⟩:=rfl
theorem jf4:aj Try.prog 109 jdh:=ak (z:= .nilFunc) (by kernel_rfl) Try.underlying109 rfl rfl (by intro h;cases h) (fun h=>by cases h)
theorem jnh:tt 109=some ⟨.other,1,8,[.nilFunc]⟩:=rfl
theorem jf5:aj Try.prog 110 jdi:=ak (z:= .nilFunc) (by kernel_rfl) Try.underlying110 rfl rfl (by intro h;cases h) (fun h=>by cases h)
theorem jni:tt 110=some ⟨.other,1,8,[.nilFunc]⟩:=rfl
theorem jf6:aj Try.prog 111 jdj:=ak (z:= .nilFunc) (by kernel_rfl) Try.underlying111 rfl rfl (by intro h;cases h) (fun h=>by cases h)
theorem jnj:tt 111=some ⟨.other,1,8,[.nilFunc]⟩:=rfl
theorem jf7:aj Try.prog 112 jdk:=ak (z:= .nilFunc) (by kernel_rfl) Try.underlying112 rfl rfl (by intro h;cases h) (fun h=>by cases h)
theorem jnk:tt 112=some ⟨.other,1,8,[.nilFunc]⟩:=rfl
theorem jf8:aj Try.prog 113 jdl:=ak (z:= .nilFunc) (by kernel_rfl) Try.underlying113 rfl rfl (by intro h;cases h) (fun h=>by cases h)
theorem jnl:tt 113=some ⟨.other,1,8,[.nilFunc]⟩:=rfl
theorem jf9:aj Try.prog 115 jdm:=ak (z:= .nilFunc) (by kernel_rfl) Try.underlying115 rfl rfl (by intro h;cases h) (fun h=>by cases h)
theorem jnm:tt 115=some ⟨.other,1,8,[.nilFunc]⟩:=rfl
theorem jga:aj Try.prog 116 jdn:=ak (z:=(.map none)) (by kernel_rfl) Try.underlying116 rfl rfl (by intro h;cases h) (fun h=>by cases h)
theorem jnn:tt 116=some ⟨.map 9 4,1,8,[(.map none)]⟩:=rfl
theorem jgb:aj Try.prog 117 jdo:=ak (z:= .nilFunc) (by kernel_rfl) Try.underlying117 rfl rfl (by intro h;cases h) (fun h=>by cases h)
theorem jno:tt 117=some ⟨.other,1,8,[.nilFunc]⟩:=rfl
theorem jgc:aj Try.prog 118 jdp:=ak (z:= .nilFunc) (by kernel_rfl) Try.underlying118 rfl rfl (by intro h;cases h) (fun h=>by cases h)
theorem jnp:tt 118=some ⟨.other,1,8,[.nilFunc]⟩:=rfl
theorem jgd:aj Try.prog 119 jdq:=ak (z:= .nilFunc) (by kernel_rfl) Try.underlying119 rfl rfl (by intro h;cases h) (fun h=>by cases h)
theorem jnq:tt 119=some ⟨.other,1,8,[.nilFunc]⟩:=rfl
theorem jge:aj Try.prog 120 jdr:=ak (z:= .nilFunc) (by kernel_rfl) Try.underlying120 rfl rfl (by intro h;cases h) (fun h=>by cases h)
theorem jnr:tt 120=some ⟨.other,1,8,[.nilFunc]⟩:=rfl
theorem jgf:aj Try.prog 121 jds:=ak (z:= .nilFunc) (by kernel_rfl) Try.underlying121 rfl rfl (by intro h;cases h) (fun h=>by cases h)
theorem jns:tt 121=some ⟨.other,1,8,[.nilFunc]⟩:=rfl
theorem jgg:aj Try.prog 122 jdt:=ak (z:= .nilFunc) (by kernel_rfl) Try.underlying122 rfl rfl (by intro h;cases h) (fun h=>by cases h)
theorem jnt:tt 122=some ⟨.other,1,8,[.nilFunc]⟩:=rfl
theorem jgh:aj Try.prog 123 jdu:=ak (z:= .nilFunc) (by kernel_rfl) Try.underlying123 rfl rfl (by intro h;cases h) (fun h=>by cases h)
theorem jnu:tt 123=some ⟨.other,1,8,[.nilFunc]⟩:=rfl
theorem jgi:aj Try.prog 124 jdv:=ak (z:= .nilFunc) (by kernel_rfl) Try.underlying124 rfl rfl (by intro h;cases h) (fun h=>by cases h)
theorem jnv:tt 124=some ⟨.other,1,8,[.nilFunc]⟩:=rfl
theorem jgj:aj Try.prog 125 jdw:=ak (z:= .nilFunc) (by kernel_rfl) Try.underlying125 rfl rfl (by intro h;cases h) (fun h=>by cases h)
theorem jnw:tt 125=some ⟨.other,1,8,[.nilFunc]⟩:=rfl
theorem jgk:aj Try.prog 126 jdx:=ak (z:=(.slice none 0 0)) (by kernel_rfl) Try.underlying126 rfl rfl (by intro h;cases h) (fun h=>by cases h)
theorem jnx:tt 126=some ⟨.slice 129,1,24,[(.slice none 0 0)]⟩:=rfl
theorem jgl:aj Try.prog 127 jdy:=ak (z:= .nilFunc) (by kernel_rfl) Try.underlying127 rfl rfl (by intro h;cases h) (fun h=>by cases h)
theorem jny:tt 127=some ⟨.other,1,8,[.nilFunc]⟩:=rfl
theorem jgm:aj Try.prog 128 jdz:=ak (z:= .agg #[(.int .i64 0),(.slice none 0 0)]) (by kernel_rfl) Try.underlying128 rfl rfl (by intro h;cases h) (fun h=>by cases h)
theorem jnz:tt 128=some ⟨.strct false [(0,3),(1,25)],2,32,[(.int .i64 0),(.slice none 0 0)]⟩:=rfl
theorem jgn:aj Try.prog 129 jd0:=ak (z:= .agg #[(.int .i64 0),(.slice none 0 0)]) (by kernel_rfl) Try.underlying129 rfl rfl (by intro h;cases h) (fun h=>by cases h)
theorem jn0:tt 129=some ⟨.strct false [(0,3),(1,25)],2,32,[(.int .i64 0),(.slice none 0 0)]⟩:=rfl
theorem jgo:aj Try.prog 130 jd1:=ak (z:= .nilFunc) (by kernel_rfl) Try.underlying130 rfl rfl (by intro h;cases h) (fun h=>by cases h)
theorem jn1:tt 130=some ⟨.other,1,8,[.nilFunc]⟩:=rfl
theorem jgp:aj Try.prog 131 jd2:=ak (z:= .nilFunc) (by kernel_rfl) Try.underlying131 rfl rfl (by intro h;cases h) (fun h=>by cases h)
theorem jn2:tt 131=some ⟨.other,1,8,[.nilFunc]⟩:=rfl
theorem jgq:aj Try.prog 132 jd3:=ak (z:= .nilFunc) (by kernel_rfl) Try.underlying132 rfl rfl (by intro h;cases h) (fun h=>by cases h)
theorem jn3:tt 132=some ⟨.other,1,8,[.nilFunc]⟩:=rfl
theorem jgr:aj Try.prog 133 jd4:=ak (z:=(.slice none 0 0)) (by kernel_rfl) Try.underlying133 rfl rfl (by intro h;cases h) (fun h=>by cases h)
theorem jn4:tt 133=some ⟨.slice 4,1,24,[(.slice none 0 0)]⟩:=rfl
theorem jgs:aj Try.prog 135 jd5:=ak (z:= .nilFunc) (by kernel_rfl) Try.underlying135 rfl rfl (by intro h;cases h) (fun h=>by cases h)
theorem jn5:tt 135=some ⟨.other,1,8,[.nilFunc]⟩:=rfl
theorem jgt:aj Try.prog 136 jd6:=ak (z:= .nilFunc) (by kernel_rfl) Try.underlying136 rfl rfl (by intro h;cases h) (fun h=>by cases h)
theorem jn6:tt 136=some ⟨.other,1,8,[.nilFunc]⟩:=rfl
theorem jgu:aj Try.prog 137 jd7:=ak (z:= .nilFunc) (by kernel_rfl) Try.underlying137 rfl rfl (by intro h;cases h) (fun h=>by cases h)
theorem jn7:tt 137=some ⟨.other,1,8,[.nilFunc]⟩:=rfl
theorem jgv:aj Try.prog 138 jd8:=ak (z:= .nilFunc) (by kernel_rfl) Try.underlying138 rfl rfl (by intro h;cases h) (fun h=>by cases h)
theorem jn8:tt 138=some ⟨.other,1,8,[.nilFunc]⟩:=rfl
theorem jgw:aj Try.prog 139 jd9:=ak (z:= .nilFunc) (by kernel_rfl) Try.underlying139 rfl rfl (by intro h;cases h) (fun h=>by cases h)
theorem jn9:tt 139=some ⟨.other,1,8,[.nilFunc]⟩:=rfl
theorem jgx:aj Try.prog 140 jea:=ak (z:= .nilFunc) (by kernel_rfl) Try.underlying140 rfl rfl (by intro h;cases h) (fun h=>by cases h)
theorem joa:tt 140=some ⟨.other,1,8,[.nilFunc]⟩:=rfl
theorem jgy:aj Try.prog 141 jeb:=ak (z:= .nilFunc) (by kernel_rfl) Try.underlying141 rfl rfl (by intro h;cases h) (fun h=>by cases h)
theorem job:tt 141=some ⟨.other,1,8,[.nilFunc]⟩:=rfl
theorem jgz:aj Try.prog 142 jec:=ak (z:= .nilFunc) (by kernel_rfl) Try.underlying142 rfl rfl (by intro h;cases h) (fun h=>by cases h)
theorem joc:tt 142=some ⟨.other,1,8,[.nilFunc]⟩:=rfl
theorem jg0:aj Try.prog 143 jed:=ak (z:=(.pointer none)) (by kernel_rfl) Try.underlying143 rfl rfl (by intro h;cases h) (fun h=>by cases h)
theorem jod:tt 143=some ⟨.other,1,8,[(.pointer none)]⟩:=rfl
theorem jg1:aj Try.prog 144 jee:=ak (z:=(.slice none 0 0)) (by kernel_rfl) Try.underlying144 rfl rfl (by intro h;cases h) (fun h=>by cases h)
theorem joe:tt 144=some ⟨.slice 5,1,24,[(.slice none 0 0)]⟩:=rfl
theorem jg2:aj Try.prog 145 jef:=ak (z:= .agg #[(.pointer none),(.slice none 0 0)]) (by kernel_rfl) Try.underlying145 rfl rfl (by intro h;cases h) (fun h=>by cases h)
theorem jof:tt 145=some ⟨.strct false [(0,143),(1,144)],2,32,[(.pointer none),(.slice none 0 0)]⟩:=rfl
theorem jg3:aj Try.prog 146 jeg:=ak (z:= .agg #[(.pointer none),(.slice none 0 0)]) (by kernel_rfl) Try.underlying146 rfl rfl (by intro h;cases h) (fun h=>by cases h)
theorem jog:tt 146=some ⟨.strct false [(0,143),(1,144)],2,32,[(.pointer none),(.slice none 0 0)]⟩:=rfl
theorem jg4:aj Try.prog 147 jeh:=ak (z:= .nilIface) (by kernel_rfl) Try.underlying147 rfl rfl (by intro h;cases h) (fun h=>by cases h)
theorem joh:tt 147=some ⟨.other,1,16,[.nilIface]⟩:=rfl
theorem jg5:aj Try.prog 148 jei:=ak (z:= .nilIface) (by kernel_rfl) Try.underlying148 rfl rfl (by intro h;cases h) (fun h=>by cases h)
theorem joi:tt 148=some ⟨.other,1,16,[.nilIface]⟩:=rfl
theorem jg6:aj Try.prog 149 jej:=ak (z:= .nilFunc) (by kernel_rfl) Try.underlying149 rfl rfl (by intro h;cases h) (fun h=>by cases h)
theorem joj:tt 149=some ⟨.other,1,8,[.nilFunc]⟩:=rfl
theorem jg7:aj Try.prog 150 jek:=ak (z:=(.int .u64 0)) (by kernel_rfl) Try.underlying150 rfl rfl (by intro h;cases h) (fun _=>rfl)
theorem jok:tt 150=some ⟨.int .u64,1,8,[(.int .u64 0)]⟩:=rfl
theorem jg8:aj Try.prog 151 jel:=ak (z:= .nilFunc) (by kernel_rfl) Try.underlying151 rfl rfl (by intro h;cases h) (fun h=>by cases h)
theorem jol:tt 151=some ⟨.other,1,8,[.nilFunc]⟩:=rfl
theorem jg9:aj Try.prog 152 jem:=ak (z:= .nilFunc) (by kernel_rfl) Try.underlying152 rfl rfl (by intro h;cases h) (fun h=>by cases h)
theorem jom:tt 152=some ⟨.other,1,8,[.nilFunc]⟩:=rfl
theorem jha:aj Try.prog 153 jen:=ak (z:= .nilFunc) (by kernel_rfl) Try.underlying153 rfl rfl (by intro h;cases h) (fun h=>by cases h)
theorem jon:tt 153=some ⟨.other,1,8,[.nilFunc]⟩:=rfl
theorem jhb:aj Try.prog 154 jeo:=ak (z:= .nilFunc) (by kernel_rfl) Try.underlying154 rfl rfl (by intro h;cases h) (fun h=>by cases h)
theorem joo:tt 154=some ⟨.other,1,8,[.nilFunc]⟩:=rfl
theorem jhc:aj Try.prog 155 jep:=ak (z:=(.pointer none)) (by kernel_rfl) Try.underlying155 rfl rfl (by intro h;cases h) (fun h=>by cases h)
theorem jop:tt 155=some ⟨.other,1,8,[(.pointer none)]⟩:=rfl
theorem jhd:aj Try.prog 156 jeq:=ak (z:=(.pointer none)) (by kernel_rfl) Try.underlying156 rfl rfl (by intro h;cases h) (fun h=>by cases h)
theorem joq:tt 156=some ⟨.other,1,8,[(.pointer none)]⟩:=rfl
theorem jhe:aj Try.prog 157 jer:=ak (z:= .nilFunc) (by kernel_rfl) Try.underlying157 rfl rfl (by intro h;cases h) (fun h=>by cases h)
theorem jor:tt 157=some ⟨.other,1,8,[.nilFunc]⟩:=rfl
theorem jhf:aj Try.prog 158 jes:=ak (z:= .agg #[(.pointer none),(.pointer none),(.pointer none),(.string ⟨#[]⟩)]) (by kernel_rfl) Try.underlying158 rfl rfl (by intro h;cases h) (fun h=>by cases h)
theorem jos:tt 158=some ⟨.strct false [(0,17),(1,17),(2,17),(3,9)],4,40,[(.pointer none),(.pointer none),(.pointer none),(.string ⟨#[]⟩)]⟩:=rfl
theorem jhg:aj Try.prog 159 jet:=ak (z:= .agg #[(.pointer none),(.pointer none),(.pointer none),(.string ⟨#[]⟩)]) (by kernel_rfl) Try.underlying159 rfl rfl (by intro h;cases h) (fun h=>by cases h)
theorem jot:tt 159=some ⟨.strct false [(0,17),(1,17),(2,17),(3,9)],4,40,[(.pointer none),(.pointer none),(.pointer none),(.string ⟨#[]⟩)]⟩:=rfl
theorem jhh:aj Try.prog 160 jeu:=ak (z:= .agg #[]) (by kernel_rfl) Try.underlying160 rfl rfl (by intro h;cases h) (fun h=>by cases h)
theorem jou:tt 160=some ⟨.arr false 0 16,0,0,[]⟩:=rfl
theorem jhi:aj Try.prog 161 jev:=ak (z:= .agg #[]) (by kernel_rfl) Try.underlying161 rfl rfl (by intro h;cases h) (fun h=>by cases h)
theorem jov:tt 161=some ⟨.strct false [(0,160)],0,0,[]⟩:=rfl
theorem jhj:aj Try.prog 162 jew:=ak (z:= .agg #[]) (by kernel_rfl) Try.underlying162 rfl rfl (by intro h;cases h) (fun h=>by cases h)
theorem jow:tt 162=some ⟨.strct false [(0,160)],0,0,[]⟩:=rfl
theorem jhk:aj Try.prog 163 jex:=ak (z:= .nilFunc) (by kernel_rfl) Try.underlying163 rfl rfl (by intro h;cases h) (fun h=>by cases h)
theorem jox:tt 163=some ⟨.other,1,8,[.nilFunc]⟩:=rfl
theorem jhl:aj Try.prog 164 jey:=ak (z:=(.int .u32 0)) (by kernel_rfl) Try.underlying164 rfl rfl (by intro h;cases h) (fun _=>rfl)
theorem joy:tt 164=some ⟨.int .u32,1,4,[(.int .u32 0)]⟩:=rfl
theorem jhm:aj Try.prog 165 jez:=ak (z:=(.int .u8 0)) (by kernel_rfl) Try.underlying165 rfl rfl (by intro h;cases h) (fun _=>rfl)
theorem joz:tt 165=some ⟨.int .u8,1,1,[(.int .u8 0)]⟩:=rfl
theorem jhn:aj Try.prog 166 je0:=ak (z:=(.int .u8 0)) (by kernel_rfl) Try.underlying166 rfl rfl (by intro h;cases h) (fun _=>rfl)
theorem jo0:tt 166=some ⟨.int .u8,1,1,[(.int .u8 0)]⟩:=rfl
theorem jho:aj Try.prog 167 je1:=ak (z:= .nilFunc) (by kernel_rfl) Try.underlying167 rfl rfl (by intro h;cases h) (fun h=>by cases h)
theorem jo1:tt 167=some ⟨.other,1,8,[.nilFunc]⟩:=rfl
theorem jhp:aj Try.prog 168 je2:=ak (z:=(.int .i32 0)) (by kernel_rfl) Try.underlying168 rfl rfl (by intro h;cases h) (fun _=>rfl)
theorem jo2:tt 168=some ⟨.int .i32,1,4,[(.int .i32 0)]⟩:=rfl
theorem jhq:aj Try.prog 169 je3:=ak (z:=(.int .i32 0)) (by kernel_rfl) Try.underlying169 rfl rfl (by intro h;cases h) (fun _=>rfl)
theorem jo3:tt 169=some ⟨.int .i32,1,4,[(.int .i32 0)]⟩:=rfl
theorem jhr:aj Try.prog 170 je4:=ak (z:= .agg #[(.int .u64 0),(.int .u64 0),(.int .u32 0),(.int .u8 0),(.int .u8 0),(.int .u8 0),(.int .u8 0), .nilFunc,(.pointer none),(.int .i32 0),(.int .i32 0)]) (by kernel_rfl) Try.underlying170 rfl rfl (by intro h;cases h) (fun h=>by cases h)
theorem jo4:tt 170=some ⟨.strct false [(0,12),(1,12),(2,164),(3,165),(4,5),(5,5),(6,166),(7,167),(8,155),(9,168),(10,169)],11,48,[(.int .u64 0),(.int .u64 0),(.int .u32 0),(.int .u8 0),(.int .u8 0),(.int .u8 0),(.int .u8 0), .nilFunc,(.pointer none),(.int .i32 0),(.int .i32 0)]⟩:=rfl
theorem jhs:aj Try.prog 171 je5:=ak (z:= .agg #[(.int .u64 0),(.int .u64 0),(.int .u32 0),(.int .u8 0),(.int .u8 0),(.int .u8 0),(.int .u8 0), .nilFunc,(.pointer none),(.int .i32 0),(.int .i32 0)]) (by kernel_rfl) Try.underlying171 rfl rfl (by intro h;cases h) (fun h=>by cases h)
theorem jo5:tt 171=some ⟨.strct false [(0,12),(1,12),(2,164),(3,165),(4,5),(5,5),(6,166),(7,167),(8,155),(9,168),(10,169)],11,48,[(.int .u64 0),(.int .u64 0),(.int .u32 0),(.int .u8 0),(.int .u8 0),(.int .u8 0),(.int .u8 0), .nilFunc,(.pointer none),(.int .i32 0),(.int .i32 0)]⟩:=rfl
set_option maxRecDepth 100000 in
theorem fits:di Try.prog tt:=by
 intro t x h;unfold tt at h;split at h
 ·cases h;exact jpo
 ·cases h;exact jpp
 ·cases h;exact jpq
 ·cases h;exact jpr
 ·cases h;exact jps
 ·cases h;exact jpt
 ·cases h;exact jpu
 ·cases h;exact jpv
 ·cases h;exact jpw
 ·cases h;exact jiq
 ·cases h;exact jir
 ·cases h;exact jis
 ·cases h;exact jit
 ·cases h;exact jiu
 ·cases h;exact jiv
 ·cases h;exact jiw
 ·cases h;exact jix
 ·cases h;exact jiy
 ·cases h;exact jiz
 ·cases h;exact ji0
 ·cases h;exact ji1
 ·cases h;exact ji2
 ·cases h;exact ji3
 ·cases h;exact ji4
 ·cases h;exact ji5
 ·cases h;exact ji6
 ·cases h;exact ji7
 ·cases h;exact ji8
 ·cases h;exact ji9
 ·cases h;exact jja
 ·cases h;exact jjb
 ·cases h;exact jjc
 ·cases h;exact jjd
 ·cases h;exact jje
 ·cases h;exact jjf
 ·cases h;exact jjg
 ·cases h;exact jjh
 ·cases h;exact jji
 ·cases h;exact jjj
 ·cases h;exact jjk
 ·cases h;exact jjl
 ·cases h;exact jjm
 ·cases h;exact jjn
 ·cases h;exact jjo
 ·cases h;exact jjp
 ·cases h;exact jjq
 ·cases h;exact jjr
 ·cases h;exact jjs
 ·cases h;exact jjt
 ·cases h;exact jju
 ·cases h;exact jjv
 ·cases h;exact jjw
 ·cases h;exact jjx
 ·cases h;exact jjy
 ·cases h;exact jjz
 ·cases h;exact jj0
 ·cases h;exact jj1
 ·cases h;exact jj2
 ·cases h;exact jj3
 ·cases h;exact jj4
 ·cases h;exact jj5
 ·cases h;exact jj6
 ·cases h;exact jj7
 ·cases h;exact jj8
 ·cases h;exact jj9
 ·cases h;exact jka
 ·cases h;exact jkb
 ·cases h;exact jkc
 ·cases h;exact jkd
 ·cases h;exact jke
 ·cases h;exact jkf
 ·cases h;exact jkg
 ·cases h;exact jkh
 ·cases h;exact jki
 ·cases h;exact jkj
 ·cases h;exact jkk
 ·cases h;exact jkl
 ·cases h;exact jkm
 ·cases h;exact jkn
 ·cases h;exact jko
 ·cases h;exact jkp
 ·cases h;exact jkq
 ·cases h;exact jkr
 ·cases h;exact jks
 ·cases h;exact jkt
 ·cases h;exact jku
 ·cases h;exact jkv
 ·cases h;exact jfx
 ·cases h;exact jfy
 ·cases h;exact jfz
 ·cases h;exact jf0
 ·cases h;exact jf1
 ·cases h;exact jf2
 ·cases h;exact jf3
 ·cases h;exact jf4
 ·cases h;exact jf5
 ·cases h;exact jf6
 ·cases h;exact jf7
 ·cases h;exact jf8
 ·cases h;exact jf9
 ·cases h;exact jga
 ·cases h;exact jgb
 ·cases h;exact jgc
 ·cases h;exact jgd
 ·cases h;exact jge
 ·cases h;exact jgf
 ·cases h;exact jgg
 ·cases h;exact jgh
 ·cases h;exact jgi
 ·cases h;exact jgj
 ·cases h;exact jgk
 ·cases h;exact jgl
 ·cases h;exact jgm
 ·cases h;exact jgn
 ·cases h;exact jgo
 ·cases h;exact jgp
 ·cases h;exact jgq
 ·cases h;exact jgr
 ·cases h;exact jgs
 ·cases h;exact jgt
 ·cases h;exact jgu
 ·cases h;exact jgv
 ·cases h;exact jgw
 ·cases h;exact jgx
 ·cases h;exact jgy
 ·cases h;exact jgz
 ·cases h;exact jg0
 ·cases h;exact jg1
 ·cases h;exact jg2
 ·cases h;exact jg3
 ·cases h;exact jg4
 ·cases h;exact jg5
 ·cases h;exact jg6
 ·cases h;exact jg7
 ·cases h;exact jg8
 ·cases h;exact jg9
 ·cases h;exact jha
 ·cases h;exact jhb
 ·cases h;exact jhc
 ·cases h;exact jhd
 ·cases h;exact jhe
 ·cases h;exact jhf
 ·cases h;exact jhg
 ·cases h;exact jhh
 ·cases h;exact jhi
 ·cases h;exact jhj
 ·cases h;exact jhk
 ·cases h;exact jhl
 ·cases h;exact jhm
 ·cases h;exact jhn
 ·cases h;exact jho
 ·cases h;exact jhp
 ·cases h;exact jhq
 ·cases h;exact jhr
 ·cases h;exact jhs
 ·cases h
theorem mixed:Try.prog.follows .mixedOrders=true:=rfl
attribute [go_sem] tt1 tt2 tt3 tt4 tt5 tt6 tt7 tt8 tt9 jp3 jp4 jp5 jp6 jp7 jp8 jp9 jqa jqb jqc jqd jqe jqf jqg jqh jqi jqj jqk jql jqm jqn jqo jqp jqq jqr jqs jqt jqu jqv jqw jqx jqy jqz jq0 jq1 jq2 jq3 jq4 jq5 jq6 jq7 jq8 jq9 jra jrb jrc jrd jre jrf jrg jrh jri jrj jrk jrl jrm jrn jro jrp jrq jrr jrs jrt jru jrv jrw jrx jry jrz jr0 jr1 jr2 jr3 jr4 jr5 jr6 jr7 jr8 jna jnb jnc jnd jne jnf jng jnh jni jnj jnk jnl jnm jnn jno jnp jnq jnr jns jnt jnu jnv jnw jnx jny jnz jn0 jn1 jn2 jn3 jn4 jn5 jn6 jn7 jn8 jn9 joa job joc jod joe jof jog joh joi joj jok jol jom jon joo jop joq jor jos jot jou jov jow jox joy joz jo0 jo1 jo2 jo3 jo4 jo5
end Go.Proofs.Ytdhfhpdadbopkaa
