/-
  The types of this seat's program: a row a type (its kind, cells, bytes, the cells of its zero value), and that each row is the program's own. Made by program out of the translation.
-/
import Derived.Test.YtokeielgplbdeaaZ6KE
import Derived.Test.YtokeielgplbdeaaProg
import Derived.KernelRfl
set_option linter.all false
namespace Go.Proofs.Ytokeielgplbdeaa
open Go.K Go.M
theorem al{P:Program}{t:TypeId}{k:TK}{sz by_:Nat}{zs:List Value}{z:Value}{d:TypeDesc}(h1:(P.info? t).map (fun i=>(i.zero,i.size,i.bytes))=some (some z,sz,by_))(h2:P.underlying t=some d)(h3:TK.of d=k.plain)(h4:z.cells.toList=zs)(h5:k.cmp=true→Cmp P t)(h6:k.one=true→zs=[z]):ak P t ⟨k,sz,by_,zs⟩:=by
 cases hi:P.info? t with
 |none=>simp[hi]at h1
 |some i=>
  simp only[hi,Option.map_some,Option.some.injEq,Prod.mk.injEq]at h1;exact⟨⟨i,d,z,hi,h2,h3,h1.2.1,h1.2.2,h1.1,h4⟩,h5,fun e=>⟨i,z,hi,h1.1,h6 e⟩⟩
def ti1:TI:=⟨.other,1,8,[.nilFunc]⟩
def ti2:TI:=⟨.int .i64,1,8,[(.int .i64 0)]⟩
def ti3:TI:=⟨.int .i64,1,8,[(.int .i64 0)]⟩
def ti4:TI:=⟨.bool,1,1,[(.bool false)]⟩
def ti5:TI:=⟨.int .u8,1,1,[(.int .u8 0)]⟩
def ti6:TI:=⟨.int .u8,1,1,[(.int .u8 0)]⟩
def ti7:TI:=⟨.strct true [(0,2),(1,3),(2,4),(3,6)],4,24,[(.int .i64 0),(.int .i64 0),(.bool false),(.int .u8 0)]⟩
def ti8:TI:=⟨.strct true [(0,2),(1,3),(2,4),(3,6)],4,24,[(.int .i64 0),(.int .i64 0),(.bool false),(.int .u8 0)]⟩
def ti9:TI:=⟨.str,1,16,[(.string ⟨#[]⟩)]⟩
def jld:TI:=⟨.str,1,16,[(.string ⟨#[]⟩)]⟩
def jle:TI:=⟨.str,1,16,[(.string ⟨#[]⟩)]⟩
def jlf:TI:=⟨.int .u64,1,8,[(.int .u64 0)]⟩
def jlg:TI:=⟨.strct false [(0,9),(1,12)],2,24,[(.string ⟨#[]⟩),(.int .u64 0)]⟩
def jlh:TI:=⟨.strct false [(0,9),(1,12)],2,24,[(.string ⟨#[]⟩),(.int .u64 0)]⟩
def jli:TI:=⟨.other,1,8,[(.pointer none)]⟩
def jlj:TI:=⟨.other,1,8,[(.pointer none)]⟩
def jlk:TI:=⟨.other,1,8,[(.pointer none)]⟩
def jll:TI:=⟨.strct false [(0,17)],1,8,[(.pointer none)]⟩
def jlm:TI:=⟨.strct false [(0,17)],1,8,[(.pointer none)]⟩
def jln:TI:=⟨.other,1,16,[.nilIface]⟩
def jlo:TI:=⟨.int .i32,1,4,[(.int .i32 0)]⟩
def jlp:TI:=⟨.slice 68,1,24,[(.slice none 0 0)]⟩
def jlq:TI:=⟨.strct false [(0,3),(1,22),(2,3),(3,3)],4,48,[(.int .i64 0),(.slice none 0 0),(.int .i64 0),(.int .i64 0)]⟩
def jlr:TI:=⟨.strct false [(0,3),(1,22),(2,3),(3,3)],4,48,[(.int .i64 0),(.slice none 0 0),(.int .i64 0),(.int .i64 0)]⟩
def jls:TI:=⟨.slice 3,1,24,[(.slice none 0 0)]⟩
def jlt:TI:=⟨.slice 40,1,24,[(.slice none 0 0)]⟩
def jlu:TI:=⟨.other,1,8,[.nilFunc]⟩
def jlv:TI:=⟨.other,1,8,[.nilFunc]⟩
def jlw:TI:=⟨.int .i64,1,8,[(.int .i64 0)]⟩
def jlx:TI:=⟨.other,1,8,[.nilFunc]⟩
def jly:TI:=⟨.other,1,8,[.nilFunc]⟩
def jlz:TI:=⟨.other,1,8,[.nilFunc]⟩
def jl0:TI:=⟨.other,1,8,[.nilFunc]⟩
def jl1:TI:=⟨.other,1,8,[.nilFunc]⟩
def jl2:TI:=⟨.other,1,8,[.nilFunc]⟩
def jl3:TI:=⟨.slice 5,1,24,[(.slice none 0 0)]⟩
def jl4:TI:=⟨.strct true [(0,3),(1,3),(2,4)],3,24,[(.int .i64 0),(.int .i64 0),(.bool false)]⟩
def jl5:TI:=⟨.strct true [(0,3),(1,3),(2,4)],3,24,[(.int .i64 0),(.int .i64 0),(.bool false)]⟩
def jl6:TI:=⟨.other,1,8,[.nilFunc]⟩
def jl7:TI:=⟨.other,1,8,[.nilFunc]⟩
def jl8:TI:=⟨.other,1,8,[.nilFunc]⟩
def jl9:TI:=⟨.other,1,8,[.nilFunc]⟩
def jma:TI:=⟨.other,1,8,[.nilFunc]⟩
def jmb:TI:=⟨.other,1,8,[.nilFunc]⟩
def jmc:TI:=⟨.other,1,8,[.nilFunc]⟩
def jmd:TI:=⟨.other,1,8,[.nilFunc]⟩
def jme:TI:=⟨.other,1,8,[.nilFunc]⟩
def jmf:TI:=⟨.other,1,8,[.nilFunc]⟩
def jmg:TI:=⟨.other,1,8,[.nilFunc]⟩
def jmh:TI:=⟨.other,1,8,[.nilFunc]⟩
def jmi:TI:=⟨.other,1,8,[.nilFunc]⟩
def jmj:TI:=⟨.other,1,8,[.nilFunc]⟩
def jmk:TI:=⟨.other,1,8,[.nilFunc]⟩
def jml:TI:=⟨.other,1,8,[.nilFunc]⟩
def jmm:TI:=⟨.other,1,8,[.nilFunc]⟩
def jmn:TI:=⟨.other,1,8,[.nilFunc]⟩
def jmo:TI:=⟨.other,1,8,[.nilFunc]⟩
def jmp:TI:=⟨.other,1,8,[.nilFunc]⟩
def jmq:TI:=⟨.strct false [(0,9),(1,25),(2,25)],3,64,[(.string ⟨#[]⟩),(.slice none 0 0),(.slice none 0 0)]⟩
def jmr:TI:=⟨.strct false [(0,9),(1,25),(2,25)],3,64,[(.string ⟨#[]⟩),(.slice none 0 0),(.slice none 0 0)]⟩
def jms:TI:=⟨.other,1,8,[.nilFunc]⟩
def jmt:TI:=⟨.other,1,8,[.nilFunc]⟩
def jmu:TI:=⟨.other,1,8,[.nilFunc]⟩
def jmv:TI:=⟨.other,1,8,[.nilFunc]⟩
def jmw:TI:=⟨.other,1,8,[.nilFunc]⟩
def jmx:TI:=⟨.other,1,8,[.nilFunc]⟩
def jmy:TI:=⟨.map 3 115,1,8,[(.map none)]⟩
def jmz:TI:=⟨.strct false [(0,75),(1,3),(2,3)],3,24,[(.map none),(.int .i64 0),(.int .i64 0)]⟩
def jm0:TI:=⟨.strct false [(0,75),(1,3),(2,3)],3,24,[(.map none),(.int .i64 0),(.int .i64 0)]⟩
def jm1:TI:=⟨.other,1,8,[.nilFunc]⟩
def jm2:TI:=⟨.other,1,8,[.nilFunc]⟩
def jm3:TI:=⟨.other,1,8,[.nilFunc]⟩
def jm4:TI:=⟨.other,1,8,[.nilFunc]⟩
def jm5:TI:=⟨.slice 25,1,24,[(.slice none 0 0)]⟩
def jm6:TI:=⟨.slice 126,1,24,[(.slice none 0 0)]⟩
def jm7:TI:=⟨.strct false [(0,84),(1,85),(2,4)],3,56,[(.slice none 0 0),(.slice none 0 0),(.bool false)]⟩
def jm8:TI:=⟨.strct false [(0,84),(1,85),(2,4)],3,56,[(.slice none 0 0),(.slice none 0 0),(.bool false)]⟩
def jm9:TI:=⟨.slice 4,1,24,[(.slice none 0 0)]⟩
def jna:TI:=⟨.strct false [(0,87),(3,3),(4,88)],5,88,[(.slice none 0 0),(.slice none 0 0),(.bool false),(.int .i64 0),(.slice none 0 0)]⟩
def jnb:TI:=⟨.strct false [(0,87),(3,3),(4,88)],5,88,[(.slice none 0 0),(.slice none 0 0),(.bool false),(.int .i64 0),(.slice none 0 0)]⟩
def jnc:TI:=⟨.other,1,8,[.nilFunc]⟩
def jnd:TI:=⟨.other,1,8,[.nilFunc]⟩
def jne:TI:=⟨.other,1,8,[.nilFunc]⟩
def jnf:TI:=⟨.other,1,8,[.nilFunc]⟩
def jng:TI:=⟨.other,1,8,[.nilFunc]⟩
def jnh:TI:=⟨.other,1,8,[.nilFunc]⟩
def jni:TI:=⟨.other,1,8,[.nilFunc]⟩
def jnj:TI:=⟨.other,1,8,[.nilFunc]⟩
def jc8:TI:=⟨.other,1,8,[.nilFunc]⟩
def jc9:TI:=⟨.other,1,8,[.nilFunc]⟩
def jda:TI:=⟨.other,1,8,[.nilFunc]⟩
def jdb:TI:=⟨.other,1,8,[.nilFunc]⟩
def jdc:TI:=⟨.other,1,8,[.nilFunc]⟩
def jdd:TI:=⟨.strct true [(0,3),(1,3),(2,4)],3,24,[(.int .i64 0),(.int .i64 0),(.bool false)]⟩
def jde:TI:=⟨.strct true [(0,3),(1,3),(2,4)],3,24,[(.int .i64 0),(.int .i64 0),(.bool false)]⟩
def jdf:TI:=⟨.slice 106,1,24,[(.slice none 0 0)]⟩
def jdg:TI:=⟨.other,1,8,[.nilFunc]⟩
def jdh:TI:=⟨.other,1,8,[.nilFunc]⟩
def jdi:TI:=⟨.other,1,8,[.nilFunc]⟩
def jdj:TI:=⟨.other,1,8,[.nilFunc]⟩
def jdk:TI:=⟨.other,1,8,[.nilFunc]⟩
def jdl:TI:=⟨.other,1,8,[.nilFunc]⟩
def jdm:TI:=⟨.other,1,8,[.nilFunc]⟩
def jdn:TI:=⟨.slice 121,1,24,[(.slice none 0 0)]⟩
def jdo:TI:=⟨.slice 119,1,24,[(.slice none 0 0)]⟩
def jdp:TI:=⟨.other,1,8,[.nilFunc]⟩
def jdq:TI:=⟨.strct true [(0,4),(1,3),(2,3)],3,24,[(.bool false),(.int .i64 0),(.int .i64 0)]⟩
def jdr:TI:=⟨.strct true [(0,4),(1,3),(2,3)],3,24,[(.bool false),(.int .i64 0),(.int .i64 0)]⟩
def jds:TI:=⟨.strct true [(0,3),(1,3)],2,16,[(.int .i64 0),(.int .i64 0)]⟩
def jdt:TI:=⟨.strct true [(0,3),(1,3)],2,16,[(.int .i64 0),(.int .i64 0)]⟩
def jdu:TI:=⟨.other,1,8,[.nilFunc]⟩
def jdv:TI:=⟨.other,1,8,[.nilFunc]⟩
def jdw:TI:=⟨.strct true [(0,3),(1,3),(2,3)],3,24,[(.int .i64 0),(.int .i64 0),(.int .i64 0)]⟩
def jdx:TI:=⟨.strct true [(0,3),(1,3),(2,3)],3,24,[(.int .i64 0),(.int .i64 0),(.int .i64 0)]⟩
def jdy:TI:=⟨.other,1,8,[.nilFunc]⟩
def jdz:TI:=⟨.map 3 4,1,8,[(.map none)]⟩
def jd0:TI:=⟨.other,1,8,[.nilFunc]⟩
def jd1:TI:=⟨.other,1,8,[.nilFunc]⟩
def jd2:TI:=⟨.other,1,8,[.nilFunc]⟩
def jd3:TI:=⟨.other,1,8,[.nilFunc]⟩
def jd4:TI:=⟨.other,1,8,[.nilFunc]⟩
def jd5:TI:=⟨.other,1,8,[.nilFunc]⟩
def jd6:TI:=⟨.other,1,8,[.nilFunc]⟩
def jd7:TI:=⟨.other,1,8,[.nilFunc]⟩
def jd8:TI:=⟨.other,1,8,[.nilFunc]⟩
def jd9:TI:=⟨.other,1,8,[.nilFunc]⟩
def jea:TI:=⟨.other,1,8,[.nilFunc]⟩
def jeb:TI:=⟨.map 9 3,1,8,[(.map none)]⟩
def jec:TI:=⟨.other,1,8,[.nilFunc]⟩
def jed:TI:=⟨.other,1,8,[.nilFunc]⟩
def jee:TI:=⟨.int .u64,1,8,[(.int .u64 0)]⟩
def jef:TI:=⟨.other,1,8,[.nilFunc]⟩
def jeg:TI:=⟨.int .u32,1,4,[(.int .u32 0)]⟩
def jeh:TI:=⟨.other,1,8,[.nilFunc]⟩
def jei:TI:=⟨.int .u64,1,8,[(.int .u64 0)]⟩
def jej:TI:=⟨.other,1,8,[.nilFunc]⟩
def jek:TI:=⟨.other,1,8,[.nilFunc]⟩
def jel:TI:=⟨.strct false [(0,17),(1,17),(2,17),(3,9)],4,40,[(.pointer none),(.pointer none),(.pointer none),(.string ⟨#[]⟩)]⟩
def jem:TI:=⟨.strct false [(0,17),(1,17),(2,17),(3,9)],4,40,[(.pointer none),(.pointer none),(.pointer none),(.string ⟨#[]⟩)]⟩
def jen:TI:=⟨.arr false 0 16,0,0,[]⟩
def jeo:TI:=⟨.strct false [(0,157)],0,0,[]⟩
def jep:TI:=⟨.strct false [(0,157)],0,0,[]⟩
def jeq:TI:=⟨.other,1,8,[.nilFunc]⟩
def jer:TI:=⟨.int .u8,1,1,[(.int .u8 0)]⟩
def jes:TI:=⟨.int .u8,1,1,[(.int .u8 0)]⟩
def jet:TI:=⟨.other,1,8,[.nilFunc]⟩
def jeu:TI:=⟨.other,1,8,[(.pointer none)]⟩
def jev:TI:=⟨.int .i32,1,4,[(.int .i32 0)]⟩
def jew:TI:=⟨.int .i32,1,4,[(.int .i32 0)]⟩
def jex:TI:=⟨.strct false [(0,12),(1,12),(2,148),(3,161),(4,5),(5,5),(6,162),(7,163),(8,164),(9,165),(10,166)],11,48,[(.int .u64 0),(.int .u64 0),(.int .u32 0),(.int .u8 0),(.int .u8 0),(.int .u8 0),(.int .u8 0), .nilFunc,(.pointer none),(.int .i32 0),(.int .i32 0)]⟩
def jey:TI:=⟨.strct false [(0,12),(1,12),(2,148),(3,161),(4,5),(5,5),(6,162),(7,163),(8,164),(9,165),(10,166)],11,48,[(.int .u64 0),(.int .u64 0),(.int .u32 0),(.int .u8 0),(.int .u8 0),(.int .u8 0),(.int .u8 0), .nilFunc,(.pointer none),(.int .i32 0),(.int .i32 0)]⟩
def jez:TI:=⟨.other,1,8,[(.pointer none)]⟩
def tt:TT
 |1=>some ti1
 |2=>some ti2
 |3=>some ti3
 |4=>some ti4
 |5=>some ti5
 |6=>some ti6
 |7=>some ti7
 |8=>some ti8
 |9=>some ti9
 |10=>some jld
 |11=>some jle
 |12=>some jlf
 |13=>some jlg
 |14=>some jlh
 |15=>some jli
 |16=>some jlj
 |17=>some jlk
 |18=>some jll
 |19=>some jlm
 |20=>some jln
 |21=>some jlo
 |22=>some jlp
 |23=>some jlq
 |24=>some jlr
 |25=>some jls
 |26=>some jlt
 |27=>some jlu
 |28=>some jlv
 |29=>some jlw
 |31=>some jlx
 |33=>some jly
 |34=>some jlz
 |35=>some jl0
 |36=>some jl1
 |37=>some jl2
 |38=>some jl3
 |39=>some jl4
 |40=>some jl5
 |42=>some jl6
 |43=>some jl7
 |45=>some jl8
 |46=>some jl9
 |47=>some jma
 |48=>some jmb
 |49=>some jmc
 |50=>some jmd
 |51=>some jme
 |53=>some jmf
 |54=>some jmg
 |55=>some jmh
 |57=>some jmi
 |59=>some jmj
 |60=>some jmk
 |61=>some jml
 |63=>some jmm
 |64=>some jmn
 |65=>some jmo
 |66=>some jmp
 |67=>some jmq
 |68=>some jmr
 |69=>some jms
 |70=>some jmt
 |71=>some jmu
 |72=>some jmv
 |73=>some jmw
 |74=>some jmx
 |75=>some jmy
 |76=>some jmz
 |77=>some jm0
 |79=>some jm1
 |81=>some jm2
 |82=>some jm3
 |83=>some jm4
 |84=>some jm5
 |85=>some jm6
 |86=>some jm7
 |87=>some jm8
 |88=>some jm9
 |89=>some jna
 |90=>some jnb
 |92=>some jnc
 |93=>some jnd
 |94=>some jne
 |95=>some jnf
 |96=>some jng
 |97=>some jnh
 |98=>some jni
 |99=>some jnj
 |100=>some jc8
 |101=>some jc9
 |102=>some jda
 |103=>some jdb
 |104=>some jdc
 |105=>some jdd
 |106=>some jde
 |107=>some jdf
 |108=>some jdg
 |109=>some jdh
 |110=>some jdi
 |111=>some jdj
 |112=>some jdk
 |113=>some jdl
 |114=>some jdm
 |115=>some jdn
 |116=>some jdo
 |117=>some jdp
 |118=>some jdq
 |119=>some jdr
 |120=>some jds
 |121=>some jdt
 |123=>some jdu
 |124=>some jdv
 |125=>some jdw
 |126=>some jdx
 |127=>some jdy
 |128=>some jdz
 |129=>some jd0
 |131=>some jd1
 |132=>some jd2
 |133=>some jd3
 |134=>some jd4
 |135=>some jd5
 |136=>some jd6
 |137=>some jd7
 |138=>some jd8
 |140=>some jd9
 |141=>some jea
 |142=>some jeb
 |143=>some jec
 |144=>some jed
 |145=>some jee
 |147=>some jef
 |148=>some jeg
 |150=>some jeh
 |151=>some jei
 |153=>some jej
 |154=>some jek
 |155=>some jel
 |156=>some jem
 |157=>some jen
 |158=>some jeo
 |159=>some jep
 |160=>some jeq
 |161=>some jer
 |162=>some jes
 |163=>some jet
 |164=>some jeu
 |165=>some jev
 |166=>some jew
 |167=>some jex
 |168=>some jey
 |169=>some jez
 |_=>none
theorem jpu:ak Try.prog 1 ti1:=al (z:= .nilFunc) (by kernel_rfl) Try.underlying1 rfl rfl (by intro h;cases h) (fun h=>by cases h)
theorem tt1:tt 1=some ⟨.other,1,8,[.nilFunc]⟩:=rfl
theorem jpv:ak Try.prog 2 ti2:=al (z:=(.int .i64 0)) (by kernel_rfl) Try.underlying2 rfl rfl (by intro h;cases h) (fun _=>rfl)
theorem tt2:tt 2=some ⟨.int .i64,1,8,[(.int .i64 0)]⟩:=rfl
theorem jpw:ak Try.prog 3 ti3:=al (z:=(.int .i64 0)) (by kernel_rfl) Try.underlying3 rfl rfl (by intro h;cases h) (fun _=>rfl)
theorem tt3:tt 3=some ⟨.int .i64,1,8,[(.int .i64 0)]⟩:=rfl
theorem jpx:ak Try.prog 4 ti4:=al (z:=(.bool false)) (by kernel_rfl) Try.underlying4 rfl rfl (by intro h;cases h) (fun _=>rfl)
theorem tt4:tt 4=some ⟨.bool,1,1,[(.bool false)]⟩:=rfl
theorem jpy:ak Try.prog 5 ti5:=al (z:=(.int .u8 0)) (by kernel_rfl) Try.underlying5 rfl rfl (by intro h;cases h) (fun _=>rfl)
theorem tt5:tt 5=some ⟨.int .u8,1,1,[(.int .u8 0)]⟩:=rfl
theorem jpz:ak Try.prog 6 ti6:=al (z:=(.int .u8 0)) (by kernel_rfl) Try.underlying6 rfl rfl (by intro h;cases h) (fun _=>rfl)
theorem tt6:tt 6=some ⟨.int .u8,1,1,[(.int .u8 0)]⟩:=rfl
theorem jp0:ak Try.prog 7 ti7:=al (z:= .agg #[(.int .i64 0),(.int .i64 0),(.bool false),(.int .u8 0)]) (by kernel_rfl) Try.underlying7 rfl rfl (by exact fun _=>⟨by kernel_rfl,by kernel_rfl,by kernel_rfl⟩) (fun h=>by cases h)
theorem tt7:tt 7=some ⟨.strct true [(0,2),(1,3),(2,4),(3,6)],4,24,[(.int .i64 0),(.int .i64 0),(.bool false),(.int .u8 0)]⟩:=rfl
theorem jp1:ak Try.prog 8 ti8:=al (z:= .agg #[(.int .i64 0),(.int .i64 0),(.bool false),(.int .u8 0)]) (by kernel_rfl) Try.underlying8 rfl rfl (by exact fun _=>⟨by kernel_rfl,by kernel_rfl,by kernel_rfl⟩) (fun h=>by cases h)
theorem tt8:tt 8=some ⟨.strct true [(0,2),(1,3),(2,4),(3,6)],4,24,[(.int .i64 0),(.int .i64 0),(.bool false),(.int .u8 0)]⟩:=rfl
theorem jp2:ak Try.prog 9 ti9:=al (z:=(.string ⟨#[]⟩)) (by kernel_rfl) Try.underlying9 rfl rfl (by intro h;cases h) (fun _=>rfl)
theorem tt9:tt 9=some ⟨.str,1,16,[(.string ⟨#[]⟩)]⟩:=rfl
theorem jiw:ak Try.prog 10 jld:=al (z:=(.string ⟨#[]⟩)) (by kernel_rfl) Try.underlying10 rfl rfl (by intro h;cases h) (fun _=>rfl)
theorem jqb:tt 10=some ⟨.str,1,16,[(.string ⟨#[]⟩)]⟩:=rfl
theorem jix:ak Try.prog 11 jle:=al (z:=(.string ⟨#[]⟩)) (by kernel_rfl) Try.underlying11 rfl rfl (by intro h;cases h) (fun _=>rfl)
theorem jqc:tt 11=some ⟨.str,1,16,[(.string ⟨#[]⟩)]⟩:=rfl
theorem jiy:ak Try.prog 12 jlf:=al (z:=(.int .u64 0)) (by kernel_rfl) Try.underlying12 rfl rfl (by intro h;cases h) (fun _=>rfl)
theorem jqd:tt 12=some ⟨.int .u64,1,8,[(.int .u64 0)]⟩:=rfl
theorem jiz:ak Try.prog 13 jlg:=al (z:= .agg #[(.string ⟨#[]⟩),(.int .u64 0)]) (by kernel_rfl) Try.underlying13 rfl rfl (by intro h;cases h) (fun h=>by cases h)
theorem jqe:tt 13=some ⟨.strct false [(0,9),(1,12)],2,24,[(.string ⟨#[]⟩),(.int .u64 0)]⟩:=rfl
theorem ji0:ak Try.prog 14 jlh:=al (z:= .agg #[(.string ⟨#[]⟩),(.int .u64 0)]) (by kernel_rfl) Try.underlying14 rfl rfl (by intro h;cases h) (fun h=>by cases h)
theorem jqf:tt 14=some ⟨.strct false [(0,9),(1,12)],2,24,[(.string ⟨#[]⟩),(.int .u64 0)]⟩:=rfl
theorem ji1:ak Try.prog 15 jli:=al (z:=(.pointer none)) (by kernel_rfl) Try.underlying15 rfl rfl (by intro h;cases h) (fun h=>by cases h)
theorem jqg:tt 15=some ⟨.other,1,8,[(.pointer none)]⟩:=rfl
theorem ji2:ak Try.prog 16 jlj:=al (z:=(.pointer none)) (by kernel_rfl) Try.underlying16 rfl rfl (by intro h;cases h) (fun h=>by cases h)
theorem jqh:tt 16=some ⟨.other,1,8,[(.pointer none)]⟩:=rfl
theorem ji3:ak Try.prog 17 jlk:=al (z:=(.pointer none)) (by kernel_rfl) Try.underlying17 rfl rfl (by intro h;cases h) (fun h=>by cases h)
theorem jqi:tt 17=some ⟨.other,1,8,[(.pointer none)]⟩:=rfl
theorem ji4:ak Try.prog 18 jll:=al (z:= .agg #[(.pointer none)]) (by kernel_rfl) Try.underlying18 rfl rfl (by intro h;cases h) (fun h=>by cases h)
theorem jqj:tt 18=some ⟨.strct false [(0,17)],1,8,[(.pointer none)]⟩:=rfl
theorem ji5:ak Try.prog 19 jlm:=al (z:= .agg #[(.pointer none)]) (by kernel_rfl) Try.underlying19 rfl rfl (by intro h;cases h) (fun h=>by cases h)
theorem jqk:tt 19=some ⟨.strct false [(0,17)],1,8,[(.pointer none)]⟩:=rfl
theorem ji6:ak Try.prog 20 jln:=al (z:= .nilIface) (by kernel_rfl) Try.underlying20 rfl rfl (by intro h;cases h) (fun h=>by cases h)
theorem jql:tt 20=some ⟨.other,1,16,[.nilIface]⟩:=rfl
theorem ji7:ak Try.prog 21 jlo:=al (z:=(.int .i32 0)) (by kernel_rfl) Try.underlying21 rfl rfl (by intro h;cases h) (fun _=>rfl)
theorem jqm:tt 21=some ⟨.int .i32,1,4,[(.int .i32 0)]⟩:=rfl
theorem ji8:ak Try.prog 22 jlp:=al (z:=(.slice none 0 0)) (by kernel_rfl) Try.underlying22 rfl rfl (by intro h;cases h) (fun _=>rfl)
theorem jqn:tt 22=some ⟨.slice 68,1,24,[(.slice none 0 0)]⟩:=rfl
theorem ji9:ak Try.prog 23 jlq:=al (z:= .agg #[(.int .i64 0),(.slice none 0 0),(.int .i64 0),(.int .i64 0)]) (by kernel_rfl) Try.underlying23 rfl rfl (by intro h;cases h) (fun h=>by cases h)
theorem jqo:tt 23=some ⟨.strct false [(0,3),(1,22),(2,3),(3,3)],4,48,[(.int .i64 0),(.slice none 0 0),(.int .i64 0),(.int .i64 0)]⟩:=rfl
theorem jja:ak Try.prog 24 jlr:=al (z:= .agg #[(.int .i64 0),(.slice none 0 0),(.int .i64 0),(.int .i64 0)]) (by kernel_rfl) Try.underlying24 rfl rfl (by intro h;cases h) (fun h=>by cases h)
theorem jqp:tt 24=some ⟨.strct false [(0,3),(1,22),(2,3),(3,3)],4,48,[(.int .i64 0),(.slice none 0 0),(.int .i64 0),(.int .i64 0)]⟩:=rfl
theorem jjb:ak Try.prog 25 jls:=al (z:=(.slice none 0 0)) (by kernel_rfl) Try.underlying25 rfl rfl (by intro h;cases h) (fun _=>rfl)
theorem jqq:tt 25=some ⟨.slice 3,1,24,[(.slice none 0 0)]⟩:=rfl
theorem jjc:ak Try.prog 26 jlt:=al (z:=(.slice none 0 0)) (by kernel_rfl) Try.underlying26 rfl rfl (by intro h;cases h) (fun _=>rfl)
theorem jqr:tt 26=some ⟨.slice 40,1,24,[(.slice none 0 0)]⟩:=rfl
theorem jjd:ak Try.prog 27 jlu:=al (z:= .nilFunc) (by kernel_rfl) Try.underlying27 rfl rfl (by intro h;cases h) (fun h=>by cases h)
theorem jqs:tt 27=some ⟨.other,1,8,[.nilFunc]⟩:=rfl
theorem jje:ak Try.prog 28 jlv:=al (z:= .nilFunc) (by kernel_rfl) Try.underlying28 rfl rfl (by intro h;cases h) (fun h=>by cases h)
theorem jqt:tt 28=some ⟨.other,1,8,[.nilFunc]⟩:=rfl
theorem jjf:ak Try.prog 29 jlw:=al (z:=(.int .i64 0)) (by kernel_rfl) Try.underlying29 rfl rfl (by intro h;cases h) (fun _=>rfl)
theorem jqu:tt 29=some ⟨.int .i64,1,8,[(.int .i64 0)]⟩:=rfl
theorem jjg:ak Try.prog 31 jlx:=al (z:= .nilFunc) (by kernel_rfl) Try.underlying31 rfl rfl (by intro h;cases h) (fun h=>by cases h)
theorem jqv:tt 31=some ⟨.other,1,8,[.nilFunc]⟩:=rfl
theorem jjh:ak Try.prog 33 jly:=al (z:= .nilFunc) (by kernel_rfl) Try.underlying33 rfl rfl (by intro h;cases h) (fun h=>by cases h)
theorem jqw:tt 33=some ⟨.other,1,8,[.nilFunc]⟩:=rfl
theorem jji:ak Try.prog 34 jlz:=al (z:= .nilFunc) (by kernel_rfl) Try.underlying34 rfl rfl (by intro h;cases h) (fun h=>by cases h)
theorem jqx:tt 34=some ⟨.other,1,8,[.nilFunc]⟩:=rfl
theorem jjj:ak Try.prog 35 jl0:=al (z:= .nilFunc) (by kernel_rfl) Try.underlying35 rfl rfl (by intro h;cases h) (fun h=>by cases h)
theorem jqy:tt 35=some ⟨.other,1,8,[.nilFunc]⟩:=rfl
theorem jjk:ak Try.prog 36 jl1:=al (z:= .nilFunc) (by kernel_rfl) Try.underlying36 rfl rfl (by intro h;cases h) (fun h=>by cases h)
theorem jqz:tt 36=some ⟨.other,1,8,[.nilFunc]⟩:=rfl
theorem jjl:ak Try.prog 37 jl2:=al (z:= .nilFunc) (by kernel_rfl) Try.underlying37 rfl rfl (by intro h;cases h) (fun h=>by cases h)
theorem jq0:tt 37=some ⟨.other,1,8,[.nilFunc]⟩:=rfl
theorem jjm:ak Try.prog 38 jl3:=al (z:=(.slice none 0 0)) (by kernel_rfl) Try.underlying38 rfl rfl (by intro h;cases h) (fun _=>rfl)
theorem jq1:tt 38=some ⟨.slice 5,1,24,[(.slice none 0 0)]⟩:=rfl
theorem jjn:ak Try.prog 39 jl4:=al (z:= .agg #[(.int .i64 0),(.int .i64 0),(.bool false)]) (by kernel_rfl) Try.underlying39 rfl rfl (by exact fun _=>⟨by kernel_rfl,by kernel_rfl,by kernel_rfl⟩) (fun h=>by cases h)
theorem jq2:tt 39=some ⟨.strct true [(0,3),(1,3),(2,4)],3,24,[(.int .i64 0),(.int .i64 0),(.bool false)]⟩:=rfl
theorem jjo:ak Try.prog 40 jl5:=al (z:= .agg #[(.int .i64 0),(.int .i64 0),(.bool false)]) (by kernel_rfl) Try.underlying40 rfl rfl (by exact fun _=>⟨by kernel_rfl,by kernel_rfl,by kernel_rfl⟩) (fun h=>by cases h)
theorem jq3:tt 40=some ⟨.strct true [(0,3),(1,3),(2,4)],3,24,[(.int .i64 0),(.int .i64 0),(.bool false)]⟩:=rfl
theorem jjp:ak Try.prog 42 jl6:=al (z:= .nilFunc) (by kernel_rfl) Try.underlying42 rfl rfl (by intro h;cases h) (fun h=>by cases h)
theorem jq4:tt 42=some ⟨.other,1,8,[.nilFunc]⟩:=rfl
theorem jjq:ak Try.prog 43 jl7:=al (z:= .nilFunc) (by kernel_rfl) Try.underlying43 rfl rfl (by intro h;cases h) (fun h=>by cases h)
theorem jq5:tt 43=some ⟨.other,1,8,[.nilFunc]⟩:=rfl
theorem jjr:ak Try.prog 45 jl8:=al (z:= .nilFunc) (by kernel_rfl) Try.underlying45 rfl rfl (by intro h;cases h) (fun h=>by cases h)
theorem jq6:tt 45=some ⟨.other,1,8,[.nilFunc]⟩:=rfl
theorem jjs:ak Try.prog 46 jl9:=al (z:= .nilFunc) (by kernel_rfl) Try.underlying46 rfl rfl (by intro h;cases h) (fun h=>by cases h)
theorem jq7:tt 46=some ⟨.other,1,8,[.nilFunc]⟩:=rfl
theorem jjt:ak Try.prog 47 jma:=al (z:= .nilFunc) (by kernel_rfl) Try.underlying47 rfl rfl (by intro h;cases h) (fun h=>by cases h)
theorem jq8:tt 47=some ⟨.other,1,8,[.nilFunc]⟩:=rfl
theorem jju:ak Try.prog 48 jmb:=al (z:= .nilFunc) (by kernel_rfl) Try.underlying48 rfl rfl (by intro h;cases h) (fun h=>by cases h)
theorem jq9:tt 48=some ⟨.other,1,8,[.nilFunc]⟩:=rfl
theorem jjv:ak Try.prog 49 jmc:=al (z:= .nilFunc) (by kernel_rfl) Try.underlying49 rfl rfl (by intro h;cases h) (fun h=>by cases h)
theorem jra:tt 49=some ⟨.other,1,8,[.nilFunc]⟩:=rfl
theorem jjw:ak Try.prog 50 jmd:=al (z:= .nilFunc) (by kernel_rfl) Try.underlying50 rfl rfl (by intro h;cases h) (fun h=>by cases h)
theorem jrb:tt 50=some ⟨.other,1,8,[.nilFunc]⟩:=rfl
theorem jjx:ak Try.prog 51 jme:=al (z:= .nilFunc) (by kernel_rfl) Try.underlying51 rfl rfl (by intro h;cases h) (fun h=>by cases h)
theorem jrc:tt 51=some ⟨.other,1,8,[.nilFunc]⟩:=rfl
theorem jjy:ak Try.prog 53 jmf:=al (z:= .nilFunc) (by kernel_rfl) Try.underlying53 rfl rfl (by intro h;cases h) (fun h=>by cases h)
theorem jrd:tt 53=some ⟨.other,1,8,[.nilFunc]⟩:=rfl
theorem jjz:ak Try.prog 54 jmg:=al (z:= .nilFunc) (by kernel_rfl) Try.underlying54 rfl rfl (by intro h;cases h) (fun h=>by cases h)
theorem jre:tt 54=some ⟨.other,1,8,[.nilFunc]⟩:=rfl
theorem jj0:ak Try.prog 55 jmh:=al (z:= .nilFunc) (by kernel_rfl) Try.underlying55 rfl rfl (by intro h;cases h) (fun h=>by cases h)
theorem jrf:tt 55=some ⟨.other,1,8,[.nilFunc]⟩:=rfl
theorem jj1:ak Try.prog 57 jmi:=al (z:= .nilFunc) (by kernel_rfl) Try.underlying57 rfl rfl (by intro h;cases h) (fun h=>by cases h)
theorem jrg:tt 57=some ⟨.other,1,8,[.nilFunc]⟩:=rfl
theorem jj2:ak Try.prog 59 jmj:=al (z:= .nilFunc) (by kernel_rfl) Try.underlying59 rfl rfl (by intro h;cases h) (fun h=>by cases h)
theorem jrh:tt 59=some ⟨.other,1,8,[.nilFunc]⟩:=rfl
theorem jj3:ak Try.prog 60 jmk:=al (z:= .nilFunc) (by kernel_rfl) Try.underlying60 rfl rfl (by intro h;cases h) (fun h=>by cases h)
theorem jri:tt 60=some ⟨.other,1,8,[.nilFunc]⟩:=rfl
theorem jj4:ak Try.prog 61 jml:=al (z:= .nilFunc) (by kernel_rfl) Try.underlying61 rfl rfl (by intro h;cases h) (fun h=>by cases h)
theorem jrj:tt 61=some ⟨.other,1,8,[.nilFunc]⟩:=rfl
theorem jj5:ak Try.prog 63 jmm:=al (z:= .nilFunc) (by kernel_rfl) Try.underlying63 rfl rfl (by intro h;cases h) (fun h=>by cases h)
theorem jrk:tt 63=some ⟨.other,1,8,[.nilFunc]⟩:=rfl
theorem jj6:ak Try.prog 64 jmn:=al (z:= .nilFunc) (by kernel_rfl) Try.underlying64 rfl rfl (by intro h;cases h) (fun h=>by cases h)
theorem jrl:tt 64=some ⟨.other,1,8,[.nilFunc]⟩:=rfl
theorem jj7:ak Try.prog 65 jmo:=al (z:= .nilFunc) (by kernel_rfl) Try.underlying65 rfl rfl (by intro h;cases h) (fun h=>by cases h)
theorem jrm:tt 65=some ⟨.other,1,8,[.nilFunc]⟩:=rfl
theorem jj8:ak Try.prog 66 jmp:=al (z:= .nilFunc) (by kernel_rfl) Try.underlying66 rfl rfl (by intro h;cases h) (fun h=>by cases h)
theorem jrn:tt 66=some ⟨.other,1,8,[.nilFunc]⟩:=rfl
theorem jj9:ak Try.prog 67 jmq:=al (z:= .agg #[(.string ⟨#[]⟩),(.slice none 0 0),(.slice none 0 0)]) (by kernel_rfl) Try.underlying67 rfl rfl (by intro h;cases h) (fun h=>by cases h)
theorem jro:tt 67=some ⟨.strct false [(0,9),(1,25),(2,25)],3,64,[(.string ⟨#[]⟩),(.slice none 0 0),(.slice none 0 0)]⟩:=rfl
theorem jka:ak Try.prog 68 jmr:=al (z:= .agg #[(.string ⟨#[]⟩),(.slice none 0 0),(.slice none 0 0)]) (by kernel_rfl) Try.underlying68 rfl rfl (by intro h;cases h) (fun h=>by cases h)
theorem jrp:tt 68=some ⟨.strct false [(0,9),(1,25),(2,25)],3,64,[(.string ⟨#[]⟩),(.slice none 0 0),(.slice none 0 0)]⟩:=rfl
theorem jkb:ak Try.prog 69 jms:=al (z:= .nilFunc) (by kernel_rfl) Try.underlying69 rfl rfl (by intro h;cases h) (fun h=>by cases h)
theorem jrq:tt 69=some ⟨.other,1,8,[.nilFunc]⟩:=rfl
theorem jkc:ak Try.prog 70 jmt:=al (z:= .nilFunc) (by kernel_rfl) Try.underlying70 rfl rfl (by intro h;cases h) (fun h=>by cases h)
theorem jrr:tt 70=some ⟨.other,1,8,[.nilFunc]⟩:=rfl
theorem jkd:ak Try.prog 71 jmu:=al (z:= .nilFunc) (by kernel_rfl) Try.underlying71 rfl rfl (by intro h;cases h) (fun h=>by cases h)
theorem jrs:tt 71=some ⟨.other,1,8,[.nilFunc]⟩:=rfl
theorem jke:ak Try.prog 72 jmv:=al (z:= .nilFunc) (by kernel_rfl) Try.underlying72 rfl rfl (by intro h;cases h) (fun h=>by cases h)
theorem jrt:tt 72=some ⟨.other,1,8,[.nilFunc]⟩:=rfl
theorem jkf:ak Try.prog 73 jmw:=al (z:= .nilFunc) (by kernel_rfl) Try.underlying73 rfl rfl (by intro h;cases h) (fun h=>by cases h)
theorem jru:tt 73=some ⟨.other,1,8,[.nilFunc]⟩:=rfl
theorem jkg:ak Try.prog 74 jmx:=al (z:= .nilFunc) (by kernel_rfl) Try.underlying74 rfl rfl (by intro h;cases h) (fun h=>by cases h)
theorem jrv:tt 74=some ⟨.other,1,8,[.nilFunc]⟩:=rfl
theorem jkh:ak Try.prog 75 jmy:=al (z:=(.map none)) (by kernel_rfl) Try.underlying75 rfl rfl (by intro h;cases h) (fun h=>by cases h)
theorem jrw:tt 75=some ⟨.map 3 115,1,8,[(.map none)]⟩:=rfl
theorem jki:ak Try.prog 76 jmz:=al (z:= .agg #[(.map none),(.int .i64 0),(.int .i64 0)]) (by kernel_rfl) Try.underlying76 rfl rfl (by intro h;cases h) (fun h=>by cases h)
theorem jrx:tt 76=some ⟨.strct false [(0,75),(1,3),(2,3)],3,24,[(.map none),(.int .i64 0),(.int .i64 0)]⟩:=rfl
theorem jkj:ak Try.prog 77 jm0:=al (z:= .agg #[(.map none),(.int .i64 0),(.int .i64 0)]) (by kernel_rfl) Try.underlying77 rfl rfl (by intro h;cases h) (fun h=>by cases h)
theorem jry:tt 77=some ⟨.strct false [(0,75),(1,3),(2,3)],3,24,[(.map none),(.int .i64 0),(.int .i64 0)]⟩:=rfl
theorem jkk:ak Try.prog 79 jm1:=al (z:= .nilFunc) (by kernel_rfl) Try.underlying79 rfl rfl (by intro h;cases h) (fun h=>by cases h)
theorem jrz:tt 79=some ⟨.other,1,8,[.nilFunc]⟩:=rfl
theorem jkl:ak Try.prog 81 jm2:=al (z:= .nilFunc) (by kernel_rfl) Try.underlying81 rfl rfl (by intro h;cases h) (fun h=>by cases h)
theorem jr0:tt 81=some ⟨.other,1,8,[.nilFunc]⟩:=rfl
theorem jkm:ak Try.prog 82 jm3:=al (z:= .nilFunc) (by kernel_rfl) Try.underlying82 rfl rfl (by intro h;cases h) (fun h=>by cases h)
theorem jr1:tt 82=some ⟨.other,1,8,[.nilFunc]⟩:=rfl
theorem jkn:ak Try.prog 83 jm4:=al (z:= .nilFunc) (by kernel_rfl) Try.underlying83 rfl rfl (by intro h;cases h) (fun h=>by cases h)
theorem jr2:tt 83=some ⟨.other,1,8,[.nilFunc]⟩:=rfl
theorem jko:ak Try.prog 84 jm5:=al (z:=(.slice none 0 0)) (by kernel_rfl) Try.underlying84 rfl rfl (by intro h;cases h) (fun _=>rfl)
theorem jr3:tt 84=some ⟨.slice 25,1,24,[(.slice none 0 0)]⟩:=rfl
theorem jkp:ak Try.prog 85 jm6:=al (z:=(.slice none 0 0)) (by kernel_rfl) Try.underlying85 rfl rfl (by intro h;cases h) (fun _=>rfl)
theorem jr4:tt 85=some ⟨.slice 126,1,24,[(.slice none 0 0)]⟩:=rfl
theorem jkq:ak Try.prog 86 jm7:=al (z:= .agg #[(.slice none 0 0),(.slice none 0 0),(.bool false)]) (by kernel_rfl) Try.underlying86 rfl rfl (by intro h;cases h) (fun h=>by cases h)
theorem jr5:tt 86=some ⟨.strct false [(0,84),(1,85),(2,4)],3,56,[(.slice none 0 0),(.slice none 0 0),(.bool false)]⟩:=rfl
theorem jkr:ak Try.prog 87 jm8:=al (z:= .agg #[(.slice none 0 0),(.slice none 0 0),(.bool false)]) (by kernel_rfl) Try.underlying87 rfl rfl (by intro h;cases h) (fun h=>by cases h)
theorem jr6:tt 87=some ⟨.strct false [(0,84),(1,85),(2,4)],3,56,[(.slice none 0 0),(.slice none 0 0),(.bool false)]⟩:=rfl
theorem jks:ak Try.prog 88 jm9:=al (z:=(.slice none 0 0)) (by kernel_rfl) Try.underlying88 rfl rfl (by intro h;cases h) (fun _=>rfl)
theorem jr7:tt 88=some ⟨.slice 4,1,24,[(.slice none 0 0)]⟩:=rfl
theorem jkt:ak Try.prog 89 jna:=al (z:= .agg #[(.slice none 0 0),(.slice none 0 0),(.bool false),(.int .i64 0),(.slice none 0 0)]) (by kernel_rfl) Try.underlying89 rfl rfl (by intro h;cases h) (fun h=>by cases h)
theorem jr8:tt 89=some ⟨.strct false [(0,87),(3,3),(4,88)],5,88,[(.slice none 0 0),(.slice none 0 0),(.bool false),(.int .i64 0),(.slice none 0 0)]⟩:=rfl
theorem jku:ak Try.prog 90 jnb:=al (z:= .agg #[(.slice none 0 0),(.slice none 0 0),(.bool false),(.int .i64 0),(.slice none 0 0)]) (by kernel_rfl) Try.underlying90 rfl rfl (by intro h;cases h) (fun h=>by cases h)
theorem jr9:tt 90=some ⟨.strct false [(0,87),(3,3),(4,88)],5,88,[(.slice none 0 0),(.slice none 0 0),(.bool false),(.int .i64 0),(.slice none 0 0)]⟩:=rfl
theorem jkv:ak Try.prog 92 jnc:=al (z:= .nilFunc) (by kernel_rfl) Try.underlying92 rfl rfl (by intro h;cases h) (fun h=>by cases h)
theorem jsa:tt 92=some ⟨.other,1,8,[.nilFunc]⟩:=rfl
theorem jkw:ak Try.prog 93 jnd:=al (z:= .nilFunc) (by kernel_rfl) Try.underlying93 rfl rfl (by intro h;cases h) (fun h=>by cases h)
theorem jsb:tt 93=some ⟨.other,1,8,[.nilFunc]⟩:=rfl
theorem jkx:ak Try.prog 94 jne:=al (z:= .nilFunc) (by kernel_rfl) Try.underlying94 rfl rfl (by intro h;cases h) (fun h=>by cases h)
theorem jsc:tt 94=some ⟨.other,1,8,[.nilFunc]⟩:=rfl
theorem jky:ak Try.prog 95 jnf:=al (z:= .nilFunc) (by kernel_rfl) Try.underlying95 rfl rfl (by intro h;cases h) (fun h=>by cases h)
theorem jsd:tt 95=some ⟨.other,1,8,[.nilFunc]⟩:=rfl
theorem jkz:ak Try.prog 96 jng:=al (z:= .nilFunc) (by kernel_rfl) Try.underlying96 rfl rfl (by intro h;cases h) (fun h=>by cases h)
theorem jse:tt 96=some ⟨.other,1,8,[.nilFunc]⟩:=rfl
theorem jk0:ak Try.prog 97 jnh:=al (z:= .nilFunc) (by kernel_rfl) Try.underlying97 rfl rfl (by intro h;cases h) (fun h=>by cases h)
theorem jsf:tt 97=some ⟨.other,1,8,[.nilFunc]⟩:=rfl
theorem jk1:ak Try.prog 98 jni:=al (z:= .nilFunc) (by kernel_rfl) Try.underlying98 rfl rfl (by intro h;cases h) (fun h=>by cases h)
theorem jsg:tt 98=some ⟨.other,1,8,[.nilFunc]⟩:=rfl
theorem jk2:ak Try.prog 99 jnj:=al (z:= .nilFunc) (by kernel_rfl) Try.underlying99 rfl rfl (by intro h;cases h) (fun h=>by cases h)
theorem jsh:tt 99=some ⟨.other,1,8,[.nilFunc]⟩:=rfl
theorem jfv:ak Try.prog 100 jc8:=al (z:= .nilFunc) (by kernel_rfl) Try.underlying100 rfl rfl (by intro h;cases h) (fun h=>by cases h)
theorem jnk:tt 100=some ⟨.other,1,8,[.nilFunc]⟩:=rfl
theorem jfw:ak Try.prog 101 jc9:=al (z:= .nilFunc) (by kernel_rfl) Try.underlying101 rfl rfl (by intro h;cases h) (fun h=>by cases h)
theorem jnl:tt 101=some ⟨.other,1,8,[.nilFunc]⟩:=rfl
theorem jfx:ak Try.prog 102 jda:=al (z:= .nilFunc) (by kernel_rfl) Try.underlying102 rfl rfl (by intro h;cases h) (fun h=>by cases h)
theorem jnm:tt 102=some ⟨.other,1,8,[.nilFunc]⟩:=rfl
theorem jfy:ak Try.prog 103 jdb:=al (z:= .nilFunc) (by kernel_rfl) Try.underlying103 rfl rfl (by intro h;cases h) (fun h=>by cases h)
theorem jnn:tt 103=some ⟨.other,1,8,[.nilFunc]⟩:=rfl
theorem jfz:ak Try.prog 104 jdc:=al (z:= .nilFunc) (by kernel_rfl) Try.underlying104 rfl rfl (by intro h;cases h) (fun h=>by cases h)
theorem jno:tt 104=some ⟨.other,1,8,[.nilFunc]⟩:=rfl
theorem jf0:ak Try.prog 105 jdd:=al (z:= .agg #[(.int .i64 0),(.int .i64 0),(.bool false)]) (by kernel_rfl) Try.underlying105 rfl rfl (by exact fun _=>⟨by kernel_rfl,by kernel_rfl,by kernel_rfl⟩) (fun h=>by cases h)
theorem jnp:tt 105=some ⟨.strct true [(0,3),(1,3),(2,4)],3,24,[(.int .i64 0),(.int .i64 0),(.bool false)]⟩:=rfl
theorem jf1:ak Try.prog 106 jde:=al (z:= .agg #[(.int .i64 0),(.int .i64 0),(.bool false)]) (by kernel_rfl) Try.underlying106 rfl rfl (by exact fun _=>⟨by kernel_rfl,by kernel_rfl,by kernel_rfl⟩) (fun h=>by cases h)
theorem jnq:tt 106=some ⟨.strct true [(0,3),(1,3),(2,4)],3,24,[(.int .i64 0),(.int .i64 0),(.bool false)]⟩:=rfl
theorem jf2:ak Try.prog 107 jdf:=al (z:=(.slice none 0 0)) (by kernel_rfl) Try.underlying107 rfl rfl (by intro h;cases h) (fun _=>rfl)
theorem jnr:tt 107=some ⟨.slice 106,1,24,[(.slice none 0 0)]⟩:=rfl
theorem jf3:ak Try.prog 108 jdg:=al (z:= .nilFunc) (by kernel_rfl) Try.underlying108 rfl rfl (by intro h;cases h) (fun h=>by cases h)
theorem jns:tt 108=some ⟨.other,1,8,[.nilFunc]⟩:=rfl
theorem jf4:ak Try.prog 109 jdh:=al (z:= .nilFunc) (by kernel_rfl) Try.underlying109 rfl rfl (by intro h;cases h) (fun h=>by cases h)
theorem jnt:tt 109=some ⟨.other,1,8,[.nilFunc]⟩:=rfl
theorem jf5:ak Try.prog 110 jdi:=al (z:= .nilFunc) (by kernel_rfl) Try.underlying110 rfl rfl (by intro h;cases h) (fun h=>by cases h)
theorem jnu:tt 110=some ⟨.other,1,8,[.nilFunc]⟩:=rfl
theorem jf6:ak Try.prog 111 jdj:=al (z:= .nilFunc) (by kernel_rfl) Try.underlying111 rfl rfl (by intro h;cases h) (fun h=>by cases h)
theorem jnv:tt 111=some ⟨.other,1,8,[.nilFunc]⟩:=rfl
theorem jf7:ak Try.prog 112 jdk:=al (z:= .nilFunc) (by kernel_rfl) Try.underlying112 rfl rfl (by intro h;cases h) (fun h=>by cases h)
theorem jnw:tt 112=some ⟨.other,1,8,[.nilFunc]⟩:=rfl
theorem jf8:ak Try.prog 113 jdl:=al (z:= .nilFunc) (by kernel_rfl) Try.underlying113 rfl rfl (by intro h;cases h) (fun h=>by cases h)
theorem jnx:tt 113=some ⟨.other,1,8,[.nilFunc]⟩:=rfl
theorem jf9:ak Try.prog 114 jdm:=al (z:= .nilFunc) (by kernel_rfl) Try.underlying114 rfl rfl (by intro h;cases h) (fun h=>by cases h)
theorem jny:tt 114=some ⟨.other,1,8,[.nilFunc]⟩:=rfl
theorem jga:ak Try.prog 115 jdn:=al (z:=(.slice none 0 0)) (by kernel_rfl) Try.underlying115 rfl rfl (by intro h;cases h) (fun _=>rfl)
theorem jnz:tt 115=some ⟨.slice 121,1,24,[(.slice none 0 0)]⟩:=rfl
theorem jgb:ak Try.prog 116 jdo:=al (z:=(.slice none 0 0)) (by kernel_rfl) Try.underlying116 rfl rfl (by intro h;cases h) (fun _=>rfl)
theorem jn0:tt 116=some ⟨.slice 119,1,24,[(.slice none 0 0)]⟩:=rfl
theorem jgc:ak Try.prog 117 jdp:=al (z:= .nilFunc) (by kernel_rfl) Try.underlying117 rfl rfl (by intro h;cases h) (fun h=>by cases h)
theorem jn1:tt 117=some ⟨.other,1,8,[.nilFunc]⟩:=rfl
theorem jgd:ak Try.prog 118 jdq:=al (z:= .agg #[(.bool false),(.int .i64 0),(.int .i64 0)]) (by kernel_rfl) Try.underlying118 rfl rfl (by exact fun _=>⟨by kernel_rfl,by kernel_rfl,by kernel_rfl⟩) (fun h=>by cases h)
theorem jn2:tt 118=some ⟨.strct true [(0,4),(1,3),(2,3)],3,24,[(.bool false),(.int .i64 0),(.int .i64 0)]⟩:=rfl
theorem jge:ak Try.prog 119 jdr:=al (z:= .agg #[(.bool false),(.int .i64 0),(.int .i64 0)]) (by kernel_rfl) Try.underlying119 rfl rfl (by exact fun _=>⟨by kernel_rfl,by kernel_rfl,by kernel_rfl⟩) (fun h=>by cases h)
theorem jn3:tt 119=some ⟨.strct true [(0,4),(1,3),(2,3)],3,24,[(.bool false),(.int .i64 0),(.int .i64 0)]⟩:=rfl
theorem jgf:ak Try.prog 120 jds:=al (z:= .agg #[(.int .i64 0),(.int .i64 0)]) (by kernel_rfl) Try.underlying120 rfl rfl (by exact fun _=>⟨by kernel_rfl,by kernel_rfl,by kernel_rfl⟩) (fun h=>by cases h)
theorem jn4:tt 120=some ⟨.strct true [(0,3),(1,3)],2,16,[(.int .i64 0),(.int .i64 0)]⟩:=rfl
theorem jgg:ak Try.prog 121 jdt:=al (z:= .agg #[(.int .i64 0),(.int .i64 0)]) (by kernel_rfl) Try.underlying121 rfl rfl (by exact fun _=>⟨by kernel_rfl,by kernel_rfl,by kernel_rfl⟩) (fun h=>by cases h)
theorem jn5:tt 121=some ⟨.strct true [(0,3),(1,3)],2,16,[(.int .i64 0),(.int .i64 0)]⟩:=rfl
theorem jgh:ak Try.prog 123 jdu:=al (z:= .nilFunc) (by kernel_rfl) Try.underlying123 rfl rfl (by intro h;cases h) (fun h=>by cases h)
theorem jn6:tt 123=some ⟨.other,1,8,[.nilFunc]⟩:=rfl
theorem jgi:ak Try.prog 124 jdv:=al (z:= .nilFunc) (by kernel_rfl) Try.underlying124 rfl rfl (by intro h;cases h) (fun h=>by cases h)
theorem jn7:tt 124=some ⟨.other,1,8,[.nilFunc]⟩:=rfl
theorem jgj:ak Try.prog 125 jdw:=al (z:= .agg #[(.int .i64 0),(.int .i64 0),(.int .i64 0)]) (by kernel_rfl) Try.underlying125 rfl rfl (by exact fun _=>⟨by kernel_rfl,by kernel_rfl,by kernel_rfl⟩) (fun h=>by cases h)
theorem jn8:tt 125=some ⟨.strct true [(0,3),(1,3),(2,3)],3,24,[(.int .i64 0),(.int .i64 0),(.int .i64 0)]⟩:=rfl
theorem jgk:ak Try.prog 126 jdx:=al (z:= .agg #[(.int .i64 0),(.int .i64 0),(.int .i64 0)]) (by kernel_rfl) Try.underlying126 rfl rfl (by exact fun _=>⟨by kernel_rfl,by kernel_rfl,by kernel_rfl⟩) (fun h=>by cases h)
theorem jn9:tt 126=some ⟨.strct true [(0,3),(1,3),(2,3)],3,24,[(.int .i64 0),(.int .i64 0),(.int .i64 0)]⟩:=rfl
theorem jgl:ak Try.prog 127 jdy:=al (z:= .nilFunc) (by kernel_rfl) Try.underlying127 rfl rfl (by intro h;cases h) (fun h=>by cases h)
theorem joa:tt 127=some ⟨.other,1,8,[.nilFunc]⟩:=rfl
theorem jgm:ak Try.prog 128 jdz:=al (z:=(.map none)) (by kernel_rfl) Try.underlying128 rfl rfl (by intro h;cases h) (fun h=>by cases h)
theorem job:tt 128=some ⟨.map 3 4,1,8,[(.map none)]⟩:=rfl
theorem jgn:ak Try.prog 129 jd0:=al (z:= .nilFunc) (by kernel_rfl) Try.underlying129 rfl rfl (by intro h;cases h) (fun h=>by cases h)
theorem joc:tt 129=some ⟨.other,1,8,[.nilFunc]⟩:=rfl
theorem jgo:ak Try.prog 131 jd1:=al (z:= .nilFunc) (by kernel_rfl) Try.underlying131 rfl rfl (by intro h;cases h) (fun h=>by cases h)
theorem jod:tt 131=some ⟨.other,1,8,[.nilFunc]⟩:=rfl
theorem jgp:ak Try.prog 132 jd2:=al (z:= .nilFunc) (by kernel_rfl) Try.underlying132 rfl rfl (by intro h;cases h) (fun h=>by cases h)
theorem joe:tt 132=some ⟨.other,1,8,[.nilFunc]⟩:=rfl
theorem jgq:ak Try.prog 133 jd3:=al (z:= .nilFunc) (by kernel_rfl) Try.underlying133 rfl rfl (by intro h;cases h) (fun h=>by cases h)
theorem jof:tt 133=some ⟨.other,1,8,[.nilFunc]⟩:=rfl
theorem jgr:ak Try.prog 134 jd4:=al (z:= .nilFunc) (by kernel_rfl) Try.underlying134 rfl rfl (by intro h;cases h) (fun h=>by cases h)
theorem jog:tt 134=some ⟨.other,1,8,[.nilFunc]⟩:=rfl
theorem jgs:ak Try.prog 135 jd5:=al (z:= .nilFunc) (by kernel_rfl) Try.underlying135 rfl rfl (by intro h;cases h) (fun h=>by cases h)
theorem joh:tt 135=some ⟨.other,1,8,[.nilFunc]⟩:=rfl
theorem jgt:ak Try.prog 136 jd6:=al (z:= .nilFunc) (by kernel_rfl) Try.underlying136 rfl rfl (by intro h;cases h) (fun h=>by cases h)
theorem joi:tt 136=some ⟨.other,1,8,[.nilFunc]⟩:=rfl
theorem jgu:ak Try.prog 137 jd7:=al (z:= .nilFunc) (by kernel_rfl) Try.underlying137 rfl rfl (by intro h;cases h) (fun h=>by cases h)
theorem joj:tt 137=some ⟨.other,1,8,[.nilFunc]⟩:=rfl
theorem jgv:ak Try.prog 138 jd8:=al (z:= .nilFunc) (by kernel_rfl) Try.underlying138 rfl rfl (by intro h;cases h) (fun h=>by cases h)
theorem jok:tt 138=some ⟨.other,1,8,[.nilFunc]⟩:=rfl
theorem jgw:ak Try.prog 140 jd9:=al (z:= .nilFunc) (by kernel_rfl) Try.underlying140 rfl rfl (by intro h;cases h) (fun h=>by cases h)
theorem jol:tt 140=some ⟨.other,1,8,[.nilFunc]⟩:=rfl
theorem jgx:ak Try.prog 141 jea:=al (z:= .nilFunc) (by kernel_rfl) Try.underlying141 rfl rfl (by intro h;cases h) (fun h=>by cases h)
theorem jom:tt 141=some ⟨.other,1,8,[.nilFunc]⟩:=rfl
theorem jgy:ak Try.prog 142 jeb:=al (z:=(.map none)) (by kernel_rfl) Try.underlying142 rfl rfl (by intro h;cases h) (fun h=>by cases h)
theorem jon:tt 142=some ⟨.map 9 3,1,8,[(.map none)]⟩:=rfl
theorem jgz:ak Try.prog 143 jec:=al (z:= .nilFunc) (by kernel_rfl) Try.underlying143 rfl rfl (by intro h;cases h) (fun h=>by cases h)
theorem joo:tt 143=some ⟨.other,1,8,[.nilFunc]⟩:=rfl
theorem jg0:ak Try.prog 144 jed:=al (z:= .nilFunc) (by kernel_rfl) Try.underlying144 rfl rfl (by intro h;cases h) (fun h=>by cases h)
theorem jop:tt 144=some ⟨.other,1,8,[.nilFunc]⟩:=rfl
theorem jg1:ak Try.prog 145 jee:=al (z:=(.int .u64 0)) (by kernel_rfl) Try.underlying145 rfl rfl (by intro h;cases h) (fun _=>rfl)
theorem joq:tt 145=some ⟨.int .u64,1,8,[(.int .u64 0)]⟩:=rfl
theorem jg2:ak Try.prog 147 jef:=al (z:= .nilFunc) (by kernel_rfl) Try.underlying147 rfl rfl (by intro h;cases h) (fun h=>by cases h)
theorem jor:tt 147=some ⟨.other,1,8,[.nilFunc]⟩:=rfl
theorem jg3:ak Try.prog 148 jeg:=al (z:=(.int .u32 0)) (by kernel_rfl) Try.underlying148 rfl rfl (by intro h;cases h) (fun _=>rfl)
theorem jos:tt 148=some ⟨.int .u32,1,4,[(.int .u32 0)]⟩:=rfl
theorem jg4:ak Try.prog 150 jeh:=al (z:= .nilFunc) (by kernel_rfl) Try.underlying150 rfl rfl (by intro h;cases h) (fun h=>by cases h)
theorem jot:tt 150=some ⟨.other,1,8,[.nilFunc]⟩:=rfl
theorem jg5:ak Try.prog 151 jei:=al (z:=(.int .u64 0)) (by kernel_rfl) Try.underlying151 rfl rfl (by intro h;cases h) (fun _=>rfl)
theorem jou:tt 151=some ⟨.int .u64,1,8,[(.int .u64 0)]⟩:=rfl
theorem jg6:ak Try.prog 153 jej:=al (z:= .nilFunc) (by kernel_rfl) Try.underlying153 rfl rfl (by intro h;cases h) (fun h=>by cases h)
theorem jov:tt 153=some ⟨.other,1,8,[.nilFunc]⟩:=rfl
theorem jg7:ak Try.prog 154 jek:=al (z:= .nilFunc) (by kernel_rfl) Try.underlying154 rfl rfl (by intro h;cases h) (fun h=>by cases h)
theorem jow:tt 154=some ⟨.other,1,8,[.nilFunc]⟩:=rfl
theorem jg8:ak Try.prog 155 jel:=al (z:= .agg #[(.pointer none),(.pointer none),(.pointer none),(.string ⟨#[]⟩)]) (by kernel_rfl) Try.underlying155 rfl rfl (by intro h;cases h) (fun h=>by cases h)
theorem jox:tt 155=some ⟨.strct false [(0,17),(1,17),(2,17),(3,9)],4,40,[(.pointer none),(.pointer none),(.pointer none),(.string ⟨#[]⟩)]⟩:=rfl
theorem jg9:ak Try.prog 156 jem:=al (z:= .agg #[(.pointer none),(.pointer none),(.pointer none),(.string ⟨#[]⟩)]) (by kernel_rfl) Try.underlying156 rfl rfl (by intro h;cases h) (fun h=>by cases h)
theorem joy:tt 156=some ⟨.strct false [(0,17),(1,17),(2,17),(3,9)],4,40,[(.pointer none),(.pointer none),(.pointer none),(.string ⟨#[]⟩)]⟩:=rfl
theorem jha:ak Try.prog 157 jen:=al (z:= .agg #[]) (by kernel_rfl) Try.underlying157 rfl rfl (by intro h;cases h) (fun h=>by cases h)
theorem joz:tt 157=some ⟨.arr false 0 16,0,0,[]⟩:=rfl
theorem jhb:ak Try.prog 158 jeo:=al (z:= .agg #[]) (by kernel_rfl) Try.underlying158 rfl rfl (by intro h;cases h) (fun h=>by cases h)
theorem jo0:tt 158=some ⟨.strct false [(0,157)],0,0,[]⟩:=rfl
theorem jhc:ak Try.prog 159 jep:=al (z:= .agg #[]) (by kernel_rfl) Try.underlying159 rfl rfl (by intro h;cases h) (fun h=>by cases h)
theorem jo1:tt 159=some ⟨.strct false [(0,157)],0,0,[]⟩:=rfl
theorem jhd:ak Try.prog 160 jeq:=al (z:= .nilFunc) (by kernel_rfl) Try.underlying160 rfl rfl (by intro h;cases h) (fun h=>by cases h)
theorem jo2:tt 160=some ⟨.other,1,8,[.nilFunc]⟩:=rfl
theorem jhe:ak Try.prog 161 jer:=al (z:=(.int .u8 0)) (by kernel_rfl) Try.underlying161 rfl rfl (by intro h;cases h) (fun _=>rfl)
theorem jo3:tt 161=some ⟨.int .u8,1,1,[(.int .u8 0)]⟩:=rfl
theorem jhf:ak Try.prog 162 jes:=al (z:=(.int .u8 0)) (by kernel_rfl) Try.underlying162 rfl rfl (by intro h;cases h) (fun _=>rfl)
theorem jo4:tt 162=some ⟨.int .u8,1,1,[(.int .u8 0)]⟩:=rfl
theorem jhg:ak Try.prog 163 jet:=al (z:= .nilFunc) (by kernel_rfl) Try.underlying163 rfl rfl (by intro h;cases h) (fun h=>by cases h)
theorem jo5:tt 163=some ⟨.other,1,8,[.nilFunc]⟩:=rfl
theorem jhh:ak Try.prog 164 jeu:=al (z:=(.pointer none)) (by kernel_rfl) Try.underlying164 rfl rfl (by intro h;cases h) (fun h=>by cases h)
theorem jo6:tt 164=some ⟨.other,1,8,[(.pointer none)]⟩:=rfl
theorem jhi:ak Try.prog 165 jev:=al (z:=(.int .i32 0)) (by kernel_rfl) Try.underlying165 rfl rfl (by intro h;cases h) (fun _=>rfl)
theorem jo7:tt 165=some ⟨.int .i32,1,4,[(.int .i32 0)]⟩:=rfl
theorem jhj:ak Try.prog 166 jew:=al (z:=(.int .i32 0)) (by kernel_rfl) Try.underlying166 rfl rfl (by intro h;cases h) (fun _=>rfl)
theorem jo8:tt 166=some ⟨.int .i32,1,4,[(.int .i32 0)]⟩:=rfl
theorem jhk:ak Try.prog 167 jex:=al (z:= .agg #[(.int .u64 0),(.int .u64 0),(.int .u32 0),(.int .u8 0),(.int .u8 0),(.int .u8 0),(.int .u8 0), .nilFunc,(.pointer none),(.int .i32 0),(.int .i32 0)]) (by kernel_rfl) Try.underlying167 rfl rfl (by intro h;cases h) (fun h=>by cases h)
theorem jo9:tt 167=some ⟨.strct false [(0,12),(1,12),(2,148),(3,161),(4,5),(5,5),(6,162),(7,163),(8,164),(9,165),(10,166)],11,48,[(.int .u64 0),(.int .u64 0),(.int .u32 0),(.int .u8 0),(.int .u8 0),(.int .u8 0),(.int .u8 0), .nilFunc,(.pointer none),(.int .i32 0),(.int .i32 0)]⟩:=rfl
theorem jhl:ak Try.prog 168 jey:=al (z:= .agg #[(.int .u64 0),(.int .u64 0),(.int .u32 0),(.int .u8 0),(.int .u8 0),(.int .u8 0),(.int .u8 0), .nilFunc,(.pointer none),(.int .i32 0),(.int .i32 0)]) (by kernel_rfl) Try.underlying168 rfl rfl (by intro h;cases h) (fun h=>by cases h)
theorem jpa:tt 168=some ⟨.strct false [(0,12),(1,12),(2,148),(3,161),(4,5),(5,5),(6,162),(7,163),(8,164),(9,165),(10,166)],11,48,[(.int .u64 0),(.int .u64 0),(.int .u32 0),(.int .u8 0),(.int .u8 0),(.int .u8 0),(.int .u8 0), .nilFunc,(.pointer none),(.int .i32 0),(.int .i32 0)]⟩:=rfl
theorem jhm:ak Try.prog 169 jez:=al (z:=(.pointer none)) (by kernel_rfl) Try.underlying169 rfl rfl (by intro h;cases h) (fun h=>by cases h)
theorem jpb:tt 169=some ⟨.other,1,8,[(.pointer none)]⟩:=rfl
set_option maxRecDepth 100000 in
theorem fits:dk Try.prog tt:=by
 intro t x h;unfold tt at h;split at h
 ·cases h;exact jpu
 ·cases h;exact jpv
 ·cases h;exact jpw
 ·cases h;exact jpx
 ·cases h;exact jpy
 ·cases h;exact jpz
 ·cases h;exact jp0
 ·cases h;exact jp1
 ·cases h;exact jp2
 ·cases h;exact jiw
 ·cases h;exact jix
 ·cases h;exact jiy
 ·cases h;exact jiz
 ·cases h;exact ji0
 ·cases h;exact ji1
 ·cases h;exact ji2
 ·cases h;exact ji3
 ·cases h;exact ji4
 ·cases h;exact ji5
 ·cases h;exact ji6
 ·cases h;exact ji7
 ·cases h;exact ji8
 ·cases h;exact ji9
 ·cases h;exact jja
 ·cases h;exact jjb
 ·cases h;exact jjc
 ·cases h;exact jjd
 ·cases h;exact jje
 ·cases h;exact jjf
 ·cases h;exact jjg
 ·cases h;exact jjh
 ·cases h;exact jji
 ·cases h;exact jjj
 ·cases h;exact jjk
 ·cases h;exact jjl
 ·cases h;exact jjm
 ·cases h;exact jjn
 ·cases h;exact jjo
 ·cases h;exact jjp
 ·cases h;exact jjq
 ·cases h;exact jjr
 ·cases h;exact jjs
 ·cases h;exact jjt
 ·cases h;exact jju
 ·cases h;exact jjv
 ·cases h;exact jjw
 ·cases h;exact jjx
 ·cases h;exact jjy
 ·cases h;exact jjz
 ·cases h;exact jj0
 ·cases h;exact jj1
 ·cases h;exact jj2
 ·cases h;exact jj3
 ·cases h;exact jj4
 ·cases h;exact jj5
 ·cases h;exact jj6
 ·cases h;exact jj7
 ·cases h;exact jj8
 ·cases h;exact jj9
 ·cases h;exact jka
 ·cases h;exact jkb
 ·cases h;exact jkc
 ·cases h;exact jkd
 ·cases h;exact jke
 ·cases h;exact jkf
 ·cases h;exact jkg
 ·cases h;exact jkh
 ·cases h;exact jki
 ·cases h;exact jkj
 ·cases h;exact jkk
 ·cases h;exact jkl
 ·cases h;exact jkm
 ·cases h;exact jkn
 ·cases h;exact jko
 ·cases h;exact jkp
 ·cases h;exact jkq
 ·cases h;exact jkr
 ·cases h;exact jks
 ·cases h;exact jkt
 ·cases h;exact jku
 ·cases h;exact jkv
 ·cases h;exact jkw
 ·cases h;exact jkx
 ·cases h;exact jky
 ·cases h;exact jkz
 ·cases h;exact jk0
 ·cases h;exact jk1
 ·cases h;exact jk2
 ·cases h;exact jfv
 ·cases h;exact jfw
 ·cases h;exact jfx
 ·cases h;exact jfy
 ·cases h;exact jfz
 ·cases h;exact jf0
 ·cases h;exact jf1
 ·cases h;exact jf2
 ·cases h;exact jf3
 ·cases h;exact jf4
 ·cases h;exact jf5
 ·cases h;exact jf6
 ·cases h;exact jf7
 ·cases h;exact jf8
 ·cases h;exact jf9
 ·cases h;exact jga
 ·cases h;exact jgb
 ·cases h;exact jgc
 ·cases h;exact jgd
 ·cases h;exact jge
 ·cases h;exact jgf
 ·cases h;exact jgg
 ·cases h;exact jgh
 ·cases h;exact jgi
 ·cases h;exact jgj
 ·cases h;exact jgk
 ·cases h;exact jgl
 ·cases h;exact jgm
 ·cases h;exact jgn
 ·cases h;exact jgo
 ·cases h;exact jgp
 ·cases h;exact jgq
 ·cases h;exact jgr
 ·cases h;exact jgs
 ·cases h;exact jgt
 ·cases h;exact jgu
 ·cases h;exact jgv
 ·cases h;exact jgw
 ·cases h;exact jgx
 ·cases h;exact jgy
 ·cases h;exact jgz
 ·cases h;exact jg0
 ·cases h;exact jg1
 ·cases h;exact jg2
 ·cases h;exact jg3
 ·cases h;exact jg4
 ·cases h;exact jg5
 ·cases h;exact jg6
 ·cases h;exact jg7
 ·cases h;exact jg8
 ·cases h;exact jg9
 ·cases h;exact jha
 ·cases h;exact jhb
 ·cases h;exact jhc
 ·cases h;exact jhd
 ·cases h;exact jhe
 ·cases h;exact jhf
 ·cases h;exact jhg
 ·cases h;exact jhh
 ·cases h;exact jhi
 ·cases h;exact jhj
 ·cases h;exact jhk
 ·cases h;exact jhl
 ·cases h;exact jhm
 ·cases h
theorem ce:Try.prog.follows .mixedOrders=true:=rfl
attribute [go_sem] tt1 tt2 tt3 tt4 tt5 tt6 tt7 tt8 tt9 jqb jqc jqd jqe jqf jqg jqh jqi jqj jqk jql jqm jqn jqo jqp jqq jqr jqs jqt jqu jqv jqw jqx jqy jqz jq0 jq1 jq2 jq3 jq4 jq5 jq6 jq7 jq8 jq9 jra jrb jrc jrd jre jrf jrg jrh jri jrj jrk jrl jrm jrn jro jrp jrq jrr jrs jrt jru jrv jrw jrx jry jrz jr0 jr1 jr2 jr3 jr4 jr5 jr6 jr7 jr8 jr9 jsa jsb jsc jsd jse jsf jsg jsh jnk jnl jnm jnn jno jnp jnq jnr jns jnt jnu jnv jnw jnx jny jnz jn0 jn1 jn2 jn3 jn4 jn5 jn6 jn7 jn8 jn9 joa job joc jod joe jof jog joh joi joj jok jol jom jon joo jop joq jor jos jot jou jov jow jox joy joz jo0 jo1 jo2 jo3 jo4 jo5 jo6 jo7 jo8 jo9 jpa jpb
end Go.Proofs.Ytokeielgplbdeaa
