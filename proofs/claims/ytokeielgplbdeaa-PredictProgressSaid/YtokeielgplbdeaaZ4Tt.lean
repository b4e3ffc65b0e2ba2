/-
  The types of this seat's program: a row a type (its kind, cells, bytes, the cells of its zero value), and that each row is the program's own. Made by program out of the translation.
-/
import Derived.Test.YtokeielgplbdeaaZ4KE
import Derived.Test.YtokeielgplbdeaaProg
import Derived.KernelRfl
set_option linter.all false
namespace Go.Proofs.Ytokeielgplbdeaa
open Go.K Go.M
theorem al{P:Program}{t:TypeId}{k:TK}{sz by_:Nat}{zs:List Value}{z:Value}{d:TypeDesc}(h1:(P.info? t).map (fun i=>(i.zero,i.size,i.bytes))=some (some z,sz,by_))(h2:P.underlying t=some d)(h3:TK.of d=k.plain)(h4:z.cells.toList=zs)(h5:k.cmp=true→Cmp P t)(h6:k.one=true→zs=[z]):ak P t ⟨k,sz,by_,zs⟩:=by
 cases hi:P.info? t with
 |none=>simp[hi]at h1
 |some i=>
  simp only[hi,Option.map_some,Option.some.injEq,Prod.mk.injEq]at h1;exact⟨⟨i,d,z,hi,h2,h3,h1.2.1,h1.2.2,h1.1,h4⟩,h5,fun e=>⟨i,z,hi,h1.1,h6 e⟩⟩
def ti1:TI:=⟨.other,1,8,[.nilFunc]⟩
def ti2:TI:=⟨.int .i64,1,8,[(.int .i64 0)]⟩
def ti3:TI:=⟨.int .i64,1,8,[(.int .i64 0)]⟩
def ti4:TI:=⟨.bool,1,1,[(.bool false)]⟩
def ti5:TI:=⟨.int .u8,1,1,[(.int .u8 0)]⟩
def ti6:TI:=⟨.int .u8,1,1,[(.int .u8 0)]⟩
def ti7:TI:=⟨.strct true [(0,2),(1,3),(2,4),(3,6)],4,24,[(.int .i64 0),(.int .i64 0),(.bool false),(.int .u8 0)]⟩
def ti8:TI:=⟨.strct true [(0,2),(1,3),(2,4),(3,6)],4,24,[(.int .i64 0),(.int .i64 0),(.bool false),(.int .u8 0)]⟩
def ti9:TI:=⟨.str,1,16,[(.string ⟨#[]⟩)]⟩
def jks:TI:=⟨.str,1,16,[(.string ⟨#[]⟩)]⟩
def jkt:TI:=⟨.str,1,16,[(.string ⟨#[]⟩)]⟩
def jku:TI:=⟨.int .u64,1,8,[(.int .u64 0)]⟩
def jkv:TI:=⟨.strct false [(0,9),(1,12)],2,24,[(.string ⟨#[]⟩),(.int .u64 0)]⟩
def jkw:TI:=⟨.strct false [(0,9),(1,12)],2,24,[(.string ⟨#[]⟩),(.int .u64 0)]⟩
def jkx:TI:=⟨.other,1,8,[(.pointer none)]⟩
def jky:TI:=⟨.other,1,8,[(.pointer none)]⟩
def jkz:TI:=⟨.other,1,8,[(.pointer none)]⟩
def jk0:TI:=⟨.strct false [(0,17)],1,8,[(.pointer none)]⟩
def jk1:TI:=⟨.strct false [(0,17)],1,8,[(.pointer none)]⟩
def jk2:TI:=⟨.other,1,16,[.nilIface]⟩
def jk3:TI:=⟨.int .i32,1,4,[(.int .i32 0)]⟩
def jk4:TI:=⟨.slice 68,1,24,[(.slice none 0 0)]⟩
def jk5:TI:=⟨.strct false [(0,3),(1,22),(2,3),(3,3)],4,48,[(.int .i64 0),(.slice none 0 0),(.int .i64 0),(.int .i64 0)]⟩
def jk6:TI:=⟨.strct false [(0,3),(1,22),(2,3),(3,3)],4,48,[(.int .i64 0),(.slice none 0 0),(.int .i64 0),(.int .i64 0)]⟩
def jk7:TI:=⟨.slice 3,1,24,[(.slice none 0 0)]⟩
def jk8:TI:=⟨.slice 40,1,24,[(.slice none 0 0)]⟩
def jk9:TI:=⟨.other,1,8,[.nilFunc]⟩
def jla:TI:=⟨.other,1,8,[.nilFunc]⟩
def jlb:TI:=⟨.int .i64,1,8,[(.int .i64 0)]⟩
def jlc:TI:=⟨.other,1,8,[.nilFunc]⟩
def jld:TI:=⟨.other,1,8,[.nilFunc]⟩
def jle:TI:=⟨.other,1,8,[.nilFunc]⟩
def jlf:TI:=⟨.other,1,8,[.nilFunc]⟩
def jlg:TI:=⟨.other,1,8,[.nilFunc]⟩
def jlh:TI:=⟨.other,1,8,[.nilFunc]⟩
def jli:TI:=⟨.slice 5,1,24,[(.slice none 0 0)]⟩
def jlj:TI:=⟨.strct true [(0,3),(1,3),(2,4)],3,24,[(.int .i64 0),(.int .i64 0),(.bool false)]⟩
def jlk:TI:=⟨.strct true [(0,3),(1,3),(2,4)],3,24,[(.int .i64 0),(.int .i64 0),(.bool false)]⟩
def jll:TI:=⟨.other,1,8,[.nilFunc]⟩
def jlm:TI:=⟨.other,1,8,[.nilFunc]⟩
def jln:TI:=⟨.other,1,8,[.nilFunc]⟩
def jlo:TI:=⟨.other,1,8,[.nilFunc]⟩
def jlp:TI:=⟨.other,1,8,[.nilFunc]⟩
def jlq:TI:=⟨.other,1,8,[.nilFunc]⟩
def jlr:TI:=⟨.other,1,8,[.nilFunc]⟩
def jls:TI:=⟨.other,1,8,[.nilFunc]⟩
def jlt:TI:=⟨.other,1,8,[.nilFunc]⟩
def jlu:TI:=⟨.other,1,8,[.nilFunc]⟩
def jlv:TI:=⟨.other,1,8,[.nilFunc]⟩
def jlw:TI:=⟨.other,1,8,[.nilFunc]⟩
def jlx:TI:=⟨.other,1,8,[.nilFunc]⟩
def jly:TI:=⟨.other,1,8,[.nilFunc]⟩
def jlz:TI:=⟨.other,1,8,[.nilFunc]⟩
def jl0:TI:=⟨.other,1,8,[.nilFunc]⟩
def jl1:TI:=⟨.other,1,8,[.nilFunc]⟩
def jl2:TI:=⟨.other,1,8,[.nilFunc]⟩
def jl3:TI:=⟨.other,1,8,[.nilFunc]⟩
def jl4:TI:=⟨.other,1,8,[.nilFunc]⟩
def jl5:TI:=⟨.strct false [(0,9),(1,25),(2,25)],3,64,[(.string ⟨#[]⟩),(.slice none 0 0),(.slice none 0 0)]⟩
def jl6:TI:=⟨.strct false [(0,9),(1,25),(2,25)],3,64,[(.string ⟨#[]⟩),(.slice none 0 0),(.slice none 0 0)]⟩
def jl7:TI:=⟨.other,1,8,[.nilFunc]⟩
def jl8:TI:=⟨.other,1,8,[.nilFunc]⟩
def jl9:TI:=⟨.other,1,8,[.nilFunc]⟩
def jma:TI:=⟨.other,1,8,[.nilFunc]⟩
def jmb:TI:=⟨.other,1,8,[.nilFunc]⟩
def jmc:TI:=⟨.other,1,8,[.nilFunc]⟩
def jmd:TI:=⟨.map 3 115,1,8,[(.map none)]⟩
def jme:TI:=⟨.strct false [(0,75),(1,3),(2,3)],3,24,[(.map none),(.int .i64 0),(.int .i64 0)]⟩
def jmf:TI:=⟨.strct false [(0,75),(1,3),(2,3)],3,24,[(.map none),(.int .i64 0),(.int .i64 0)]⟩
def jmg:TI:=⟨.other,1,8,[.nilFunc]⟩
def jmh:TI:=⟨.other,1,8,[.nilFunc]⟩
def jmi:TI:=⟨.other,1,8,[.nilFunc]⟩
def jmj:TI:=⟨.other,1,8,[.nilFunc]⟩
def jmk:TI:=⟨.slice 25,1,24,[(.slice none 0 0)]⟩
def jml:TI:=⟨.slice 126,1,24,[(.slice none 0 0)]⟩
def jmm:TI:=⟨.strct false [(0,84),(1,85),(2,4)],3,56,[(.slice none 0 0),(.slice none 0 0),(.bool false)]⟩
def jmn:TI:=⟨.strct false [(0,84),(1,85),(2,4)],3,56,[(.slice none 0 0),(.slice none 0 0),(.bool false)]⟩
def jmo:TI:=⟨.slice 4,1,24,[(.slice none 0 0)]⟩
def jmp:TI:=⟨.strct false [(0,87),(3,3),(4,88)],5,88,[(.slice none 0 0),(.slice none 0 0),(.bool false),(.int .i64 0),(.slice none 0 0)]⟩
def jmq:TI:=⟨.strct false [(0,87),(3,3),(4,88)],5,88,[(.slice none 0 0),(.slice none 0 0),(.bool false),(.int .i64 0),(.slice none 0 0)]⟩
def jmr:TI:=⟨.other,1,8,[.nilFunc]⟩
def jms:TI:=⟨.other,1,8,[.nilFunc]⟩
def jmt:TI:=⟨.other,1,8,[.nilFunc]⟩
def jmu:TI:=⟨.other,1,8,[.nilFunc]⟩
def jmv:TI:=⟨.other,1,8,[.nilFunc]⟩
def jmw:TI:=⟨.other,1,8,[.nilFunc]⟩
def jmx:TI:=⟨.other,1,8,[.nilFunc]⟩
def jmy:TI:=⟨.other,1,8,[.nilFunc]⟩
def jcj:TI:=⟨.other,1,8,[.nilFunc]⟩
def jck:TI:=⟨.other,1,8,[.nilFunc]⟩
def jcl:TI:=⟨.other,1,8,[.nilFunc]⟩
def jcm:TI:=⟨.other,1,8,[.nilFunc]⟩
def jcn:TI:=⟨.other,1,8,[.nilFunc]⟩
def jco:TI:=⟨.strct true [(0,3),(1,3),(2,4)],3,24,[(.int .i64 0),(.int .i64 0),(.bool false)]⟩
def jcp:TI:=⟨.strct true [(0,3),(1,3),(2,4)],3,24,[(.int .i64 0),(.int .i64 0),(.bool false)]⟩
def jcq:TI:=⟨.slice 106,1,24,[(.slice none 0 0)]⟩
def jcr:TI:=⟨.other,1,8,[.nilFunc]⟩
def jcs:TI:=⟨.other,1,8,[.nilFunc]⟩
def jct:TI:=⟨.other,1,8,[.nilFunc]⟩
def jcu:TI:=⟨.other,1,8,[.nilFunc]⟩
def jcv:TI:=⟨.other,1,8,[.nilFunc]⟩
def jcw:TI:=⟨.other,1,8,[.nilFunc]⟩
def jcx:TI:=⟨.other,1,8,[.nilFunc]⟩
def jcy:TI:=⟨.slice 121,1,24,[(.slice none 0 0)]⟩
def jcz:TI:=⟨.slice 119,1,24,[(.slice none 0 0)]⟩
def jc0:TI:=⟨.other,1,8,[.nilFunc]⟩
def jc1:TI:=⟨.strct true [(0,4),(1,3),(2,3)],3,24,[(.bool false),(.int .i64 0),(.int .i64 0)]⟩
def jc2:TI:=⟨.strct true [(0,4),(1,3),(2,3)],3,24,[(.bool false),(.int .i64 0),(.int .i64 0)]⟩
def jc3:TI:=⟨.strct true [(0,3),(1,3)],2,16,[(.int .i64 0),(.int .i64 0)]⟩
def jc4:TI:=⟨.strct true [(0,3),(1,3)],2,16,[(.int .i64 0),(.int .i64 0)]⟩
def jc5:TI:=⟨.other,1,8,[.nilFunc]⟩
def jc6:TI:=⟨.other,1,8,[.nilFunc]⟩
def jc7:TI:=⟨.strct true [(0,3),(1,3),(2,3)],3,24,[(.int .i64 0),(.int .i64 0),(.int .i64 0)]⟩
def jc8:TI:=⟨.strct true [(0,3),(1,3),(2,3)],3,24,[(.int .i64 0),(.int .i64 0),(.int .i64 0)]⟩
def jc9:TI:=⟨.other,1,8,[.nilFunc]⟩
def jda:TI:=⟨.map 3 4,1,8,[(.map none)]⟩
def jdb:TI:=⟨.other,1,8,[.nilFunc]⟩
def jdc:TI:=⟨.other,1,8,[.nilFunc]⟩
def jdd:TI:=⟨.other,1,8,[.nilFunc]⟩
def jde:TI:=⟨.other,1,8,[.nilFunc]⟩
def jdf:TI:=⟨.other,1,8,[.nilFunc]⟩
def jdg:TI:=⟨.other,1,8,[.nilFunc]⟩
def jdh:TI:=⟨.other,1,8,[.nilFunc]⟩
def jdi:TI:=⟨.other,1,8,[.nilFunc]⟩
def jdj:TI:=⟨.other,1,8,[.nilFunc]⟩
def jdk:TI:=⟨.other,1,8,[.nilFunc]⟩
def jdl:TI:=⟨.other,1,8,[.nilFunc]⟩
def jdm:TI:=⟨.map 9 3,1,8,[(.map none)]⟩
def jdn:TI:=⟨.other,1,8,[.nilFunc]⟩
def jdo:TI:=⟨.other,1,8,[.nilFunc]⟩
def jdp:TI:=⟨.int .u64,1,8,[(.int .u64 0)]⟩
def jdq:TI:=⟨.other,1,8,[.nilFunc]⟩
def jdr:TI:=⟨.int .u32,1,4,[(.int .u32 0)]⟩
def jds:TI:=⟨.other,1,8,[.nilFunc]⟩
def jdt:TI:=⟨.int .u64,1,8,[(.int .u64 0)]⟩
def jdu:TI:=⟨.other,1,8,[.nilFunc]⟩
def jdv:TI:=⟨.other,1,8,[.nilFunc]⟩
def jdw:TI:=⟨.strct false [(0,17),(1,17),(2,17),(3,9)],4,40,[(.pointer none),(.pointer none),(.pointer none),(.string ⟨#[]⟩)]⟩
def jdx:TI:=⟨.strct false [(0,17),(1,17),(2,17),(3,9)],4,40,[(.pointer none),(.pointer none),(.pointer none),(.string ⟨#[]⟩)]⟩
def jdy:TI:=⟨.arr false 0 16,0,0,[]⟩
def jdz:TI:=⟨.strct false [(0,157)],0,0,[]⟩
def jd0:TI:=⟨.strct false [(0,157)],0,0,[]⟩
def jd1:TI:=⟨.other,1,8,[.nilFunc]⟩
def jd2:TI:=⟨.int .u8,1,1,[(.int .u8 0)]⟩
def jd3:TI:=⟨.int .u8,1,1,[(.int .u8 0)]⟩
def jd4:TI:=⟨.other,1,8,[.nilFunc]⟩
def jd5:TI:=⟨.other,1,8,[(.pointer none)]⟩
def jd6:TI:=⟨.int .i32,1,4,[(.int .i32 0)]⟩
def jd7:TI:=⟨.int .i32,1,4,[(.int .i32 0)]⟩
def jd8:TI:=⟨.strct false [(0,12),(1,12),(2,148),(3,161),(4,5),(5,5),(6,162),(7,163),(8,164),(9,165),(10,166)],11,48,[(.int .u64 0),(.int .u64 0),(.int .u32 0),(.int .u8 0),(.int .u8 0),(.int .u8 0),(.int .u8 0), .nilFunc,(.pointer none),(.int .i32 0),(.int .i32 0)]⟩
def jd9:TI:=⟨.strct false [(0,12),(1,12),(2,148),(3,161),(4,5),(5,5),(6,162),(7,163),(8,164),(9,165),(10,166)],11,48,[(.int .u64 0),(.int .u64 0),(.int .u32 0),(.int .u8 0),(.int .u8 0),(.int .u8 0),(.int .u8 0), .nilFunc,(.pointer none),(.int .i32 0),(.int .i32 0)]⟩
def jea:TI:=⟨.other,1,8,[(.pointer none)]⟩
def tt:TT
 |1=>some ti1
 |2=>some ti2
 |3=>some ti3
 |4=>some ti4
 |5=>some ti5
 |6=>some ti6
 |7=>some ti7
 |8=>some ti8
 |9=>some ti9
 |10=>some jks
 |11=>some jkt
 |12=>some jku
 |13=>some jkv
 |14=>some jkw
 |15=>some jkx
 |16=>some jky
 |17=>some jkz
 |18=>some jk0
 |19=>some jk1
 |20=>some jk2
 |21=>some jk3
 |22=>some jk4
 |23=>some jk5
 |24=>some jk6
 |25=>some jk7
 |26=>some jk8
 |27=>some jk9
 |28=>some jla
 |29=>some jlb
 |31=>some jlc
 |33=>some jld
 |34=>some jle
 |35=>some jlf
 |36=>some jlg
 |37=>some jlh
 |38=>some jli
 |39=>some jlj
 |40=>some jlk
 |42=>some jll
 |43=>some jlm
 |45=>some jln
 |46=>some jlo
 |47=>some jlp
 |48=>some jlq
 |49=>some jlr
 |50=>some jls
 |51=>some jlt
 |53=>some jlu
 |54=>some jlv
 |55=>some jlw
 |57=>some jlx
 |59=>some jly
 |60=>some jlz
 |61=>some jl0
 |63=>some jl1
 |64=>some jl2
 |65=>some jl3
 |66=>some jl4
 |67=>some jl5
 |68=>some jl6
 |69=>some jl7
 |70=>some jl8
 |71=>some jl9
 |72=>some jma
 |73=>some jmb
 |74=>some jmc
 |75=>some jmd
 |76=>some jme
 |77=>some jmf
 |79=>some jmg
 |81=>some jmh
 |82=>some jmi
 |83=>some jmj
 |84=>some jmk
 |85=>some jml
 |86=>some jmm
 |87=>some jmn
 |88=>some jmo
 |89=>some jmp
 |90=>some jmq
 |92=>some jmr
 |93=>some jms
 |94=>some jmt
 |95=>some jmu
 |96=>some jmv
 |97=>some jmw
 |98=>some jmx
 |99=>some jmy
 |100=>some jcj
 |101=>some jck
 |102=>some jcl
 |103=>some jcm
 |104=>some jcn
 |105=>some jco
 |106=>some jcp
 |107=>some jcq
 |108=>some jcr
 |109=>some jcs
 |110=>some jct
 |111=>some jcu
 |112=>some jcv
 |113=>some jcw
 |114=>some jcx
 |115=>some jcy
 |116=>some jcz
 |117=>some jc0
 |118=>some jc1
 |119=>some jc2
 |120=>some jc3
 |121=>some jc4
 |123=>some jc5
 |124=>some jc6
 |125=>some jc7
 |126=>some jc8
 |127=>some jc9
 |128=>some jda
 |129=>some jdb
 |131=>some jdc
 |132=>some jdd
 |133=>some jde
 |134=>some jdf
 |135=>some jdg
 |136=>some jdh
 |137=>some jdi
 |138=>some jdj
 |140=>some jdk
 |141=>some jdl
 |142=>some jdm
 |143=>some jdn
 |144=>some jdo
 |145=>some jdp
 |147=>some jdq
 |148=>some jdr
 |150=>some jds
 |151=>some jdt
 |153=>some jdu
 |154=>some jdv
 |155=>some jdw
 |156=>some jdx
 |157=>some jdy
 |158=>some jdz
 |159=>some jd0
 |160=>some jd1
 |161=>some jd2
 |162=>some jd3
 |163=>some jd4
 |164=>some jd5
 |165=>some jd6
 |166=>some jd7
 |167=>some jd8
 |168=>some jd9
 |169=>some jea
 |_=>none
theorem jo9:ak Try.prog 1 ti1:=al (z:= .nilFunc) (by kernel_rfl) Try.underlying1 rfl rfl (by intro h;cases h) (fun h=>by cases h)
theorem tt1:tt 1=some ⟨.other,1,8,[.nilFunc]⟩:=rfl
theorem jpa:ak Try.prog 2 ti2:=al (z:=(.int .i64 0)) (by kernel_rfl) Try.underlying2 rfl rfl (by intro h;cases h) (fun _=>rfl)
theorem tt2:tt 2=some ⟨.int .i64,1,8,[(.int .i64 0)]⟩:=rfl
theorem jpb:ak Try.prog 3 ti3:=al (z:=(.int .i64 0)) (by kernel_rfl) Try.underlying3 rfl rfl (by intro h;cases h) (fun _=>rfl)
theorem tt3:tt 3=some ⟨.int .i64,1,8,[(.int .i64 0)]⟩:=rfl
theorem jpc:ak Try.prog 4 ti4:=al (z:=(.bool false)) (by kernel_rfl) Try.underlying4 rfl rfl (by intro h;cases h) (fun _=>rfl)
theorem tt4:tt 4=some ⟨.bool,1,1,[(.bool false)]⟩:=rfl
theorem jpd:ak Try.prog 5 ti5:=al (z:=(.int .u8 0)) (by kernel_rfl) Try.underlying5 rfl rfl (by intro h;cases h) (fun _=>rfl)
theorem tt5:tt 5=some ⟨.int .u8,1,1,[(.int .u8 0)]⟩:=rfl
theorem jpe:ak Try.prog 6 ti6:=al (z:=(.int .u8 0)) (by kernel_rfl) Try.underlying6 rfl rfl (by intro h;cases h) (fun _=>rfl)
theorem tt6:tt 6=some ⟨.int .u8,1,1,[(.int .u8 0)]⟩:=rfl
theorem jpf:ak Try.prog 7 ti7:=al (z:= .agg #[(.int .i64 0),(.int .i64 0),(.bool false),(.int .u8 0)]) (by kernel_rfl) Try.underlying7 rfl rfl (by exact fun _=>⟨by kernel_rfl,by kernel_rfl,by kernel_rfl⟩) (fun h=>by cases h)
theorem tt7:tt 7=some ⟨.strct true [(0,2),(1,3),(2,4),(3,6)],4,24,[(.int .i64 0),(.int .i64 0),(.bool false),(.int .u8 0)]⟩:=rfl
theorem jpg:ak Try.prog 8 ti8:=al (z:= .agg #[(.int .i64 0),(.int .i64 0),(.bool false),(.int .u8 0)]) (by kernel_rfl) Try.underlying8 rfl rfl (by exact fun _=>⟨by kernel_rfl,by kernel_rfl,by kernel_rfl⟩) (fun h=>by cases h)
theorem tt8:tt 8=some ⟨.strct true [(0,2),(1,3),(2,4),(3,6)],4,24,[(.int .i64 0),(.int .i64 0),(.bool false),(.int .u8 0)]⟩:=rfl
theorem jph:ak Try.prog 9 ti9:=al (z:=(.string ⟨#[]⟩)) (by kernel_rfl) Try.underlying9 rfl rfl (by intro h;cases h) (fun _=>rfl)
theorem tt9:tt 9=some ⟨.str,1,16,[(.string ⟨#[]⟩)]⟩:=rfl
theorem jh9:ak Try.prog 10 jks:=al (z:=(.string ⟨#[]⟩)) (by kernel_rfl) Try.underlying10 rfl rfl (by intro h;cases h) (fun _=>rfl)
theorem jpp:tt 10=some ⟨.str,1,16,[(.string ⟨#[]⟩)]⟩:=rfl
theorem jia:ak Try.prog 11 jkt:=al (z:=(.string ⟨#[]⟩)) (by kernel_rfl) Try.underlying11 rfl rfl (by intro h;cases h) (fun _=>rfl)
theorem jpq:tt 11=some ⟨.str,1,16,[(.string ⟨#[]⟩)]⟩:=rfl
theorem jib:ak Try.prog 12 jku:=al (z:=(.int .u64 0)) (by kernel_rfl) Try.underlying12 rfl rfl (by intro h;cases h) (fun _=>rfl)
theorem jpr:tt 12=some ⟨.int .u64,1,8,[(.int .u64 0)]⟩:=rfl
theorem jic:ak Try.prog 13 jkv:=al (z:= .agg #[(.string ⟨#[]⟩),(.int .u64 0)]) (by kernel_rfl) Try.underlying13 rfl rfl (by intro h;cases h) (fun h=>by cases h)
theorem jps:tt 13=some ⟨.strct false [(0,9),(1,12)],2,24,[(.string ⟨#[]⟩),(.int .u64 0)]⟩:=rfl
theorem jid:ak Try.prog 14 jkw:=al (z:= .agg #[(.string ⟨#[]⟩),(.int .u64 0)]) (by kernel_rfl) Try.underlying14 rfl rfl (by intro h;cases h) (fun h=>by cases h)
theorem jpt:tt 14=some ⟨.strct false [(0,9),(1,12)],2,24,[(.string ⟨#[]⟩),(.int .u64 0)]⟩:=rfl
theorem jie:ak Try.prog 15 jkx:=al (z:=(.pointer none)) (by kernel_rfl) Try.underlying15 rfl rfl (by intro h;cases h) (fun h=>by cases h)
theorem jpu:tt 15=some ⟨.other,1,8,[(.pointer none)]⟩:=rfl
theorem jif:ak Try.prog 16 jky:=al (z:=(.pointer none)) (by kernel_rfl) Try.underlying16 rfl rfl (by intro h;cases h) (fun h=>by cases h)
theorem jpv:tt 16=some ⟨.other,1,8,[(.pointer none)]⟩:=rfl
theorem jig:ak Try.prog 17 jkz:=al (z:=(.pointer none)) (by kernel_rfl) Try.underlying17 rfl rfl (by intro h;cases h) (fun h=>by cases h)
theorem jpw:tt 17=some ⟨.other,1,8,[(.pointer none)]⟩:=rfl
theorem jih:ak Try.prog 18 jk0:=al (z:= .agg #[(.pointer none)]) (by kernel_rfl) Try.underlying18 rfl rfl (by intro h;cases h) (fun h=>by cases h)
theorem jpx:tt 18=some ⟨.strct false [(0,17)],1,8,[(.pointer none)]⟩:=rfl
theorem jii:ak Try.prog 19 jk1:=al (z:= .agg #[(.pointer none)]) (by kernel_rfl) Try.underlying19 rfl rfl (by intro h;cases h) (fun h=>by cases h)
theorem jpy:tt 19=some ⟨.strct false [(0,17)],1,8,[(.pointer none)]⟩:=rfl
theorem jij:ak Try.prog 20 jk2:=al (z:= .nilIface) (by kernel_rfl) Try.underlying20 rfl rfl (by intro h;cases h) (fun h=>by cases h)
theorem jpz:tt 20=some ⟨.other,1,16,[.nilIface]⟩:=rfl
theorem jik:ak Try.prog 21 jk3:=al (z:=(.int .i32 0)) (by kernel_rfl) Try.underlying21 rfl rfl (by intro h;cases h) (fun _=>rfl)
theorem jp0:tt 21=some ⟨.int .i32,1,4,[(.int .i32 0)]⟩:=rfl
theorem jil:ak Try.prog 22 jk4:=al (z:=(.slice none 0 0)) (by kernel_rfl) Try.underlying22 rfl rfl (by intro h;cases h) (fun _=>rfl)
theorem jp1:tt 22=some ⟨.slice 68,1,24,[(.slice none 0 0)]⟩:=rfl
theorem jim:ak Try.prog 23 jk5:=al (z:= .agg #[(.int .i64 0),(.slice none 0 0),(.int .i64 0),(.int .i64 0)]) (by kernel_rfl) Try.underlying23 rfl rfl (by intro h;cases h) (fun h=>by cases h)
theorem jp2:tt 23=some ⟨.strct false [(0,3),(1,22),(2,3),(3,3)],4,48,[(.int .i64 0),(.slice none 0 0),(.int .i64 0),(.int .i64 0)]⟩:=rfl
theorem jin:ak Try.prog 24 jk6:=al (z:= .agg #[(.int .i64 0),(.slice none 0 0),(.int .i64 0),(.int .i64 0)]) (by kernel_rfl) Try.underlying24 rfl rfl (by intro h;cases h) (fun h=>by cases h)
theorem jp3:tt 24=some ⟨.strct false [(0,3),(1,22),(2,3),(3,3)],4,48,[(.int .i64 0),(.slice none 0 0),(.int .i64 0),(.int .i64 0)]⟩:=rfl
theorem jio:ak Try.prog 25 jk7:=al (z:=(.slice none 0 0)) (by kernel_rfl) Try.underlying25 rfl rfl (by intro h;cases h) (fun _=>rfl)
theorem jp4:tt 25=some ⟨.slice 3,1,24,[(.slice none 0 0)]⟩:=rfl
theorem jip:ak Try.prog 26 jk8:=al (z:=(.slice none 0 0)) (by kernel_rfl) Try.underlying26 rfl rfl (by intro h;cases h) (fun _=>rfl)
theorem jp5:tt 26=some ⟨.slice 40,1,24,[(.slice none 0 0)]⟩:=rfl
theorem jiq:ak Try.prog 27 jk9:=al (z:= .nilFunc) (by kernel_rfl) Try.underlying27 rfl rfl (by intro h;cases h) (fun h=>by cases h)
theorem jp6:tt 27=some ⟨.other,1,8,[.nilFunc]⟩:=rfl
theorem jir:ak Try.prog 28 jla:=al (z:= .nilFunc) (by kernel_rfl) Try.underlying28 rfl rfl (by intro h;cases h) (fun h=>by cases h)
theorem jp7:tt 28=some ⟨.other,1,8,[.nilFunc]⟩:=rfl
theorem jis:ak Try.prog 29 jlb:=al (z:=(.int .i64 0)) (by kernel_rfl) Try.underlying29 rfl rfl (by intro h;cases h) (fun _=>rfl)
theorem jp8:tt 29=some ⟨.int .i64,1,8,[(.int .i64 0)]⟩:=rfl
theorem jit:ak Try.prog 31 jlc:=al (z:= .nilFunc) (by kernel_rfl) Try.underlying31 rfl rfl (by intro h;cases h) (fun h=>by cases h)
theorem jp9:tt 31=some ⟨.other,1,8,[.nilFunc]⟩:=rfl
theorem jiu:ak Try.prog 33 jld:=al (z:= .nilFunc) (by kernel_rfl) Try.underlying33 rfl rfl (by intro h;cases h) (fun h=>by cases h)
theorem jqa:tt 33=some ⟨.other,1,8,[.nilFunc]⟩:=rfl
theorem jiv:ak Try.prog 34 jle:=al (z:= .nilFunc) (by kernel_rfl) Try.underlying34 rfl rfl (by intro h;cases h) (fun h=>by cases h)
theorem jqb:tt 34=some ⟨.other,1,8,[.nilFunc]⟩:=rfl
theorem jiw:ak Try.prog 35 jlf:=al (z:= .nilFunc) (by kernel_rfl) Try.underlying35 rfl rfl (by intro h;cases h) (fun h=>by cases h)
theorem jqc:tt 35=some ⟨.other,1,8,[.nilFunc]⟩:=rfl
theorem jix:ak Try.prog 36 jlg:=al (z:= .nilFunc) (by kernel_rfl) Try.underlying36 rfl rfl (by intro h;cases h) (fun h=>by cases h)
theorem jqd:tt 36=some ⟨.other,1,8,[.nilFunc]⟩:=rfl
theorem jiy:ak Try.prog 37 jlh:=al (z:= .nilFunc) (by kernel_rfl) Try.underlying37 rfl rfl (by intro h;cases h) (fun h=>by cases h)
theorem jqe:tt 37=some ⟨.other,1,8,[.nilFunc]⟩:=rfl
theorem jiz:ak Try.prog 38 jli:=al (z:=(.slice none 0 0)) (by kernel_rfl) Try.underlying38 rfl rfl (by intro h;cases h) (fun _=>rfl)
theorem jqf:tt 38=some ⟨.slice 5,1,24,[(.slice none 0 0)]⟩:=rfl
theorem ji0:ak Try.prog 39 jlj:=al (z:= .agg #[(.int .i64 0),(.int .i64 0),(.bool false)]) (by kernel_rfl) Try.underlying39 rfl rfl (by exact fun _=>⟨by kernel_rfl,by kernel_rfl,by kernel_rfl⟩) (fun h=>by cases h)
theorem jqg:tt 39=some ⟨.strct true [(0,3),(1,3),(2,4)],3,24,[(.int .i64 0),(.int .i64 0),(.bool false)]⟩:=rfl
theorem ji1:ak Try.prog 40 jlk:=al (z:= .agg #[(.int .i64 0),(.int .i64 0),(.bool false)]) (by kernel_rfl) Try.underlying40 rfl rfl (by exact fun _=>⟨by kernel_rfl,by kernel_rfl,by kernel_rfl⟩) (fun h=>by cases h)
theorem jqh:tt 40=some ⟨.strct true [(0,3),(1,3),(2,4)],3,24,[(.int .i64 0),(.int .i64 0),(.bool false)]⟩:=rfl
theorem ji2:ak Try.prog 42 jll:=al (z:= .nilFunc) (by kernel_rfl) Try.underlying42 rfl rfl (by intro h;cases h) (fun h=>by cases h)
theorem jqi:tt 42=some ⟨.other,1,8,[.nilFunc]⟩:=rfl
theorem ji3:ak Try.prog 43 jlm:=al (z:= .nilFunc) (by kernel_rfl) Try.underlying43 rfl rfl (by intro h;cases h) (fun h=>by cases h)
theorem jqj:tt 43=some ⟨.other,1,8,[.nilFunc]⟩:=rfl
theorem ji4:ak Try.prog 45 jln:=al (z:= .nilFunc) (by kernel_rfl) Try.underlying45 rfl rfl (by intro h;cases h) (fun h=>by cases h)
theorem jqk:tt 45=some ⟨.other,1,8,[.nilFunc]⟩:=rfl
theorem ji5:ak Try.prog 46 jlo:=al (z:= .nilFunc) (by kernel_rfl) Try.underlying46 rfl rfl (by intro h;cases h) (fun h=>by cases h)
theorem jql:tt 46=some ⟨.other,1,8,[.nilFunc]⟩:=rfl
theorem ji6:ak Try.prog 47 jlp:=al (z:= .nilFunc) (by kernel_rfl) Try.underlying47 rfl rfl (by intro h;cases h) (fun h=>by cases h)
theorem jqm:tt 47=some ⟨.other,1,8,[.nilFunc]⟩:=rfl
theorem ji7:ak Try.prog 48 jlq:=al (z:= .nilFunc) (by kernel_rfl) Try.underlying48 rfl rfl (by intro h;cases h) (fun h=>by cases h)
theorem jqn:tt 48=some ⟨.other,1,8,[.nilFunc]⟩:=rfl
theorem ji8:ak Try.prog 49 jlr:=al (z:= .nilFunc) (by kernel_rfl) Try.underlying49 rfl rfl (by intro h;cases h) (fun h=>by cases h)
theorem jqo:tt 49=some ⟨.other,1,8,[.nilFunc]⟩:=rfl
theorem ji9:ak Try.prog 50 jls:=al (z:= .nilFunc) (by kernel_rfl) Try.underlying50 rfl rfl (by intro h;cases h) (fun h=>by cases h)
theorem jqp:tt 50=some ⟨.other,1,8,[.nilFunc]⟩:=rfl
theorem jja:ak Try.prog 51 jlt:=al (z:= .nilFunc) (by kernel_rfl) Try.underlying51 rfl rfl (by intro h;cases h) (fun h=>by cases h)
theorem jqq:tt 51=some ⟨.other,1,8,[.nilFunc]⟩:=rfl
theorem jjb:ak Try.prog 53 jlu:=al (z:= .nilFunc) (by kernel_rfl) Try.underlying53 rfl rfl (by intro h;cases h) (fun h=>by cases h)
theorem jqr:tt 53=some ⟨.other,1,8,[.nilFunc]⟩:=rfl
theorem jjc:ak Try.prog 54 jlv:=al (z:= .nilFunc) (by kernel_rfl) Try.underlying54 rfl rfl (by intro h;cases h) (fun h=>by cases h)
theorem jqs:tt 54=some ⟨.other,1,8,[.nilFunc]⟩:=rfl
theorem jjd:ak Try.prog 55 jlw:=al (z:= .nilFunc) (by kernel_rfl) Try.underlying55 rfl rfl (by intro h;cases h) (fun h=>by cases h)
theorem jqt:tt 55=some ⟨.other,1,8,[.nilFunc]⟩:=rfl
theorem jje:ak Try.prog 57 jlx:=al (z:= .nilFunc) (by kernel_rfl) Try.underlying57 rfl rfl (by intro h;cases h) (fun h=>by cases h)
theorem jqu:tt 57=some ⟨.other,1,8,[.nilFunc]⟩:=rfl
theorem jjf:ak Try.prog 59 jly:=al (z:= .nilFunc) (by kernel_rfl) Try.underlying59 rfl rfl (by intro h;cases h) (fun h=>by cases h)
theorem jqv:tt 59=some ⟨.other,1,8,[.nilFunc]⟩:=rfl
theorem jjg:ak Try.prog 60 jlz:=al (z:= .nilFunc) (by kernel_rfl) Try.underlying60 rfl rfl (by intro h;cases h) (fun h=>by cases h)
theorem jqw:tt 60=some ⟨.other,1,8,[.nilFunc]⟩:=rfl
theorem jjh:ak Try.prog 61 jl0:=al (z:= .nilFunc) (by kernel_rfl) Try.underlying61 rfl rfl (by intro h;cases h) (fun h=>by cases h)
theorem jqx:tt 61=some ⟨.other,1,8,[.nilFunc]⟩:=rfl
theorem jji:ak Try.prog 63 jl1:=al (z:= .nilFunc) (by kernel_rfl) Try.underlying63 rfl rfl (by intro h;cases h) (fun h=>by cases h)
theorem jqy:tt 63=some ⟨.other,1,8,[.nilFunc]⟩:=rfl
theorem jjj:ak Try.prog 64 jl2:=al (z:= .nilFunc) (by kernel_rfl) Try.underlying64 rfl rfl (by intro h;cases h) (fun h=>by cases h)
theorem jqz:tt 64=some ⟨.other,1,8,[.nilFunc]⟩:=rfl
theorem jjk:ak Try.prog 65 jl3:=al (z:= .nilFunc) (by kernel_rfl) Try.underlying65 rfl rfl (by intro h;cases h) (fun h=>by cases h)
theorem jq0:tt 65=some ⟨.other,1,8,[.nilFunc]⟩:=rfl
theorem jjl:ak Try.prog 66 jl4:=al (z:= .nilFunc) (by kernel_rfl) Try.underlying66 rfl rfl (by intro h;cases h) (fun h=>by cases h)
theorem jq1:tt 66=some ⟨.other,1,8,[.nilFunc]⟩:=rfl
theorem jjm:ak Try.prog 67 jl5:=al (z:= .agg #[(.string ⟨#[]⟩),(.slice none 0 0),(.slice none 0 0)]) (by kernel_rfl) Try.underlying67 rfl rfl (by intro h;cases h) (fun h=>by cases h)
theorem jq2:tt 67=some ⟨.strct false [(0,9),(1,25),(2,25)],3,64,[(.string ⟨#[]⟩),(.slice none 0 0),(.slice none 0 0)]⟩:=rfl
theorem jjn:ak Try.prog 68 jl6:=al (z:= .agg #[(.string ⟨#[]⟩),(.slice none 0 0),(.slice none 0 0)]) (by kernel_rfl) Try.underlying68 rfl rfl (by intro h;cases h) (fun h=>by cases h)
theorem jq3:tt 68=some ⟨.strct false [(0,9),(1,25),(2,25)],3,64,[(.string ⟨#[]⟩),(.slice none 0 0),(.slice none 0 0)]⟩:=rfl
theorem jjo:ak Try.prog 69 jl7:=al (z:= .nilFunc) (by kernel_rfl) Try.underlying69 rfl rfl (by intro h;cases h) (fun h=>by cases h)
theorem jq4:tt 69=some ⟨.other,1,8,[.nilFunc]⟩:=rfl
theorem jjp:ak Try.prog 70 jl8:=al (z:= .nilFunc) (by kernel_rfl) Try.underlying70 rfl rfl (by intro h;cases h) (fun h=>by cases h)
theorem jq5:tt 70=some ⟨.other,1,8,[.nilFunc]⟩:=rfl
theorem jjq:ak Try.prog 71 jl9:=al (z:= .nilFunc) (by kernel_rfl) Try.underlying71 rfl rfl (by intro h;cases h) (fun h=>by cases h)
theorem jq6:tt 71=some ⟨.other,1,8,[.nilFunc]⟩:=rfl
theorem jjr:ak Try.prog 72 jma:=al (z:= .nilFunc) (by kernel_rfl) Try.underlying72 rfl rfl (by intro h;cases h) (fun h=>by cases h)
theorem jq7:tt 72=some ⟨.other,1,8,[.nilFunc]⟩:=rfl
theorem jjs:ak Try.prog 73 jmb:=al (z:= .nilFunc) (by kernel_rfl) Try.underlying73 rfl rfl (by intro h;cases h) (fun h=>by cases h)
theorem jq8:tt 73=some ⟨.other,1,8,[.nilFunc]⟩:=rfl
theorem jjt:ak Try.prog 74 jmc:=al (z:= .nilFunc) (by kernel_rfl) Try.underlying74 rfl rfl (by intro h;cases h) (fun h=>by cases h)
theorem jq9:tt 74=some ⟨.other,1,8,[.nilFunc]⟩:=rfl
theorem jju:ak Try.prog 75 jmd:=al (z:=(.map none)) (by kernel_rfl) Try.underlying75 rfl rfl (by intro h;cases h) (fun h=>by cases h)
theorem jra:tt 75=some ⟨.map 3 115,1,8,[(.map none)]⟩:=rfl
theorem jjv:ak Try.prog 76 jme:=al (z:= .agg #[(.map none),(.int .i64 0),(.int .i64 0)]) (by kernel_rfl) Try.underlying76 rfl rfl (by intro h;cases h) (fun h=>by cases h)
theorem jrb:tt 76=some ⟨.strct false [(0,75),(1,3),(2,3)],3,24,[(.map none),(.int .i64 0),(.int .i64 0)]⟩:=rfl
theorem jjw:ak Try.prog 77 jmf:=al (z:= .agg #[(.map none),(.int .i64 0),(.int .i64 0)]) (by kernel_rfl) Try.underlying77 rfl rfl (by intro h;cases h) (fun h=>by cases h)
theorem jrc:tt 77=some ⟨.strct false [(0,75),(1,3),(2,3)],3,24,[(.map none),(.int .i64 0),(.int .i64 0)]⟩:=rfl
theorem jjx:ak Try.prog 79 jmg:=al (z:= .nilFunc) (by kernel_rfl) Try.underlying79 rfl rfl (by intro h;cases h) (fun h=>by cases h)
theorem jrd:tt 79=some ⟨.other,1,8,[.nilFunc]⟩:=rfl
theorem jjy:ak Try.prog 81 jmh:=al (z:= .nilFunc) (by kernel_rfl) Try.underlying81 rfl rfl (by intro h;cases h) (fun h=>by cases h)
theorem jre:tt 81=some ⟨.other,1,8,[.nilFunc]⟩:=rfl
theorem jjz:ak Try.prog 82 jmi:=al (z:= .nilFunc) (by kernel_rfl) Try.underlying82 rfl rfl (by intro h;cases h) (fun h=>by cases h)
theorem jrf:tt 82=some ⟨.other,1,8,[.nilFunc]⟩:=rfl
theorem jj0:ak Try.prog 83 jmj:=al (z:= .nilFunc) (by kernel_rfl) Try.underlying83 rfl rfl (by intro h;cases h) (fun h=>by cases h)
theorem jrg:tt 83=some ⟨.other,1,8,[.nilFunc]⟩:=rfl
theorem jj1:ak Try.prog 84 jmk:=al (z:=(.slice none 0 0)) (by kernel_rfl) Try.underlying84 rfl rfl (by intro h;cases h) (fun _=>rfl)
theorem jrh:tt 84=some ⟨.slice 25,1,24,[(.slice none 0 0)]⟩:=rfl
theorem jj2:ak Try.prog 85 jml:=al (z:=(.slice none 0 0)) (by kernel_rfl) Try.underlying85 rfl rfl (by intro h;cases h) (fun _=>rfl)
theorem jri:tt 85=some ⟨.slice 126,1,24,[(.slice none 0 0)]⟩:=rfl
theorem jj3:ak Try.prog 86 jmm:=al (z:= .agg #[(.slice none 0 0),(.slice none 0 0),(.bool false)]) (by kernel_rfl) Try.underlying86 rfl rfl (by intro h;cases h) (fun h=>by cases h)
theorem jrj:tt 86=some ⟨.strct false [(0,84),(1,85),(2,4)],3,56,[(.slice none 0 0),(.slice none 0 0),(.bool false)]⟩:=rfl
theorem jj4:ak Try.prog 87 jmn:=al (z:= .agg #[(.slice none 0 0),(.slice none 0 0),(.bool false)]) (by kernel_rfl) Try.underlying87 rfl rfl (by intro h;cases h) (fun h=>by cases h)
theorem jrk:tt 87=some ⟨.strct false [(0,84),(1,85),(2,4)],3,56,[(.slice none 0 0),(.slice none 0 0),(.bool false)]⟩:=rfl
theorem jj5:ak Try.prog 88 jmo:=al (z:=(.slice none 0 0)) (by kernel_rfl) Try.underlying88 rfl rfl (by intro h;cases h) (fun _=>rfl)
theorem jrl:tt 88=some ⟨.slice 4,1,24,[(.slice none 0 0)]⟩:=rfl
theorem jj6:ak Try.prog 89 jmp:=al (z:= .agg #[(.slice none 0 0),(.slice none 0 0),(.bool false),(.int .i64 0),(.slice none 0 0)]) (by kernel_rfl) Try.underlying89 rfl rfl (by intro h;cases h) (fun h=>by cases h)
theorem jrm:tt 89=some ⟨.strct false [(0,87),(3,3),(4,88)],5,88,[(.slice none 0 0),(.slice none 0 0),(.bool false),(.int .i64 0),(.slice none 0 0)]⟩:=rfl
theorem jj7:ak Try.prog 90 jmq:=al (z:= .agg #[(.slice none 0 0),(.slice none 0 0),(.bool false),(.int .i64 0),(.slice none 0 0)]) (by kernel_rfl) Try.underlying90 rfl rfl (by intro h;cases h) (fun h=>by cases h)
theorem jrn:tt 90=some ⟨.strct false [(0,87),(3,3),(4,88)],5,88,[(.slice none 0 0),(.slice none 0 0),(.bool false),(.int .i64 0),(.slice none 0 0)]⟩:=rfl
theorem jj8:ak Try.prog 92 jmr:=al (z:= .nilFunc) (by kernel_rfl) Try.underlying92 rfl rfl (by intro h;cases h) (fun h=>by cases h)
theorem jro:tt 92=some ⟨.other,1,8,[.nilFunc]⟩:=rfl
theorem jj9:ak Try.prog 93 jms:=al (z:= .nilFunc) (by kernel_rfl) Try.underlying93 rfl rfl (by intro h;cases h) (fun h=>by cases h)
theorem jrp:tt 93=some ⟨.other,1,8,[.nilFunc]⟩:=rfl
theorem jka:ak Try.prog 94 jmt:=al (z:= .nilFunc) (by kernel_rfl) Try.underlying94 rfl rfl (by intro h;cases h) (fun h=>by cases h)
theorem jrq:tt 94=some ⟨.other,1,8,[.nilFunc]⟩:=rfl
theorem jkb:ak Try.prog 95 jmu:=al (z:= .nilFunc) (by kernel_rfl) Try.underlying95 rfl rfl (by intro h;cases h) (fun h=>by cases h)
theorem jrr:tt 95=some ⟨.other,1,8,[.nilFunc]⟩:=rfl
theorem jkc:ak Try.prog 96 jmv:=al (z:= .nilFunc) (by kernel_rfl) Try.underlying96 rfl rfl (by intro h;cases h) (fun h=>by cases h)
theorem jrs:tt 96=some ⟨.other,1,8,[.nilFunc]⟩:=rfl
theorem jkd:ak Try.prog 97 jmw:=al (z:= .nilFunc) (by kernel_rfl) Try.underlying97 rfl rfl (by intro h;cases h) (fun h=>by cases h)
theorem jrt:tt 97=some ⟨.other,1,8,[.nilFunc]⟩:=rfl
theorem jke:ak Try.prog 98 jmx:=al (z:= .nilFunc) (by kernel_rfl) Try.underlying98 rfl rfl (by intro h;cases h) (fun h=>by cases h)
theorem jru:tt 98=some ⟨.other,1,8,[.nilFunc]⟩:=rfl
theorem jkf:ak Try.prog 99 jmy:=al (z:= .nilFunc) (by kernel_rfl) Try.underlying99 rfl rfl (by intro h;cases h) (fun h=>by cases h)
theorem jrv:tt 99=some ⟨.other,1,8,[.nilFunc]⟩:=rfl
theorem je8:ak Try.prog 100 jcj:=al (z:= .nilFunc) (by kernel_rfl) Try.underlying100 rfl rfl (by intro h;cases h) (fun h=>by cases h)
theorem jmz:tt 100=some ⟨.other,1,8,[.nilFunc]⟩:=rfl
theorem je9:ak Try.prog 101 jck:=al (z:= .nilFunc) (by kernel_rfl) Try.underlying101 rfl rfl (by intro h;cases h) (fun h=>by cases h)
theorem jm0:tt 101=some ⟨.other,1,8,[.nilFunc]⟩:=rfl
theorem jfa:ak Try.prog 102 jcl:=al (z:= .nilFunc) (by kernel_rfl) Try.underlying102 rfl rfl (by intro h;cases h) (fun h=>by cases h)
theorem jm1:tt 102=some ⟨.other,1,8,[.nilFunc]⟩:=rfl
theorem jfb:ak Try.prog 103 jcm:=al (z:= .nilFunc) (by kernel_rfl) Try.underlying103 rfl rfl (by intro h;cases h) (fun h=>by cases h)
theorem jm2:tt 103=some ⟨.other,1,8,[.nilFunc]⟩:=rfl
theorem jfc:ak Try.prog 104 jcn:=al (z:= .nilFunc) (by kernel_rfl) Try.underlying104 rfl rfl (by intro h;cases h) (fun h=>by cases h)
theorem jm3:tt 104=some ⟨.other,1,8,[.nilFunc]⟩:=rfl
theorem jfd:ak Try.prog 105 jco:=al (z:= .agg #[(.int .i64 0),(.int .i64 0),(.bool false)]) (by kernel_rfl) Try.underlying105 rfl rfl (by exact fun _=>⟨by kernel_rfl,by kernel_rfl,by kernel_rfl⟩) (fun h=>by cases h)
theorem jm4:tt 105=some ⟨.strct true [(0,3),(1,3),(2,4)],3,24,[(.int .i64 0),(.int .i64 0),(.bool false)]⟩:=rfl
theorem jfe:ak Try.prog 106 jcp:=al (z:= .agg #[(.int .i64 0),(.int .i64 0),(.bool false)]) (by kernel_rfl) Try.underlying106 rfl rfl (by exact fun _=>⟨by kernel_rfl,by kernel_rfl,by kernel_rfl⟩) (fun h=>by cases h)
theorem jm5:tt 106=some ⟨.strct true [(0,3),(1,3),(2,4)],3,24,[(.int .i64 0),(.int .i64 0),(.bool false)]⟩:=rfl
theorem jff:ak Try.prog 107 jcq:=al (z:=(.slice none 0 0)) (by kernel_rfl) Try.underlying107 rfl rfl (by intro h;cases h) (fun _=>rfl)
theorem jm6:tt 107=some ⟨.slice 106,1,24,[(.slice none 0 0)]⟩:=rfl
theorem jfg:ak Try.prog 108 jcr:=al (z:= .nilFunc) (by kernel_rfl) Try.underlying108 rfl rfl (by intro h;cases h) (fun h=>by cases h)
theorem jm7:tt 108=some ⟨.other,1,8,[.nilFunc]⟩:=rfl
theorem jfh:ak Try.prog 109 jcs:=al (z:= .nilFunc) (by kernel_rfl) Try.underlying109 rfl rfl (by intro h;cases h) (fun h=>by cases h)
theorem jm8:tt 109=some ⟨.other,1,8,[.nilFunc]⟩:=rfl
theorem jfi:ak Try.prog 110 jct:=al (z:= .nilFunc) (by kernel_rfl) Try.underlying110 rfl rfl (by intro h;cases h) (fun h=>by cases h)
theorem jm9:tt 110=some ⟨.other,1,8,[.nilFunc]⟩:=rfl
theorem jfj:ak Try.prog 111 jcu:=al (z:= .nilFunc) (by kernel_rfl) Try.underlying111 rfl rfl (by intro h;cases h) (fun h=>by cases h)
theorem jna:tt 111=some ⟨.other,1,8,[.nilFunc]⟩:=rfl
theorem jfk:ak Try.prog 112 jcv:=al (z:= .nilFunc) (by kernel_rfl) Try.underlying112 rfl rfl (by intro h;cases h) (fun h=>by cases h)
theorem jnb:tt 112=some ⟨.other,1,8,[.nilFunc]⟩:=rfl
theorem jfl:ak Try.prog 113 jcw:=al (z:= .nilFunc) (by kernel_rfl) Try.underlying113 rfl rfl (by intro h;cases h) (fun h=>by cases h)
theorem jnc:tt 113=some ⟨.other,1,8,[.nilFunc]⟩:=rfl
theorem jfm:ak Try.prog 114 jcx:=al (z:= .nilFunc) (by kernel_rfl) Try.underlying114 rfl rfl (by intro h;cases h) (fun h=>by cases h)
theorem jnd:tt 114=some ⟨.other,1,8,[.nilFunc]⟩:=rfl
theorem jfn:ak Try.prog 115 jcy:=al (z:=(.slice none 0 0)) (by kernel_rfl) Try.underlying115 rfl rfl (by intro h;cases h) (fun _=>rfl)
theorem jne:tt 115=some ⟨.slice 121,1,24,[(.slice none 0 0)]⟩:=rfl
theorem jfo:ak Try.prog 116 jcz:=al (z:=(.slice none 0 0)) (by kernel_rfl) Try.underlying116 rfl rfl (by intro h;cases h) (fun _=>rfl)
theorem jnf:tt 116=some ⟨.slice 119,1,24,[(.slice none 0 0)]⟩:=rfl
theorem jfp:ak Try.prog 117 jc0:=al (z:= .nilFunc) (by kernel_rfl) Try.underlying117 rfl rfl (by intro h;cases h) (fun h=>by cases h)
theorem jng:tt 117=some ⟨.other,1,8,[.nilFunc]⟩:=rfl
theorem jfq:ak Try.prog 118 jc1:=al (z:= .agg #[(.bool false),(.int .i64 0),(.int .i64 0)]) (by kernel_rfl) Try.underlying118 rfl rfl (by exact fun _=>⟨by kernel_rfl,by kernel_rfl,by kernel_rfl⟩) (fun h=>by cases h)
theorem jnh:tt 118=some ⟨.strct true [(0,4),(1,3),(2,3)],3,24,[(.bool false),(.int .i64 0),(.int .i64 0)]⟩:=rfl
theorem jfr:ak Try.prog 119 jc2:=al (z:= .agg #[(.bool false),(.int .i64 0),(.int .i64 0)]) (by kernel_rfl) Try.underlying119 rfl rfl (by exact fun _=>⟨by kernel_rfl,by kernel_rfl,by kernel_rfl⟩) (fun h=>by cases h)
theorem jni:tt 119=some ⟨.strct true [(0,4),(1,3),(2,3)],3,24,[(.bool false),(.int .i64 0),(.int .i64 0)]⟩:=rfl
theorem jfs:ak Try.prog 120 jc3:=al (z:= .agg #[(.int .i64 0),(.int .i64 0)]) (by kernel_rfl) Try.underlying120 rfl rfl (by exact fun _=>⟨by kernel_rfl,by kernel_rfl,by kernel_rfl⟩) (fun h=>by cases h)
theorem jnj:tt 120=some ⟨.strct true [(0,3),(1,3)],2,16,[(.int .i64 0),(.int .i64 0)]⟩:=rfl
theorem jft:ak Try.prog 121 jc4:=al (z:= .agg #[(.int .i64 0),(.int .i64 0)]) (by kernel_rfl) Try.underlying121 rfl rfl (by exact fun _=>⟨by kernel_rfl,by kernel_rfl,by kernel_rfl⟩) (fun h=>by cases h)
theorem jnk:tt 121=some ⟨.strct true [(0,3),(1,3)],2,16,[(.int .i64 0),(.int .i64 0)]⟩:=rfl
theorem jfu:ak Try.prog 123 jc5:=al (z:= .nilFunc) (by kernel_rfl) Try.underlying123 rfl rfl (by intro h;cases h) (fun h=>by cases h)
theorem jnl:tt 123=some ⟨.other,1,8,[.nilFunc]⟩:=rfl
theorem jfv:ak Try.prog 124 jc6:=al (z:= .nilFunc) (by kernel_rfl) Try.underlying124 rfl rfl (by intro h;cases h) (fun h=>by cases h)
theorem jnm:tt 124=some ⟨.other,1,8,[.nilFunc]⟩:=rfl
theorem jfw:ak Try.prog 125 jc7:=al (z:= .agg #[(.int .i64 0),(.int .i64 0),(.int .i64 0)]) (by kernel_rfl) Try.underlying125 rfl rfl (by exact fun _=>⟨by kernel_rfl,by kernel_rfl,by kernel_rfl⟩) (fun h=>by cases h)
theorem jnn:tt 125=some ⟨.strct true [(0,3),(1,3),(2,3)],3,24,[(.int .i64 0),(.int .i64 0),(.int .i64 0)]⟩:=rfl
theorem jfx:ak Try.prog 126 jc8:=al (z:= .agg #[(.int .i64 0),(.int .i64 0),(.int .i64 0)]) (by kernel_rfl) Try.underlying126 rfl rfl (by exact fun _=>⟨by kernel_rfl,by kernel_rfl,by kernel_rfl⟩) (fun h=>by cases h)
theorem jno:tt 126=some ⟨.strct true [(0,3),(1,3),(2,3)],3,24,[(.int .i64 0),(.int .i64 0),(.int .i64 0)]⟩:=rfl
theorem jfy:ak Try.prog 127 jc9:=al (z:= .nilFunc) (by kernel_rfl) Try.underlying127 rfl rfl (by intro h;cases h) (fun h=>by cases h)
theorem jnp:tt 127=some ⟨.other,1,8,[.nilFunc]⟩:=rfl
theorem jfz:ak Try.prog 128 jda:=al (z:=(.map none)) (by kernel_rfl) Try.underlying128 rfl rfl (by intro h;cases h) (fun h=>by cases h)
theorem jnq:tt 128=some ⟨.map 3 4,1,8,[(.map none)]⟩:=rfl
theorem jf0:ak Try.prog 129 jdb:=al (z:= .nilFunc) (by kernel_rfl) Try.underlying129 rfl rfl (by intro h;cases h) (fun h=>by cases h)
theorem jnr:tt 129=some ⟨.other,1,8,[.nilFunc]⟩:=rfl
theorem jf1:ak Try.prog 131 jdc:=al (z:= .nilFunc) (by kernel_rfl) Try.underlying131 rfl rfl (by intro h;cases h) (fun h=>by cases h)
theorem jns:tt 131=some ⟨.other,1,8,[.nilFunc]⟩:=rfl
theorem jf2:ak Try.prog 132 jdd:=al (z:= .nilFunc) (by kernel_rfl) Try.underlying132 rfl rfl (by intro h;cases h) (fun h=>by cases h)
theorem jnt:tt 132=some ⟨.other,1,8,[.nilFunc]⟩:=rfl
theorem jf3:ak Try.prog 133 jde:=al (z:= .nilFunc) (by kernel_rfl) Try.underlying133 rfl rfl (by intro h;cases h) (fun h=>by cases h)
theorem jnu:tt 133=some ⟨.other,1,8,[.nilFunc]⟩:=rfl
theorem jf4:ak Try.prog 134 jdf:=al (z:= .nilFunc) (by kernel_rfl) Try.underlying134 rfl rfl (by intro h;cases h) (fun h=>by cases h)
theorem jnv:tt 134=some ⟨.other,1,8,[.nilFunc]⟩:=rfl
theorem jf5:ak Try.prog 135 jdg:=al (z:= .nilFunc) (by kernel_rfl) Try.underlying135 rfl rfl (by intro h;cases h) (fun h=>by cases h)
theorem jnw:tt 135=some ⟨.other,1,8,[.nilFunc]⟩:=rfl
theorem jf6:ak Try.prog 136 jdh:=al (z:= .nilFunc) (by kernel_rfl) Try.underlying136 rfl rfl (by intro h;cases h) (fun h=>by cases h)
theorem jnx:tt 136=some ⟨.other,1,8,[.nilFunc]⟩:=rfl
theorem jf7:ak Try.prog 137 jdi:=al (z:= .nilFunc) (by kernel_rfl) Try.underlying137 rfl rfl (by intro h;cases h) (fun h=>by cases h)
theorem jny:tt 137=some ⟨.other,1,8,[.nilFunc]⟩:=rfl
theorem jf8:ak Try.prog 138 jdj:=al (z:= .nilFunc) (by kernel_rfl) Try.underlying138 rfl rfl (by intro h;cases h) (fun h=>by cases h)
theorem jnz:tt 138=some ⟨.other,1,8,[.nilFunc]⟩:=rfl
theorem jf9:ak Try.prog 140 jdk:=al (z:= .nilFunc) (by kernel_rfl) Try.underlying140 rfl rfl (by intro h;cases h) (fun h=>by cases h)
theorem jn0:tt 140=some ⟨.other,1,8,[.nilFunc]⟩:=rfl
theorem jga:ak Try.prog 141 jdl:=al (z:= .nilFunc) (by kernel_rfl) Try.underlying141 rfl rfl (by intro h;cases h) (fun h=>by cases h)
theorem jn1:tt 141=some ⟨.other,1,8,[.nilFunc]⟩:=rfl
theorem jgb:ak Try.prog 142 jdm:=al (z:=(.map none)) (by kernel_rfl) Try.underlying142 rfl rfl (by intro h;cases h) (fun h=>by cases h)
theorem jn2:tt 142=some ⟨.map 9 3,1,8,[(.map none)]⟩:=rfl
theorem jgc:ak Try.prog 143 jdn:=al (z:= .nilFunc) (by kernel_rfl) Try.underlying143 rfl rfl (by intro h;cases h) (fun h=>by cases h)
theorem jn3:tt 143=some ⟨.other,1,8,[.nilFunc]⟩:=rfl
theorem jgd:ak Try.prog 144 jdo:=al (z:= .nilFunc) (by kernel_rfl) Try.underlying144 rfl rfl (by intro h;cases h) (fun h=>by cases h)
theorem jn4:tt 144=some ⟨.other,1,8,[.nilFunc]⟩:=rfl
theorem jge:ak Try.prog 145 jdp:=al (z:=(.int .u64 0)) (by kernel_rfl) Try.underlying145 rfl rfl (by intro h;cases h) (fun _=>rfl)
theorem jn5:tt 145=some ⟨.int .u64,1,8,[(.int .u64 0)]⟩:=rfl
theorem jgf:ak Try.prog 147 jdq:=al (z:= .nilFunc) (by kernel_rfl) Try.underlying147 rfl rfl (by intro h;cases h) (fun h=>by cases h)
theorem jn6:tt 147=some ⟨.other,1,8,[.nilFunc]⟩:=rfl
theorem jgg:ak Try.prog 148 jdr:=al (z:=(.int .u32 0)) (by kernel_rfl) Try.underlying148 rfl rfl (by intro h;cases h) (fun _=>rfl)
theorem jn7:tt 148=some ⟨.int .u32,1,4,[(.int .u32 0)]⟩:=rfl
theorem jgh:ak Try.prog 150 jds:=al (z:= .nilFunc) (by kernel_rfl) Try.underlying150 rfl rfl (by intro h;cases h) (fun h=>by cases h)
theorem jn8:tt 150=some ⟨.other,1,8,[.nilFunc]⟩:=rfl
theorem jgi:ak Try.prog 151 jdt:=al (z:=(.int .u64 0)) (by kernel_rfl) Try.underlying151 rfl rfl (by intro h;cases h) (fun _=>rfl)
theorem jn9:tt 151=some ⟨.int .u64,1,8,[(.int .u64 0)]⟩:=rfl
theorem jgj:ak Try.prog 153 jdu:=al (z:= .nilFunc) (by kernel_rfl) Try.underlying153 rfl rfl (by intro h;cases h) (fun h=>by cases h)
theorem joa:tt 153=some ⟨.other,1,8,[.nilFunc]⟩:=rfl
theorem jgk:ak Try.prog 154 jdv:=al (z:= .nilFunc) (by kernel_rfl) Try.underlying154 rfl rfl (by intro h;cases h) (fun h=>by cases h)
theorem job:tt 154=some ⟨.other,1,8,[.nilFunc]⟩:=rfl
theorem jgl:ak Try.prog 155 jdw:=al (z:= .agg #[(.pointer none),(.pointer none),(.pointer none),(.string ⟨#[]⟩)]) (by kernel_rfl) Try.underlying155 rfl rfl (by intro h;cases h) (fun h=>by cases h)
theorem joc:tt 155=some ⟨.strct false [(0,17),(1,17),(2,17),(3,9)],4,40,[(.pointer none),(.pointer none),(.pointer none),(.string ⟨#[]⟩)]⟩:=rfl
theorem jgm:ak Try.prog 156 jdx:=al (z:= .agg #[(.pointer none),(.pointer none),(.pointer none),(.string ⟨#[]⟩)]) (by kernel_rfl) Try.underlying156 rfl rfl (by intro h;cases h) (fun h=>by cases h)
theorem jod:tt 156=some ⟨.strct false [(0,17),(1,17),(2,17),(3,9)],4,40,[(.pointer none),(.pointer none),(.pointer none),(.string ⟨#[]⟩)]⟩:=rfl
theorem jgn:ak Try.prog 157 jdy:=al (z:= .agg #[]) (by kernel_rfl) Try.underlying157 rfl rfl (by intro h;cases h) (fun h=>by cases h)
theorem joe:tt 157=some ⟨.arr false 0 16,0,0,[]⟩:=rfl
theorem jgo:ak Try.prog 158 jdz:=al (z:= .agg #[]) (by kernel_rfl) Try.underlying158 rfl rfl (by intro h;cases h) (fun h=>by cases h)
theorem jof:tt 158=some ⟨.strct false [(0,157)],0,0,[]⟩:=rfl
theorem jgp:ak Try.prog 159 jd0:=al (z:= .agg #[]) (by kernel_rfl) Try.underlying159 rfl rfl (by intro h;cases h) (fun h=>by cases h)
theorem jog:tt 159=some ⟨.strct false [(0,157)],0,0,[]⟩:=rfl
theorem jgq:ak Try.prog 160 jd1:=al (z:= .nilFunc) (by kernel_rfl) Try.underlying160 rfl rfl (by intro h;cases h) (fun h=>by cases h)
theorem joh:tt 160=some ⟨.other,1,8,[.nilFunc]⟩:=rfl
theorem jgr:ak Try.prog 161 jd2:=al (z:=(.int .u8 0)) (by kernel_rfl) Try.underlying161 rfl rfl (by intro h;cases h) (fun _=>rfl)
theorem joi:tt 161=some ⟨.int .u8,1,1,[(.int .u8 0)]⟩:=rfl
theorem jgs:ak Try.prog 162 jd3:=al (z:=(.int .u8 0)) (by kernel_rfl) Try.underlying162 rfl rfl (by intro h;cases h) (fun _=>rfl)
theorem joj:tt 162=some ⟨.int .u8,1,1,[(.int .u8 0)]⟩:=rfl
theorem jgt:ak Try.prog 163 jd4:=al (z:= .nilFunc) (by kernel_rfl) Try.underlying163 rfl rfl (by intro h;cases h) (fun h=>by cases h)
theorem jok:tt 163=some ⟨.other,1,8,[.nilFunc]⟩:=rfl
theorem jgu:ak Try.prog 164 jd5:=al (z:=(.pointer none)) (by kernel_rfl) Try.underlying164 rfl rfl (by intro h;cases h) (fun h=>by cases h)
theorem jol:tt 164=some ⟨.other,1,8,[(.pointer none)]⟩:=rfl
theorem jgv:ak Try.prog 165 jd6:=al (z:=(.int .i32 0)) (by kernel_rfl) Try.underlying165 rfl rfl (by intro h;cases h) (fun _=>rfl)
theorem jom:tt 165=some ⟨.int .i32,1,4,[(.int .i32 0)]⟩:=rfl
theorem jgw:ak Try.prog 166 jd7:=al (z:=(.int .i32 0)) (by kernel_rfl) Try.underlying166 rfl rfl (by intro h;cases h) (fun _=>rfl)
theorem jon:tt 166=some ⟨.int .i32,1,4,[(.int .i32 0)]⟩:=rfl
theorem jgx:ak Try.prog 167 jd8:=al (z:= .agg #[(.int .u64 0),(.int .u64 0),(.int .u32 0),(.int .u8 0),(.int .u8 0),(.int .u8 0),(.int .u8 0), .nilFunc,(.pointer none),(.int .i32 0),(.int .i32 0)]) (by kernel_rfl) Try.underlying167 rfl rfl (by intro h;cases h) (fun h=>by cases h)
theorem joo:tt 167=some ⟨.strct false [(0,12),(1,12),(2,148),(3,161),(4,5),(5,5),(6,162),(7,163),(8,164),(9,165),(10,166)],11,48,[(.int .u64 0),(.int .u64 0),(.int .u32 0),(.int .u8 0),(.int .u8 0),(.int .u8 0),(.int .u8 0), .nilFunc,(.pointer none),(.int .i32 0),(.int .i32 0)]⟩:=rfl
theorem jgy:ak Try.prog 168 jd9:=al (z:= .agg #[(.int .u64 0),(.int .u64 0),(.int .u32 0),(.int .u8 0),(.int .u8 0),(.int .u8 0),(.int .u8 0), .nilFunc,(.pointer none),(.int .i32 0),(.int .i32 0)]) (by kernel_rfl) Try.underlying168 rfl rfl (by intro h;cases h) (fun h=>by cases h)
theorem jop:tt 168=some ⟨.strct false [(0,12),(1,12),(2,148),(3,161),(4,5),(5,5),(6,162),(7,163),(8,164),(9,165),(10,166)],11,48,[(.int .u64 0),(.int .u64 0),(.int .u32 0),(.int .u8 0),(.int .u8 0),(.int .u8 0),(.int .u8 0), .nilFunc,(.pointer none),(.int .i32 0),(.int .i32 0)]⟩:=rfl
theorem jgz:ak Try.prog 169 jea:=al (z:=(.pointer none)) (by kernel_rfl) Try.underlying169 rfl rfl (by intro h;cases h) (fun h=>by cases h)
theorem joq:tt 169=some ⟨.other,1,8,[(.pointer none)]⟩:=rfl
set_option maxRecDepth 100000 in
theorem fits:dj Try.prog tt:=by
 intro t x h;unfold tt at h;split at h
 ·cases h;exact jo9
 ·cases h;exact jpa
 ·cases h;exact jpb
 ·cases h;exact jpc
 ·cases h;exact jpd
 ·cases h;exact jpe
 ·cases h;exact jpf
 ·cases h;exact jpg
 ·cases h;exact jph
 ·cases h;exact jh9
 ·cases h;exact jia
 ·cases h;exact jib
 ·cases h;exact jic
 ·cases h;exact jid
 ·cases h;exact jie
 ·cases h;exact jif
 ·cases h;exact jig
 ·cases h;exact jih
 ·cases h;exact jii
 ·cases h;exact jij
 ·cases h;exact jik
 ·cases h;exact jil
 ·cases h;exact jim
 ·cases h;exact jin
 ·cases h;exact jio
 ·cases h;exact jip
 ·cases h;exact jiq
 ·cases h;exact jir
 ·cases h;exact jis
 ·cases h;exact jit
 ·cases h;exact jiu
 ·cases h;exact jiv
 ·cases h;exact jiw
 ·cases h;exact jix
 ·cases h;exact jiy
 ·cases h;exact jiz
 ·cases h;exact ji0
 ·cases h;exact ji1
 ·cases h;exact ji2
 ·cases h;exact ji3
 ·cases h;exact ji4
 ·cases h;exact ji5
 ·cases h;exact ji6
 ·cases h;exact ji7
 ·cases h;exact ji8
 ·cases h;exact ji9
 ·cases h;exact jja
 ·cases h;exact jjb
 ·cases h;exact jjc
 ·cases h;exact jjd
 ·cases h;exact jje
 ·cases h;exact jjf
 ·cases h;exact jjg
 ·cases h;exact jjh
 ·cases h;exact jji
 ·cases h;exact jjj
 ·cases h;exact jjk
 ·cases h;exact jjl
 ·cases h;exact jjm
 ·cases h;exact jjn
 ·cases h;exact jjo
 ·cases h;exact jjp
 ·cases h;exact jjq
 ·cases h;exact jjr
 ·cases h;exact jjs
 ·cases h;exact jjt
 ·cases h;exact jju
 ·cases h;exact jjv
 ·cases h;exact jjw
 ·cases h;exact jjx
 ·cases h;exact jjy
 ·cases h;exact jjz
 ·cases h;exact jj0
 ·cases h;exact jj1
 ·cases h;exact jj2
 ·cases h;exact jj3
 ·cases h;exact jj4
 ·cases h;exact jj5
 ·cases h;exact jj6
 ·cases h;exact jj7
 ·cases h;exact jj8
 ·cases h;exact jj9
 ·cases h;exact jka
 ·cases h;exact jkb
 ·cases h;exact jkc
 ·cases h;exact jkd
 ·cases h;exact jke
 ·cases h;exact jkf
 ·cases h;exact je8
 ·cases h;exact je9
 ·cases h;exact jfa
 ·cases h;exact jfb
 ·cases h;exact jfc
 ·cases h;exact jfd
 ·cases h;exact jfe
 ·cases h;exact jff
 ·cases h;exact jfg
 ·cases h;exact jfh
 ·cases h;exact jfi
 ·cases h;exact jfj
 ·cases h;exact jfk
 ·cases h;exact jfl
 ·cases h;exact jfm
 ·cases h;exact jfn
 ·cases h;exact jfo
 ·cases h;exact jfp
 ·cases h;exact jfq
 ·cases h;exact jfr
 ·cases h;exact jfs
 ·cases h;exact jft
 ·cases h;exact jfu
 ·cases h;exact jfv
 ·cases h;exact jfw
 ·cases h;exact jfx
 ·cases h;exact jfy
 ·cases h;exact jfz
 ·cases h;exact jf0
 ·cases h;exact jf1
 ·cases h;exact jf2
 ·cases h;exact jf3
 ·cases h;exact jf4
 ·cases h;exact jf5
 ·cases h;exact jf6
 ·cases h;exact jf7
 ·cases h;exact jf8
 ·cases h;exact jf9
 ·cases h;exact jga
 ·cases h;exact jgb
 ·cases h;exact jgc
 ·cases h;exact jgd
 ·cases h;exact jge
 ·cases h;exact jgf
 ·cases h;exact jgg
 ·cases h;exact jgh
 ·cases h;exact jgi
 ·cases h;exact jgj
 ·cases h;exact jgk
 ·cases h;exact jgl
 ·cases h;exact jgm
 ·cases h;exact jgn
 ·cases h;exact jgo
 ·cases h;exact jgp
 ·cases h;exact jgq
 ·cases h;exact jgr
 ·cases h;exact jgs
 ·cases h;exact jgt
 ·cases h;exact jgu
 ·cases h;exact jgv
 ·cases h;exact jgw
 ·cases h;exact jgx
 ·cases h;exact jgy
 ·cases h;exact jgz
 ·cases h
theorem ck:Try.prog.follows .mixedOrders=true:=rfl
attribute [go_sem] tt1 tt2 tt3 tt4 tt5 tt6 tt7 tt8 tt9 jpp jpq jpr jps jpt jpu jpv jpw jpx jpy jpz jp0 jp1 jp2 jp3 jp4 jp5 jp6 jp7 jp8 jp9 jqa jqb jqc jqd jqe jqf jqg jqh jqi jqj jqk jql jqm jqn jqo jqp jqq jqr jqs jqt jqu jqv jqw jqx jqy jqz jq0 jq1 jq2 jq3 jq4 jq5 jq6 jq7 jq8 jq9 jra jrb jrc jrd jre jrf jrg jrh jri jrj jrk jrl jrm jrn jro jrp jrq jrr jrs jrt jru jrv jmz jm0 jm1 jm2 jm3 jm4 jm5 jm6 jm7 jm8 jm9 jna jnb jnc jnd jne jnf jng jnh jni jnj jnk jnl jnm jnn jno jnp jnq jnr jns jnt jnu jnv jnw jnx jny jnz jn0 jn1 jn2 jn3 jn4 jn5 jn6 jn7 jn8 jn9 joa job joc jod joe jof jog joh joi joj jok jol jom jon joo jop joq
end Go.Proofs.Ytokeielgplbdeaa
