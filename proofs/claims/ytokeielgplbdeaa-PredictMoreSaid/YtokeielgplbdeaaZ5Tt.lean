/-
  The types of this seat's program: a row a type (its kind, cells, bytes, the cells of its zero value), and that each row is the program's own. Made by program out of the translation.
-/
import Derived.Test.YtokeielgplbdeaaZ5KE
import Derived.Test.YtokeielgplbdeaaProg
import Derived.KernelRfl
set_option linter.all false
namespace Go.Proofs.Ytokeielgplbdeaa
open Go.K Go.M
theorem am{P:Program}{t:TypeId}{k:TK}{sz by_:Nat}{zs:List Value}{z:Value}{d:TypeDesc}(h1:(P.info? t).map (fun i=>(i.zero,i.size,i.bytes))=some (some z,sz,by_))(h2:P.underlying t=some d)(h3:TK.of d=k.plain)(h4:z.cells.toList=zs)(h5:k.cmp=true→Cmp P t)(h6:k.one=true→zs=[z]):ak P t ⟨k,sz,by_,zs⟩:=by
 cases hi:P.info? t with
 |none=>simp[hi]at h1
 |some i=>
  simp only[hi,Option.map_some,Option.some.injEq,Prod.mk.injEq]at h1;exact⟨⟨i,d,z,hi,h2,h3,h1.2.1,h1.2.2,h1.1,h4⟩,h5,fun e=>⟨i,z,hi,h1.1,h6 e⟩⟩
def ti1:TI:=⟨.other,1,8,[.nilFunc]⟩
def ti2:TI:=⟨.int .i64,1,8,[(.int .i64 0)]⟩
def ti3:TI:=⟨.int .i64,1,8,[(.int .i64 0)]⟩
def ti4:TI:=⟨.bool,1,1,[(.bool false)]⟩
def ti5:TI:=⟨.int .u8,1,1,[(.int .u8 0)]⟩
def ti6:TI:=⟨.int .u8,1,1,[(.int .u8 0)]⟩
def ti7:TI:=⟨.strct true [(0,2),(1,3),(2,4),(3,6)],4,24,[(.int .i64 0),(.int .i64 0),(.bool false),(.int .u8 0)]⟩
def ti8:TI:=⟨.strct true [(0,2),(1,3),(2,4),(3,6)],4,24,[(.int .i64 0),(.int .i64 0),(.bool false),(.int .u8 0)]⟩
def ti9:TI:=⟨.str,1,16,[(.string ⟨#[]⟩)]⟩
def jjk:TI:=⟨.str,1,16,[(.string ⟨#[]⟩)]⟩
def jjl:TI:=⟨.str,1,16,[(.string ⟨#[]⟩)]⟩
def jjm:TI:=⟨.int .u64,1,8,[(.int .u64 0)]⟩
def jjn:TI:=⟨.strct false [(0,9),(1,12)],2,24,[(.string ⟨#[]⟩),(.int .u64 0)]⟩
def jjo:TI:=⟨.strct false [(0,9),(1,12)],2,24,[(.string ⟨#[]⟩),(.int .u64 0)]⟩
def jjp:TI:=⟨.other,1,8,[(.pointer none)]⟩
def jjq:TI:=⟨.other,1,8,[(.pointer none)]⟩
def jjr:TI:=⟨.other,1,8,[(.pointer none)]⟩
def jjs:TI:=⟨.strct false [(0,17)],1,8,[(.pointer none)]⟩
def jjt:TI:=⟨.strct false [(0,17)],1,8,[(.pointer none)]⟩
def jju:TI:=⟨.other,1,16,[.nilIface]⟩
def jjv:TI:=⟨.int .i32,1,4,[(.int .i32 0)]⟩
def jjw:TI:=⟨.slice 68,1,24,[(.slice none 0 0)]⟩
def jjx:TI:=⟨.strct false [(0,3),(1,22),(2,3),(3,3)],4,48,[(.int .i64 0),(.slice none 0 0),(.int .i64 0),(.int .i64 0)]⟩
def jjy:TI:=⟨.strct false [(0,3),(1,22),(2,3),(3,3)],4,48,[(.int .i64 0),(.slice none 0 0),(.int .i64 0),(.int .i64 0)]⟩
def jjz:TI:=⟨.slice 3,1,24,[(.slice none 0 0)]⟩
def jj0:TI:=⟨.slice 40,1,24,[(.slice none 0 0)]⟩
def jj1:TI:=⟨.other,1,8,[.nilFunc]⟩
def jj2:TI:=⟨.other,1,8,[.nilFunc]⟩
def jj3:TI:=⟨.int .i64,1,8,[(.int .i64 0)]⟩
def jj4:TI:=⟨.other,1,8,[.nilFunc]⟩
def jj5:TI:=⟨.other,1,8,[.nilFunc]⟩
def jj6:TI:=⟨.other,1,8,[.nilFunc]⟩
def jj7:TI:=⟨.other,1,8,[.nilFunc]⟩
def jj8:TI:=⟨.other,1,8,[.nilFunc]⟩
def jj9:TI:=⟨.other,1,8,[.nilFunc]⟩
def jka:TI:=⟨.slice 5,1,24,[(.slice none 0 0)]⟩
def jkb:TI:=⟨.strct true [(0,3),(1,3),(2,4)],3,24,[(.int .i64 0),(.int .i64 0),(.bool false)]⟩
def jkc:TI:=⟨.strct true [(0,3),(1,3),(2,4)],3,24,[(.int .i64 0),(.int .i64 0),(.bool false)]⟩
def jkd:TI:=⟨.other,1,8,[.nilFunc]⟩
def jke:TI:=⟨.other,1,8,[.nilFunc]⟩
def jkf:TI:=⟨.other,1,8,[.nilFunc]⟩
def jkg:TI:=⟨.other,1,8,[.nilFunc]⟩
def jkh:TI:=⟨.other,1,8,[.nilFunc]⟩
def jki:TI:=⟨.other,1,8,[.nilFunc]⟩
def jkj:TI:=⟨.other,1,8,[.nilFunc]⟩
def jkk:TI:=⟨.other,1,8,[.nilFunc]⟩
def jkl:TI:=⟨.other,1,8,[.nilFunc]⟩
def jkm:TI:=⟨.other,1,8,[.nilFunc]⟩
def jkn:TI:=⟨.other,1,8,[.nilFunc]⟩
def jko:TI:=⟨.other,1,8,[.nilFunc]⟩
def jkp:TI:=⟨.other,1,8,[.nilFunc]⟩
def jkq:TI:=⟨.other,1,8,[.nilFunc]⟩
def jkr:TI:=⟨.other,1,8,[.nilFunc]⟩
def jks:TI:=⟨.other,1,8,[.nilFunc]⟩
def jkt:TI:=⟨.other,1,8,[.nilFunc]⟩
def jku:TI:=⟨.other,1,8,[.nilFunc]⟩
def jkv:TI:=⟨.other,1,8,[.nilFunc]⟩
def jkw:TI:=⟨.other,1,8,[.nilFunc]⟩
def jkx:TI:=⟨.strct false [(0,9),(1,25),(2,25)],3,64,[(.string ⟨#[]⟩),(.slice none 0 0),(.slice none 0 0)]⟩
def jky:TI:=⟨.strct false [(0,9),(1,25),(2,25)],3,64,[(.string ⟨#[]⟩),(.slice none 0 0),(.slice none 0 0)]⟩
def jkz:TI:=⟨.other,1,8,[.nilFunc]⟩
def jk0:TI:=⟨.other,1,8,[.nilFunc]⟩
def jk1:TI:=⟨.other,1,8,[.nilFunc]⟩
def jk2:TI:=⟨.other,1,8,[.nilFunc]⟩
def jk3:TI:=⟨.other,1,8,[.nilFunc]⟩
def jk4:TI:=⟨.other,1,8,[.nilFunc]⟩
def jk5:TI:=⟨.map 3 115,1,8,[(.map none)]⟩
def jk6:TI:=⟨.strct false [(0,75),(1,3),(2,3)],3,24,[(.map none),(.int .i64 0),(.int .i64 0)]⟩
def jk7:TI:=⟨.strct false [(0,75),(1,3),(2,3)],3,24,[(.map none),(.int .i64 0),(.int .i64 0)]⟩
def jk8:TI:=⟨.other,1,8,[.nilFunc]⟩
def jk9:TI:=⟨.other,1,8,[.nilFunc]⟩
def jla:TI:=⟨.other,1,8,[.nilFunc]⟩
def jlb:TI:=⟨.other,1,8,[.nilFunc]⟩
def jlc:TI:=⟨.slice 25,1,24,[(.slice none 0 0)]⟩
def jld:TI:=⟨.slice 126,1,24,[(.slice none 0 0)]⟩
def jle:TI:=⟨.strct false [(0,84),(1,85),(2,4)],3,56,[(.slice none 0 0),(.slice none 0 0),(.bool false)]⟩
def jlf:TI:=⟨.strct false [(0,84),(1,85),(2,4)],3,56,[(.slice none 0 0),(.slice none 0 0),(.bool false)]⟩
def jlg:TI:=⟨.slice 4,1,24,[(.slice none 0 0)]⟩
def jlh:TI:=⟨.strct false [(0,87),(3,3),(4,88)],5,88,[(.slice none 0 0),(.slice none 0 0),(.bool false),(.int .i64 0),(.slice none 0 0)]⟩
def jli:TI:=⟨.strct false [(0,87),(3,3),(4,88)],5,88,[(.slice none 0 0),(.slice none 0 0),(.bool false),(.int .i64 0),(.slice none 0 0)]⟩
def jlj:TI:=⟨.other,1,8,[.nilFunc]⟩
def jlk:TI:=⟨.other,1,8,[.nilFunc]⟩
def jll:TI:=⟨.other,1,8,[.nilFunc]⟩
def jlm:TI:=⟨.other,1,8,[.nilFunc]⟩
def jln:TI:=⟨.other,1,8,[.nilFunc]⟩
def jlo:TI:=⟨.other,1,8,[.nilFunc]⟩
def jlp:TI:=⟨.other,1,8,[.nilFunc]⟩
def jlq:TI:=⟨.other,1,8,[.nilFunc]⟩
def jba:TI:=⟨.other,1,8,[.nilFunc]⟩
def jbb:TI:=⟨.other,1,8,[.nilFunc]⟩
def jbc:TI:=⟨.other,1,8,[.nilFunc]⟩
def jbd:TI:=⟨.other,1,8,[.nilFunc]⟩
def jbe:TI:=⟨.other,1,8,[.nilFunc]⟩
def jbf:TI:=⟨.strct true [(0,3),(1,3),(2,4)],3,24,[(.int .i64 0),(.int .i64 0),(.bool false)]⟩
def jbg:TI:=⟨.strct true [(0,3),(1,3),(2,4)],3,24,[(.int .i64 0),(.int .i64 0),(.bool false)]⟩
def jbh:TI:=⟨.slice 106,1,24,[(.slice none 0 0)]⟩
def jbi:TI:=⟨.other,1,8,[.nilFunc]⟩
def jbj:TI:=⟨.other,1,8,[.nilFunc]⟩
def jbk:TI:=⟨.other,1,8,[.nilFunc]⟩
def jbl:TI:=⟨.other,1,8,[.nilFunc]⟩
def jbm:TI:=⟨.other,1,8,[.nilFunc]⟩
def jbn:TI:=⟨.other,1,8,[.nilFunc]⟩
def jbo:TI:=⟨.other,1,8,[.nilFunc]⟩
def jbp:TI:=⟨.slice 121,1,24,[(.slice none 0 0)]⟩
def jbq:TI:=⟨.slice 119,1,24,[(.slice none 0 0)]⟩
def jbr:TI:=⟨.other,1,8,[.nilFunc]⟩
def jbs:TI:=⟨.strct true [(0,4),(1,3),(2,3)],3,24,[(.bool false),(.int .i64 0),(.int .i64 0)]⟩
def jbt:TI:=⟨.strct true [(0,4),(1,3),(2,3)],3,24,[(.bool false),(.int .i64 0),(.int .i64 0)]⟩
def jbu:TI:=⟨.strct true [(0,3),(1,3)],2,16,[(.int .i64 0),(.int .i64 0)]⟩
def jbv:TI:=⟨.strct true [(0,3),(1,3)],2,16,[(.int .i64 0),(.int .i64 0)]⟩
def jbw:TI:=⟨.other,1,8,[.nilFunc]⟩
def jbx:TI:=⟨.other,1,8,[.nilFunc]⟩
def jby:TI:=⟨.strct true [(0,3),(1,3),(2,3)],3,24,[(.int .i64 0),(.int .i64 0),(.int .i64 0)]⟩
def jbz:TI:=⟨.strct true [(0,3),(1,3),(2,3)],3,24,[(.int .i64 0),(.int .i64 0),(.int .i64 0)]⟩
def jb0:TI:=⟨.other,1,8,[.nilFunc]⟩
def jb1:TI:=⟨.map 3 4,1,8,[(.map none)]⟩
def jb2:TI:=⟨.other,1,8,[.nilFunc]⟩
def jb3:TI:=⟨.other,1,8,[.nilFunc]⟩
def jb4:TI:=⟨.other,1,8,[.nilFunc]⟩
def jb5:TI:=⟨.other,1,8,[.nilFunc]⟩
def jb6:TI:=⟨.other,1,8,[.nilFunc]⟩
def jb7:TI:=⟨.other,1,8,[.nilFunc]⟩
def jb8:TI:=⟨.other,1,8,[.nilFunc]⟩
def jb9:TI:=⟨.other,1,8,[.nilFunc]⟩
def jca:TI:=⟨.other,1,8,[.nilFunc]⟩
def jcb:TI:=⟨.other,1,8,[.nilFunc]⟩
def jcc:TI:=⟨.other,1,8,[.nilFunc]⟩
def jcd:TI:=⟨.map 9 3,1,8,[(.map none)]⟩
def jce:TI:=⟨.other,1,8,[.nilFunc]⟩
def jcf:TI:=⟨.other,1,8,[.nilFunc]⟩
def jcg:TI:=⟨.int .u64,1,8,[(.int .u64 0)]⟩
def jch:TI:=⟨.other,1,8,[.nilFunc]⟩
def jci:TI:=⟨.int .u32,1,4,[(.int .u32 0)]⟩
def jcj:TI:=⟨.other,1,8,[.nilFunc]⟩
def jck:TI:=⟨.int .u64,1,8,[(.int .u64 0)]⟩
def jcl:TI:=⟨.other,1,8,[.nilFunc]⟩
def jcm:TI:=⟨.other,1,8,[.nilFunc]⟩
def jcn:TI:=⟨.strct false [(0,17),(1,17),(2,17),(3,9)],4,40,[(.pointer none),(.pointer none),(.pointer none),(.string ⟨#[]⟩)]⟩
def jco:TI:=⟨.strct false [(0,17),(1,17),(2,17),(3,9)],4,40,[(.pointer none),(.pointer none),(.pointer none),(.string ⟨#[]⟩)]⟩
def jcp:TI:=⟨.arr false 0 16,0,0,[]⟩
def jcq:TI:=⟨.strct false [(0,157)],0,0,[]⟩
def jcr:TI:=⟨.strct false [(0,157)],0,0,[]⟩
def jcs:TI:=⟨.other,1,8,[.nilFunc]⟩
def jct:TI:=⟨.int .u8,1,1,[(.int .u8 0)]⟩
def jcu:TI:=⟨.int .u8,1,1,[(.int .u8 0)]⟩
def jcv:TI:=⟨.other,1,8,[.nilFunc]⟩
def jcw:TI:=⟨.other,1,8,[(.pointer none)]⟩
def jcx:TI:=⟨.int .i32,1,4,[(.int .i32 0)]⟩
def jcy:TI:=⟨.int .i32,1,4,[(.int .i32 0)]⟩
def jcz:TI:=⟨.strct false [(0,12),(1,12),(2,148),(3,161),(4,5),(5,5),(6,162),(7,163),(8,164),(9,165),(10,166)],11,48,[(.int .u64 0),(.int .u64 0),(.int .u32 0),(.int .u8 0),(.int .u8 0),(.int .u8 0),(.int .u8 0), .nilFunc,(.pointer none),(.int .i32 0),(.int .i32 0)]⟩
def jc0:TI:=⟨.strct false [(0,12),(1,12),(2,148),(3,161),(4,5),(5,5),(6,162),(7,163),(8,164),(9,165),(10,166)],11,48,[(.int .u64 0),(.int .u64 0),(.int .u32 0),(.int .u8 0),(.int .u8 0),(.int .u8 0),(.int .u8 0), .nilFunc,(.pointer none),(.int .i32 0),(.int .i32 0)]⟩
def jc1:TI:=⟨.other,1,8,[(.pointer none)]⟩
def tt:TT
 |1=>some ti1
 |2=>some ti2
 |3=>some ti3
 |4=>some ti4
 |5=>some ti5
 |6=>some ti6
 |7=>some ti7
 |8=>some ti8
 |9=>some ti9
 |10=>some jjk
 |11=>some jjl
 |12=>some jjm
 |13=>some jjn
 |14=>some jjo
 |15=>some jjp
 |16=>some jjq
 |17=>some jjr
 |18=>some jjs
 |19=>some jjt
 |20=>some jju
 |21=>some jjv
 |22=>some jjw
 |23=>some jjx
 |24=>some jjy
 |25=>some jjz
 |26=>some jj0
 |27=>some jj1
 |28=>some jj2
 |29=>some jj3
 |31=>some jj4
 |33=>some jj5
 |34=>some jj6
 |35=>some jj7
 |36=>some jj8
 |37=>some jj9
 |38=>some jka
 |39=>some jkb
 |40=>some jkc
 |42=>some jkd
 |43=>some jke
 |45=>some jkf
 |46=>some jkg
 |47=>some jkh
 |48=>some jki
 |49=>some jkj
 |50=>some jkk
 |51=>some jkl
 |53=>some jkm
 |54=>some jkn
 |55=>some jko
 |57=>some jkp
 |59=>some jkq
 |60=>some jkr
 |61=>some jks
 |63=>some jkt
 |64=>some jku
 |65=>some jkv
 |66=>some jkw
 |67=>some jkx
 |68=>some jky
 |69=>some jkz
 |70=>some jk0
 |71=>some jk1
 |72=>some jk2
 |73=>some jk3
 |74=>some jk4
 |75=>some jk5
 |76=>some jk6
 |77=>some jk7
 |79=>some jk8
 |81=>some jk9
 |82=>some jla
 |83=>some jlb
 |84=>some jlc
 |85=>some jld
 |86=>some jle
 |87=>some jlf
 |88=>some jlg
 |89=>some jlh
 |90=>some jli
 |92=>some jlj
 |93=>some jlk
 |94=>some jll
 |95=>some jlm
 |96=>some jln
 |97=>some jlo
 |98=>some jlp
 |99=>some jlq
 |100=>some jba
 |101=>some jbb
 |102=>some jbc
 |103=>some jbd
 |104=>some jbe
 |105=>some jbf
 |106=>some jbg
 |107=>some jbh
 |108=>some jbi
 |109=>some jbj
 |110=>some jbk
 |111=>some jbl
 |112=>some jbm
 |113=>some jbn
 |114=>some jbo
 |115=>some jbp
 |116=>some jbq
 |117=>some jbr
 |118=>some jbs
 |119=>some jbt
 |120=>some jbu
 |121=>some jbv
 |123=>some jbw
 |124=>some jbx
 |125=>some jby
 |126=>some jbz
 |127=>some jb0
 |128=>some jb1
 |129=>some jb2
 |131=>some jb3
 |132=>some jb4
 |133=>some jb5
 |134=>some jb6
 |135=>some jb7
 |136=>some jb8
 |137=>some jb9
 |138=>some jca
 |140=>some jcb
 |141=>some jcc
 |142=>some jcd
 |143=>some jce
 |144=>some jcf
 |145=>some jcg
 |147=>some jch
 |148=>some jci
 |150=>some jcj
 |151=>some jck
 |153=>some jcl
 |154=>some jcm
 |155=>some jcn
 |156=>some jco
 |157=>some jcp
 |158=>some jcq
 |159=>some jcr
 |160=>some jcs
 |161=>some jct
 |162=>some jcu
 |163=>some jcv
 |164=>some jcw
 |165=>some jcx
 |166=>some jcy
 |167=>some jcz
 |168=>some jc0
 |169=>some jc1
 |_=>none
theorem jn1:ak Try.prog 1 ti1:=am (z:= .nilFunc) (by kernel_rfl) Try.underlying1 rfl rfl (by intro h;cases h) (fun h=>by cases h)
theorem tt1:tt 1=some ⟨.other,1,8,[.nilFunc]⟩:=rfl
theorem jn2:ak Try.prog 2 ti2:=am (z:=(.int .i64 0)) (by kernel_rfl) Try.underlying2 rfl rfl (by intro h;cases h) (fun _=>rfl)
theorem tt2:tt 2=some ⟨.int .i64,1,8,[(.int .i64 0)]⟩:=rfl
theorem jn3:ak Try.prog 3 ti3:=am (z:=(.int .i64 0)) (by kernel_rfl) Try.underlying3 rfl rfl (by intro h;cases h) (fun _=>rfl)
theorem tt3:tt 3=some ⟨.int .i64,1,8,[(.int .i64 0)]⟩:=rfl
theorem jn4:ak Try.prog 4 ti4:=am (z:=(.bool false)) (by kernel_rfl) Try.underlying4 rfl rfl (by intro h;cases h) (fun _=>rfl)
theorem tt4:tt 4=some ⟨.bool,1,1,[(.bool false)]⟩:=rfl
theorem jn5:ak Try.prog 5 ti5:=am (z:=(.int .u8 0)) (by kernel_rfl) Try.underlying5 rfl rfl (by intro h;cases h) (fun _=>rfl)
theorem tt5:tt 5=some ⟨.int .u8,1,1,[(.int .u8 0)]⟩:=rfl
theorem jn6:ak Try.prog 6 ti6:=am (z:=(.int .u8 0)) (by kernel_rfl) Try.underlying6 rfl rfl (by intro h;cases h) (fun _=>rfl)
theorem tt6:tt 6=some ⟨.int .u8,1,1,[(.int .u8 0)]⟩:=rfl
theorem jn7:ak Try.prog 7 ti7:=am (z:= .agg #[(.int .i64 0),(.int .i64 0),(.bool false),(.int .u8 0)]) (by kernel_rfl) Try.underlying7 rfl rfl (by exact fun _=>⟨by kernel_rfl,by kernel_rfl,by kernel_rfl⟩) (fun h=>by cases h)
theorem tt7:tt 7=some ⟨.strct true [(0,2),(1,3),(2,4),(3,6)],4,24,[(.int .i64 0),(.int .i64 0),(.bool false),(.int .u8 0)]⟩:=rfl
theorem jn8:ak Try.prog 8 ti8:=am (z:= .agg #[(.int .i64 0),(.int .i64 0),(.bool false),(.int .u8 0)]) (by kernel_rfl) Try.underlying8 rfl rfl (by exact fun _=>⟨by kernel_rfl,by kernel_rfl,by kernel_rfl⟩) (fun h=>by cases h)
theorem tt8:tt 8=some ⟨.strct true [(0,2),(1,3),(2,4),(3,6)],4,24,[(.int .i64 0),(.int .i64 0),(.bool false),(.int .u8 0)]⟩:=rfl
theorem jn9:ak Try.prog 9 ti9:=am (z:=(.string ⟨#[]⟩)) (by kernel_rfl) Try.underlying9 rfl rfl (by intro h;cases h) (fun _=>rfl)
theorem tt9:tt 9=some ⟨.str,1,16,[(.string ⟨#[]⟩)]⟩:=rfl
theorem jg2:ak Try.prog 10 jjk:=am (z:=(.string ⟨#[]⟩)) (by kernel_rfl) Try.underlying10 rfl rfl (by intro h;cases h) (fun _=>rfl)
theorem joh:tt 10=some ⟨.str,1,16,[(.string ⟨#[]⟩)]⟩:=rfl
theorem jg3:ak Try.prog 11 jjl:=am (z:=(.string ⟨#[]⟩)) (by kernel_rfl) Try.underlying11 rfl rfl (by intro h;cases h) (fun _=>rfl)
theorem joi:tt 11=some ⟨.str,1,16,[(.string ⟨#[]⟩)]⟩:=rfl
theorem jg4:ak Try.prog 12 jjm:=am (z:=(.int .u64 0)) (by kernel_rfl) Try.underlying12 rfl rfl (by intro h;cases h) (fun _=>rfl)
theorem joj:tt 12=some ⟨.int .u64,1,8,[(.int .u64 0)]⟩:=rfl
theorem jg5:ak Try.prog 13 jjn:=am (z:= .agg #[(.string ⟨#[]⟩),(.int .u64 0)]) (by kernel_rfl) Try.underlying13 rfl rfl (by intro h;cases h) (fun h=>by cases h)
theorem jok:tt 13=some ⟨.strct false [(0,9),(1,12)],2,24,[(.string ⟨#[]⟩),(.int .u64 0)]⟩:=rfl
theorem jg6:ak Try.prog 14 jjo:=am (z:= .agg #[(.string ⟨#[]⟩),(.int .u64 0)]) (by kernel_rfl) Try.underlying14 rfl rfl (by intro h;cases h) (fun h=>by cases h)
theorem jol:tt 14=some ⟨.strct false [(0,9),(1,12)],2,24,[(.string ⟨#[]⟩),(.int .u64 0)]⟩:=rfl
theorem jg7:ak Try.prog 15 jjp:=am (z:=(.pointer none)) (by kernel_rfl) Try.underlying15 rfl rfl (by intro h;cases h) (fun h=>by cases h)
theorem jom:tt 15=some ⟨.other,1,8,[(.pointer none)]⟩:=rfl
theorem jg8:ak Try.prog 16 jjq:=am (z:=(.pointer none)) (by kernel_rfl) Try.underlying16 rfl rfl (by intro h;cases h) (fun h=>by cases h)
theorem jon:tt 16=some ⟨.other,1,8,[(.pointer none)]⟩:=rfl
theorem jg9:ak Try.prog 17 jjr:=am (z:=(.pointer none)) (by kernel_rfl) Try.underlying17 rfl rfl (by intro h;cases h) (fun h=>by cases h)
theorem joo:tt 17=some ⟨.other,1,8,[(.pointer none)]⟩:=rfl
theorem jha:ak Try.prog 18 jjs:=am (z:= .agg #[(.pointer none)]) (by kernel_rfl) Try.underlying18 rfl rfl (by intro h;cases h) (fun h=>by cases h)
theorem jop:tt 18=some ⟨.strct false [(0,17)],1,8,[(.pointer none)]⟩:=rfl
theorem jhb:ak Try.prog 19 jjt:=am (z:= .agg #[(.pointer none)]) (by kernel_rfl) Try.underlying19 rfl rfl (by intro h;cases h) (fun h=>by cases h)
theorem joq:tt 19=some ⟨.strct false [(0,17)],1,8,[(.pointer none)]⟩:=rfl
theorem jhc:ak Try.prog 20 jju:=am (z:= .nilIface) (by kernel_rfl) Try.underlying20 rfl rfl (by intro h;cases h) (fun h=>by cases h)
theorem jor:tt 20=some ⟨.other,1,16,[.nilIface]⟩:=rfl
theorem jhd:ak Try.prog 21 jjv:=am (z:=(.int .i32 0)) (by kernel_rfl) Try.underlying21 rfl rfl (by intro h;cases h) (fun _=>rfl)
theorem jos:tt 21=some ⟨.int .i32,1,4,[(.int .i32 0)]⟩:=rfl
theorem jhe:ak Try.prog 22 jjw:=am (z:=(.slice none 0 0)) (by kernel_rfl) Try.underlying22 rfl rfl (by intro h;cases h) (fun _=>rfl)
theorem jot:tt 22=some ⟨.slice 68,1,24,[(.slice none 0 0)]⟩:=rfl
theorem jhf:ak Try.prog 23 jjx:=am (z:= .agg #[(.int .i64 0),(.slice none 0 0),(.int .i64 0),(.int .i64 0)]) (by kernel_rfl) Try.underlying23 rfl rfl (by intro h;cases h) (fun h=>by cases h)
theorem jou:tt 23=some ⟨.strct false [(0,3),(1,22),(2,3),(3,3)],4,48,[(.int .i64 0),(.slice none 0 0),(.int .i64 0),(.int .i64 0)]⟩:=rfl
theorem jhg:ak Try.prog 24 jjy:=am (z:= .agg #[(.int .i64 0),(.slice none 0 0),(.int .i64 0),(.int .i64 0)]) (by kernel_rfl) Try.underlying24 rfl rfl (by intro h;cases h) (fun h=>by cases h)
theorem jov:tt 24=some ⟨.strct false [(0,3),(1,22),(2,3),(3,3)],4,48,[(.int .i64 0),(.slice none 0 0),(.int .i64 0),(.int .i64 0)]⟩:=rfl
theorem jhh:ak Try.prog 25 jjz:=am (z:=(.slice none 0 0)) (by kernel_rfl) Try.underlying25 rfl rfl (by intro h;cases h) (fun _=>rfl)
theorem jow:tt 25=some ⟨.slice 3,1,24,[(.slice none 0 0)]⟩:=rfl
theorem jhi:ak Try.prog 26 jj0:=am (z:=(.slice none 0 0)) (by kernel_rfl) Try.underlying26 rfl rfl (by intro h;cases h) (fun _=>rfl)
theorem jox:tt 26=some ⟨.slice 40,1,24,[(.slice none 0 0)]⟩:=rfl
theorem jhj:ak Try.prog 27 jj1:=am (z:= .nilFunc) (by kernel_rfl) Try.underlying27 rfl rfl (by intro h;cases h) (fun h=>by cases h)
theorem joy:tt 27=some ⟨.other,1,8,[.nilFunc]⟩:=rfl
theorem jhk:ak Try.prog 28 jj2:=am (z:= .nilFunc) (by kernel_rfl) Try.underlying28 rfl rfl (by intro h;cases h) (fun h=>by cases h)
theorem joz:tt 28=some ⟨.other,1,8,[.nilFunc]⟩:=rfl
theorem jhl:ak Try.prog 29 jj3:=am (z:=(.int .i64 0)) (by kernel_rfl) Try.underlying29 rfl rfl (by intro h;cases h) (fun _=>rfl)
theorem jo0:tt 29=some ⟨.int .i64,1,8,[(.int .i64 0)]⟩:=rfl
theorem jhm:ak Try.prog 31 jj4:=am (z:= .nilFunc) (by kernel_rfl) Try.underlying31 rfl rfl (by intro h;cases h) (fun h=>by cases h)
theorem jo1:tt 31=some ⟨.other,1,8,[.nilFunc]⟩:=rfl
theorem jhn:ak Try.prog 33 jj5:=am (z:= .nilFunc) (by kernel_rfl) Try.underlying33 rfl rfl (by intro h;cases h) (fun h=>by cases h)
theorem jo2:tt 33=some ⟨.other,1,8,[.nilFunc]⟩:=rfl
theorem jho:ak Try.prog 34 jj6:=am (z:= .nilFunc) (by kernel_rfl) Try.underlying34 rfl rfl (by intro h;cases h) (fun h=>by cases h)
theorem jo3:tt 34=some ⟨.other,1,8,[.nilFunc]⟩:=rfl
theorem jhp:ak Try.prog 35 jj7:=am (z:= .nilFunc) (by kernel_rfl) Try.underlying35 rfl rfl (by intro h;cases h) (fun h=>by cases h)
theorem jo4:tt 35=some ⟨.other,1,8,[.nilFunc]⟩:=rfl
theorem jhq:ak Try.prog 36 jj8:=am (z:= .nilFunc) (by kernel_rfl) Try.underlying36 rfl rfl (by intro h;cases h) (fun h=>by cases h)
theorem jo5:tt 36=some ⟨.other,1,8,[.nilFunc]⟩:=rfl
theorem jhr:ak Try.prog 37 jj9:=am (z:= .nilFunc) (by kernel_rfl) Try.underlying37 rfl rfl (by intro h;cases h) (fun h=>by cases h)
theorem jo6:tt 37=some ⟨.other,1,8,[.nilFunc]⟩:=rfl
theorem jhs:ak Try.prog 38 jka:=am (z:=(.slice none 0 0)) (by kernel_rfl) Try.underlying38 rfl rfl (by intro h;cases h) (fun _=>rfl)
theorem jo7:tt 38=some ⟨.slice 5,1,24,[(.slice none 0 0)]⟩:=rfl
theorem jht:ak Try.prog 39 jkb:=am (z:= .agg #[(.int .i64 0),(.int .i64 0),(.bool false)]) (by kernel_rfl) Try.underlying39 rfl rfl (by exact fun _=>⟨by kernel_rfl,by kernel_rfl,by kernel_rfl⟩) (fun h=>by cases h)
theorem jo8:tt 39=some ⟨.strct true [(0,3),(1,3),(2,4)],3,24,[(.int .i64 0),(.int .i64 0),(.bool false)]⟩:=rfl
theorem jhu:ak Try.prog 40 jkc:=am (z:= .agg #[(.int .i64 0),(.int .i64 0),(.bool false)]) (by kernel_rfl) Try.underlying40 rfl rfl (by exact fun _=>⟨by kernel_rfl,by kernel_rfl,by kernel_rfl⟩) (fun h=>by cases h)
theorem jo9:tt 40=some ⟨.strct true [(0,3),(1,3),(2,4)],3,24,[(.int .i64 0),(.int .i64 0),(.bool false)]⟩:=rfl
theorem jhv:ak Try.prog 42 jkd:=am (z:= .nilFunc) (by kernel_rfl) Try.underlying42 rfl rfl (by intro h;cases h) (fun h=>by cases h)
theorem jpa:tt 42=some ⟨.other,1,8,[.nilFunc]⟩:=rfl
theorem jhw:ak Try.prog 43 jke:=am (z:= .nilFunc) (by kernel_rfl) Try.underlying43 rfl rfl (by intro h;cases h) (fun h=>by cases h)
theorem jpb:tt 43=some ⟨.other,1,8,[.nilFunc]⟩:=rfl
theorem jhx:ak Try.prog 45 jkf:=am (z:= .nilFunc) (by kernel_rfl) Try.underlying45 rfl rfl (by intro h;cases h) (fun h=>by cases h)
theorem jpc:tt 45=some ⟨.other,1,8,[.nilFunc]⟩:=rfl
theorem jhy:ak Try.prog 46 jkg:=am (z:= .nilFunc) (by kernel_rfl) Try.underlying46 rfl rfl (by intro h;cases h) (fun h=>by cases h)
theorem jpd:tt 46=some ⟨.other,1,8,[.nilFunc]⟩:=rfl
theorem jhz:ak Try.prog 47 jkh:=am (z:= .nilFunc) (by kernel_rfl) Try.underlying47 rfl rfl (by intro h;cases h) (fun h=>by cases h)
theorem jpe:tt 47=some ⟨.other,1,8,[.nilFunc]⟩:=rfl
theorem jh0:ak Try.prog 48 jki:=am (z:= .nilFunc) (by kernel_rfl) Try.underlying48 rfl rfl (by intro h;cases h) (fun h=>by cases h)
theorem jpf:tt 48=some ⟨.other,1,8,[.nilFunc]⟩:=rfl
theorem jh1:ak Try.prog 49 jkj:=am (z:= .nilFunc) (by kernel_rfl) Try.underlying49 rfl rfl (by intro h;cases h) (fun h=>by cases h)
theorem jpg:tt 49=some ⟨.other,1,8,[.nilFunc]⟩:=rfl
theorem jh2:ak Try.prog 50 jkk:=am (z:= .nilFunc) (by kernel_rfl) Try.underlying50 rfl rfl (by intro h;cases h) (fun h=>by cases h)
theorem jph:tt 50=some ⟨.other,1,8,[.nilFunc]⟩:=rfl
theorem jh3:ak Try.prog 51 jkl:=am (z:= .nilFunc) (by kernel_rfl) Try.underlying51 rfl rfl (by intro h;cases h) (fun h=>by cases h)
theorem jpi:tt 51=some ⟨.other,1,8,[.nilFunc]⟩:=rfl
theorem jh4:ak Try.prog 53 jkm:=am (z:= .nilFunc) (by kernel_rfl) Try.underlying53 rfl rfl (by intro h;cases h) (fun h=>by cases h)
theorem jpj:tt 53=some ⟨.other,1,8,[.nilFunc]⟩:=rfl
theorem jh5:ak Try.prog 54 jkn:=am (z:= .nilFunc) (by kernel_rfl) Try.underlying54 rfl rfl (by intro h;cases h) (fun h=>by cases h)
theorem jpk:tt 54=some ⟨.other,1,8,[.nilFunc]⟩:=rfl
theorem jh6:ak Try.prog 55 jko:=am (z:= .nilFunc) (by kernel_rfl) Try.underlying55 rfl rfl (by intro h;cases h) (fun h=>by cases h)
theorem jpl:tt 55=some ⟨.other,1,8,[.nilFunc]⟩:=rfl
theorem jh7:ak Try.prog 57 jkp:=am (z:= .nilFunc) (by kernel_rfl) Try.underlying57 rfl rfl (by intro h;cases h) (fun h=>by cases h)
theorem jpm:tt 57=some ⟨.other,1,8,[.nilFunc]⟩:=rfl
theorem jh8:ak Try.prog 59 jkq:=am (z:= .nilFunc) (by kernel_rfl) Try.underlying59 rfl rfl (by intro h;cases h) (fun h=>by cases h)
theorem jpn:tt 59=some ⟨.other,1,8,[.nilFunc]⟩:=rfl
theorem jh9:ak Try.prog 60 jkr:=am (z:= .nilFunc) (by kernel_rfl) Try.underlying60 rfl rfl (by intro h;cases h) (fun h=>by cases h)
theorem jpo:tt 60=some ⟨.other,1,8,[.nilFunc]⟩:=rfl
theorem jia:ak Try.prog 61 jks:=am (z:= .nilFunc) (by kernel_rfl) Try.underlying61 rfl rfl (by intro h;cases h) (fun h=>by cases h)
theorem jpp:tt 61=some ⟨.other,1,8,[.nilFunc]⟩:=rfl
theorem jib:ak Try.prog 63 jkt:=am (z:= .nilFunc) (by kernel_rfl) Try.underlying63 rfl rfl (by intro h;cases h) (fun h=>by cases h)
theorem jpq:tt 63=some ⟨.other,1,8,[.nilFunc]⟩:=rfl
theorem jic:ak Try.prog 64 jku:=am (z:= .nilFunc) (by kernel_rfl) Try.underlying64 rfl rfl (by intro h;cases h) (fun h=>by cases h)
theorem jpr:tt 64=some ⟨.other,1,8,[.nilFunc]⟩:=rfl
theorem jid:ak Try.prog 65 jkv:=am (z:= .nilFunc) (by kernel_rfl) Try.underlying65 rfl rfl (by intro h;cases h) (fun h=>by cases h)
theorem jps:tt 65=some ⟨.other,1,8,[.nilFunc]⟩:=rfl
theorem jie:ak Try.prog 66 jkw:=am (z:= .nilFunc) (by kernel_rfl) Try.underlying66 rfl rfl (by intro h;cases h) (fun h=>by cases h)
theorem jpt:tt 66=some ⟨.other,1,8,[.nilFunc]⟩:=rfl
theorem jif:ak Try.prog 67 jkx:=am (z:= .agg #[(.string ⟨#[]⟩),(.slice none 0 0),(.slice none 0 0)]) (by kernel_rfl) Try.underlying67 rfl rfl (by intro h;cases h) (fun h=>by cases h)
theorem jpu:tt 67=some ⟨.strct false [(0,9),(1,25),(2,25)],3,64,[(.string ⟨#[]⟩),(.slice none 0 0),(.slice none 0 0)]⟩:=rfl
theorem jig:ak Try.prog 68 jky:=am (z:= .agg #[(.string ⟨#[]⟩),(.slice none 0 0),(.slice none 0 0)]) (by kernel_rfl) Try.underlying68 rfl rfl (by intro h;cases h) (fun h=>by cases h)
theorem jpv:tt 68=some ⟨.strct false [(0,9),(1,25),(2,25)],3,64,[(.string ⟨#[]⟩),(.slice none 0 0),(.slice none 0 0)]⟩:=rfl
theorem jih:ak Try.prog 69 jkz:=am (z:= .nilFunc) (by kernel_rfl) Try.underlying69 rfl rfl (by intro h;cases h) (fun h=>by cases h)
theorem jpw:tt 69=some ⟨.other,1,8,[.nilFunc]⟩:=rfl
theorem jii:ak Try.prog 70 jk0:=am (z:= .nilFunc) (by kernel_rfl) Try.underlying70 rfl rfl (by intro h;cases h) (fun h=>by cases h)
theorem jpx:tt 70=some ⟨.other,1,8,[.nilFunc]⟩:=rfl
theorem jij:ak Try.prog 71 jk1:=am (z:= .nilFunc) (by kernel_rfl) Try.underlying71 rfl rfl (by intro h;cases h) (fun h=>by cases h)
theorem jpy:tt 71=some ⟨.other,1,8,[.nilFunc]⟩:=rfl
theorem jik:ak Try.prog 72 jk2:=am (z:= .nilFunc) (by kernel_rfl) Try.underlying72 rfl rfl (by intro h;cases h) (fun h=>by cases h)
theorem jpz:tt 72=some ⟨.other,1,8,[.nilFunc]⟩:=rfl
theorem jil:ak Try.prog 73 jk3:=am (z:= .nilFunc) (by kernel_rfl) Try.underlying73 rfl rfl (by intro h;cases h) (fun h=>by cases h)
theorem jp0:tt 73=some ⟨.other,1,8,[.nilFunc]⟩:=rfl
theorem jim:ak Try.prog 74 jk4:=am (z:= .nilFunc) (by kernel_rfl) Try.underlying74 rfl rfl (by intro h;cases h) (fun h=>by cases h)
theorem jp1:tt 74=some ⟨.other,1,8,[.nilFunc]⟩:=rfl
theorem jin:ak Try.prog 75 jk5:=am (z:=(.map none)) (by kernel_rfl) Try.underlying75 rfl rfl (by intro h;cases h) (fun h=>by cases h)
theorem jp2:tt 75=some ⟨.map 3 115,1,8,[(.map none)]⟩:=rfl
theorem jio:ak Try.prog 76 jk6:=am (z:= .agg #[(.map none),(.int .i64 0),(.int .i64 0)]) (by kernel_rfl) Try.underlying76 rfl rfl (by intro h;cases h) (fun h=>by cases h)
theorem jp3:tt 76=some ⟨.strct false [(0,75),(1,3),(2,3)],3,24,[(.map none),(.int .i64 0),(.int .i64 0)]⟩:=rfl
theorem jip:ak Try.prog 77 jk7:=am (z:= .agg #[(.map none),(.int .i64 0),(.int .i64 0)]) (by kernel_rfl) Try.underlying77 rfl rfl (by intro h;cases h) (fun h=>by cases h)
theorem jp4:tt 77=some ⟨.strct false [(0,75),(1,3),(2,3)],3,24,[(.map none),(.int .i64 0),(.int .i64 0)]⟩:=rfl
theorem jiq:ak Try.prog 79 jk8:=am (z:= .nilFunc) (by kernel_rfl) Try.underlying79 rfl rfl (by intro h;cases h) (fun h=>by cases h)
theorem jp5:tt 79=some ⟨.other,1,8,[.nilFunc]⟩:=rfl
theorem jir:ak Try.prog 81 jk9:=am (z:= .nilFunc) (by kernel_rfl) Try.underlying81 rfl rfl (by intro h;cases h) (fun h=>by cases h)
theorem jp6:tt 81=some ⟨.other,1,8,[.nilFunc]⟩:=rfl
theorem jis:ak Try.prog 82 jla:=am (z:= .nilFunc) (by kernel_rfl) Try.underlying82 rfl rfl (by intro h;cases h) (fun h=>by cases h)
theorem jp7:tt 82=some ⟨.other,1,8,[.nilFunc]⟩:=rfl
theorem jit:ak Try.prog 83 jlb:=am (z:= .nilFunc) (by kernel_rfl) Try.underlying83 rfl rfl (by intro h;cases h) (fun h=>by cases h)
theorem jp8:tt 83=some ⟨.other,1,8,[.nilFunc]⟩:=rfl
theorem jiu:ak Try.prog 84 jlc:=am (z:=(.slice none 0 0)) (by kernel_rfl) Try.underlying84 rfl rfl (by intro h;cases h) (fun _=>rfl)
theorem jp9:tt 84=some ⟨.slice 25,1,24,[(.slice none 0 0)]⟩:=rfl
theorem jiv:ak Try.prog 85 jld:=am (z:=(.slice none 0 0)) (by kernel_rfl) Try.underlying85 rfl rfl (by intro h;cases h) (fun _=>rfl)
theorem jqa:tt 85=some ⟨.slice 126,1,24,[(.slice none 0 0)]⟩:=rfl
theorem jiw:ak Try.prog 86 jle:=am (z:= .agg #[(.slice none 0 0),(.slice none 0 0),(.bool false)]) (by kernel_rfl) Try.underlying86 rfl rfl (by intro h;cases h) (fun h=>by cases h)
theorem jqb:tt 86=some ⟨.strct false [(0,84),(1,85),(2,4)],3,56,[(.slice none 0 0),(.slice none 0 0),(.bool false)]⟩:=rfl
theorem jix:ak Try.prog 87 jlf:=am (z:= .agg #[(.slice none 0 0),(.slice none 0 0),(.bool false)]) (by kernel_rfl) Try.underlying87 rfl rfl (by intro h;cases h) (fun h=>by cases h)
theorem jqc:tt 87=some ⟨.strct false [(0,84),(1,85),(2,4)],3,56,[(.slice none 0 0),(.slice none 0 0),(.bool false)]⟩:=rfl
theorem jiy:ak Try.prog 88 jlg:=am (z:=(.slice none 0 0)) (by kernel_rfl) Try.underlying88 rfl rfl (by intro h;cases h) (fun _=>rfl)
theorem jqd:tt 88=some ⟨.slice 4,1,24,[(.slice none 0 0)]⟩:=rfl
theorem jiz:ak Try.prog 89 jlh:=am (z:= .agg #[(.slice none 0 0),(.slice none 0 0),(.bool false),(.int .i64 0),(.slice none 0 0)]) (by kernel_rfl) Try.underlying89 rfl rfl (by intro h;cases h) (fun h=>by cases h)
theorem jqe:tt 89=some ⟨.strct false [(0,87),(3,3),(4,88)],5,88,[(.slice none 0 0),(.slice none 0 0),(.bool false),(.int .i64 0),(.slice none 0 0)]⟩:=rfl
theorem ji0:ak Try.prog 90 jli:=am (z:= .agg #[(.slice none 0 0),(.slice none 0 0),(.bool false),(.int .i64 0),(.slice none 0 0)]) (by kernel_rfl) Try.underlying90 rfl rfl (by intro h;cases h) (fun h=>by cases h)
theorem jqf:tt 90=some ⟨.strct false [(0,87),(3,3),(4,88)],5,88,[(.slice none 0 0),(.slice none 0 0),(.bool false),(.int .i64 0),(.slice none 0 0)]⟩:=rfl
theorem ji1:ak Try.prog 92 jlj:=am (z:= .nilFunc) (by kernel_rfl) Try.underlying92 rfl rfl (by intro h;cases h) (fun h=>by cases h)
theorem jqg:tt 92=some ⟨.other,1,8,[.nilFunc]⟩:=rfl
theorem ji2:ak Try.prog 93 jlk:=am (z:= .nilFunc) (by kernel_rfl) Try.underlying93 rfl rfl (by intro h;cases h) (fun h=>by cases h)
theorem jqh:tt 93=some ⟨.other,1,8,[.nilFunc]⟩:=rfl
theorem ji3:ak Try.prog 94 jll:=am (z:= .nilFunc) (by kernel_rfl) Try.underlying94 rfl rfl (by intro h;cases h) (fun h=>by cases h)
theorem jqi:tt 94=some ⟨.other,1,8,[.nilFunc]⟩:=rfl
theorem ji4:ak Try.prog 95 jlm:=am (z:= .nilFunc) (by kernel_rfl) Try.underlying95 rfl rfl (by intro h;cases h) (fun h=>by cases h)
theorem jqj:tt 95=some ⟨.other,1,8,[.nilFunc]⟩:=rfl
theorem ji5:ak Try.prog 96 jln:=am (z:= .nilFunc) (by kernel_rfl) Try.underlying96 rfl rfl (by intro h;cases h) (fun h=>by cases h)
theorem jqk:tt 96=some ⟨.other,1,8,[.nilFunc]⟩:=rfl
theorem ji6:ak Try.prog 97 jlo:=am (z:= .nilFunc) (by kernel_rfl) Try.underlying97 rfl rfl (by intro h;cases h) (fun h=>by cases h)
theorem jql:tt 97=some ⟨.other,1,8,[.nilFunc]⟩:=rfl
theorem ji7:ak Try.prog 98 jlp:=am (z:= .nilFunc) (by kernel_rfl) Try.underlying98 rfl rfl (by intro h;cases h) (fun h=>by cases h)
theorem jqm:tt 98=some ⟨.other,1,8,[.nilFunc]⟩:=rfl
theorem ji8:ak Try.prog 99 jlq:=am (z:= .nilFunc) (by kernel_rfl) Try.underlying99 rfl rfl (by intro h;cases h) (fun h=>by cases h)
theorem jqn:tt 99=some ⟨.other,1,8,[.nilFunc]⟩:=rfl
theorem jdz:ak Try.prog 100 jba:=am (z:= .nilFunc) (by kernel_rfl) Try.underlying100 rfl rfl (by intro h;cases h) (fun h=>by cases h)
theorem jlr:tt 100=some ⟨.other,1,8,[.nilFunc]⟩:=rfl
theorem jd0:ak Try.prog 101 jbb:=am (z:= .nilFunc) (by kernel_rfl) Try.underlying101 rfl rfl (by intro h;cases h) (fun h=>by cases h)
theorem jls:tt 101=some ⟨.other,1,8,[.nilFunc]⟩:=rfl
theorem jd1:ak Try.prog 102 jbc:=am (z:= .nilFunc) (by kernel_rfl) Try.underlying102 rfl rfl (by intro h;cases h) (fun h=>by cases h)
theorem jlt:tt 102=some ⟨.other,1,8,[.nilFunc]⟩:=rfl
theorem jd2:ak Try.prog 103 jbd:=am (z:= .nilFunc) (by kernel_rfl) Try.underlying103 rfl rfl (by intro h;cases h) (fun h=>by cases h)
theorem jlu:tt 103=some ⟨.other,1,8,[.nilFunc]⟩:=rfl
theorem jd3:ak Try.prog 104 jbe:=am (z:= .nilFunc) (by kernel_rfl) Try.underlying104 rfl rfl (by intro h;cases h) (fun h=>by cases h)
theorem jlv:tt 104=some ⟨.other,1,8,[.nilFunc]⟩:=rfl
theorem jd4:ak Try.prog 105 jbf:=am (z:= .agg #[(.int .i64 0),(.int .i64 0),(.bool false)]) (by kernel_rfl) Try.underlying105 rfl rfl (by exact fun _=>⟨by kernel_rfl,by kernel_rfl,by kernel_rfl⟩) (fun h=>by cases h)
theorem jlw:tt 105=some ⟨.strct true [(0,3),(1,3),(2,4)],3,24,[(.int .i64 0),(.int .i64 0),(.bool false)]⟩:=rfl
theorem jd5:ak Try.prog 106 jbg:=am (z:= .agg #[(.int .i64 0),(.int .i64 0),(.bool false)]) (by kernel_rfl) Try.underlying106 rfl rfl (by exact fun _=>⟨by kernel_rfl,by kernel_rfl,by kernel_rfl⟩) (fun h=>by cases h)
theorem jlx:tt 106=some ⟨.strct true [(0,3),(1,3),(2,4)],3,24,[(.int .i64 0),(.int .i64 0),(.bool false)]⟩:=rfl
theorem jd6:ak Try.prog 107 jbh:=am (z:=(.slice none 0 0)) (by kernel_rfl) Try.underlying107 rfl rfl (by intro h;cases h) (fun _=>rfl)
theorem jly:tt 107=some ⟨.slice 106,1,24,[(.slice none 0 0)]⟩:=rfl
theorem jd7:ak Try.prog 108 jbi:=am (z:= .nilFunc) (by kernel_rfl) Try.underlying108 rfl rfl (by intro h;cases h) (fun h=>by cases h)
theorem jlz:tt 108=some ⟨.other,1,8,[.nilFunc]⟩:=rfl
theorem jd8:ak Try.prog 109 jbj:=am (z:= .nilFunc) (by kernel_rfl) Try.underlying109 rfl rfl (by intro h;cases h) (fun h=>by cases h)
theorem jl0:tt 109=some ⟨.other,1,8,[.nilFunc]⟩:=rfl
theorem jd9:ak Try.prog 110 jbk:=am (z:= .nilFunc) (by kernel_rfl) Try.underlying110 rfl rfl (by intro h;cases h) (fun h=>by cases h)
theorem jl1:tt 110=some ⟨.other,1,8,[.nilFunc]⟩:=rfl
theorem jea:ak Try.prog 111 jbl:=am (z:= .nilFunc) (by kernel_rfl) Try.underlying111 rfl rfl (by intro h;cases h) (fun h=>by cases h)
theorem jl2:tt 111=some ⟨.other,1,8,[.nilFunc]⟩:=rfl
theorem jeb:ak Try.prog 112 jbm:=am (z:= .nilFunc) (by kernel_rfl) Try.underlying112 rfl rfl (by intro h;cases h) (fun h=>by cases h)
theorem jl3:tt 112=some ⟨.other,1,8,[.nilFunc]⟩:=rfl
theorem jec:ak Try.prog 113 jbn:=am (z:= .nilFunc) (by kernel_rfl) Try.underlying113 rfl rfl (by intro h;cases h) (fun h=>by cases h)
theorem jl4:tt 113=some ⟨.other,1,8,[.nilFunc]⟩:=rfl
theorem jed:ak Try.prog 114 jbo:=am (z:= .nilFunc) (by kernel_rfl) Try.underlying114 rfl rfl (by intro h;cases h) (fun h=>by cases h)
theorem jl5:tt 114=some ⟨.other,1,8,[.nilFunc]⟩:=rfl
theorem jee:ak Try.prog 115 jbp:=am (z:=(.slice none 0 0)) (by kernel_rfl) Try.underlying115 rfl rfl (by intro h;cases h) (fun _=>rfl)
theorem jl6:tt 115=some ⟨.slice 121,1,24,[(.slice none 0 0)]⟩:=rfl
theorem jef:ak Try.prog 116 jbq:=am (z:=(.slice none 0 0)) (by kernel_rfl) Try.underlying116 rfl rfl (by intro h;cases h) (fun _=>rfl)
theorem jl7:tt 116=some ⟨.slice 119,1,24,[(.slice none 0 0)]⟩:=rfl
theorem jeg:ak Try.prog 117 jbr:=am (z:= .nilFunc) (by kernel_rfl) Try.underlying117 rfl rfl (by intro h;cases h) (fun h=>by cases h)
theorem jl8:tt 117=some ⟨.other,1,8,[.nilFunc]⟩:=rfl
theorem jeh:ak Try.prog 118 jbs:=am (z:= .agg #[(.bool false),(.int .i64 0),(.int .i64 0)]) (by kernel_rfl) Try.underlying118 rfl rfl (by exact fun _=>⟨by kernel_rfl,by kernel_rfl,by kernel_rfl⟩) (fun h=>by cases h)
theorem jl9:tt 118=some ⟨.strct true [(0,4),(1,3),(2,3)],3,24,[(.bool false),(.int .i64 0),(.int .i64 0)]⟩:=rfl
theorem jei:ak Try.prog 119 jbt:=am (z:= .agg #[(.bool false),(.int .i64 0),(.int .i64 0)]) (by kernel_rfl) Try.underlying119 rfl rfl (by exact fun _=>⟨by kernel_rfl,by kernel_rfl,by kernel_rfl⟩) (fun h=>by cases h)
theorem jma:tt 119=some ⟨.strct true [(0,4),(1,3),(2,3)],3,24,[(.bool false),(.int .i64 0),(.int .i64 0)]⟩:=rfl
theorem jej:ak Try.prog 120 jbu:=am (z:= .agg #[(.int .i64 0),(.int .i64 0)]) (by kernel_rfl) Try.underlying120 rfl rfl (by exact fun _=>⟨by kernel_rfl,by kernel_rfl,by kernel_rfl⟩) (fun h=>by cases h)
theorem jmb:tt 120=some ⟨.strct true [(0,3),(1,3)],2,16,[(.int .i64 0),(.int .i64 0)]⟩:=rfl
theorem jek:ak Try.prog 121 jbv:=am (z:= .agg #[(.int .i64 0),(.int .i64 0)]) (by kernel_rfl) Try.underlying121 rfl rfl (by exact fun _=>⟨by kernel_rfl,by kernel_rfl,by kernel_rfl⟩) (fun h=>by cases h)
theorem jmc:tt 121=some ⟨.strct true [(0,3),(1,3)],2,16,[(.int .i64 0),(.int .i64 0)]⟩:=rfl
theorem jel:ak Try.prog 123 jbw:=am (z:= .nilFunc) (by kernel_rfl) Try.underlying123 rfl rfl (by intro h;cases h) (fun h=>by cases h)
theorem jmd:tt 123=some ⟨.other,1,8,[.nilFunc]⟩:=rfl
theorem jem:ak Try.prog 124 jbx:=am (z:= .nilFunc) (by kernel_rfl) Try.underlying124 rfl rfl (by intro h;cases h) (fun h=>by cases h)
theorem jme:tt 124=some ⟨.other,1,8,[.nilFunc]⟩:=rfl
theorem jen:ak Try.prog 125 jby:=am (z:= .agg #[(.int .i64 0),(.int .i64 0),(.int .i64 0)]) (by kernel_rfl) Try.underlying125 rfl rfl (by exact fun _=>⟨by kernel_rfl,by kernel_rfl,by kernel_rfl⟩) (fun h=>by cases h)
theorem jmf:tt 125=some ⟨.strct true [(0,3),(1,3),(2,3)],3,24,[(.int .i64 0),(.int .i64 0),(.int .i64 0)]⟩:=rfl
theorem jeo:ak Try.prog 126 jbz:=am (z:= .agg #[(.int .i64 0),(.int .i64 0),(.int .i64 0)]) (by kernel_rfl) Try.underlying126 rfl rfl (by exact fun _=>⟨by kernel_rfl,by kernel_rfl,by kernel_rfl⟩) (fun h=>by cases h)
theorem jmg:tt 126=some ⟨.strct true [(0,3),(1,3),(2,3)],3,24,[(.int .i64 0),(.int .i64 0),(.int .i64 0)]⟩:=rfl
theorem jep:ak Try.prog 127 jb0:=am (z:= .nilFunc) (by kernel_rfl) Try.underlying127 rfl rfl (by intro h;cases h) (fun h=>by cases h)
theorem jmh:tt 127=some ⟨.other,1,8,[.nilFunc]⟩:=rfl
theorem jeq:ak Try.prog 128 jb1:=am (z:=(.map none)) (by kernel_rfl) Try.underlying128 rfl rfl (by intro h;cases h) (fun h=>by cases h)
theorem jmi:tt 128=some ⟨.map 3 4,1,8,[(.map none)]⟩:=rfl
theorem jer:ak Try.prog 129 jb2:=am (z:= .nilFunc) (by kernel_rfl) Try.underlying129 rfl rfl (by intro h;cases h) (fun h=>by cases h)
theorem jmj:tt 129=some ⟨.other,1,8,[.nilFunc]⟩:=rfl
theorem jes:ak Try.prog 131 jb3:=am (z:= .nilFunc) (by kernel_rfl) Try.underlying131 rfl rfl (by intro h;cases h) (fun h=>by cases h)
theorem jmk:tt 131=some ⟨.other,1,8,[.nilFunc]⟩:=rfl
theorem jet:ak Try.prog 132 jb4:=am (z:= .nilFunc) (by kernel_rfl) Try.underlying132 rfl rfl (by intro h;cases h) (fun h=>by cases h)
theorem jml:tt 132=some ⟨.other,1,8,[.nilFunc]⟩:=rfl
theorem jeu:ak Try.prog 133 jb5:=am (z:= .nilFunc) (by kernel_rfl) Try.underlying133 rfl rfl (by intro h;cases h) (fun h=>by cases h)
theorem jmm:tt 133=some ⟨.other,1,8,[.nilFunc]⟩:=rfl
theorem jev:ak Try.prog 134 jb6:=am (z:= .nilFunc) (by kernel_rfl) Try.underlying134 rfl rfl (by intro h;cases h) (fun h=>by cases h)
theorem jmn:tt 134=some ⟨.other,1,8,[.nilFunc]⟩:=rfl
theorem jew:ak Try.prog 135 jb7:=am (z:= .nilFunc) (by kernel_rfl) Try.underlying135 rfl rfl (by intro h;cases h) (fun h=>by cases h)
theorem jmo:tt 135=some ⟨.other,1,8,[.nilFunc]⟩:=rfl
theorem jex:ak Try.prog 136 jb8:=am (z:= .nilFunc) (by kernel_rfl) Try.underlying136 rfl rfl (by intro h;cases h) (fun h=>by cases h)
theorem jmp:tt 136=some ⟨.other,1,8,[.nilFunc]⟩:=rfl
theorem jey:ak Try.prog 137 jb9:=am (z:= .nilFunc) (by kernel_rfl) Try.underlying137 rfl rfl (by intro h;cases h) (fun h=>by cases h)
theorem jmq:tt 137=some ⟨.other,1,8,[.nilFunc]⟩:=rfl
theorem jez:ak Try.prog 138 jca:=am (z:= .nilFunc) (by kernel_rfl) Try.underlying138 rfl rfl (by intro h;cases h) (fun h=>by cases h)
theorem jmr:tt 138=some ⟨.other,1,8,[.nilFunc]⟩:=rfl
theorem je0:ak Try.prog 140 jcb:=am (z:= .nilFunc) (by kernel_rfl) Try.underlying140 rfl rfl (by intro h;cases h) (fun h=>by cases h)
theorem jms:tt 140=some ⟨.other,1,8,[.nilFunc]⟩:=rfl
theorem je1:ak Try.prog 141 jcc:=am (z:= .nilFunc) (by kernel_rfl) Try.underlying141 rfl rfl (by intro h;cases h) (fun h=>by cases h)
theorem jmt:tt 141=some ⟨.other,1,8,[.nilFunc]⟩:=rfl
theorem je2:ak Try.prog 142 jcd:=am (z:=(.map none)) (by kernel_rfl) Try.underlying142 rfl rfl (by intro h;cases h) (fun h=>by cases h)
theorem jmu:tt 142=some ⟨.map 9 3,1,8,[(.map none)]⟩:=rfl
theorem je3:ak Try.prog 143 jce:=am (z:= .nilFunc) (by kernel_rfl) Try.underlying143 rfl rfl (by intro h;cases h) (fun h=>by cases h)
theorem jmv:tt 143=some ⟨.other,1,8,[.nilFunc]⟩:=rfl
theorem je4:ak Try.prog 144 jcf:=am (z:= .nilFunc) (by kernel_rfl) Try.underlying144 rfl rfl (by intro h;cases h) (fun h=>by cases h)
theorem jmw:tt 144=some ⟨.other,1,8,[.nilFunc]⟩:=rfl
theorem je5:ak Try.prog 145 jcg:=am (z:=(.int .u64 0)) (by kernel_rfl) Try.underlying145 rfl rfl (by intro h;cases h) (fun _=>rfl)
theorem jmx:tt 145=some ⟨.int .u64,1,8,[(.int .u64 0)]⟩:=rfl
theorem je6:ak Try.prog 147 jch:=am (z:= .nilFunc) (by kernel_rfl) Try.underlying147 rfl rfl (by intro h;cases h) (fun h=>by cases h)
theorem jmy:tt 147=some ⟨.other,1,8,[.nilFunc]⟩:=rfl
theorem je7:ak Try.prog 148 jci:=am (z:=(.int .u32 0)) (by kernel_rfl) Try.underlying148 rfl rfl (by intro h;cases h) (fun _=>rfl)
theorem jmz:tt 148=some ⟨.int .u32,1,4,[(.int .u32 0)]⟩:=rfl
theorem je8:ak Try.prog 150 jcj:=am (z:= .nilFunc) (by kernel_rfl) Try.underlying150 rfl rfl (by intro h;cases h) (fun h=>by cases h)
theorem jm0:tt 150=some ⟨.other,1,8,[.nilFunc]⟩:=rfl
theorem je9:ak Try.prog 151 jck:=am (z:=(.int .u64 0)) (by kernel_rfl) Try.underlying151 rfl rfl (by intro h;cases h) (fun _=>rfl)
theorem jm1:tt 151=some ⟨.int .u64,1,8,[(.int .u64 0)]⟩:=rfl
theorem jfa:ak Try.prog 153 jcl:=am (z:= .nilFunc) (by kernel_rfl) Try.underlying153 rfl rfl (by intro h;cases h) (fun h=>by cases h)
theorem jm2:tt 153=some ⟨.other,1,8,[.nilFunc]⟩:=rfl
theorem jfb:ak Try.prog 154 jcm:=am (z:= .nilFunc) (by kernel_rfl) Try.underlying154 rfl rfl (by intro h;cases h) (fun h=>by cases h)
theorem jm3:tt 154=some ⟨.other,1,8,[.nilFunc]⟩:=rfl
theorem jfc:ak Try.prog 155 jcn:=am (z:= .agg #[(.pointer none),(.pointer none),(.pointer none),(.string ⟨#[]⟩)]) (by kernel_rfl) Try.underlying155 rfl rfl (by intro h;cases h) (fun h=>by cases h)
theorem jm4:tt 155=some ⟨.strct false [(0,17),(1,17),(2,17),(3,9)],4,40,[(.pointer none),(.pointer none),(.pointer none),(.string ⟨#[]⟩)]⟩:=rfl
theorem jfd:ak Try.prog 156 jco:=am (z:= .agg #[(.pointer none),(.pointer none),(.pointer none),(.string ⟨#[]⟩)]) (by kernel_rfl) Try.underlying156 rfl rfl (by intro h;cases h) (fun h=>by cases h)
theorem jm5:tt 156=some ⟨.strct false [(0,17),(1,17),(2,17),(3,9)],4,40,[(.pointer none),(.pointer none),(.pointer none),(.string ⟨#[]⟩)]⟩:=rfl
theorem jfe:ak Try.prog 157 jcp:=am (z:= .agg #[]) (by kernel_rfl) Try.underlying157 rfl rfl (by intro h;cases h) (fun h=>by cases h)
theorem jm6:tt 157=some ⟨.arr false 0 16,0,0,[]⟩:=rfl
theorem jff:ak Try.prog 158 jcq:=am (z:= .agg #[]) (by kernel_rfl) Try.underlying158 rfl rfl (by intro h;cases h) (fun h=>by cases h)
theorem jm7:tt 158=some ⟨.strct false [(0,157)],0,0,[]⟩:=rfl
theorem jfg:ak Try.prog 159 jcr:=am (z:= .agg #[]) (by kernel_rfl) Try.underlying159 rfl rfl (by intro h;cases h) (fun h=>by cases h)
theorem jm8:tt 159=some ⟨.strct false [(0,157)],0,0,[]⟩:=rfl
theorem jfh:ak Try.prog 160 jcs:=am (z:= .nilFunc) (by kernel_rfl) Try.underlying160 rfl rfl (by intro h;cases h) (fun h=>by cases h)
theorem jm9:tt 160=some ⟨.other,1,8,[.nilFunc]⟩:=rfl
theorem jfi:ak Try.prog 161 jct:=am (z:=(.int .u8 0)) (by kernel_rfl) Try.underlying161 rfl rfl (by intro h;cases h) (fun _=>rfl)
theorem jna:tt 161=some ⟨.int .u8,1,1,[(.int .u8 0)]⟩:=rfl
theorem jfj:ak Try.prog 162 jcu:=am (z:=(.int .u8 0)) (by kernel_rfl) Try.underlying162 rfl rfl (by intro h;cases h) (fun _=>rfl)
theorem jnb:tt 162=some ⟨.int .u8,1,1,[(.int .u8 0)]⟩:=rfl
theorem jfk:ak Try.prog 163 jcv:=am (z:= .nilFunc) (by kernel_rfl) Try.underlying163 rfl rfl (by intro h;cases h) (fun h=>by cases h)
theorem jnc:tt 163=some ⟨.other,1,8,[.nilFunc]⟩:=rfl
theorem jfl:ak Try.prog 164 jcw:=am (z:=(.pointer none)) (by kernel_rfl) Try.underlying164 rfl rfl (by intro h;cases h) (fun h=>by cases h)
theorem jnd:tt 164=some ⟨.other,1,8,[(.pointer none)]⟩:=rfl
theorem jfm:ak Try.prog 165 jcx:=am (z:=(.int .i32 0)) (by kernel_rfl) Try.underlying165 rfl rfl (by intro h;cases h) (fun _=>rfl)
theorem jne:tt 165=some ⟨.int .i32,1,4,[(.int .i32 0)]⟩:=rfl
theorem jfn:ak Try.prog 166 jcy:=am (z:=(.int .i32 0)) (by kernel_rfl) Try.underlying166 rfl rfl (by intro h;cases h) (fun _=>rfl)
theorem jnf:tt 166=some ⟨.int .i32,1,4,[(.int .i32 0)]⟩:=rfl
theorem jfo:ak Try.prog 167 jcz:=am (z:= .agg #[(.int .u64 0),(.int .u64 0),(.int .u32 0),(.int .u8 0),(.int .u8 0),(.int .u8 0),(.int .u8 0), .nilFunc,(.pointer none),(.int .i32 0),(.int .i32 0)]) (by kernel_rfl) Try.underlying167 rfl rfl (by intro h;cases h) (fun h=>by cases h)
theorem jng:tt 167=some ⟨.strct false [(0,12),(1,12),(2,148),(3,161),(4,5),(5,5),(6,162),(7,163),(8,164),(9,165),(10,166)],11,48,[(.int .u64 0),(.int .u64 0),(.int .u32 0),(.int .u8 0),(.int .u8 0),(.int .u8 0),(.int .u8 0), .nilFunc,(.pointer none),(.int .i32 0),(.int .i32 0)]⟩:=rfl
theorem jfp:ak Try.prog 168 jc0:=am (z:= .agg #[(.int .u64 0),(.int .u64 0),(.int .u32 0),(.int .u8 0),(.int .u8 0),(.int .u8 0),(.int .u8 0), .nilFunc,(.pointer none),(.int .i32 0),(.int .i32 0)]) (by kernel_rfl) Try.underlying168 rfl rfl (by intro h;cases h) (fun h=>by cases h)
theorem jnh:tt 168=some ⟨.strct false [(0,12),(1,12),(2,148),(3,161),(4,5),(5,5),(6,162),(7,163),(8,164),(9,165),(10,166)],11,48,[(.int .u64 0),(.int .u64 0),(.int .u32 0),(.int .u8 0),(.int .u8 0),(.int .u8 0),(.int .u8 0), .nilFunc,(.pointer none),(.int .i32 0),(.int .i32 0)]⟩:=rfl
theorem jfq:ak Try.prog 169 jc1:=am (z:=(.pointer none)) (by kernel_rfl) Try.underlying169 rfl rfl (by intro h;cases h) (fun h=>by cases h)
theorem jni:tt 169=some ⟨.other,1,8,[(.pointer none)]⟩:=rfl
set_option maxRecDepth 100000 in
theorem fits:dq Try.prog tt:=by
 intro t x h;unfold tt at h;split at h
 ·cases h;exact jn1
 ·cases h;exact jn2
 ·cases h;exact jn3
 ·cases h;exact jn4
 ·cases h;exact jn5
 ·cases h;exact jn6
 ·cases h;exact jn7
 ·cases h;exact jn8
 ·cases h;exact jn9
 ·cases h;exact jg2
 ·cases h;exact jg3
 ·cases h;exact jg4
 ·cases h;exact jg5
 ·cases h;exact jg6
 ·cases h;exact jg7
 ·cases h;exact jg8
 ·cases h;exact jg9
 ·cases h;exact jha
 ·cases h;exact jhb
 ·cases h;exact jhc
 ·cases h;exact jhd
 ·cases h;exact jhe
 ·cases h;exact jhf
 ·cases h;exact jhg
 ·cases h;exact jhh
 ·cases h;exact jhi
 ·cases h;exact jhj
 ·cases h;exact jhk
 ·cases h;exact jhl
 ·cases h;exact jhm
 ·cases h;exact jhn
 ·cases h;exact jho
 ·cases h;exact jhp
 ·cases h;exact jhq
 ·cases h;exact jhr
 ·cases h;exact jhs
 ·cases h;exact jht
 ·cases h;exact jhu
 ·cases h;exact jhv
 ·cases h;exact jhw
 ·cases h;exact jhx
 ·cases h;exact jhy
 ·cases h;exact jhz
 ·cases h;exact jh0
 ·cases h;exact jh1
 ·cases h;exact jh2
 ·cases h;exact jh3
 ·cases h;exact jh4
 ·cases h;exact jh5
 ·cases h;exact jh6
 ·cases h;exact jh7
 ·cases h;exact jh8
 ·cases h;exact jh9
 ·cases h;exact jia
 ·cases h;exact jib
 ·cases h;exact jic
 ·cases h;exact jid
 ·cases h;exact jie
 ·cases h;exact jif
 ·cases h;exact jig
 ·cases h;exact jih
 ·cases h;exact jii
 ·cases h;exact jij
 ·cases h;exact jik
 ·cases h;exact jil
 ·cases h;exact jim
 ·cases h;exact jin
 ·cases h;exact jio
 ·cases h;exact jip
 ·cases h;exact jiq
 ·cases h;exact jir
 ·cases h;exact jis
 ·cases h;exact jit
 ·cases h;exact jiu
 ·cases h;exact jiv
 ·cases h;exact jiw
 ·cases h;exact jix
 ·cases h;exact jiy
 ·cases h;exact jiz
 ·cases h;exact ji0
 ·cases h;exact ji1
 ·cases h;exact ji2
 ·cases h;exact ji3
 ·cases h;exact ji4
 ·cases h;exact ji5
 ·cases h;exact ji6
 ·cases h;exact ji7
 ·cases h;exact ji8
 ·cases h;exact jdz
 ·cases h;exact jd0
 ·cases h;exact jd1
 ·cases h;exact jd2
 ·cases h;exact jd3
 ·cases h;exact jd4
 ·cases h;exact jd5
 ·cases h;exact jd6
 ·cases h;exact jd7
 ·cases h;exact jd8
 ·cases h;exact jd9
 ·cases h;exact jea
 ·cases h;exact jeb
 ·cases h;exact jec
 ·cases h;exact jed
 ·cases h;exact jee
 ·cases h;exact jef
 ·cases h;exact jeg
 ·cases h;exact jeh
 ·cases h;exact jei
 ·cases h;exact jej
 ·cases h;exact jek
 ·cases h;exact jel
 ·cases h;exact jem
 ·cases h;exact jen
 ·cases h;exact jeo
 ·cases h;exact jep
 ·cases h;exact jeq
 ·cases h;exact jer
 ·cases h;exact jes
 ·cases h;exact jet
 ·cases h;exact jeu
 ·cases h;exact jev
 ·cases h;exact jew
 ·cases h;exact jex
 ·cases h;exact jey
 ·cases h;exact jez
 ·cases h;exact je0
 ·cases h;exact je1
 ·cases h;exact je2
 ·cases h;exact je3
 ·cases h;exact je4
 ·cases h;exact je5
 ·cases h;exact je6
 ·cases h;exact je7
 ·cases h;exact je8
 ·cases h;exact je9
 ·cases h;exact jfa
 ·cases h;exact jfb
 ·cases h;exact jfc
 ·cases h;exact jfd
 ·cases h;exact jfe
 ·cases h;exact jff
 ·cases h;exact jfg
 ·cases h;exact jfh
 ·cases h;exact jfi
 ·cases h;exact jfj
 ·cases h;exact jfk
 ·cases h;exact jfl
 ·cases h;exact jfm
 ·cases h;exact jfn
 ·cases h;exact jfo
 ·cases h;exact jfp
 ·cases h;exact jfq
 ·cases h
theorem cu:Try.prog.follows .mixedOrders=true:=rfl
attribute [go_sem] tt1 tt2 tt3 tt4 tt5 tt6 tt7 tt8 tt9 joh joi joj jok jol jom jon joo jop joq jor jos jot jou jov jow jox joy joz jo0 jo1 jo2 jo3 jo4 jo5 jo6 jo7 jo8 jo9 jpa jpb jpc jpd jpe jpf jpg jph jpi jpj jpk jpl jpm jpn jpo jpp jpq jpr jps jpt jpu jpv jpw jpx jpy jpz jp0 jp1 jp2 jp3 jp4 jp5 jp6 jp7 jp8 jp9 jqa jqb jqc jqd jqe jqf jqg jqh jqi jqj jqk jql jqm jqn jlr jls jlt jlu jlv jlw jlx jly jlz jl0 jl1 jl2 jl3 jl4 jl5 jl6 jl7 jl8 jl9 jma jmb jmc jmd jme jmf jmg jmh jmi jmj jmk jml jmm jmn jmo jmp jmq jmr jms jmt jmu jmv jmw jmx jmy jmz jm0 jm1 jm2 jm3 jm4 jm5 jm6 jm7 jm8 jm9 jna jnb jnc jnd jne jnf jng jnh jni
end Go.Proofs.Ytokeielgplbdeaa
