/-
  The types of this seat's program: a row a type (its kind, cells, bytes, the cells of its zero value), and that each row is the program's own. Made by program out of the translation.
-/
import Derived.Test.YtmlfmeffjodhmaaZ6KE
import Derived.Test.YtmlfmeffjodhmaaProg
import Derived.KernelRfl
set_option linter.all false
namespace Go.Proofs.Ytmlfmeffjodhmaa
open Go.K Go.M
theorem ai{P:Program}{t:TypeId}{k:TK}{sz by_:Nat}{zs:List Value}{z:Value}{d:TypeDesc}(h1:(P.info? t).map (fun i=>(i.zero,i.size,i.bytes))=some (some z,sz,by_))(h2:P.underlying t=some d)(h3:TK.of d=k.plain)(h4:z.cells.toList=zs)(h5:k.cmp=true→Cmp P t)(h6:k.one=true→zs=[z]):ah P t ⟨k,sz,by_,zs⟩:=by
 cases hi:P.info? t with
 |none=>simp[hi]at h1
 |some i=>
  simp only[hi,Option.map_some,Option.some.injEq,Prod.mk.injEq]at h1;exact⟨⟨i,d,z,hi,h2,h3,h1.2.1,h1.2.2,h1.1,h4⟩,h5,fun e=>⟨i,z,hi,h1.1,h6 e⟩⟩
def ti1:TI:=⟨.other,1,8,[.nilFunc]⟩
def ti2:TI:=⟨.int .i64,1,8,[(.int .i64 0)]⟩
def ti3:TI:=⟨.int .i64,1,8,[(.int .i64 0)]⟩
def ti4:TI:=⟨.bool,1,1,[(.bool false)]⟩
def ti5:TI:=⟨.int .u8,1,1,[(.int .u8 0)]⟩
def ti6:TI:=⟨.int .u8,1,1,[(.int .u8 0)]⟩
def ti7:TI:=⟨.strct true [(0,2),(1,3),(2,4),(3,6)],4,24,[(.int .i64 0),(.int .i64 0),(.bool false),(.int .u8 0)]⟩
def ti8:TI:=⟨.strct false [(0,2),(1,3),(2,4),(3,6)],4,24,[(.int .i64 0),(.int .i64 0),(.bool false),(.int .u8 0)]⟩
def ti9:TI:=⟨.str,1,16,[(.string ⟨#[]⟩)]⟩
def q5f:TI:=⟨.str,1,16,[(.string ⟨#[]⟩)]⟩
def q5g:TI:=⟨.str,1,16,[(.string ⟨#[]⟩)]⟩
def q5h:TI:=⟨.int .u64,1,8,[(.int .u64 0)]⟩
def q5i:TI:=⟨.strct false [(0,9),(1,12)],2,24,[(.string ⟨#[]⟩),(.int .u64 0)]⟩
def q5j:TI:=⟨.strct false [(0,9),(1,12)],2,24,[(.string ⟨#[]⟩),(.int .u64 0)]⟩
def q5k:TI:=⟨.other,1,8,[(.pointer none)]⟩
def q5l:TI:=⟨.other,1,8,[(.pointer none)]⟩
def q5m:TI:=⟨.other,1,8,[(.pointer none)]⟩
def q5n:TI:=⟨.strct false [(0,17)],1,8,[(.pointer none)]⟩
def q5o:TI:=⟨.strct false [(0,17)],1,8,[(.pointer none)]⟩
def q5p:TI:=⟨.other,1,16,[.nilIface]⟩
def q5q:TI:=⟨.int .i32,1,4,[(.int .i32 0)]⟩
def q5r:TI:=⟨.slice 75,1,24,[(.slice none 0 0)]⟩
def q5s:TI:=⟨.slice 57,1,24,[(.slice none 0 0)]⟩
def q5t:TI:=⟨.slice 48,1,24,[(.slice none 0 0)]⟩
def q5u:TI:=⟨.strct false [(0,22),(1,23),(2,24)],3,72,[(.slice none 0 0),(.slice none 0 0),(.slice none 0 0)]⟩
def q5v:TI:=⟨.strct false [(0,22),(1,23),(2,24)],3,72,[(.slice none 0 0),(.slice none 0 0),(.slice none 0 0)]⟩
def q5w:TI:=⟨.slice 9,1,24,[(.slice none 0 0)]⟩
def q5x:TI:=⟨.slice 50,1,24,[(.slice none 0 0)]⟩
def q5y:TI:=⟨.other,1,8,[.nilFunc]⟩
def q5z:TI:=⟨.other,1,8,[.nilFunc]⟩
def q50:TI:=⟨.other,1,8,[.nilFunc]⟩
def q51:TI:=⟨.other,1,8,[.nilFunc]⟩
def q52:TI:=⟨.other,1,8,[.nilFunc]⟩
def q53:TI:=⟨.other,1,8,[.nilFunc]⟩
def q54:TI:=⟨.int .i64,1,8,[(.int .i64 0)]⟩
def q55:TI:=⟨.other,1,8,[.nilFunc]⟩
def q56:TI:=⟨.other,1,8,[.nilFunc]⟩
def q57:TI:=⟨.other,1,8,[.nilFunc]⟩
def q58:TI:=⟨.other,1,8,[.nilFunc]⟩
def q59:TI:=⟨.other,1,8,[.nilFunc]⟩
def q6a:TI:=⟨.other,1,8,[.nilFunc]⟩
def q6b:TI:=⟨.other,1,8,[.nilFunc]⟩
def q6c:TI:=⟨.strct true [(0,3),(1,9),(2,9)],3,40,[(.int .i64 0),(.string ⟨#[]⟩),(.string ⟨#[]⟩)]⟩
def q6d:TI:=⟨.strct true [(0,3),(1,9),(2,9)],3,40,[(.int .i64 0),(.string ⟨#[]⟩),(.string ⟨#[]⟩)]⟩
def q6e:TI:=⟨.strct true [(0,9),(1,9)],2,32,[(.string ⟨#[]⟩),(.string ⟨#[]⟩)]⟩
def q6f:TI:=⟨.strct true [(0,9),(1,9)],2,32,[(.string ⟨#[]⟩),(.string ⟨#[]⟩)]⟩
def q6g:TI:=⟨.arr true 2 9,2,32,[(.string ⟨#[]⟩),(.string ⟨#[]⟩)]⟩
def q6h:TI:=⟨.slice 51,1,24,[(.slice none 0 0)]⟩
def q6i:TI:=⟨.other,1,8,[.nilFunc]⟩
def q6j:TI:=⟨.strct true [(0,3),(1,3)],2,16,[(.int .i64 0),(.int .i64 0)]⟩
def q6k:TI:=⟨.strct true [(0,3),(1,3)],2,16,[(.int .i64 0),(.int .i64 0)]⟩
def q6l:TI:=⟨.strct false [(0,9),(1,9),(2,9),(3,55)],5,64,[(.string ⟨#[]⟩),(.string ⟨#[]⟩),(.string ⟨#[]⟩),(.int .i64 0),(.int .i64 0)]⟩
def q6m:TI:=⟨.strct false [(0,9),(1,9),(2,9),(3,55)],5,64,[(.string ⟨#[]⟩),(.string ⟨#[]⟩),(.string ⟨#[]⟩),(.int .i64 0),(.int .i64 0)]⟩
def q6n:TI:=⟨.other,1,8,[.nilFunc]⟩
def q6o:TI:=⟨.other,1,8,[.nilFunc]⟩
def q6p:TI:=⟨.other,1,8,[.nilFunc]⟩
def q6q:TI:=⟨.other,1,8,[.nilFunc]⟩
def q6r:TI:=⟨.other,1,8,[.nilFunc]⟩
def q6s:TI:=⟨.other,1,8,[.nilFunc]⟩
def q6t:TI:=⟨.slice 3,1,24,[(.slice none 0 0)]⟩
def q6u:TI:=⟨.other,1,8,[.nilFunc]⟩
def q6v:TI:=⟨.other,1,8,[.nilFunc]⟩
def q6w:TI:=⟨.other,1,8,[.nilFunc]⟩
def q6x:TI:=⟨.other,1,8,[.nilFunc]⟩
def q6y:TI:=⟨.map 9 4,1,8,[(.map none)]⟩
def q6z:TI:=⟨.strct false [(0,9),(1,27)],2,40,[(.string ⟨#[]⟩),(.slice none 0 0)]⟩
def q60:TI:=⟨.strct false [(0,9),(1,27)],2,40,[(.string ⟨#[]⟩),(.slice none 0 0)]⟩
def q61:TI:=⟨.other,1,8,[.nilFunc]⟩
def q62:TI:=⟨.other,1,8,[.nilFunc]⟩
def q63:TI:=⟨.other,1,8,[.nilFunc]⟩
def q64:TI:=⟨.other,1,8,[.nilFunc]⟩
def q65:TI:=⟨.other,1,8,[.nilFunc]⟩
def q66:TI:=⟨.other,1,8,[.nilFunc]⟩
def q67:TI:=⟨.other,1,8,[.nilFunc]⟩
def q68:TI:=⟨.other,1,8,[.nilFunc]⟩
def q69:TI:=⟨.other,1,8,[.nilFunc]⟩
def q7a:TI:=⟨.other,1,8,[.nilFunc]⟩
def q7b:TI:=⟨.other,1,8,[.nilFunc]⟩
def q7c:TI:=⟨.other,1,8,[.nilFunc]⟩
def q7d:TI:=⟨.other,1,8,[.nilFunc]⟩
def q7e:TI:=⟨.other,1,8,[.nilFunc]⟩
def q7f:TI:=⟨.other,1,8,[.nilFunc]⟩
def q7g:TI:=⟨.other,1,8,[.nilFunc]⟩
def q7h:TI:=⟨.other,1,8,[.nilFunc]⟩
def q7i:TI:=⟨.other,1,8,[.nilFunc]⟩
def q7j:TI:=⟨.other,1,8,[.nilFunc]⟩
def q7k:TI:=⟨.other,1,8,[.nilFunc]⟩
def q7l:TI:=⟨.other,1,8,[.nilFunc]⟩
def q7m:TI:=⟨.other,1,8,[.nilFunc]⟩
def q7n:TI:=⟨.other,1,8,[.nilFunc]⟩
def q7o:TI:=⟨.other,1,8,[.nilFunc]⟩
def qy5:TI:=⟨.slice 103,1,24,[(.slice none 0 0)]⟩
def qy6:TI:=⟨.other,1,8,[.nilFunc]⟩
def qy7:TI:=⟨.other,1,8,[.nilFunc]⟩
def qy8:TI:=⟨.int .u64,1,8,[(.int .u64 0)]⟩
def qy9:TI:=⟨.other,1,8,[.nilFunc]⟩
def qza:TI:=⟨.slice 109,1,24,[(.slice none 0 0)]⟩
def qzb:TI:=⟨.other,1,8,[.nilFunc]⟩
def qzc:TI:=⟨.other,1,8,[.nilFunc]⟩
def qzd:TI:=⟨.slice 4,1,24,[(.slice none 0 0)]⟩
def qze:TI:=⟨.other,1,8,[.nilFunc]⟩
def qzf:TI:=⟨.other,1,8,[.nilFunc]⟩
def qzg:TI:=⟨.other,1,8,[.nilFunc]⟩
def qzh:TI:=⟨.other,1,8,[.nilFunc]⟩
def qzi:TI:=⟨.other,1,8,[.nilFunc]⟩
def qzj:TI:=⟨.other,1,8,[.nilFunc]⟩
def qzk:TI:=⟨.other,1,8,[.nilFunc]⟩
def qzl:TI:=⟨.map 3 3,1,8,[(.map none)]⟩
def qzm:TI:=⟨.other,1,8,[.nilFunc]⟩
def qzn:TI:=⟨.map 3 4,1,8,[(.map none)]⟩
def qzo:TI:=⟨.other,1,8,[.nilFunc]⟩
def qzp:TI:=⟨.other,1,8,[.nilFunc]⟩
def qzq:TI:=⟨.int .u64,1,8,[(.int .u64 0)]⟩
def qzr:TI:=⟨.other,1,8,[.nilFunc]⟩
def qzs:TI:=⟨.other,1,8,[.nilFunc]⟩
def qzt:TI:=⟨.strct false [(0,17),(1,17),(2,17),(3,9)],4,40,[(.pointer none),(.pointer none),(.pointer none),(.string ⟨#[]⟩)]⟩
def qzu:TI:=⟨.strct false [(0,17),(1,17),(2,17),(3,9)],4,40,[(.pointer none),(.pointer none),(.pointer none),(.string ⟨#[]⟩)]⟩
def qzv:TI:=⟨.arr false 0 16,0,0,[]⟩
def qzw:TI:=⟨.strct false [(0,128)],0,0,[]⟩
def qzx:TI:=⟨.strct false [(0,128)],0,0,[]⟩
def qzy:TI:=⟨.other,1,8,[.nilFunc]⟩
def qzz:TI:=⟨.int .u32,1,4,[(.int .u32 0)]⟩
def qz0:TI:=⟨.int .u8,1,1,[(.int .u8 0)]⟩
def qz1:TI:=⟨.int .u8,1,1,[(.int .u8 0)]⟩
def qz2:TI:=⟨.other,1,8,[.nilFunc]⟩
def qz3:TI:=⟨.other,1,8,[(.pointer none)]⟩
def qz4:TI:=⟨.int .i32,1,4,[(.int .i32 0)]⟩
def qz5:TI:=⟨.int .i32,1,4,[(.int .i32 0)]⟩
def qz6:TI:=⟨.strct false [(0,12),(1,12),(2,132),(3,133),(4,5),(5,5),(6,134),(7,135),(8,136),(9,137),(10,138)],11,48,[(.int .u64 0),(.int .u64 0),(.int .u32 0),(.int .u8 0),(.int .u8 0),(.int .u8 0),(.int .u8 0), .nilFunc,(.pointer none),(.int .i32 0),(.int .i32 0)]⟩
def qz7:TI:=⟨.strct false [(0,12),(1,12),(2,132),(3,133),(4,5),(5,5),(6,134),(7,135),(8,136),(9,137),(10,138)],11,48,[(.int .u64 0),(.int .u64 0),(.int .u32 0),(.int .u8 0),(.int .u8 0),(.int .u8 0),(.int .u8 0), .nilFunc,(.pointer none),(.int .i32 0),(.int .i32 0)]⟩
def qz8:TI:=⟨.other,1,8,[(.pointer none)]⟩
def tt:TT
 |1=>some ti1
 |2=>some ti2
 |3=>some ti3
 |4=>some ti4
 |5=>some ti5
 |6=>some ti6
 |7=>some ti7
 |8=>some ti8
 |9=>some ti9
 |10=>some q5f
 |11=>some q5g
 |12=>some q5h
 |13=>some q5i
 |14=>some q5j
 |15=>some q5k
 |16=>some q5l
 |17=>some q5m
 |18=>some q5n
 |19=>some q5o
 |20=>some q5p
 |21=>some q5q
 |22=>some q5r
 |23=>some q5s
 |24=>some q5t
 |25=>some q5u
 |26=>some q5v
 |27=>some q5w
 |28=>some q5x
 |29=>some q5y
 |30=>some q5z
 |31=>some q50
 |32=>some q51
 |33=>some q52
 |34=>some q53
 |35=>some q54
 |37=>some q55
 |39=>some q56
 |41=>some q57
 |43=>some q58
 |44=>some q59
 |45=>some q6a
 |46=>some q6b
 |47=>some q6c
 |48=>some q6d
 |49=>some q6e
 |50=>some q6f
 |51=>some q6g
 |52=>some q6h
 |53=>some q6i
 |54=>some q6j
 |55=>some q6k
 |56=>some q6l
 |57=>some q6m
 |58=>some q6n
 |59=>some q6o
 |60=>some q6p
 |61=>some q6q
 |63=>some q6r
 |65=>some q6s
 |66=>some q6t
 |68=>some q6u
 |70=>some q6v
 |71=>some q6w
 |72=>some q6x
 |73=>some q6y
 |74=>some q6z
 |75=>some q60
 |76=>some q61
 |77=>some q62
 |78=>some q63
 |79=>some q64
 |80=>some q65
 |81=>some q66
 |82=>some q67
 |83=>some q68
 |84=>some q69
 |85=>some q7a
 |86=>some q7b
 |87=>some q7c
 |88=>some q7d
 |89=>some q7e
 |90=>some q7f
 |91=>some q7g
 |92=>some q7h
 |93=>some q7i
 |94=>some q7j
 |95=>some q7k
 |96=>some q7l
 |97=>some q7m
 |98=>some q7n
 |99=>some q7o
 |100=>some qy5
 |101=>some qy6
 |102=>some qy7
 |103=>some qy8
 |104=>some qy9
 |105=>some qza
 |106=>some qzb
 |108=>some qzc
 |109=>some qzd
 |110=>some qze
 |111=>some qzf
 |112=>some qzg
 |113=>some qzh
 |114=>some qzi
 |115=>some qzj
 |116=>some qzk
 |117=>some qzl
 |118=>some qzm
 |119=>some qzn
 |121=>some qzo
 |122=>some qzp
 |123=>some qzq
 |124=>some qzr
 |125=>some qzs
 |126=>some qzt
 |127=>some qzu
 |128=>some qzv
 |129=>some qzw
 |130=>some qzx
 |131=>some qzy
 |132=>some qzz
 |133=>some qz0
 |134=>some qz1
 |135=>some qz2
 |136=>some qz3
 |137=>some qz4
 |138=>some qz5
 |139=>some qz6
 |140=>some qz7
 |141=>some qz8
 |_=>none
theorem q89:ah Try.prog 1 ti1:=ai (z:= .nilFunc) (by kernel_rfl) Try.underlying1 rfl rfl (by intro h;cases h) (fun h=>by cases h)
theorem tt1:tt 1=some ⟨.other,1,8,[.nilFunc]⟩:=rfl
theorem q9a:ah Try.prog 2 ti2:=ai (z:=(.int .i64 0)) (by kernel_rfl) Try.underlying2 rfl rfl (by intro h;cases h) (fun _=>rfl)
theorem tt2:tt 2=some ⟨.int .i64,1,8,[(.int .i64 0)]⟩:=rfl
theorem q9b:ah Try.prog 3 ti3:=ai (z:=(.int .i64 0)) (by kernel_rfl) Try.underlying3 rfl rfl (by intro h;cases h) (fun _=>rfl)
theorem tt3:tt 3=some ⟨.int .i64,1,8,[(.int .i64 0)]⟩:=rfl
theorem q9c:ah Try.prog 4 ti4:=ai (z:=(.bool false)) (by kernel_rfl) Try.underlying4 rfl rfl (by intro h;cases h) (fun _=>rfl)
theorem tt4:tt 4=some ⟨.bool,1,1,[(.bool false)]⟩:=rfl
theorem q9d:ah Try.prog 5 ti5:=ai (z:=(.int .u8 0)) (by kernel_rfl) Try.underlying5 rfl rfl (by intro h;cases h) (fun _=>rfl)
theorem tt5:tt 5=some ⟨.int .u8,1,1,[(.int .u8 0)]⟩:=rfl
theorem q9e:ah Try.prog 6 ti6:=ai (z:=(.int .u8 0)) (by kernel_rfl) Try.underlying6 rfl rfl (by intro h;cases h) (fun _=>rfl)
theorem tt6:tt 6=some ⟨.int .u8,1,1,[(.int .u8 0)]⟩:=rfl
theorem q9f:ah Try.prog 7 ti7:=ai (z:= .agg #[(.int .i64 0),(.int .i64 0),(.bool false),(.int .u8 0)]) (by kernel_rfl) Try.underlying7 rfl rfl (by exact fun _=>⟨by kernel_rfl,by kernel_rfl,by kernel_rfl⟩) (fun h=>by cases h)
theorem tt7:tt 7=some ⟨.strct true [(0,2),(1,3),(2,4),(3,6)],4,24,[(.int .i64 0),(.int .i64 0),(.bool false),(.int .u8 0)]⟩:=rfl
theorem q9g:ah Try.prog 8 ti8:=ai (z:= .agg #[(.int .i64 0),(.int .i64 0),(.bool false),(.int .u8 0)]) (by kernel_rfl) Try.underlying8 rfl rfl (by intro h;cases h) (fun h=>by cases h)
theorem tt8:tt 8=some ⟨.strct false [(0,2),(1,3),(2,4),(3,6)],4,24,[(.int .i64 0),(.int .i64 0),(.bool false),(.int .u8 0)]⟩:=rfl
theorem q9h:ah Try.prog 9 ti9:=ai (z:=(.string ⟨#[]⟩)) (by kernel_rfl) Try.underlying9 rfl rfl (by intro h;cases h) (fun _=>rfl)
theorem tt9:tt 9=some ⟨.str,1,16,[(.string ⟨#[]⟩)]⟩:=rfl
theorem q2y:ah Try.prog 10 q5f:=ai (z:=(.string ⟨#[]⟩)) (by kernel_rfl) Try.underlying10 rfl rfl (by intro h;cases h) (fun _=>rfl)
theorem q9m:tt 10=some ⟨.str,1,16,[(.string ⟨#[]⟩)]⟩:=rfl
theorem q2z:ah Try.prog 11 q5g:=ai (z:=(.string ⟨#[]⟩)) (by kernel_rfl) Try.underlying11 rfl rfl (by intro h;cases h) (fun _=>rfl)
theorem q9n:tt 11=some ⟨.str,1,16,[(.string ⟨#[]⟩)]⟩:=rfl
theorem q20:ah Try.prog 12 q5h:=ai (z:=(.int .u64 0)) (by kernel_rfl) Try.underlying12 rfl rfl (by intro h;cases h) (fun _=>rfl)
theorem q9o:tt 12=some ⟨.int .u64,1,8,[(.int .u64 0)]⟩:=rfl
theorem q21:ah Try.prog 13 q5i:=ai (z:= .agg #[(.string ⟨#[]⟩),(.int .u64 0)]) (by kernel_rfl) Try.underlying13 rfl rfl (by intro h;cases h) (fun h=>by cases h)
theorem q9p:tt 13=some ⟨.strct false [(0,9),(1,12)],2,24,[(.string ⟨#[]⟩),(.int .u64 0)]⟩:=rfl
theorem q22:ah Try.prog 14 q5j:=ai (z:= .agg #[(.string ⟨#[]⟩),(.int .u64 0)]) (by kernel_rfl) Try.underlying14 rfl rfl (by intro h;cases h) (fun h=>by cases h)
theorem q9q:tt 14=some ⟨.strct false [(0,9),(1,12)],2,24,[(.string ⟨#[]⟩),(.int .u64 0)]⟩:=rfl
theorem q23:ah Try.prog 15 q5k:=ai (z:=(.pointer none)) (by kernel_rfl) Try.underlying15 rfl rfl (by intro h;cases h) (fun h=>by cases h)
theorem q9r:tt 15=some ⟨.other,1,8,[(.pointer none)]⟩:=rfl
theorem q24:ah Try.prog 16 q5l:=ai (z:=(.pointer none)) (by kernel_rfl) Try.underlying16 rfl rfl (by intro h;cases h) (fun h=>by cases h)
theorem q9s:tt 16=some ⟨.other,1,8,[(.pointer none)]⟩:=rfl
theorem q25:ah Try.prog 17 q5m:=ai (z:=(.pointer none)) (by kernel_rfl) Try.underlying17 rfl rfl (by intro h;cases h) (fun h=>by cases h)
theorem q9t:tt 17=some ⟨.other,1,8,[(.pointer none)]⟩:=rfl
theorem q26:ah Try.prog 18 q5n:=ai (z:= .agg #[(.pointer none)]) (by kernel_rfl) Try.underlying18 rfl rfl (by intro h;cases h) (fun h=>by cases h)
theorem q9u:tt 18=some ⟨.strct false [(0,17)],1,8,[(.pointer none)]⟩:=rfl
theorem q27:ah Try.prog 19 q5o:=ai (z:= .agg #[(.pointer none)]) (by kernel_rfl) Try.underlying19 rfl rfl (by intro h;cases h) (fun h=>by cases h)
theorem q9v:tt 19=some ⟨.strct false [(0,17)],1,8,[(.pointer none)]⟩:=rfl
theorem q28:ah Try.prog 20 q5p:=ai (z:= .nilIface) (by kernel_rfl) Try.underlying20 rfl rfl (by intro h;cases h) (fun h=>by cases h)
theorem q9w:tt 20=some ⟨.other,1,16,[.nilIface]⟩:=rfl
theorem q29:ah Try.prog 21 q5q:=ai (z:=(.int .i32 0)) (by kernel_rfl) Try.underlying21 rfl rfl (by intro h;cases h) (fun _=>rfl)
theorem q9x:tt 21=some ⟨.int .i32,1,4,[(.int .i32 0)]⟩:=rfl
theorem q3a:ah Try.prog 22 q5r:=ai (z:=(.slice none 0 0)) (by kernel_rfl) Try.underlying22 rfl rfl (by intro h;cases h) (fun h=>by cases h)
theorem q9y:tt 22=some ⟨.slice 75,1,24,[(.slice none 0 0)]⟩:=rfl
theorem q3b:ah Try.prog 23 q5s:=ai (z:=(.slice none 0 0)) (by kernel_rfl) Try.underlying23 rfl rfl (by intro h;cases h) (fun h=>by cases h)
theorem q9z:tt 23=some ⟨.slice 57,1,24,[(.slice none 0 0)]⟩:=rfl
theorem q3c:ah Try.prog 24 q5t:=ai (z:=(.slice none 0 0)) (by kernel_rfl) Try.underlying24 rfl rfl (by intro h;cases h) (fun h=>by cases h)
theorem q90:tt 24=some ⟨.slice 48,1,24,[(.slice none 0 0)]⟩:=rfl
theorem q3d:ah Try.prog 25 q5u:=ai (z:= .agg #[(.slice none 0 0),(.slice none 0 0),(.slice none 0 0)]) (by kernel_rfl) Try.underlying25 rfl rfl (by intro h;cases h) (fun h=>by cases h)
theorem q91:tt 25=some ⟨.strct false [(0,22),(1,23),(2,24)],3,72,[(.slice none 0 0),(.slice none 0 0),(.slice none 0 0)]⟩:=rfl
theorem q3e:ah Try.prog 26 q5v:=ai (z:= .agg #[(.slice none 0 0),(.slice none 0 0),(.slice none 0 0)]) (by kernel_rfl) Try.underlying26 rfl rfl (by intro h;cases h) (fun h=>by cases h)
theorem q92:tt 26=some ⟨.strct false [(0,22),(1,23),(2,24)],3,72,[(.slice none 0 0),(.slice none 0 0),(.slice none 0 0)]⟩:=rfl
theorem q3f:ah Try.prog 27 q5w:=ai (z:=(.slice none 0 0)) (by kernel_rfl) Try.underlying27 rfl rfl (by intro h;cases h) (fun h=>by cases h)
theorem q93:tt 27=some ⟨.slice 9,1,24,[(.slice none 0 0)]⟩:=rfl
theorem q3g:ah Try.prog 28 q5x:=ai (z:=(.slice none 0 0)) (by kernel_rfl) Try.underlying28 rfl rfl (by intro h;cases h) (fun h=>by cases h)
theorem q94:tt 28=some ⟨.slice 50,1,24,[(.slice none 0 0)]⟩:=rfl
theorem q3h:ah Try.prog 29 q5y:=ai (z:= .nilFunc) (by kernel_rfl) Try.underlying29 rfl rfl (by intro h;cases h) (fun h=>by cases h)
theorem q95:tt 29=some ⟨.other,1,8,[.nilFunc]⟩:=rfl
theorem q3i:ah Try.prog 30 q5z:=ai (z:= .nilFunc) (by kernel_rfl) Try.underlying30 rfl rfl (by intro h;cases h) (fun h=>by cases h)
theorem q96:tt 30=some ⟨.other,1,8,[.nilFunc]⟩:=rfl
theorem q3j:ah Try.prog 31 q50:=ai (z:= .nilFunc) (by kernel_rfl) Try.underlying31 rfl rfl (by intro h;cases h) (fun h=>by cases h)
theorem q97:tt 31=some ⟨.other,1,8,[.nilFunc]⟩:=rfl
theorem q3k:ah Try.prog 32 q51:=ai (z:= .nilFunc) (by kernel_rfl) Try.underlying32 rfl rfl (by intro h;cases h) (fun h=>by cases h)
theorem q98:tt 32=some ⟨.other,1,8,[.nilFunc]⟩:=rfl
theorem q3l:ah Try.prog 33 q52:=ai (z:= .nilFunc) (by kernel_rfl) Try.underlying33 rfl rfl (by intro h;cases h) (fun h=>by cases h)
theorem q99:tt 33=some ⟨.other,1,8,[.nilFunc]⟩:=rfl
theorem q3m:ah Try.prog 34 q53:=ai (z:= .nilFunc) (by kernel_rfl) Try.underlying34 rfl rfl (by intro h;cases h) (fun h=>by cases h)
theorem jaa:tt 34=some ⟨.other,1,8,[.nilFunc]⟩:=rfl
theorem q3n:ah Try.prog 35 q54:=ai (z:=(.int .i64 0)) (by kernel_rfl) Try.underlying35 rfl rfl (by intro h;cases h) (fun _=>rfl)
theorem jab:tt 35=some ⟨.int .i64,1,8,[(.int .i64 0)]⟩:=rfl
theorem q3o:ah Try.prog 37 q55:=ai (z:= .nilFunc) (by kernel_rfl) Try.underlying37 rfl rfl (by intro h;cases h) (fun h=>by cases h)
theorem jac:tt 37=some ⟨.other,1,8,[.nilFunc]⟩:=rfl
theorem q3p:ah Try.prog 39 q56:=ai (z:= .nilFunc) (by kernel_rfl) Try.underlying39 rfl rfl (by intro h;cases h) (fun h=>by cases h)
theorem jad:tt 39=some ⟨.other,1,8,[.nilFunc]⟩:=rfl
theorem q3q:ah Try.prog 41 q57:=ai (z:= .nilFunc) (by kernel_rfl) Try.underlying41 rfl rfl (by intro h;cases h) (fun h=>by cases h)
theorem jae:tt 41=some ⟨.other,1,8,[.nilFunc]⟩:=rfl
theorem q3r:ah Try.prog 43 q58:=ai (z:= .nilFunc) (by kernel_rfl) Try.underlying43 rfl rfl (by intro h;cases h) (fun h=>by cases h)
theorem jaf:tt 43=some ⟨.other,1,8,[.nilFunc]⟩:=rfl
theorem q3s:ah Try.prog 44 q59:=ai (z:= .nilFunc) (by kernel_rfl) Try.underlying44 rfl rfl (by intro h;cases h) (fun h=>by cases h)
theorem jag:tt 44=some ⟨.other,1,8,[.nilFunc]⟩:=rfl
theorem q3t:ah Try.prog 45 q6a:=ai (z:= .nilFunc) (by kernel_rfl) Try.underlying45 rfl rfl (by intro h;cases h) (fun h=>by cases h)
theorem jah:tt 45=some ⟨.other,1,8,[.nilFunc]⟩:=rfl
theorem q3u:ah Try.prog 46 q6b:=ai (z:= .nilFunc) (by kernel_rfl) Try.underlying46 rfl rfl (by intro h;cases h) (fun h=>by cases h)
theorem jai:tt 46=some ⟨.other,1,8,[.nilFunc]⟩:=rfl
theorem q3v:ah Try.prog 47 q6c:=ai (z:= .agg #[(.int .i64 0),(.string ⟨#[]⟩),(.string ⟨#[]⟩)]) (by kernel_rfl) Try.underlying47 rfl rfl (by exact fun _=>⟨by kernel_rfl,by kernel_rfl,by kernel_rfl⟩) (fun h=>by cases h)
theorem jaj:tt 47=some ⟨.strct true [(0,3),(1,9),(2,9)],3,40,[(.int .i64 0),(.string ⟨#[]⟩),(.string ⟨#[]⟩)]⟩:=rfl
theorem q3w:ah Try.prog 48 q6d:=ai (z:= .agg #[(.int .i64 0),(.string ⟨#[]⟩),(.string ⟨#[]⟩)]) (by kernel_rfl) Try.underlying48 rfl rfl (by exact fun _=>⟨by kernel_rfl,by kernel_rfl,by kernel_rfl⟩) (fun h=>by cases h)
theorem jak:tt 48=some ⟨.strct true [(0,3),(1,9),(2,9)],3,40,[(.int .i64 0),(.string ⟨#[]⟩),(.string ⟨#[]⟩)]⟩:=rfl
theorem q3x:ah Try.prog 49 q6e:=ai (z:= .agg #[(.string ⟨#[]⟩),(.string ⟨#[]⟩)]) (by kernel_rfl) Try.underlying49 rfl rfl (by exact fun _=>⟨by kernel_rfl,by kernel_rfl,by kernel_rfl⟩) (fun h=>by cases h)
theorem jal:tt 49=some ⟨.strct true [(0,9),(1,9)],2,32,[(.string ⟨#[]⟩),(.string ⟨#[]⟩)]⟩:=rfl
theorem q3y:ah Try.prog 50 q6f:=ai (z:= .agg #[(.string ⟨#[]⟩),(.string ⟨#[]⟩)]) (by kernel_rfl) Try.underlying50 rfl rfl (by exact fun _=>⟨by kernel_rfl,by kernel_rfl,by kernel_rfl⟩) (fun h=>by cases h)
theorem jam:tt 50=some ⟨.strct true [(0,9),(1,9)],2,32,[(.string ⟨#[]⟩),(.string ⟨#[]⟩)]⟩:=rfl
theorem q3z:ah Try.prog 51 q6g:=ai (z:= .agg #[(.string ⟨#[]⟩),(.string ⟨#[]⟩)]) (by kernel_rfl) Try.underlying51 rfl rfl (by exact fun _=>⟨by kernel_rfl,by kernel_rfl,by kernel_rfl⟩) (fun h=>by cases h)
theorem jan:tt 51=some ⟨.arr true 2 9,2,32,[(.string ⟨#[]⟩),(.string ⟨#[]⟩)]⟩:=rfl
theorem q30:ah Try.prog 52 q6h:=ai (z:=(.slice none 0 0)) (by kernel_rfl) Try.underlying52 rfl rfl (by intro h;cases h) (fun h=>by cases h)
theorem jao:tt 52=some ⟨.slice 51,1,24,[(.slice none 0 0)]⟩:=rfl
theorem q31:ah Try.prog 53 q6i:=ai (z:= .nilFunc) (by kernel_rfl) Try.underlying53 rfl rfl (by intro h;cases h) (fun h=>by cases h)
theorem jap:tt 53=some ⟨.other,1,8,[.nilFunc]⟩:=rfl
theorem q32:ah Try.prog 54 q6j:=ai (z:= .agg #[(.int .i64 0),(.int .i64 0)]) (by kernel_rfl) Try.underlying54 rfl rfl (by exact fun _=>⟨by kernel_rfl,by kernel_rfl,by kernel_rfl⟩) (fun h=>by cases h)
theorem jaq:tt 54=some ⟨.strct true [(0,3),(1,3)],2,16,[(.int .i64 0),(.int .i64 0)]⟩:=rfl
theorem q33:ah Try.prog 55 q6k:=ai (z:= .agg #[(.int .i64 0),(.int .i64 0)]) (by kernel_rfl) Try.underlying55 rfl rfl (by exact fun _=>⟨by kernel_rfl,by kernel_rfl,by kernel_rfl⟩) (fun h=>by cases h)
theorem jar:tt 55=some ⟨.strct true [(0,3),(1,3)],2,16,[(.int .i64 0),(.int .i64 0)]⟩:=rfl
theorem q34:ah Try.prog 56 q6l:=ai (z:= .agg #[(.string ⟨#[]⟩),(.string ⟨#[]⟩),(.string ⟨#[]⟩),(.int .i64 0),(.int .i64 0)]) (by kernel_rfl) Try.underlying56 rfl rfl (by intro h;cases h) (fun h=>by cases h)
theorem jas:tt 56=some ⟨.strct false [(0,9),(1,9),(2,9),(3,55)],5,64,[(.string ⟨#[]⟩),(.string ⟨#[]⟩),(.string ⟨#[]⟩),(.int .i64 0),(.int .i64 0)]⟩:=rfl
theorem q35:ah Try.prog 57 q6m:=ai (z:= .agg #[(.string ⟨#[]⟩),(.string ⟨#[]⟩),(.string ⟨#[]⟩),(.int .i64 0),(.int .i64 0)]) (by kernel_rfl) Try.underlying57 rfl rfl (by intro h;cases h) (fun h=>by cases h)
theorem jat:tt 57=some ⟨.strct false [(0,9),(1,9),(2,9),(3,55)],5,64,[(.string ⟨#[]⟩),(.string ⟨#[]⟩),(.string ⟨#[]⟩),(.int .i64 0),(.int .i64 0)]⟩:=rfl
theorem q36:ah Try.prog 58 q6n:=ai (z:= .nilFunc) (by kernel_rfl) Try.underlying58 rfl rfl (by intro h;cases h) (fun h=>by cases h)
theorem jau:tt 58=some ⟨.other,1,8,[.nilFunc]⟩:=rfl
theorem q37:ah Try.prog 59 q6o:=ai (z:= .nilFunc) (by kernel_rfl) Try.underlying59 rfl rfl (by intro h;cases h) (fun h=>by cases h)
theorem jav:tt 59=some ⟨.other,1,8,[.nilFunc]⟩:=rfl
theorem q38:ah Try.prog 60 q6p:=ai (z:= .nilFunc) (by kernel_rfl) Try.underlying60 rfl rfl (by intro h;cases h) (fun h=>by cases h)
theorem jaw:tt 60=some ⟨.other,1,8,[.nilFunc]⟩:=rfl
theorem q39:ah Try.prog 61 q6q:=ai (z:= .nilFunc) (by kernel_rfl) Try.underlying61 rfl rfl (by intro h;cases h) (fun h=>by cases h)
theorem jax:tt 61=some ⟨.other,1,8,[.nilFunc]⟩:=rfl
theorem q4a:ah Try.prog 63 q6r:=ai (z:= .nilFunc) (by kernel_rfl) Try.underlying63 rfl rfl (by intro h;cases h) (fun h=>by cases h)
theorem jay:tt 63=some ⟨.other,1,8,[.nilFunc]⟩:=rfl
theorem q4b:ah Try.prog 65 q6s:=ai (z:= .nilFunc) (by kernel_rfl) Try.underlying65 rfl rfl (by intro h;cases h) (fun h=>by cases h)
theorem jaz:tt 65=some ⟨.other,1,8,[.nilFunc]⟩:=rfl
theorem q4c:ah Try.prog 66 q6t:=ai (z:=(.slice none 0 0)) (by kernel_rfl) Try.underlying66 rfl rfl (by intro h;cases h) (fun h=>by cases h)
theorem ja0:tt 66=some ⟨.slice 3,1,24,[(.slice none 0 0)]⟩:=rfl
theorem q4d:ah Try.prog 68 q6u:=ai (z:= .nilFunc) (by kernel_rfl) Try.underlying68 rfl rfl (by intro h;cases h) (fun h=>by cases h)
theorem ja1:tt 68=some ⟨.other,1,8,[.nilFunc]⟩:=rfl
theorem q4e:ah Try.prog 70 q6v:=ai (z:= .nilFunc) (by kernel_rfl) Try.underlying70 rfl rfl (by intro h;cases h) (fun h=>by cases h)
theorem ja2:tt 70=some ⟨.other,1,8,[.nilFunc]⟩:=rfl
theorem q4f:ah Try.prog 71 q6w:=ai (z:= .nilFunc) (by kernel_rfl) Try.underlying71 rfl rfl (by intro h;cases h) (fun h=>by cases h)
theorem ja3:tt 71=some ⟨.other,1,8,[.nilFunc]⟩:=rfl
theorem q4g:ah Try.prog 72 q6x:=ai (z:= .nilFunc) (by kernel_rfl) Try.underlying72 rfl rfl (by intro h;cases h) (fun h=>by cases h)
theorem ja4:tt 72=some ⟨.other,1,8,[.nilFunc]⟩:=rfl
theorem q4h:ah Try.prog 73 q6y:=ai (z:=(.map none)) (by kernel_rfl) Try.underlying73 rfl rfl (by intro h;cases h) (fun h=>by cases h)
theorem ja5:tt 73=some ⟨.map 9 4,1,8,[(.map none)]⟩:=rfl
theorem q4i:ah Try.prog 74 q6z:=ai (z:= .agg #[(.string ⟨#[]⟩),(.slice none 0 0)]) (by kernel_rfl) Try.underlying74 rfl rfl (by intro h;cases h) (fun h=>by cases h)
theorem ja6:tt 74=some ⟨.strct false [(0,9),(1,27)],2,40,[(.string ⟨#[]⟩),(.slice none 0 0)]⟩:=rfl
theorem q4j:ah Try.prog 75 q60:=ai (z:= .agg #[(.string ⟨#[]⟩),(.slice none 0 0)]) (by kernel_rfl) Try.underlying75 rfl rfl (by intro h;cases h) (fun h=>by cases h)
theorem ja7:tt 75=some ⟨.strct false [(0,9),(1,27)],2,40,[(.string ⟨#[]⟩),(.slice none 0 0)]⟩:=rfl
theorem q4k:ah Try.prog 76 q61:=ai (z:= .nilFunc) (by kernel_rfl) Try.underlying76 rfl rfl (by intro h;cases h) (fun h=>by cases h)
theorem ja8:tt 76=some ⟨.other,1,8,[.nilFunc]⟩:=rfl
theorem q4l:ah Try.prog 77 q62:=ai (z:= .nilFunc) (by kernel_rfl) Try.underlying77 rfl rfl (by intro h;cases h) (fun h=>by cases h)
theorem ja9:tt 77=some ⟨.other,1,8,[.nilFunc]⟩:=rfl
theorem q4m:ah Try.prog 78 q63:=ai (z:= .nilFunc) (by kernel_rfl) Try.underlying78 rfl rfl (by intro h;cases h) (fun h=>by cases h)
theorem jba:tt 78=some ⟨.other,1,8,[.nilFunc]⟩:=rfl
theorem q4n:ah Try.prog 79 q64:=ai (z:= .nilFunc) (by kernel_rfl) Try.underlying79 rfl rfl (by intro h;cases h) (fun h=>by cases h)
theorem jbb:tt 79=some ⟨.other,1,8,[.nilFunc]⟩:=rfl
theorem q4o:ah Try.prog 80 q65:=ai (z:= .nilFunc) (by kernel_rfl) Try.underlying80 rfl rfl (by intro h;cases h) (fun h=>by cases h)
theorem jbc:tt 80=some ⟨.other,1,8,[.nilFunc]⟩:=rfl
theorem q4p:ah Try.prog 81 q66:=ai (z:= .nilFunc) (by kernel_rfl) Try.underlying81 rfl rfl (by intro h;cases h) (fun h=>by cases h)
theorem jbd:tt 81=some ⟨.other,1,8,[.nilFunc]⟩:=rfl
theorem q4q:ah Try.prog 82 q67:=ai (z:= .nilFunc) (by kernel_rfl) Try.underlying82 rfl rfl (by intro h;cases h) (fun h=>by cases h)
theorem jbe:tt 82=some ⟨.other,1,8,[.nilFunc]⟩:=rfl
theorem q4r:ah Try.prog 83 q68:=ai (z:= .nilFunc) (by kernel_rfl) Try.underlying83 rfl rfl (by intro h;cases h) (fun h=>by cases h)
theorem jbf:tt 83=some ⟨.other,1,8,[.nilFunc]⟩:=rfl
theorem q4s:ah Try.prog 84 q69:=ai (z:= .nilFunc) (by kernel_rfl) Try.underlying84 rfl rfl (by intro h;cases h) (fun h=>by cases h)
theorem jbg:tt 84=some ⟨.other,1,8,[.nilFunc]⟩:=rfl
theorem q4t:ah Try.prog 85 q7a:=ai (z:= .nilFunc) (by kernel_rfl) Try.underlying85 rfl rfl (by intro h;cases h) (fun h=>by cases h)
theorem jbh:tt 85=some ⟨.other,1,8,[.nilFunc]⟩:=rfl
theorem q4u:ah Try.prog 86 q7b:=ai (z:= .nilFunc) (by kernel_rfl) Try.underlying86 rfl rfl (by intro h;cases h) (fun h=>by cases h)
theorem jbi:tt 86=some ⟨.other,1,8,[.nilFunc]⟩:=rfl
theorem q4v:ah Try.prog 87 q7c:=ai (z:= .nilFunc) (by kernel_rfl) Try.underlying87 rfl rfl (by intro h;cases h) (fun h=>by cases h)
theorem jbj:tt 87=some ⟨.other,1,8,[.nilFunc]⟩:=rfl
theorem q4w:ah Try.prog 88 q7d:=ai (z:= .nilFunc) (by kernel_rfl) Try.underlying88 rfl rfl (by intro h;cases h) (fun h=>by cases h)
theorem jbk:tt 88=some ⟨.other,1,8,[.nilFunc]⟩:=rfl
theorem q4x:ah Try.prog 89 q7e:=ai (z:= .nilFunc) (by kernel_rfl) Try.underlying89 rfl rfl (by intro h;cases h) (fun h=>by cases h)
theorem jbl:tt 89=some ⟨.other,1,8,[.nilFunc]⟩:=rfl
theorem q4y:ah Try.prog 90 q7f:=ai (z:= .nilFunc) (by kernel_rfl) Try.underlying90 rfl rfl (by intro h;cases h) (fun h=>by cases h)
theorem jbm:tt 90=some ⟨.other,1,8,[.nilFunc]⟩:=rfl
theorem q4z:ah Try.prog 91 q7g:=ai (z:= .nilFunc) (by kernel_rfl) Try.underlying91 rfl rfl (by intro h;cases h) (fun h=>by cases h)
theorem jbn:tt 91=some ⟨.other,1,8,[.nilFunc]⟩:=rfl
theorem q40:ah Try.prog 92 q7h:=ai (z:= .nilFunc) (by kernel_rfl) Try.underlying92 rfl rfl (by intro h;cases h) (fun h=>by cases h)
theorem jbo:tt 92=some ⟨.other,1,8,[.nilFunc]⟩:=rfl
theorem q41:ah Try.prog 93 q7i:=ai (z:= .nilFunc) (by kernel_rfl) Try.underlying93 rfl rfl (by intro h;cases h) (fun h=>by cases h)
theorem jbp:tt 93=some ⟨.other,1,8,[.nilFunc]⟩:=rfl
theorem q42:ah Try.prog 94 q7j:=ai (z:= .nilFunc) (by kernel_rfl) Try.underlying94 rfl rfl (by intro h;cases h) (fun h=>by cases h)
theorem jbq:tt 94=some ⟨.other,1,8,[.nilFunc]⟩:=rfl
theorem q43:ah Try.prog 95 q7k:=ai (z:= .nilFunc) (by kernel_rfl) Try.underlying95 rfl rfl (by intro h;cases h) (fun h=>by cases h)
theorem jbr:tt 95=some ⟨.other,1,8,[.nilFunc]⟩:=rfl
theorem q44:ah Try.prog 96 q7l:=ai (z:= .nilFunc) (by kernel_rfl) Try.underlying96 rfl rfl (by intro h;cases h) (fun h=>by cases h)
theorem jbs:tt 96=some ⟨.other,1,8,[.nilFunc]⟩:=rfl
theorem q45:ah Try.prog 97 q7m:=ai (z:= .nilFunc) (by kernel_rfl) Try.underlying97 rfl rfl (by intro h;cases h) (fun h=>by cases h)
theorem jbt:tt 97=some ⟨.other,1,8,[.nilFunc]⟩:=rfl
theorem q46:ah Try.prog 98 q7n:=ai (z:= .nilFunc) (by kernel_rfl) Try.underlying98 rfl rfl (by intro h;cases h) (fun h=>by cases h)
theorem jbu:tt 98=some ⟨.other,1,8,[.nilFunc]⟩:=rfl
theorem q47:ah Try.prog 99 q7o:=ai (z:= .nilFunc) (by kernel_rfl) Try.underlying99 rfl rfl (by intro h;cases h) (fun h=>by cases h)
theorem jbv:tt 99=some ⟨.other,1,8,[.nilFunc]⟩:=rfl
theorem q0z:ah Try.prog 100 qy5:=ai (z:=(.slice none 0 0)) (by kernel_rfl) Try.underlying100 rfl rfl (by intro h;cases h) (fun h=>by cases h)
theorem q7q:tt 100=some ⟨.slice 103,1,24,[(.slice none 0 0)]⟩:=rfl
theorem q00:ah Try.prog 101 qy6:=ai (z:= .nilFunc) (by kernel_rfl) Try.underlying101 rfl rfl (by intro h;cases h) (fun h=>by cases h)
theorem q7r:tt 101=some ⟨.other,1,8,[.nilFunc]⟩:=rfl
theorem q01:ah Try.prog 102 qy7:=ai (z:= .nilFunc) (by kernel_rfl) Try.underlying102 rfl rfl (by intro h;cases h) (fun h=>by cases h)
theorem q7s:tt 102=some ⟨.other,1,8,[.nilFunc]⟩:=rfl
theorem q02:ah Try.prog 103 qy8:=ai (z:=(.int .u64 0)) (by kernel_rfl) Try.underlying103 rfl rfl (by intro h;cases h) (fun _=>rfl)
theorem q7t:tt 103=some ⟨.int .u64,1,8,[(.int .u64 0)]⟩:=rfl
theorem q03:ah Try.prog 104 qy9:=ai (z:= .nilFunc) (by kernel_rfl) Try.underlying104 rfl rfl (by intro h;cases h) (fun h=>by cases h)
theorem q7u:tt 104=some ⟨.other,1,8,[.nilFunc]⟩:=rfl
theorem q04:ah Try.prog 105 qza:=ai (z:=(.slice none 0 0)) (by kernel_rfl) Try.underlying105 rfl rfl (by intro h;cases h) (fun h=>by cases h)
theorem q7v:tt 105=some ⟨.slice 109,1,24,[(.slice none 0 0)]⟩:=rfl
theorem q05:ah Try.prog 106 qzb:=ai (z:= .nilFunc) (by kernel_rfl) Try.underlying106 rfl rfl (by intro h;cases h) (fun h=>by cases h)
theorem q7w:tt 106=some ⟨.other,1,8,[.nilFunc]⟩:=rfl
theorem q06:ah Try.prog 108 qzc:=ai (z:= .nilFunc) (by kernel_rfl) Try.underlying108 rfl rfl (by intro h;cases h) (fun h=>by cases h)
theorem q7x:tt 108=some ⟨.other,1,8,[.nilFunc]⟩:=rfl
theorem q07:ah Try.prog 109 qzd:=ai (z:=(.slice none 0 0)) (by kernel_rfl) Try.underlying109 rfl rfl (by intro h;cases h) (fun h=>by cases h)
theorem q7y:tt 109=some ⟨.slice 4,1,24,[(.slice none 0 0)]⟩:=rfl
theorem q08:ah Try.prog 110 qze:=ai (z:= .nilFunc) (by kernel_rfl) Try.underlying110 rfl rfl (by intro h;cases h) (fun h=>by cases h)
theorem q7z:tt 110=some ⟨.other,1,8,[.nilFunc]⟩:=rfl
theorem q09:ah Try.prog 111 qzf:=ai (z:= .nilFunc) (by kernel_rfl) Try.underlying111 rfl rfl (by intro h;cases h) (fun h=>by cases h)
theorem q70:tt 111=some ⟨.other,1,8,[.nilFunc]⟩:=rfl
theorem q1a:ah Try.prog 112 qzg:=ai (z:= .nilFunc) (by kernel_rfl) Try.underlying112 rfl rfl (by intro h;cases h) (fun h=>by cases h)
theorem q71:tt 112=some ⟨.other,1,8,[.nilFunc]⟩:=rfl
theorem q1b:ah Try.prog 113 qzh:=ai (z:= .nilFunc) (by kernel_rfl) Try.underlying113 rfl rfl (by intro h;cases h) (fun h=>by cases h)
theorem q72:tt 113=some ⟨.other,1,8,[.nilFunc]⟩:=rfl
theorem q1c:ah Try.prog 114 qzi:=ai (z:= .nilFunc) (by kernel_rfl) Try.underlying114 rfl rfl (by intro h;cases h) (fun h=>by cases h)
theorem q73:tt 114=some ⟨.other,1,8,[.nilFunc]⟩:=rfl
theorem q1d:ah Try.prog 115 qzj:=ai (z:= .nilFunc) (by kernel_rfl) Try.underlying115 rfl rfl (by intro h;cases h) (fun h=>by cases h)
theorem q74:tt 115=some ⟨.other,1,8,[.nilFunc]⟩:=rfl
theorem q1e:ah Try.prog 116 qzk:=ai (z:= .nilFunc) (by kernel_rfl) Try.underlying116 rfl rfl (by intro h;cases h) (fun h=>by cases h)
theorem q75:tt 116=some ⟨.other,1,8,[.nilFunc]⟩:=rfl
theorem q1f:ah Try.prog 117 qzl:=ai (z:=(.map none)) (by kernel_rfl) Try.underlying117 rfl rfl (by intro h;cases h) (fun h=>by cases h)
theorem q76:tt 117=some ⟨.map 3 3,1,8,[(.map none)]⟩:=rfl
theorem q1g:ah Try.prog 118 qzm:=ai (z:= .nilFunc) (by kernel_rfl) Try.underlying118 rfl rfl (by intro h;cases h) (fun h=>by cases h)
theorem q77:tt 118=some ⟨.other,1,8,[.nilFunc]⟩:=rfl
theorem q1h:ah Try.prog 119 qzn:=ai (z:=(.map none)) (by kernel_rfl) Try.underlying119 rfl rfl (by intro h;cases h) (fun h=>by cases h)
theorem q78:tt 119=some ⟨.map 3 4,1,8,[(.map none)]⟩:=rfl
theorem q1i:ah Try.prog 121 qzo:=ai (z:= .nilFunc) (by kernel_rfl) Try.underlying121 rfl rfl (by intro h;cases h) (fun h=>by cases h)
theorem q79:tt 121=some ⟨.other,1,8,[.nilFunc]⟩:=rfl
theorem q1j:ah Try.prog 122 qzp:=ai (z:= .nilFunc) (by kernel_rfl) Try.underlying122 rfl rfl (by intro h;cases h) (fun h=>by cases h)
theorem q8a:tt 122=some ⟨.other,1,8,[.nilFunc]⟩:=rfl
theorem q1k:ah Try.prog 123 qzq:=ai (z:=(.int .u64 0)) (by kernel_rfl) Try.underlying123 rfl rfl (by intro h;cases h) (fun _=>rfl)
theorem q8b:tt 123=some ⟨.int .u64,1,8,[(.int .u64 0)]⟩:=rfl
theorem q1l:ah Try.prog 124 qzr:=ai (z:= .nilFunc) (by kernel_rfl) Try.underlying124 rfl rfl (by intro h;cases h) (fun h=>by cases h)
theorem q8c:tt 124=some ⟨.other,1,8,[.nilFunc]⟩:=rfl
theorem q1m:ah Try.prog 125 qzs:=ai (z:= .nilFunc) (by kernel_rfl) Try.underlying125 rfl rfl (by intro h;cases h) (fun h=>by cases h)
theorem q8d:tt 125=some ⟨.other,1,8,[.nilFunc]⟩:=rfl
theorem q1n:ah Try.prog 126 qzt:=ai (z:= .agg #[(.pointer none),(.pointer none),(.pointer none),(.string ⟨#[]⟩)]) (by kernel_rfl) Try.underlying126 rfl rfl (by intro h;cases h) (fun h=>by cases h)
theorem q8e:tt 126=some ⟨.strct false [(0,17),(1,17),(2,17),(3,9)],4,40,[(.pointer none),(.pointer none),(.pointer none),(.string ⟨#[]⟩)]⟩:=rfl
theorem q1o:ah Try.prog 127 qzu:=ai (z:= .agg #[(.pointer none),(.pointer none),(.pointer none),(.string ⟨#[]⟩)]) (by kernel_rfl) Try.underlying127 rfl rfl (by intro h;cases h) (fun h=>by cases h)
theorem q8f:tt 127=some ⟨.strct false [(0,17),(1,17),(2,17),(3,9)],4,40,[(.pointer none),(.pointer none),(.pointer none),(.string ⟨#[]⟩)]⟩:=rfl
theorem q1p:ah Try.prog 128 qzv:=ai (z:= .agg #[]) (by kernel_rfl) Try.underlying128 rfl rfl (by intro h;cases h) (fun h=>by cases h)
theorem q8g:tt 128=some ⟨.arr false 0 16,0,0,[]⟩:=rfl
theorem q1q:ah Try.prog 129 qzw:=ai (z:= .agg #[]) (by kernel_rfl) Try.underlying129 rfl rfl (by intro h;cases h) (fun h=>by cases h)
theorem q8h:tt 129=some ⟨.strct false [(0,128)],0,0,[]⟩:=rfl
theorem q1r:ah Try.prog 130 qzx:=ai (z:= .agg #[]) (by kernel_rfl) Try.underlying130 rfl rfl (by intro h;cases h) (fun h=>by cases h)
theorem q8i:tt 130=some ⟨.strct false [(0,128)],0,0,[]⟩:=rfl
theorem q1s:ah Try.prog 131 qzy:=ai (z:= .nilFunc) (by kernel_rfl) Try.underlying131 rfl rfl (by intro h;cases h) (fun h=>by cases h)
theorem q8j:tt 131=some ⟨.other,1,8,[.nilFunc]⟩:=rfl
theorem q1t:ah Try.prog 132 qzz:=ai (z:=(.int .u32 0)) (by kernel_rfl) Try.underlying132 rfl rfl (by intro h;cases h) (fun _=>rfl)
theorem q8k:tt 132=some ⟨.int .u32,1,4,[(.int .u32 0)]⟩:=rfl
theorem q1u:ah Try.prog 133 qz0:=ai (z:=(.int .u8 0)) (by kernel_rfl) Try.underlying133 rfl rfl (by intro h;cases h) (fun _=>rfl)
theorem q8l:tt 133=some ⟨.int .u8,1,1,[(.int .u8 0)]⟩:=rfl
theorem q1v:ah Try.prog 134 qz1:=ai (z:=(.int .u8 0)) (by kernel_rfl) Try.underlying134 rfl rfl (by intro h;cases h) (fun _=>rfl)
theorem q8m:tt 134=some ⟨.int .u8,1,1,[(.int .u8 0)]⟩:=rfl
theorem q1w:ah Try.prog 135 qz2:=ai (z:= .nilFunc) (by kernel_rfl) Try.underlying135 rfl rfl (by intro h;cases h) (fun h=>by cases h)
theorem q8n:tt 135=some ⟨.other,1,8,[.nilFunc]⟩:=rfl
theorem q1x:ah Try.prog 136 qz3:=ai (z:=(.pointer none)) (by kernel_rfl) Try.underlying136 rfl rfl (by intro h;cases h) (fun h=>by cases h)
theorem q8o:tt 136=some ⟨.other,1,8,[(.pointer none)]⟩:=rfl
theorem q1y:ah Try.prog 137 qz4:=ai (z:=(.int .i32 0)) (by kernel_rfl) Try.underlying137 rfl rfl (by intro h;cases h) (fun _=>rfl)
theorem q8p:tt 137=some ⟨.int .i32,1,4,[(.int .i32 0)]⟩:=rfl
theorem q1z:ah Try.prog 138 qz5:=ai (z:=(.int .i32 0)) (by kernel_rfl) Try.underlying138 rfl rfl (by intro h;cases h) (fun _=>rfl)
theorem q8q:tt 138=some ⟨.int .i32,1,4,[(.int .i32 0)]⟩:=rfl
theorem q10:ah Try.prog 139 qz6:=ai (z:= .agg #[(.int .u64 0),(.int .u64 0),(.int .u32 0),(.int .u8 0),(.int .u8 0),(.int .u8 0),(.int .u8 0), .nilFunc,(.pointer none),(.int .i32 0),(.int .i32 0)]) (by kernel_rfl) Try.underlying139 rfl rfl (by intro h;cases h) (fun h=>by cases h)
theorem q8r:tt 139=some ⟨.strct false [(0,12),(1,12),(2,132),(3,133),(4,5),(5,5),(6,134),(7,135),(8,136),(9,137),(10,138)],11,48,[(.int .u64 0),(.int .u64 0),(.int .u32 0),(.int .u8 0),(.int .u8 0),(.int .u8 0),(.int .u8 0), .nilFunc,(.pointer none),(.int .i32 0),(.int .i32 0)]⟩:=rfl
theorem q11:ah Try.prog 140 qz7:=ai (z:= .agg #[(.int .u64 0),(.int .u64 0),(.int .u32 0),(.int .u8 0),(.int .u8 0),(.int .u8 0),(.int .u8 0), .nilFunc,(.pointer none),(.int .i32 0),(.int .i32 0)]) (by kernel_rfl) Try.underlying140 rfl rfl (by intro h;cases h) (fun h=>by cases h)
theorem q8s:tt 140=some ⟨.strct false [(0,12),(1,12),(2,132),(3,133),(4,5),(5,5),(6,134),(7,135),(8,136),(9,137),(10,138)],11,48,[(.int .u64 0),(.int .u64 0),(.int .u32 0),(.int .u8 0),(.int .u8 0),(.int .u8 0),(.int .u8 0), .nilFunc,(.pointer none),(.int .i32 0),(.int .i32 0)]⟩:=rfl
theorem q12:ah Try.prog 141 qz8:=ai (z:=(.pointer none)) (by kernel_rfl) Try.underlying141 rfl rfl (by intro h;cases h) (fun h=>by cases h)
theorem q8t:tt 141=some ⟨.other,1,8,[(.pointer none)]⟩:=rfl
set_option maxRecDepth 100000 in
theorem fits:du Try.prog tt:=by
 intro t x h;unfold tt at h;split at h
 ·cases h;exact q89
 ·cases h;exact q9a
 ·cases h;exact q9b
 ·cases h;exact q9c
 ·cases h;exact q9d
 ·cases h;exact q9e
 ·cases h;exact q9f
 ·cases h;exact q9g
 ·cases h;exact q9h
 ·cases h;exact q2y
 ·cases h;exact q2z
 ·cases h;exact q20
 ·cases h;exact q21
 ·cases h;exact q22
 ·cases h;exact q23
 ·cases h;exact q24
 ·cases h;exact q25
 ·cases h;exact q26
 ·cases h;exact q27
 ·cases h;exact q28
 ·cases h;exact q29
 ·cases h;exact q3a
 ·cases h;exact q3b
 ·cases h;exact q3c
 ·cases h;exact q3d
 ·cases h;exact q3e
 ·cases h;exact q3f
 ·cases h;exact q3g
 ·cases h;exact q3h
 ·cases h;exact q3i
 ·cases h;exact q3j
 ·cases h;exact q3k
 ·cases h;exact q3l
 ·cases h;exact q3m
 ·cases h;exact q3n
 ·cases h;exact q3o
 ·cases h;exact q3p
 ·cases h;exact q3q
 ·cases h;exact q3r
 ·cases h;exact q3s
 ·cases h;exact q3t
 ·cases h;exact q3u
 ·cases h;exact q3v
 ·cases h;exact q3w
 ·cases h;exact q3x
 ·cases h;exact q3y
 ·cases h;exact q3z
 ·cases h;exact q30
 ·cases h;exact q31
 ·cases h;exact q32
 ·cases h;exact q33
 ·cases h;exact q34
 ·cases h;exact q35
 ·cases h;exact q36
 ·cases h;exact q37
 ·cases h;exact q38
 ·cases h;exact q39
 ·cases h;exact q4a
 ·cases h;exact q4b
 ·cases h;exact q4c
 ·cases h;exact q4d
 ·cases h;exact q4e
 ·cases h;exact q4f
 ·cases h;exact q4g
 ·cases h;exact q4h
 ·cases h;exact q4i
 ·cases h;exact q4j
 ·cases h;exact q4k
 ·cases h;exact q4l
 ·cases h;exact q4m
 ·cases h;exact q4n
 ·cases h;exact q4o
 ·cases h;exact q4p
 ·cases h;exact q4q
 ·cases h;exact q4r
 ·cases h;exact q4s
 ·cases h;exact q4t
 ·cases h;exact q4u
 ·cases h;exact q4v
 ·cases h;exact q4w
 ·cases h;exact q4x
 ·cases h;exact q4y
 ·cases h;exact q4z
 ·cases h;exact q40
 ·cases h;exact q41
 ·cases h;exact q42
 ·cases h;exact q43
 ·cases h;exact q44
 ·cases h;exact q45
 ·cases h;exact q46
 ·cases h;exact q47
 ·cases h;exact q0z
 ·cases h;exact q00
 ·cases h;exact q01
 ·cases h;exact q02
 ·cases h;exact q03
 ·cases h;exact q04
 ·cases h;exact q05
 ·cases h;exact q06
 ·cases h;exact q07
 ·cases h;exact q08
 ·cases h;exact q09
 ·cases h;exact q1a
 ·cases h;exact q1b
 ·cases h;exact q1c
 ·cases h;exact q1d
 ·cases h;exact q1e
 ·cases h;exact q1f
 ·cases h;exact q1g
 ·cases h;exact q1h
 ·cases h;exact q1i
 ·cases h;exact q1j
 ·cases h;exact q1k
 ·cases h;exact q1l
 ·cases h;exact q1m
 ·cases h;exact q1n
 ·cases h;exact q1o
 ·cases h;exact q1p
 ·cases h;exact q1q
 ·cases h;exact q1r
 ·cases h;exact q1s
 ·cases h;exact q1t
 ·cases h;exact q1u
 ·cases h;exact q1v
 ·cases h;exact q1w
 ·cases h;exact q1x
 ·cases h;exact q1y
 ·cases h;exact q1z
 ·cases h;exact q10
 ·cases h;exact q11
 ·cases h;exact q12
 ·cases h
theorem bk:Try.prog.follows .mixedOrders=true:=rfl
attribute [go_sem] tt1 tt2 tt3 tt4 tt5 tt6 tt7 tt8 tt9 q9m q9n q9o q9p q9q q9r q9s q9t q9u q9v q9w q9x q9y q9z q90 q91 q92 q93 q94 q95 q96 q97 q98 q99 jaa jab jac jad jae jaf jag jah jai jaj jak jal jam jan jao jap jaq jar jas jat jau jav jaw jax jay jaz ja0 ja1 ja2 ja3 ja4 ja5 ja6 ja7 ja8 ja9 jba jbb jbc jbd jbe jbf jbg jbh jbi jbj jbk jbl jbm jbn jbo jbp jbq jbr jbs jbt jbu jbv q7q q7r q7s q7t q7u q7v q7w q7x q7y q7z q70 q71 q72 q73 q74 q75 q76 q77 q78 q79 q8a q8b q8c q8d q8e q8f q8g q8h q8i q8j q8k q8l q8m q8n q8o q8p q8q q8r q8s q8t
end Go.Proofs.Ytmlfmeffjodhmaa
