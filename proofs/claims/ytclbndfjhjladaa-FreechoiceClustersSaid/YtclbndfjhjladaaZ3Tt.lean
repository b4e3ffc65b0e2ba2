/-
  The types of this seat's program: a row a type (its kind, cells, bytes, the cells of its zero value), and that each row is the program's own. Made by program out of the translation.
-/
import Derived.Test.YtclbndfjhjladaaZ3KE
import Derived.Test.YtclbndfjhjladaaProg
import Derived.KernelRfl
set_option linter.all false
namespace Go.Proofs.Ytclbndfjhjladaa
open Go.K Go.M
theorem fitsAt {P:Program} {t:TypeId} {k:TK} {sz by_:Nat} {zs:List Value} {z:Value} {d:TypeDesc} (h1:(P.info? t).map (fun i=>(i.zero,i.size,i.bytes))=some (some z,sz,by_)) (h2:P.underlying t=some d) (h3:TK.of d=k.plain) (h4:z.cells.toList=zs) (h5:k.cmp=true→Cmp P t) (h6:k.one=true→zs=[z]):FitsAt P t ⟨k,sz,by_,zs⟩:=by
 cases hi:P.info? t with
 | none => simp [hi] at h1
 | some i =>
   simp only [hi,Option.map_some,Option.some.injEq,Prod.mk.injEq] at h1
   exact ⟨⟨i,d,z,hi,h2,h3,h1.2.1,h1.2.2,h1.1,h4⟩,h5,fun e=>⟨i,z,hi,h1.1,h6 e⟩⟩
def ti1:TI:=⟨.other,1,8,[.nilFunc]⟩
def ti2:TI:=⟨.int .i64,1,8,[(.int .i64 0)]⟩
def ti3:TI:=⟨.int .i64,1,8,[(.int .i64 0)]⟩
def ti4:TI:=⟨.bool,1,1,[(.bool false)]⟩
def ti5:TI:=⟨.int .u8,1,1,[(.int .u8 0)]⟩
def ti6:TI:=⟨.int .u8,1,1,[(.int .u8 0)]⟩
def ti7:TI:=⟨.strct true [(0,2),(1,3),(2,4),(3,6)],4,24,[(.int .i64 0),(.int .i64 0),(.bool false),(.int .u8 0)]⟩
def ti8:TI:=⟨.strct true [(0,2),(1,3),(2,4),(3,6)],4,24,[(.int .i64 0),(.int .i64 0),(.bool false),(.int .u8 0)]⟩
def ti9:TI:=⟨.str,1,16,[(.string ⟨#[]⟩)]⟩
def ti10:TI:=⟨.str,1,16,[(.string ⟨#[]⟩)]⟩
def ti11:TI:=⟨.str,1,16,[(.string ⟨#[]⟩)]⟩
def ti12:TI:=⟨.int .u64,1,8,[(.int .u64 0)]⟩
def ti13:TI:=⟨.strct false [(0,9),(1,12)],2,24,[(.string ⟨#[]⟩),(.int .u64 0)]⟩
def ti14:TI:=⟨.strct false [(0,9),(1,12)],2,24,[(.string ⟨#[]⟩),(.int .u64 0)]⟩
def ti15:TI:=⟨.other,1,8,[(.pointer none)]⟩
def ti16:TI:=⟨.other,1,8,[(.pointer none)]⟩
def ti17:TI:=⟨.other,1,8,[(.pointer none)]⟩
def ti18:TI:=⟨.strct false [(0,17)],1,8,[(.pointer none)]⟩
def ti19:TI:=⟨.strct false [(0,17)],1,8,[(.pointer none)]⟩
def ti20:TI:=⟨.other,1,16,[.nilIface]⟩
def ti21:TI:=⟨.int .i32,1,4,[(.int .i32 0)]⟩
def ti22:TI:=⟨.slice 36,1,24,[(.slice none 0 0)]⟩
def ti23:TI:=⟨.strct false [(0,3),(1,22),(2,3),(3,3)],4,48,[(.int .i64 0),(.slice none 0 0),(.int .i64 0),(.int .i64 0)]⟩
def ti24:TI:=⟨.strct false [(0,3),(1,22),(2,3),(3,3)],4,48,[(.int .i64 0),(.slice none 0 0),(.int .i64 0),(.int .i64 0)]⟩
def ti25:TI:=⟨.other,1,8,[.nilFunc]⟩
def ti26:TI:=⟨.other,1,8,[.nilFunc]⟩
def ti27:TI:=⟨.slice 34,1,24,[(.slice none 0 0)]⟩
def ti28:TI:=⟨.int .i64,1,8,[(.int .i64 0)]⟩
def ti30:TI:=⟨.other,1,8,[.nilFunc]⟩
def ti32:TI:=⟨.other,1,8,[.nilFunc]⟩
def ti33:TI:=⟨.slice 3,1,24,[(.slice none 0 0)]⟩
def ti34:TI:=⟨.arr false 2 33,2,48,[(.slice none 0 0),(.slice none 0 0)]⟩
def ti35:TI:=⟨.strct false [(0,9),(1,33),(2,33)],3,64,[(.string ⟨#[]⟩),(.slice none 0 0),(.slice none 0 0)]⟩
def ti36:TI:=⟨.strct false [(0,9),(1,33),(2,33)],3,64,[(.string ⟨#[]⟩),(.slice none 0 0),(.slice none 0 0)]⟩
def ti37:TI:=⟨.other,1,8,[.nilFunc]⟩
def ti38:TI:=⟨.other,1,8,[.nilFunc]⟩
def ti39:TI:=⟨.other,1,8,[.nilFunc]⟩
def ti40:TI:=⟨.other,1,8,[.nilFunc]⟩
def ti41:TI:=⟨.other,1,8,[.nilFunc]⟩
def ti42:TI:=⟨.other,1,8,[.nilFunc]⟩
def ti43:TI:=⟨.other,1,8,[.nilFunc]⟩
def ti44:TI:=⟨.other,1,8,[.nilFunc]⟩
def ti45:TI:=⟨.other,1,8,[.nilFunc]⟩
def ti46:TI:=⟨.other,1,8,[.nilFunc]⟩
def ti47:TI:=⟨.other,1,8,[.nilFunc]⟩
def ti48:TI:=⟨.other,1,8,[.nilFunc]⟩
def ti50:TI:=⟨.other,1,8,[.nilFunc]⟩
def ti51:TI:=⟨.slice 33,1,24,[(.slice none 0 0)]⟩
def ti53:TI:=⟨.other,1,8,[.nilFunc]⟩
def ti54:TI:=⟨.other,1,8,[.nilFunc]⟩
def ti55:TI:=⟨.other,1,8,[.nilFunc]⟩
def ti56:TI:=⟨.other,1,8,[.nilFunc]⟩
def ti57:TI:=⟨.other,1,8,[.nilFunc]⟩
def ti58:TI:=⟨.other,1,8,[.nilFunc]⟩
def ti59:TI:=⟨.other,1,8,[(.pointer none)]⟩
def ti60:TI:=⟨.other,1,8,[.nilFunc]⟩
def ti61:TI:=⟨.other,1,8,[.nilFunc]⟩
def ti62:TI:=⟨.map 3 3,1,8,[(.map none)]⟩
def ti63:TI:=⟨.strct false [(0,3),(1,33)],2,32,[(.int .i64 0),(.slice none 0 0)]⟩
def ti64:TI:=⟨.strct false [(0,3),(1,33)],2,32,[(.int .i64 0),(.slice none 0 0)]⟩
def ti65:TI:=⟨.other,1,8,[.nilFunc]⟩
def ti67:TI:=⟨.other,1,8,[.nilFunc]⟩
def ti69:TI:=⟨.other,1,8,[.nilFunc]⟩
def ti70:TI:=⟨.other,1,8,[.nilFunc]⟩
def ti71:TI:=⟨.slice 25,1,24,[(.slice none 0 0)]⟩
def ti72:TI:=⟨.other,1,8,[.nilFunc]⟩
def ti73:TI:=⟨.other,1,8,[.nilFunc]⟩
def ti74:TI:=⟨.slice 76,1,24,[(.slice none 0 0)]⟩
def ti75:TI:=⟨.other,1,8,[.nilFunc]⟩
def ti76:TI:=⟨.int .u32,1,4,[(.int .u32 0)]⟩
def ti77:TI:=⟨.other,1,8,[.nilFunc]⟩
def ti78:TI:=⟨.other,1,8,[.nilFunc]⟩
def ti79:TI:=⟨.other,1,8,[.nilFunc]⟩
def ti80:TI:=⟨.slice 4,1,24,[(.slice none 0 0)]⟩
def ti82:TI:=⟨.other,1,8,[.nilFunc]⟩
def ti83:TI:=⟨.other,1,8,[.nilFunc]⟩
def ti84:TI:=⟨.other,1,8,[.nilFunc]⟩
def ti85:TI:=⟨.other,1,8,[.nilFunc]⟩
def ti86:TI:=⟨.other,1,8,[.nilFunc]⟩
def ti87:TI:=⟨.other,1,8,[.nilFunc]⟩
def ti88:TI:=⟨.strct false [(0,51),(1,33),(2,3),(3,3)],4,64,[(.slice none 0 0),(.slice none 0 0),(.int .i64 0),(.int .i64 0)]⟩
def ti89:TI:=⟨.strct false [(0,51),(1,33),(2,3),(3,3)],4,64,[(.slice none 0 0),(.slice none 0 0),(.int .i64 0),(.int .i64 0)]⟩
def ti90:TI:=⟨.other,1,8,[.nilFunc]⟩
def ti91:TI:=⟨.other,1,8,[.nilFunc]⟩
def ti92:TI:=⟨.other,1,8,[.nilFunc]⟩
def ti93:TI:=⟨.other,1,8,[.nilFunc]⟩
def ti94:TI:=⟨.other,1,8,[.nilFunc]⟩
def ti95:TI:=⟨.int .u64,1,8,[(.int .u64 0)]⟩
def ti96:TI:=⟨.other,1,8,[.nilFunc]⟩
def ti97:TI:=⟨.other,1,8,[.nilFunc]⟩
def ti98:TI:=⟨.other,1,8,[.nilFunc]⟩
def ti99:TI:=⟨.other,1,8,[(.pointer none)]⟩
def ti100:TI:=⟨.strct false [(0,51),(1,51)],2,48,[(.slice none 0 0),(.slice none 0 0)]⟩
def ti101:TI:=⟨.strct false [(0,51),(1,51)],2,48,[(.slice none 0 0),(.slice none 0 0)]⟩
def ti102:TI:=⟨.other,1,8,[.nilFunc]⟩
def ti103:TI:=⟨.int .i64,1,8,[(.int .i64 0)]⟩
def ti105:TI:=⟨.other,1,8,[.nilFunc]⟩
def ti106:TI:=⟨.other,1,8,[.nilFunc]⟩
def ti107:TI:=⟨.other,1,8,[.nilFunc]⟩
def ti108:TI:=⟨.other,1,8,[.nilFunc]⟩
def ti109:TI:=⟨.other,1,8,[.nilFunc]⟩
def ti110:TI:=⟨.other,1,8,[.nilFunc]⟩
def ti111:TI:=⟨.int .u64,1,8,[(.int .u64 0)]⟩
def ti112:TI:=⟨.other,1,8,[.nilFunc]⟩
def ti113:TI:=⟨.other,1,8,[.nilFunc]⟩
def ti114:TI:=⟨.other,1,8,[(.pointer none)]⟩
def ti115:TI:=⟨.int .u64,1,8,[(.int .u64 0)]⟩
def ti116:TI:=⟨.other,1,8,[.nilFunc]⟩
def ti117:TI:=⟨.other,1,8,[.nilFunc]⟩
def ti118:TI:=⟨.other,1,8,[.nilFunc]⟩
def ti119:TI:=⟨.other,1,8,[(.pointer none)]⟩
def ti120:TI:=⟨.other,1,8,[.nilFunc]⟩
def ti121:TI:=⟨.other,1,8,[.nilFunc]⟩
def ti122:TI:=⟨.other,1,8,[.nilFunc]⟩
def ti123:TI:=⟨.other,1,8,[(.pointer none)]⟩
def ti125:TI:=⟨.other,1,8,[.nilFunc]⟩
def ti126:TI:=⟨.other,1,8,[.nilFunc]⟩
def ti127:TI:=⟨.strct false [(0,17),(1,17),(2,17),(3,9)],4,40,[(.pointer none),(.pointer none),(.pointer none),(.string ⟨#[]⟩)]⟩
def ti128:TI:=⟨.strct false [(0,17),(1,17),(2,17),(3,9)],4,40,[(.pointer none),(.pointer none),(.pointer none),(.string ⟨#[]⟩)]⟩
def ti129:TI:=⟨.arr false 0 16,0,0,[]⟩
def ti130:TI:=⟨.strct false [(0,129)],0,0,[]⟩
def ti131:TI:=⟨.strct false [(0,129)],0,0,[]⟩
def ti132:TI:=⟨.other,1,8,[.nilFunc]⟩
def ti133:TI:=⟨.int .u8,1,1,[(.int .u8 0)]⟩
def ti134:TI:=⟨.int .u8,1,1,[(.int .u8 0)]⟩
def ti135:TI:=⟨.other,1,8,[.nilFunc]⟩
def ti136:TI:=⟨.other,1,8,[(.pointer none)]⟩
def ti137:TI:=⟨.int .i32,1,4,[(.int .i32 0)]⟩
def ti138:TI:=⟨.int .i32,1,4,[(.int .i32 0)]⟩
def ti139:TI:=⟨.strct false [(0,12),(1,12),(2,76),(3,133),(4,5),(5,5),(6,134),(7,135),(8,136),(9,137),(10,138)],11,48,[(.int .u64 0),(.int .u64 0),(.int .u32 0),(.int .u8 0),(.int .u8 0),(.int .u8 0),(.int .u8 0),.nilFunc,(.pointer none),(.int .i32 0),(.int .i32 0)]⟩
def ti140:TI:=⟨.strct false [(0,12),(1,12),(2,76),(3,133),(4,5),(5,5),(6,134),(7,135),(8,136),(9,137),(10,138)],11,48,[(.int .u64 0),(.int .u64 0),(.int .u32 0),(.int .u8 0),(.int .u8 0),(.int .u8 0),(.int .u8 0),.nilFunc,(.pointer none),(.int .i32 0),(.int .i32 0)]⟩
def ti141:TI:=⟨.other,1,8,[(.pointer none)]⟩
def tt:TT
 | 1 => some ti1
 | 2 => some ti2
 | 3 => some ti3
 | 4 => some ti4
 | 5 => some ti5
 | 6 => some ti6
 | 7 => some ti7
 | 8 => some ti8
 | 9 => some ti9
 | 10 => some ti10
 | 11 => some ti11
 | 12 => some ti12
 | 13 => some ti13
 | 14 => some ti14
 | 15 => some ti15
 | 16 => some ti16
 | 17 => some ti17
 | 18 => some ti18
 | 19 => some ti19
 | 20 => some ti20
 | 21 => some ti21
 | 22 => some ti22
 | 23 => some ti23
 | 24 => some ti24
 | 25 => some ti25
 | 26 => some ti26
 | 27 => some ti27
 | 28 => some ti28
 | 30 => some ti30
 | 32 => some ti32
 | 33 => some ti33
 | 34 => some ti34
 | 35 => some ti35
 | 36 => some ti36
 | 37 => some ti37
 | 38 => some ti38
 | 39 => some ti39
 | 40 => some ti40
 | 41 => some ti41
 | 42 => some ti42
 | 43 => some ti43
 | 44 => some ti44
 | 45 => some ti45
 | 46 => some ti46
 | 47 => some ti47
 | 48 => some ti48
 | 50 => some ti50
 | 51 => some ti51
 | 53 => some ti53
 | 54 => some ti54
 | 55 => some ti55
 | 56 => some ti56
 | 57 => some ti57
 | 58 => some ti58
 | 59 => some ti59
 | 60 => some ti60
 | 61 => some ti61
 | 62 => some ti62
 | 63 => some ti63
 | 64 => some ti64
 | 65 => some ti65
 | 67 => some ti67
 | 69 => some ti69
 | 70 => some ti70
 | 71 => some ti71
 | 72 => some ti72
 | 73 => some ti73
 | 74 => some ti74
 | 75 => some ti75
 | 76 => some ti76
 | 77 => some ti77
 | 78 => some ti78
 | 79 => some ti79
 | 80 => some ti80
 | 82 => some ti82
 | 83 => some ti83
 | 84 => some ti84
 | 85 => some ti85
 | 86 => some ti86
 | 87 => some ti87
 | 88 => some ti88
 | 89 => some ti89
 | 90 => some ti90
 | 91 => some ti91
 | 92 => some ti92
 | 93 => some ti93
 | 94 => some ti94
 | 95 => some ti95
 | 96 => some ti96
 | 97 => some ti97
 | 98 => some ti98
 | 99 => some ti99
 | 100 => some ti100
 | 101 => some ti101
 | 102 => some ti102
 | 103 => some ti103
 | 105 => some ti105
 | 106 => some ti106
 | 107 => some ti107
 | 108 => some ti108
 | 109 => some ti109
 | 110 => some ti110
 | 111 => some ti111
 | 112 => some ti112
 | 113 => some ti113
 | 114 => some ti114
 | 115 => some ti115
 | 116 => some ti116
 | 117 => some ti117
 | 118 => some ti118
 | 119 => some ti119
 | 120 => some ti120
 | 121 => some ti121
 | 122 => some ti122
 | 123 => some ti123
 | 125 => some ti125
 | 126 => some ti126
 | 127 => some ti127
 | 128 => some ti128
 | 129 => some ti129
 | 130 => some ti130
 | 131 => some ti131
 | 132 => some ti132
 | 133 => some ti133
 | 134 => some ti134
 | 135 => some ti135
 | 136 => some ti136
 | 137 => some ti137
 | 138 => some ti138
 | 139 => some ti139
 | 140 => some ti140
 | 141 => some ti141
 | _ => none
theorem fit1:FitsAt Try.prog 1 ti1:=fitsAt (z:=.nilFunc) (by kernel_rfl) Try.underlying1 rfl rfl (by intro h; cases h) (fun h=>by cases h)
theorem tt1:tt 1=some ⟨.other,1,8,[.nilFunc]⟩:=rfl
theorem fit2:FitsAt Try.prog 2 ti2:=fitsAt (z:=(.int .i64 0)) (by kernel_rfl) Try.underlying2 rfl rfl (by intro h; cases h) (fun _=>rfl)
theorem tt2:tt 2=some ⟨.int .i64,1,8,[(.int .i64 0)]⟩:=rfl
theorem fit3:FitsAt Try.prog 3 ti3:=fitsAt (z:=(.int .i64 0)) (by kernel_rfl) Try.underlying3 rfl rfl (by intro h; cases h) (fun _=>rfl)
theorem tt3:tt 3=some ⟨.int .i64,1,8,[(.int .i64 0)]⟩:=rfl
theorem fit4:FitsAt Try.prog 4 ti4:=fitsAt (z:=(.bool false)) (by kernel_rfl) Try.underlying4 rfl rfl (by intro h; cases h) (fun _=>rfl)
theorem tt4:tt 4=some ⟨.bool,1,1,[(.bool false)]⟩:=rfl
theorem fit5:FitsAt Try.prog 5 ti5:=fitsAt (z:=(.int .u8 0)) (by kernel_rfl) Try.underlying5 rfl rfl (by intro h; cases h) (fun _=>rfl)
theorem tt5:tt 5=some ⟨.int .u8,1,1,[(.int .u8 0)]⟩:=rfl
theorem fit6:FitsAt Try.prog 6 ti6:=fitsAt (z:=(.int .u8 0)) (by kernel_rfl) Try.underlying6 rfl rfl (by intro h; cases h) (fun _=>rfl)
theorem tt6:tt 6=some ⟨.int .u8,1,1,[(.int .u8 0)]⟩:=rfl
theorem fit7:FitsAt Try.prog 7 ti7:=fitsAt (z:=.agg #[(.int .i64 0),(.int .i64 0),(.bool false),(.int .u8 0)]) (by kernel_rfl) Try.underlying7 rfl rfl (by exact fun _=>⟨by kernel_rfl,by kernel_rfl,by kernel_rfl⟩) (fun h=>by cases h)
theorem tt7:tt 7=some ⟨.strct true [(0,2),(1,3),(2,4),(3,6)],4,24,[(.int .i64 0),(.int .i64 0),(.bool false),(.int .u8 0)]⟩:=rfl
theorem fit8:FitsAt Try.prog 8 ti8:=fitsAt (z:=.agg #[(.int .i64 0),(.int .i64 0),(.bool false),(.int .u8 0)]) (by kernel_rfl) Try.underlying8 rfl rfl (by exact fun _=>⟨by kernel_rfl,by kernel_rfl,by kernel_rfl⟩) (fun h=>by cases h)
theorem tt8:tt 8=some ⟨.strct true [(0,2),(1,3),(2,4),(3,6)],4,24,[(.int .i64 0),(.int .i64 0),(.bool false),(.int .u8 0)]⟩:=rfl
theorem fit9:FitsAt Try.prog 9 ti9:=fitsAt (z:=(.string ⟨#[]⟩)) (by kernel_rfl) Try.underlying9 rfl rfl (by intro h; cases h) (fun _=>rfl)
theorem tt9:tt 9=some ⟨.str,1,16,[(.string ⟨#[]⟩)]⟩:=rfl
theorem fit10:FitsAt Try.prog 10 ti10:=fitsAt (z:=(.string ⟨#[]⟩)) (by kernel_rfl) Try.underlying10 rfl rfl (by intro h; cases h) (fun _=>rfl)
theorem tt10:tt 10=some ⟨.str,1,16,[(.string ⟨#[]⟩)]⟩:=rfl
theorem fit11:FitsAt Try.prog 11 ti11:=fitsAt (z:=(.string ⟨#[]⟩)) (by kernel_rfl) Try.underlying11 rfl rfl (by intro h; cases h) (fun _=>rfl)
theorem tt11:tt 11=some ⟨.str,1,16,[(.string ⟨#[]⟩)]⟩:=rfl
theorem fit12:FitsAt Try.prog 12 ti12:=fitsAt (z:=(.int .u64 0)) (by kernel_rfl) Try.underlying12 rfl rfl (by intro h; cases h) (fun _=>rfl)
theorem tt12:tt 12=some ⟨.int .u64,1,8,[(.int .u64 0)]⟩:=rfl
theorem fit13:FitsAt Try.prog 13 ti13:=fitsAt (z:=.agg #[(.string ⟨#[]⟩),(.int .u64 0)]) (by kernel_rfl) Try.underlying13 rfl rfl (by intro h; cases h) (fun h=>by cases h)
theorem tt13:tt 13=some ⟨.strct false [(0,9),(1,12)],2,24,[(.string ⟨#[]⟩),(.int .u64 0)]⟩:=rfl
theorem fit14:FitsAt Try.prog 14 ti14:=fitsAt (z:=.agg #[(.string ⟨#[]⟩),(.int .u64 0)]) (by kernel_rfl) Try.underlying14 rfl rfl (by intro h; cases h) (fun h=>by cases h)
theorem tt14:tt 14=some ⟨.strct false [(0,9),(1,12)],2,24,[(.string ⟨#[]⟩),(.int .u64 0)]⟩:=rfl
theorem fit15:FitsAt Try.prog 15 ti15:=fitsAt (z:=(.pointer none)) (by kernel_rfl) Try.underlying15 rfl rfl (by intro h; cases h) (fun h=>by cases h)
theorem tt15:tt 15=some ⟨.other,1,8,[(.pointer none)]⟩:=rfl
theorem fit16:FitsAt Try.prog 16 ti16:=fitsAt (z:=(.pointer none)) (by kernel_rfl) Try.underlying16 rfl rfl (by intro h; cases h) (fun h=>by cases h)
theorem tt16:tt 16=some ⟨.other,1,8,[(.pointer none)]⟩:=rfl
theorem fit17:FitsAt Try.prog 17 ti17:=fitsAt (z:=(.pointer none)) (by kernel_rfl) Try.underlying17 rfl rfl (by intro h; cases h) (fun h=>by cases h)
theorem tt17:tt 17=some ⟨.other,1,8,[(.pointer none)]⟩:=rfl
theorem fit18:FitsAt Try.prog 18 ti18:=fitsAt (z:=.agg #[(.pointer none)]) (by kernel_rfl) Try.underlying18 rfl rfl (by intro h; cases h) (fun h=>by cases h)
theorem tt18:tt 18=some ⟨.strct false [(0,17)],1,8,[(.pointer none)]⟩:=rfl
theorem fit19:FitsAt Try.prog 19 ti19:=fitsAt (z:=.agg #[(.pointer none)]) (by kernel_rfl) Try.underlying19 rfl rfl (by intro h; cases h) (fun h=>by cases h)
theorem tt19:tt 19=some ⟨.strct false [(0,17)],1,8,[(.pointer none)]⟩:=rfl
theorem fit20:FitsAt Try.prog 20 ti20:=fitsAt (z:=.nilIface) (by kernel_rfl) Try.underlying20 rfl rfl (by intro h; cases h) (fun h=>by cases h)
theorem tt20:tt 20=some ⟨.other,1,16,[.nilIface]⟩:=rfl
theorem fit21:FitsAt Try.prog 21 ti21:=fitsAt (z:=(.int .i32 0)) (by kernel_rfl) Try.underlying21 rfl rfl (by intro h; cases h) (fun _=>rfl)
theorem tt21:tt 21=some ⟨.int .i32,1,4,[(.int .i32 0)]⟩:=rfl
theorem fit22:FitsAt Try.prog 22 ti22:=fitsAt (z:=(.slice none 0 0)) (by kernel_rfl) Try.underlying22 rfl rfl (by intro h; cases h) (fun h=>by cases h)
theorem tt22:tt 22=some ⟨.slice 36,1,24,[(.slice none 0 0)]⟩:=rfl
theorem fit23:FitsAt Try.prog 23 ti23:=fitsAt (z:=.agg #[(.int .i64 0),(.slice none 0 0),(.int .i64 0),(.int .i64 0)]) (by kernel_rfl) Try.underlying23 rfl rfl (by intro h; cases h) (fun h=>by cases h)
theorem tt23:tt 23=some ⟨.strct false [(0,3),(1,22),(2,3),(3,3)],4,48,[(.int .i64 0),(.slice none 0 0),(.int .i64 0),(.int .i64 0)]⟩:=rfl
theorem fit24:FitsAt Try.prog 24 ti24:=fitsAt (z:=.agg #[(.int .i64 0),(.slice none 0 0),(.int .i64 0),(.int .i64 0)]) (by kernel_rfl) Try.underlying24 rfl rfl (by intro h; cases h) (fun h=>by cases h)
theorem tt24:tt 24=some ⟨.strct false [(0,3),(1,22),(2,3),(3,3)],4,48,[(.int .i64 0),(.slice none 0 0),(.int .i64 0),(.int .i64 0)]⟩:=rfl
theorem fit25:FitsAt Try.prog 25 ti25:=fitsAt (z:=.nilFunc) (by kernel_rfl) Try.underlying25 rfl rfl (by intro h; cases h) (fun h=>by cases h)
theorem tt25:tt 25=some ⟨.other,1,8,[.nilFunc]⟩:=rfl
theorem fit26:FitsAt Try.prog 26 ti26:=fitsAt (z:=.nilFunc) (by kernel_rfl) Try.underlying26 rfl rfl (by intro h; cases h) (fun h=>by cases h)
theorem tt26:tt 26=some ⟨.other,1,8,[.nilFunc]⟩:=rfl
theorem fit27:FitsAt Try.prog 27 ti27:=fitsAt (z:=(.slice none 0 0)) (by kernel_rfl) Try.underlying27 rfl rfl (by intro h; cases h) (fun h=>by cases h)
theorem tt27:tt 27=some ⟨.slice 34,1,24,[(.slice none 0 0)]⟩:=rfl
theorem fit28:FitsAt Try.prog 28 ti28:=fitsAt (z:=(.int .i64 0)) (by kernel_rfl) Try.underlying28 rfl rfl (by intro h; cases h) (fun _=>rfl)
theorem tt28:tt 28=some ⟨.int .i64,1,8,[(.int .i64 0)]⟩:=rfl
theorem fit30:FitsAt Try.prog 30 ti30:=fitsAt (z:=.nilFunc) (by kernel_rfl) Try.underlying30 rfl rfl (by intro h; cases h) (fun h=>by cases h)
theorem tt30:tt 30=some ⟨.other,1,8,[.nilFunc]⟩:=rfl
theorem fit32:FitsAt Try.prog 32 ti32:=fitsAt (z:=.nilFunc) (by kernel_rfl) Try.underlying32 rfl rfl (by intro h; cases h) (fun h=>by cases h)
theorem tt32:tt 32=some ⟨.other,1,8,[.nilFunc]⟩:=rfl
theorem fit33:FitsAt Try.prog 33 ti33:=fitsAt (z:=(.slice none 0 0)) (by kernel_rfl) Try.underlying33 rfl rfl (by intro h; cases h) (fun h=>by cases h)
theorem tt33:tt 33=some ⟨.slice 3,1,24,[(.slice none 0 0)]⟩:=rfl
theorem fit34:FitsAt Try.prog 34 ti34:=fitsAt (z:=.agg #[(.slice none 0 0),(.slice none 0 0)]) (by kernel_rfl) Try.underlying34 rfl rfl (by intro h; cases h) (fun h=>by cases h)
theorem tt34:tt 34=some ⟨.arr false 2 33,2,48,[(.slice none 0 0),(.slice none 0 0)]⟩:=rfl
theorem fit35:FitsAt Try.prog 35 ti35:=fitsAt (z:=.agg #[(.string ⟨#[]⟩),(.slice none 0 0),(.slice none 0 0)]) (by kernel_rfl) Try.underlying35 rfl rfl (by intro h; cases h) (fun h=>by cases h)
theorem tt35:tt 35=some ⟨.strct false [(0,9),(1,33),(2,33)],3,64,[(.string ⟨#[]⟩),(.slice none 0 0),(.slice none 0 0)]⟩:=rfl
theorem fit36:FitsAt Try.prog 36 ti36:=fitsAt (z:=.agg #[(.string ⟨#[]⟩),(.slice none 0 0),(.slice none 0 0)]) (by kernel_rfl) Try.underlying36 rfl rfl (by intro h; cases h) (fun h=>by cases h)
theorem tt36:tt 36=some ⟨.strct false [(0,9),(1,33),(2,33)],3,64,[(.string ⟨#[]⟩),(.slice none 0 0),(.slice none 0 0)]⟩:=rfl
theorem fit37:FitsAt Try.prog 37 ti37:=fitsAt (z:=.nilFunc) (by kernel_rfl) Try.underlying37 rfl rfl (by intro h; cases h) (fun h=>by cases h)
theorem tt37:tt 37=some ⟨.other,1,8,[.nilFunc]⟩:=rfl
theorem fit38:FitsAt Try.prog 38 ti38:=fitsAt (z:=.nilFunc) (by kernel_rfl) Try.underlying38 rfl rfl (by intro h; cases h) (fun h=>by cases h)
theorem tt38:tt 38=some ⟨.other,1,8,[.nilFunc]⟩:=rfl
theorem fit39:FitsAt Try.prog 39 ti39:=fitsAt (z:=.nilFunc) (by kernel_rfl) Try.underlying39 rfl rfl (by intro h; cases h) (fun h=>by cases h)
theorem tt39:tt 39=some ⟨.other,1,8,[.nilFunc]⟩:=rfl
theorem fit40:FitsAt Try.prog 40 ti40:=fitsAt (z:=.nilFunc) (by kernel_rfl) Try.underlying40 rfl rfl (by intro h; cases h) (fun h=>by cases h)
theorem tt40:tt 40=some ⟨.other,1,8,[.nilFunc]⟩:=rfl
theorem fit41:FitsAt Try.prog 41 ti41:=fitsAt (z:=.nilFunc) (by kernel_rfl) Try.underlying41 rfl rfl (by intro h; cases h) (fun h=>by cases h)
theorem tt41:tt 41=some ⟨.other,1,8,[.nilFunc]⟩:=rfl
theorem fit42:FitsAt Try.prog 42 ti42:=fitsAt (z:=.nilFunc) (by kernel_rfl) Try.underlying42 rfl rfl (by intro h; cases h) (fun h=>by cases h)
theorem tt42:tt 42=some ⟨.other,1,8,[.nilFunc]⟩:=rfl
theorem fit43:FitsAt Try.prog 43 ti43:=fitsAt (z:=.nilFunc) (by kernel_rfl) Try.underlying43 rfl rfl (by intro h; cases h) (fun h=>by cases h)
theorem tt43:tt 43=some ⟨.other,1,8,[.nilFunc]⟩:=rfl
theorem fit44:FitsAt Try.prog 44 ti44:=fitsAt (z:=.nilFunc) (by kernel_rfl) Try.underlying44 rfl rfl (by intro h; cases h) (fun h=>by cases h)
theorem tt44:tt 44=some ⟨.other,1,8,[.nilFunc]⟩:=rfl
theorem fit45:FitsAt Try.prog 45 ti45:=fitsAt (z:=.nilFunc) (by kernel_rfl) Try.underlying45 rfl rfl (by intro h; cases h) (fun h=>by cases h)
theorem tt45:tt 45=some ⟨.other,1,8,[.nilFunc]⟩:=rfl
theorem fit46:FitsAt Try.prog 46 ti46:=fitsAt (z:=.nilFunc) (by kernel_rfl) Try.underlying46 rfl rfl (by intro h; cases h) (fun h=>by cases h)
theorem tt46:tt 46=some ⟨.other,1,8,[.nilFunc]⟩:=rfl
theorem fit47:FitsAt Try.prog 47 ti47:=fitsAt (z:=.nilFunc) (by kernel_rfl) Try.underlying47 rfl rfl (by intro h; cases h) (fun h=>by cases h)
theorem tt47:tt 47=some ⟨.other,1,8,[.nilFunc]⟩:=rfl
theorem fit48:FitsAt Try.prog 48 ti48:=fitsAt (z:=.nilFunc) (by kernel_rfl) Try.underlying48 rfl rfl (by intro h; cases h) (fun h=>by cases h)
theorem tt48:tt 48=some ⟨.other,1,8,[.nilFunc]⟩:=rfl
theorem fit50:FitsAt Try.prog 50 ti50:=fitsAt (z:=.nilFunc) (by kernel_rfl) Try.underlying50 rfl rfl (by intro h; cases h) (fun h=>by cases h)
theorem tt50:tt 50=some ⟨.other,1,8,[.nilFunc]⟩:=rfl
theorem fit51:FitsAt Try.prog 51 ti51:=fitsAt (z:=(.slice none 0 0)) (by kernel_rfl) Try.underlying51 rfl rfl (by intro h; cases h) (fun h=>by cases h)
theorem tt51:tt 51=some ⟨.slice 33,1,24,[(.slice none 0 0)]⟩:=rfl
theorem fit53:FitsAt Try.prog 53 ti53:=fitsAt (z:=.nilFunc) (by kernel_rfl) Try.underlying53 rfl rfl (by intro h; cases h) (fun h=>by cases h)
theorem tt53:tt 53=some ⟨.other,1,8,[.nilFunc]⟩:=rfl
theorem fit54:FitsAt Try.prog 54 ti54:=fitsAt (z:=.nilFunc) (by kernel_rfl) Try.underlying54 rfl rfl (by intro h; cases h) (fun h=>by cases h)
theorem tt54:tt 54=some ⟨.other,1,8,[.nilFunc]⟩:=rfl
theorem fit55:FitsAt Try.prog 55 ti55:=fitsAt (z:=.nilFunc) (by kernel_rfl) Try.underlying55 rfl rfl (by intro h; cases h) (fun h=>by cases h)
theorem tt55:tt 55=some ⟨.other,1,8,[.nilFunc]⟩:=rfl
theorem fit56:FitsAt Try.prog 56 ti56:=fitsAt (z:=.nilFunc) (by kernel_rfl) Try.underlying56 rfl rfl (by intro h; cases h) (fun h=>by cases h)
theorem tt56:tt 56=some ⟨.other,1,8,[.nilFunc]⟩:=rfl
theorem fit57:FitsAt Try.prog 57 ti57:=fitsAt (z:=.nilFunc) (by kernel_rfl) Try.underlying57 rfl rfl (by intro h; cases h) (fun h=>by cases h)
theorem tt57:tt 57=some ⟨.other,1,8,[.nilFunc]⟩:=rfl
theorem fit58:FitsAt Try.prog 58 ti58:=fitsAt (z:=.nilFunc) (by kernel_rfl) Try.underlying58 rfl rfl (by intro h; cases h) (fun h=>by cases h)
theorem tt58:tt 58=some ⟨.other,1,8,[.nilFunc]⟩:=rfl
theorem fit59:FitsAt Try.prog 59 ti59:=fitsAt (z:=(.pointer none)) (by kernel_rfl) Try.underlying59 rfl rfl (by intro h; cases h) (fun h=>by cases h)
theorem tt59:tt 59=some ⟨.other,1,8,[(.pointer none)]⟩:=rfl
theorem fit60:FitsAt Try.prog 60 ti60:=fitsAt (z:=.nilFunc) (by kernel_rfl) Try.underlying60 rfl rfl (by intro h; cases h) (fun h=>by cases h)
theorem tt60:tt 60=some ⟨.other,1,8,[.nilFunc]⟩:=rfl
theorem fit61:FitsAt Try.prog 61 ti61:=fitsAt (z:=.nilFunc) (by kernel_rfl) Try.underlying61 rfl rfl (by intro h; cases h) (fun h=>by cases h)
theorem tt61:tt 61=some ⟨.other,1,8,[.nilFunc]⟩:=rfl
theorem fit62:FitsAt Try.prog 62 ti62:=fitsAt (z:=(.map none)) (by kernel_rfl) Try.underlying62 rfl rfl (by intro h; cases h) (fun h=>by cases h)
theorem tt62:tt 62=some ⟨.map 3 3,1,8,[(.map none)]⟩:=rfl
theorem fit63:FitsAt Try.prog 63 ti63:=fitsAt (z:=.agg #[(.int .i64 0),(.slice none 0 0)]) (by kernel_rfl) Try.underlying63 rfl rfl (by intro h; cases h) (fun h=>by cases h)
theorem tt63:tt 63=some ⟨.strct false [(0,3),(1,33)],2,32,[(.int .i64 0),(.slice none 0 0)]⟩:=rfl
theorem fit64:FitsAt Try.prog 64 ti64:=fitsAt (z:=.agg #[(.int .i64 0),(.slice none 0 0)]) (by kernel_rfl) Try.underlying64 rfl rfl (by intro h; cases h) (fun h=>by cases h)
theorem tt64:tt 64=some ⟨.strct false [(0,3),(1,33)],2,32,[(.int .i64 0),(.slice none 0 0)]⟩:=rfl
theorem fit65:FitsAt Try.prog 65 ti65:=fitsAt (z:=.nilFunc) (by kernel_rfl) Try.underlying65 rfl rfl (by intro h; cases h) (fun h=>by cases h)
theorem tt65:tt 65=some ⟨.other,1,8,[.nilFunc]⟩:=rfl
theorem fit67:FitsAt Try.prog 67 ti67:=fitsAt (z:=.nilFunc) (by kernel_rfl) Try.underlying67 rfl rfl (by intro h; cases h) (fun h=>by cases h)
theorem tt67:tt 67=some ⟨.other,1,8,[.nilFunc]⟩:=rfl
theorem fit69:FitsAt Try.prog 69 ti69:=fitsAt (z:=.nilFunc) (by kernel_rfl) Try.underlying69 rfl rfl (by intro h; cases h) (fun h=>by cases h)
theorem tt69:tt 69=some ⟨.other,1,8,[.nilFunc]⟩:=rfl
theorem fit70:FitsAt Try.prog 70 ti70:=fitsAt (z:=.nilFunc) (by kernel_rfl) Try.underlying70 rfl rfl (by intro h; cases h) (fun h=>by cases h)
theorem tt70:tt 70=some ⟨.other,1,8,[.nilFunc]⟩:=rfl
theorem fit71:FitsAt Try.prog 71 ti71:=fitsAt (z:=(.slice none 0 0)) (by kernel_rfl) Try.underlying71 rfl rfl (by intro h; cases h) (fun h=>by cases h)
theorem tt71:tt 71=some ⟨.slice 25,1,24,[(.slice none 0 0)]⟩:=rfl
theorem fit72:FitsAt Try.prog 72 ti72:=fitsAt (z:=.nilFunc) (by kernel_rfl) Try.underlying72 rfl rfl (by intro h; cases h) (fun h=>by cases h)
theorem tt72:tt 72=some ⟨.other,1,8,[.nilFunc]⟩:=rfl
theorem fit73:FitsAt Try.prog 73 ti73:=fitsAt (z:=.nilFunc) (by kernel_rfl) Try.underlying73 rfl rfl (by intro h; cases h) (fun h=>by cases h)
theorem tt73:tt 73=some ⟨.other,1,8,[.nilFunc]⟩:=rfl
theorem fit74:FitsAt Try.prog 74 ti74:=fitsAt (z:=(.slice none 0 0)) (by kernel_rfl) Try.underlying74 rfl rfl (by intro h; cases h) (fun h=>by cases h)
theorem tt74:tt 74=some ⟨.slice 76,1,24,[(.slice none 0 0)]⟩:=rfl
theorem fit75:FitsAt Try.prog 75 ti75:=fitsAt (z:=.nilFunc) (by kernel_rfl) Try.underlying75 rfl rfl (by intro h; cases h) (fun h=>by cases h)
theorem tt75:tt 75=some ⟨.other,1,8,[.nilFunc]⟩:=rfl
theorem fit76:FitsAt Try.prog 76 ti76:=fitsAt (z:=(.int .u32 0)) (by kernel_rfl) Try.underlying76 rfl rfl (by intro h; cases h) (fun _=>rfl)
theorem tt76:tt 76=some ⟨.int .u32,1,4,[(.int .u32 0)]⟩:=rfl
theorem fit77:FitsAt Try.prog 77 ti77:=fitsAt (z:=.nilFunc) (by kernel_rfl) Try.underlying77 rfl rfl (by intro h; cases h) (fun h=>by cases h)
theorem tt77:tt 77=some ⟨.other,1,8,[.nilFunc]⟩:=rfl
theorem fit78:FitsAt Try.prog 78 ti78:=fitsAt (z:=.nilFunc) (by kernel_rfl) Try.underlying78 rfl rfl (by intro h; cases h) (fun h=>by cases h)
theorem tt78:tt 78=some ⟨.other,1,8,[.nilFunc]⟩:=rfl
theorem fit79:FitsAt Try.prog 79 ti79:=fitsAt (z:=.nilFunc) (by kernel_rfl) Try.underlying79 rfl rfl (by intro h; cases h) (fun h=>by cases h)
theorem tt79:tt 79=some ⟨.other,1,8,[.nilFunc]⟩:=rfl
theorem fit80:FitsAt Try.prog 80 ti80:=fitsAt (z:=(.slice none 0 0)) (by kernel_rfl) Try.underlying80 rfl rfl (by intro h; cases h) (fun h=>by cases h)
theorem tt80:tt 80=some ⟨.slice 4,1,24,[(.slice none 0 0)]⟩:=rfl
theorem fit82:FitsAt Try.prog 82 ti82:=fitsAt (z:=.nilFunc) (by kernel_rfl) Try.underlying82 rfl rfl (by intro h; cases h) (fun h=>by cases h)
theorem tt82:tt 82=some ⟨.other,1,8,[.nilFunc]⟩:=rfl
theorem fit83:FitsAt Try.prog 83 ti83:=fitsAt (z:=.nilFunc) (by kernel_rfl) Try.underlying83 rfl rfl (by intro h; cases h) (fun h=>by cases h)
theorem tt83:tt 83=some ⟨.other,1,8,[.nilFunc]⟩:=rfl
theorem fit84:FitsAt Try.prog 84 ti84:=fitsAt (z:=.nilFunc) (by kernel_rfl) Try.underlying84 rfl rfl (by intro h; cases h) (fun h=>by cases h)
theorem tt84:tt 84=some ⟨.other,1,8,[.nilFunc]⟩:=rfl
theorem fit85:FitsAt Try.prog 85 ti85:=fitsAt (z:=.nilFunc) (by kernel_rfl) Try.underlying85 rfl rfl (by intro h; cases h) (fun h=>by cases h)
theorem tt85:tt 85=some ⟨.other,1,8,[.nilFunc]⟩:=rfl
theorem fit86:FitsAt Try.prog 86 ti86:=fitsAt (z:=.nilFunc) (by kernel_rfl) Try.underlying86 rfl rfl (by intro h; cases h) (fun h=>by cases h)
theorem tt86:tt 86=some ⟨.other,1,8,[.nilFunc]⟩:=rfl
theorem fit87:FitsAt Try.prog 87 ti87:=fitsAt (z:=.nilFunc) (by kernel_rfl) Try.underlying87 rfl rfl (by intro h; cases h) (fun h=>by cases h)
theorem tt87:tt 87=some ⟨.other,1,8,[.nilFunc]⟩:=rfl
theorem fit88:FitsAt Try.prog 88 ti88:=fitsAt (z:=.agg #[(.slice none 0 0),(.slice none 0 0),(.int .i64 0),(.int .i64 0)]) (by kernel_rfl) Try.underlying88 rfl rfl (by intro h; cases h) (fun h=>by cases h)
theorem tt88:tt 88=some ⟨.strct false [(0,51),(1,33),(2,3),(3,3)],4,64,[(.slice none 0 0),(.slice none 0 0),(.int .i64 0),(.int .i64 0)]⟩:=rfl
theorem fit89:FitsAt Try.prog 89 ti89:=fitsAt (z:=.agg #[(.slice none 0 0),(.slice none 0 0),(.int .i64 0),(.int .i64 0)]) (by kernel_rfl) Try.underlying89 rfl rfl (by intro h; cases h) (fun h=>by cases h)
theorem tt89:tt 89=some ⟨.strct false [(0,51),(1,33),(2,3),(3,3)],4,64,[(.slice none 0 0),(.slice none 0 0),(.int .i64 0),(.int .i64 0)]⟩:=rfl
theorem fit90:FitsAt Try.prog 90 ti90:=fitsAt (z:=.nilFunc) (by kernel_rfl) Try.underlying90 rfl rfl (by intro h; cases h) (fun h=>by cases h)
theorem tt90:tt 90=some ⟨.other,1,8,[.nilFunc]⟩:=rfl
theorem fit91:FitsAt Try.prog 91 ti91:=fitsAt (z:=.nilFunc) (by kernel_rfl) Try.underlying91 rfl rfl (by intro h; cases h) (fun h=>by cases h)
theorem tt91:tt 91=some ⟨.other,1,8,[.nilFunc]⟩:=rfl
theorem fit92:FitsAt Try.prog 92 ti92:=fitsAt (z:=.nilFunc) (by kernel_rfl) Try.underlying92 rfl rfl (by intro h; cases h) (fun h=>by cases h)
theorem tt92:tt 92=some ⟨.other,1,8,[.nilFunc]⟩:=rfl
theorem fit93:FitsAt Try.prog 93 ti93:=fitsAt (z:=.nilFunc) (by kernel_rfl) Try.underlying93 rfl rfl (by intro h; cases h) (fun h=>by cases h)
theorem tt93:tt 93=some ⟨.other,1,8,[.nilFunc]⟩:=rfl
theorem fit94:FitsAt Try.prog 94 ti94:=fitsAt (z:=.nilFunc) (by kernel_rfl) Try.underlying94 rfl rfl (by intro h; cases h) (fun h=>by cases h)
theorem tt94:tt 94=some ⟨.other,1,8,[.nilFunc]⟩:=rfl
theorem fit95:FitsAt Try.prog 95 ti95:=fitsAt (z:=(.int .u64 0)) (by kernel_rfl) Try.underlying95 rfl rfl (by intro h; cases h) (fun _=>rfl)
theorem tt95:tt 95=some ⟨.int .u64,1,8,[(.int .u64 0)]⟩:=rfl
theorem fit96:FitsAt Try.prog 96 ti96:=fitsAt (z:=.nilFunc) (by kernel_rfl) Try.underlying96 rfl rfl (by intro h; cases h) (fun h=>by cases h)
theorem tt96:tt 96=some ⟨.other,1,8,[.nilFunc]⟩:=rfl
theorem fit97:FitsAt Try.prog 97 ti97:=fitsAt (z:=.nilFunc) (by kernel_rfl) Try.underlying97 rfl rfl (by intro h; cases h) (fun h=>by cases h)
theorem tt97:tt 97=some ⟨.other,1,8,[.nilFunc]⟩:=rfl
theorem fit98:FitsAt Try.prog 98 ti98:=fitsAt (z:=.nilFunc) (by kernel_rfl) Try.underlying98 rfl rfl (by intro h; cases h) (fun h=>by cases h)
theorem tt98:tt 98=some ⟨.other,1,8,[.nilFunc]⟩:=rfl
theorem fit99:FitsAt Try.prog 99 ti99:=fitsAt (z:=(.pointer none)) (by kernel_rfl) Try.underlying99 rfl rfl (by intro h; cases h) (fun h=>by cases h)
theorem tt99:tt 99=some ⟨.other,1,8,[(.pointer none)]⟩:=rfl
theorem fit100:FitsAt Try.prog 100 ti100:=fitsAt (z:=.agg #[(.slice none 0 0),(.slice none 0 0)]) (by kernel_rfl) Try.underlying100 rfl rfl (by intro h; cases h) (fun h=>by cases h)
theorem tt100:tt 100=some ⟨.strct false [(0,51),(1,51)],2,48,[(.slice none 0 0),(.slice none 0 0)]⟩:=rfl
theorem fit101:FitsAt Try.prog 101 ti101:=fitsAt (z:=.agg #[(.slice none 0 0),(.slice none 0 0)]) (by kernel_rfl) Try.underlying101 rfl rfl (by intro h; cases h) (fun h=>by cases h)
theorem tt101:tt 101=some ⟨.strct false [(0,51),(1,51)],2,48,[(.slice none 0 0),(.slice none 0 0)]⟩:=rfl
theorem fit102:FitsAt Try.prog 102 ti102:=fitsAt (z:=.nilFunc) (by kernel_rfl) Try.underlying102 rfl rfl (by intro h; cases h) (fun h=>by cases h)
theorem tt102:tt 102=some ⟨.other,1,8,[.nilFunc]⟩:=rfl
theorem fit103:FitsAt Try.prog 103 ti103:=fitsAt (z:=(.int .i64 0)) (by kernel_rfl) Try.underlying103 rfl rfl (by intro h; cases h) (fun _=>rfl)
theorem tt103:tt 103=some ⟨.int .i64,1,8,[(.int .i64 0)]⟩:=rfl
theorem fit105:FitsAt Try.prog 105 ti105:=fitsAt (z:=.nilFunc) (by kernel_rfl) Try.underlying105 rfl rfl (by intro h; cases h) (fun h=>by cases h)
theorem tt105:tt 105=some ⟨.other,1,8,[.nilFunc]⟩:=rfl
theorem fit106:FitsAt Try.prog 106 ti106:=fitsAt (z:=.nilFunc) (by kernel_rfl) Try.underlying106 rfl rfl (by intro h; cases h) (fun h=>by cases h)
theorem tt106:tt 106=some ⟨.other,1,8,[.nilFunc]⟩:=rfl
theorem fit107:FitsAt Try.prog 107 ti107:=fitsAt (z:=.nilFunc) (by kernel_rfl) Try.underlying107 rfl rfl (by intro h; cases h) (fun h=>by cases h)
theorem tt107:tt 107=some ⟨.other,1,8,[.nilFunc]⟩:=rfl
theorem fit108:FitsAt Try.prog 108 ti108:=fitsAt (z:=.nilFunc) (by kernel_rfl) Try.underlying108 rfl rfl (by intro h; cases h) (fun h=>by cases h)
theorem tt108:tt 108=some ⟨.other,1,8,[.nilFunc]⟩:=rfl
theorem fit109:FitsAt Try.prog 109 ti109:=fitsAt (z:=.nilFunc) (by kernel_rfl) Try.underlying109 rfl rfl (by intro h; cases h) (fun h=>by cases h)
theorem tt109:tt 109=some ⟨.other,1,8,[.nilFunc]⟩:=rfl
theorem fit110:FitsAt Try.prog 110 ti110:=fitsAt (z:=.nilFunc) (by kernel_rfl) Try.underlying110 rfl rfl (by intro h; cases h) (fun h=>by cases h)
theorem tt110:tt 110=some ⟨.other,1,8,[.nilFunc]⟩:=rfl
theorem fit111:FitsAt Try.prog 111 ti111:=fitsAt (z:=(.int .u64 0)) (by kernel_rfl) Try.underlying111 rfl rfl (by intro h; cases h) (fun _=>rfl)
theorem tt111:tt 111=some ⟨.int .u64,1,8,[(.int .u64 0)]⟩:=rfl
theorem fit112:FitsAt Try.prog 112 ti112:=fitsAt (z:=.nilFunc) (by kernel_rfl) Try.underlying112 rfl rfl (by intro h; cases h) (fun h=>by cases h)
theorem tt112:tt 112=some ⟨.other,1,8,[.nilFunc]⟩:=rfl
theorem fit113:FitsAt Try.prog 113 ti113:=fitsAt (z:=.nilFunc) (by kernel_rfl) Try.underlying113 rfl rfl (by intro h; cases h) (fun h=>by cases h)
theorem tt113:tt 113=some ⟨.other,1,8,[.nilFunc]⟩:=rfl
theorem fit114:FitsAt Try.prog 114 ti114:=fitsAt (z:=(.pointer none)) (by kernel_rfl) Try.underlying114 rfl rfl (by intro h; cases h) (fun h=>by cases h)
theorem tt114:tt 114=some ⟨.other,1,8,[(.pointer none)]⟩:=rfl
theorem fit115:FitsAt Try.prog 115 ti115:=fitsAt (z:=(.int .u64 0)) (by kernel_rfl) Try.underlying115 rfl rfl (by intro h; cases h) (fun _=>rfl)
theorem tt115:tt 115=some ⟨.int .u64,1,8,[(.int .u64 0)]⟩:=rfl
theorem fit116:FitsAt Try.prog 116 ti116:=fitsAt (z:=.nilFunc) (by kernel_rfl) Try.underlying116 rfl rfl (by intro h; cases h) (fun h=>by cases h)
theorem tt116:tt 116=some ⟨.other,1,8,[.nilFunc]⟩:=rfl
theorem fit117:FitsAt Try.prog 117 ti117:=fitsAt (z:=.nilFunc) (by kernel_rfl) Try.underlying117 rfl rfl (by intro h; cases h) (fun h=>by cases h)
theorem tt117:tt 117=some ⟨.other,1,8,[.nilFunc]⟩:=rfl
theorem fit118:FitsAt Try.prog 118 ti118:=fitsAt (z:=.nilFunc) (by kernel_rfl) Try.underlying118 rfl rfl (by intro h; cases h) (fun h=>by cases h)
theorem tt118:tt 118=some ⟨.other,1,8,[.nilFunc]⟩:=rfl
theorem fit119:FitsAt Try.prog 119 ti119:=fitsAt (z:=(.pointer none)) (by kernel_rfl) Try.underlying119 rfl rfl (by intro h; cases h) (fun h=>by cases h)
theorem tt119:tt 119=some ⟨.other,1,8,[(.pointer none)]⟩:=rfl
theorem fit120:FitsAt Try.prog 120 ti120:=fitsAt (z:=.nilFunc) (by kernel_rfl) Try.underlying120 rfl rfl (by intro h; cases h) (fun h=>by cases h)
theorem tt120:tt 120=some ⟨.other,1,8,[.nilFunc]⟩:=rfl
theorem fit121:FitsAt Try.prog 121 ti121:=fitsAt (z:=.nilFunc) (by kernel_rfl) Try.underlying121 rfl rfl (by intro h; cases h) (fun h=>by cases h)
theorem tt121:tt 121=some ⟨.other,1,8,[.nilFunc]⟩:=rfl
theorem fit122:FitsAt Try.prog 122 ti122:=fitsAt (z:=.nilFunc) (by kernel_rfl) Try.underlying122 rfl rfl (by intro h; cases h) (fun h=>by cases h)
theorem tt122:tt 122=some ⟨.other,1,8,[.nilFunc]⟩:=rfl
theorem fit123:FitsAt Try.prog 123 ti123:=fitsAt (z:=(.pointer none)) (by kernel_rfl) Try.underlying123 rfl rfl (by intro h; cases h) (fun h=>by cases h)
theorem tt123:tt 123=some ⟨.other,1,8,[(.pointer none)]⟩:=rfl
theorem fit125:FitsAt Try.prog 125 ti125:=fitsAt (z:=.nilFunc) (by kernel_rfl) Try.underlying125 rfl rfl (by intro h; cases h) (fun h=>by cases h)
theorem tt125:tt 125=some ⟨.other,1,8,[.nilFunc]⟩:=rfl
theorem fit126:FitsAt Try.prog 126 ti126:=fitsAt (z:=.nilFunc) (by kernel_rfl) Try.underlying126 rfl rfl (by intro h; cases h) (fun h=>by cases h)
theorem tt126:tt 126=some ⟨.other,1,8,[.nilFunc]⟩:=rfl
theorem fit127:FitsAt Try.prog 127 ti127:=fitsAt (z:=.agg #[(.pointer none),(.pointer none),(.pointer none),(.string ⟨#[]⟩)]) (by kernel_rfl) Try.underlying127 rfl rfl (by intro h; cases h) (fun h=>by cases h)
theorem tt127:tt 127=some ⟨.strct false [(0,17),(1,17),(2,17),(3,9)],4,40,[(.pointer none),(.pointer none),(.pointer none),(.string ⟨#[]⟩)]⟩:=rfl
theorem fit128:FitsAt Try.prog 128 ti128:=fitsAt (z:=.agg #[(.pointer none),(.pointer none),(.pointer none),(.string ⟨#[]⟩)]) (by kernel_rfl) Try.underlying128 rfl rfl (by intro h; cases h) (fun h=>by cases h)
theorem tt128:tt 128=some ⟨.strct false [(0,17),(1,17),(2,17),(3,9)],4,40,[(.pointer none),(.pointer none),(.pointer none),(.string ⟨#[]⟩)]⟩:=rfl
theorem fit129:FitsAt Try.prog 129 ti129:=fitsAt (z:=.agg #[]) (by kernel_rfl) Try.underlying129 rfl rfl (by intro h; cases h) (fun h=>by cases h)
theorem tt129:tt 129=some ⟨.arr false 0 16,0,0,[]⟩:=rfl
theorem fit130:FitsAt Try.prog 130 ti130:=fitsAt (z:=.agg #[]) (by kernel_rfl) Try.underlying130 rfl rfl (by intro h; cases h) (fun h=>by cases h)
theorem tt130:tt 130=some ⟨.strct false [(0,129)],0,0,[]⟩:=rfl
theorem fit131:FitsAt Try.prog 131 ti131:=fitsAt (z:=.agg #[]) (by kernel_rfl) Try.underlying131 rfl rfl (by intro h; cases h) (fun h=>by cases h)
theorem tt131:tt 131=some ⟨.strct false [(0,129)],0,0,[]⟩:=rfl
theorem fit132:FitsAt Try.prog 132 ti132:=fitsAt (z:=.nilFunc) (by kernel_rfl) Try.underlying132 rfl rfl (by intro h; cases h) (fun h=>by cases h)
theorem tt132:tt 132=some ⟨.other,1,8,[.nilFunc]⟩:=rfl
theorem fit133:FitsAt Try.prog 133 ti133:=fitsAt (z:=(.int .u8 0)) (by kernel_rfl) Try.underlying133 rfl rfl (by intro h; cases h) (fun _=>rfl)
theorem tt133:tt 133=some ⟨.int .u8,1,1,[(.int .u8 0)]⟩:=rfl
theorem fit134:FitsAt Try.prog 134 ti134:=fitsAt (z:=(.int .u8 0)) (by kernel_rfl) Try.underlying134 rfl rfl (by intro h; cases h) (fun _=>rfl)
theorem tt134:tt 134=some ⟨.int .u8,1,1,[(.int .u8 0)]⟩:=rfl
theorem fit135:FitsAt Try.prog 135 ti135:=fitsAt (z:=.nilFunc) (by kernel_rfl) Try.underlying135 rfl rfl (by intro h; cases h) (fun h=>by cases h)
theorem tt135:tt 135=some ⟨.other,1,8,[.nilFunc]⟩:=rfl
theorem fit136:FitsAt Try.prog 136 ti136:=fitsAt (z:=(.pointer none)) (by kernel_rfl) Try.underlying136 rfl rfl (by intro h; cases h) (fun h=>by cases h)
theorem tt136:tt 136=some ⟨.other,1,8,[(.pointer none)]⟩:=rfl
theorem fit137:FitsAt Try.prog 137 ti137:=fitsAt (z:=(.int .i32 0)) (by kernel_rfl) Try.underlying137 rfl rfl (by intro h; cases h) (fun _=>rfl)
theorem tt137:tt 137=some ⟨.int .i32,1,4,[(.int .i32 0)]⟩:=rfl
theorem fit138:FitsAt Try.prog 138 ti138:=fitsAt (z:=(.int .i32 0)) (by kernel_rfl) Try.underlying138 rfl rfl (by intro h; cases h) (fun _=>rfl)
theorem tt138:tt 138=some ⟨.int .i32,1,4,[(.int .i32 0)]⟩:=rfl
theorem fit139:FitsAt Try.prog 139 ti139:=fitsAt (z:=.agg #[(.int .u64 0),(.int .u64 0),(.int .u32 0),(.int .u8 0),(.int .u8 0),(.int .u8 0),(.int .u8 0),.nilFunc,(.pointer none),(.int .i32 0),(.int .i32 0)]) (by kernel_rfl) Try.underlying139 rfl rfl (by intro h; cases h) (fun h=>by cases h)
theorem tt139:tt 139=some ⟨.strct false [(0,12),(1,12),(2,76),(3,133),(4,5),(5,5),(6,134),(7,135),(8,136),(9,137),(10,138)],11,48,[(.int .u64 0),(.int .u64 0),(.int .u32 0),(.int .u8 0),(.int .u8 0),(.int .u8 0),(.int .u8 0),.nilFunc,(.pointer none),(.int .i32 0),(.int .i32 0)]⟩:=rfl
theorem fit140:FitsAt Try.prog 140 ti140:=fitsAt (z:=.agg #[(.int .u64 0),(.int .u64 0),(.int .u32 0),(.int .u8 0),(.int .u8 0),(.int .u8 0),(.int .u8 0),.nilFunc,(.pointer none),(.int .i32 0),(.int .i32 0)]) (by kernel_rfl) Try.underlying140 rfl rfl (by intro h; cases h) (fun h=>by cases h)
theorem tt140:tt 140=some ⟨.strct false [(0,12),(1,12),(2,76),(3,133),(4,5),(5,5),(6,134),(7,135),(8,136),(9,137),(10,138)],11,48,[(.int .u64 0),(.int .u64 0),(.int .u32 0),(.int .u8 0),(.int .u8 0),(.int .u8 0),(.int .u8 0),.nilFunc,(.pointer none),(.int .i32 0),(.int .i32 0)]⟩:=rfl
theorem fit141:FitsAt Try.prog 141 ti141:=fitsAt (z:=(.pointer none)) (by kernel_rfl) Try.underlying141 rfl rfl (by intro h; cases h) (fun h=>by cases h)
theorem tt141:tt 141=some ⟨.other,1,8,[(.pointer none)]⟩:=rfl
set_option maxRecDepth 100000 in
theorem fits:Fits Try.prog tt:=by
 intro t x h
 unfold tt at h
 split at h
 · cases h; exact fit1
 · cases h; exact fit2
 · cases h; exact fit3
 · cases h; exact fit4
 · cases h; exact fit5
 · cases h; exact fit6
 · cases h; exact fit7
 · cases h; exact fit8
 · cases h; exact fit9
 · cases h; exact fit10
 · cases h; exact fit11
 · cases h; exact fit12
 · cases h; exact fit13
 · cases h; exact fit14
 · cases h; exact fit15
 · cases h; exact fit16
 · cases h; exact fit17
 · cases h; exact fit18
 · cases h; exact fit19
 · cases h; exact fit20
 · cases h; exact fit21
 · cases h; exact fit22
 · cases h; exact fit23
 · cases h; exact fit24
 · cases h; exact fit25
 · cases h; exact fit26
 · cases h; exact fit27
 · cases h; exact fit28
 · cases h; exact fit30
 · cases h; exact fit32
 · cases h; exact fit33
 · cases h; exact fit34
 · cases h; exact fit35
 · cases h; exact fit36
 · cases h; exact fit37
 · cases h; exact fit38
 · cases h; exact fit39
 · cases h; exact fit40
 · cases h; exact fit41
 · cases h; exact fit42
 · cases h; exact fit43
 · cases h; exact fit44
 · cases h; exact fit45
 · cases h; exact fit46
 · cases h; exact fit47
 · cases h; exact fit48
 · cases h; exact fit50
 · cases h; exact fit51
 · cases h; exact fit53
 · cases h; exact fit54
 · cases h; exact fit55
 · cases h; exact fit56
 · cases h; exact fit57
 · cases h; exact fit58
 · cases h; exact fit59
 · cases h; exact fit60
 · cases h; exact fit61
 · cases h; exact fit62
 · cases h; exact fit63
 · cases h; exact fit64
 · cases h; exact fit65
 · cases h; exact fit67
 · cases h; exact fit69
 · cases h; exact fit70
 · cases h; exact fit71
 · cases h; exact fit72
 · cases h; exact fit73
 · cases h; exact fit74
 · cases h; exact fit75
 · cases h; exact fit76
 · cases h; exact fit77
 · cases h; exact fit78
 · cases h; exact fit79
 · cases h; exact fit80
 · cases h; exact fit82
 · cases h; exact fit83
 · cases h; exact fit84
 · cases h; exact fit85
 · cases h; exact fit86
 · cases h; exact fit87
 · cases h; exact fit88
 · cases h; exact fit89
 · cases h; exact fit90
 · cases h; exact fit91
 · cases h; exact fit92
 · cases h; exact fit93
 · cases h; exact fit94
 · cases h; exact fit95
 · cases h; exact fit96
 · cases h; exact fit97
 · cases h; exact fit98
 · cases h; exact fit99
 · cases h; exact fit100
 · cases h; exact fit101
 · cases h; exact fit102
 · cases h; exact fit103
 · cases h; exact fit105
 · cases h; exact fit106
 · cases h; exact fit107
 · cases h; exact fit108
 · cases h; exact fit109
 · cases h; exact fit110
 · cases h; exact fit111
 · cases h; exact fit112
 · cases h; exact fit113
 · cases h; exact fit114
 · cases h; exact fit115
 · cases h; exact fit116
 · cases h; exact fit117
 · cases h; exact fit118
 · cases h; exact fit119
 · cases h; exact fit120
 · cases h; exact fit121
 · cases h; exact fit122
 · cases h; exact fit123
 · cases h; exact fit125
 · cases h; exact fit126
 · cases h; exact fit127
 · cases h; exact fit128
 · cases h; exact fit129
 · cases h; exact fit130
 · cases h; exact fit131
 · cases h; exact fit132
 · cases h; exact fit133
 · cases h; exact fit134
 · cases h; exact fit135
 · cases h; exact fit136
 · cases h; exact fit137
 · cases h; exact fit138
 · cases h; exact fit139
 · cases h; exact fit140
 · cases h; exact fit141
 · cases h
theorem mixed:Try.prog.follows .mixedOrders=true:=rfl
attribute [go_sem] tt1 tt2 tt3 tt4 tt5 tt6 tt7 tt8 tt9 tt10 tt11 tt12 tt13 tt14 tt15 tt16 tt17 tt18 tt19 tt20 tt21 tt22 tt23 tt24 tt25 tt26 tt27 tt28 tt30 tt32 tt33 tt34 tt35 tt36 tt37 tt38 tt39 tt40 tt41 tt42 tt43 tt44 tt45 tt46 tt47 tt48 tt50 tt51 tt53 tt54 tt55 tt56 tt57 tt58 tt59 tt60 tt61 tt62 tt63 tt64 tt65 tt67 tt69 tt70 tt71 tt72 tt73 tt74 tt75 tt76 tt77 tt78 tt79 tt80 tt82 tt83 tt84 tt85 tt86 tt87 tt88 tt89 tt90 tt91 tt92 tt93 tt94 tt95 tt96 tt97 tt98 tt99 tt100 tt101 tt102 tt103 tt105 tt106 tt107 tt108 tt109 tt110 tt111 tt112 tt113 tt114 tt115 tt116 tt117 tt118 tt119 tt120 tt121 tt122 tt123 tt125 tt126 tt127 tt128 tt129 tt130 tt131 tt132 tt133 tt134 tt135 tt136 tt137 tt138 tt139 tt140 tt141
end Go.Proofs.Ytclbndfjhjladaa
