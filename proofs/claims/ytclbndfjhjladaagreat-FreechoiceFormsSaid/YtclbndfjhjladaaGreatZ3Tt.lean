/-
  The types of this seat's program: a row a type (its kind, cells, bytes, the cells of its zero value), and that each row is the program's own. Made by program out of the translation.
-/
import Derived.Test.YtclbndfjhjladaaGreatZ3KE
import Derived.Test.YtclbndfjhjladaaGreatProg
import Derived.KernelRfl
set_option linter.all false
namespace Go.Proofs.YtclbndfjhjladaaGreat
open Go.K Go.M
theorem fitsAt {P:Program} {t:TypeId} {k:TK} {sz by_:Nat} {zs:List Value} {z:Value} {d:TypeDesc} (h1:(P.info? t).map (fun i=>(i.zero,i.size,i.bytes))=some (some z,sz,by_)) (h2:P.underlying t=some d) (h3:TK.of d=k.plain) (h4:z.cells.toList=zs) (h5:k.cmp=true→Cmp P t) (h6:k.one=true→zs=[z]):FitsAt P t ⟨k,sz,by_,zs⟩:=by
 cases hi:P.info? t with
 | none => simp [hi] at h1
 | some i =>
   simp only [hi,Option.map_some,Option.some.injEq,Prod.mk.injEq] at h1
   exact ⟨⟨i,d,z,hi,h2,h3,h1.2.1,h1.2.2,h1.1,h4⟩,h5,fun e=>⟨i,z,hi,h1.1,h6 e⟩⟩
def ti1:TI:=⟨.other,1,8,[.nilFunc]⟩
def ti2:TI:=⟨.int .i64,1,8,[(.int .i64 0)]⟩
def ti3:TI:=⟨.int .i64,1,8,[(.int .i64 0)]⟩
def ti4:TI:=⟨.bool,1,1,[(.bool false)]⟩
def ti5:TI:=⟨.int .u8,1,1,[(.int .u8 0)]⟩
def ti6:TI:=⟨.int .u8,1,1,[(.int .u8 0)]⟩
def ti7:TI:=⟨.strct true [(0,2),(1,3),(2,4),(3,6)],4,24,[(.int .i64 0),(.int .i64 0),(.bool false),(.int .u8 0)]⟩
def ti8:TI:=⟨.strct true [(0,2),(1,3),(2,4),(3,6)],4,24,[(.int .i64 0),(.int .i64 0),(.bool false),(.int .u8 0)]⟩
def ti9:TI:=⟨.str,1,16,[(.string ⟨#[]⟩)]⟩
def ti10:TI:=⟨.str,1,16,[(.string ⟨#[]⟩)]⟩
def ti11:TI:=⟨.str,1,16,[(.string ⟨#[]⟩)]⟩
def ti12:TI:=⟨.int .u64,1,8,[(.int .u64 0)]⟩
def ti13:TI:=⟨.strct false [(0,9),(1,12)],2,24,[(.string ⟨#[]⟩),(.int .u64 0)]⟩
def ti14:TI:=⟨.strct false [(0,9),(1,12)],2,24,[(.string ⟨#[]⟩),(.int .u64 0)]⟩
def ti15:TI:=⟨.other,1,8,[(.pointer none)]⟩
def ti16:TI:=⟨.other,1,8,[(.pointer none)]⟩
def ti17:TI:=⟨.other,1,8,[(.pointer none)]⟩
def ti18:TI:=⟨.strct false [(0,17)],1,8,[(.pointer none)]⟩
def ti19:TI:=⟨.strct false [(0,17)],1,8,[(.pointer none)]⟩
def ti20:TI:=⟨.other,1,16,[.nilIface]⟩
def ti21:TI:=⟨.int .i32,1,4,[(.int .i32 0)]⟩
def ti22:TI:=⟨.slice 64,1,24,[(.slice none 0 0)]⟩
def ti23:TI:=⟨.strct false [(0,3),(1,22),(2,3),(3,3)],4,48,[(.int .i64 0),(.slice none 0 0),(.int .i64 0),(.int .i64 0)]⟩
def ti24:TI:=⟨.strct false [(0,3),(1,22),(2,3),(3,3)],4,48,[(.int .i64 0),(.slice none 0 0),(.int .i64 0),(.int .i64 0)]⟩
def ti25:TI:=⟨.other,1,8,[.nilFunc]⟩
def ti26:TI:=⟨.other,1,8,[.nilFunc]⟩
def ti27:TI:=⟨.int .i64,1,8,[(.int .i64 0)]⟩
def ti29:TI:=⟨.other,1,8,[.nilFunc]⟩
def ti30:TI:=⟨.slice 69,1,24,[(.slice none 0 0)]⟩
def ti32:TI:=⟨.other,1,8,[.nilFunc]⟩
def ti34:TI:=⟨.other,1,8,[.nilFunc]⟩
def ti36:TI:=⟨.other,1,8,[.nilFunc]⟩
def ti37:TI:=⟨.other,1,8,[.nilFunc]⟩
def ti38:TI:=⟨.other,1,8,[.nilFunc]⟩
def ti39:TI:=⟨.other,1,8,[.nilFunc]⟩
def ti41:TI:=⟨.other,1,8,[.nilFunc]⟩
def ti42:TI:=⟨.slice 48,1,24,[(.slice none 0 0)]⟩
def ti43:TI:=⟨.slice 53,1,24,[(.slice none 0 0)]⟩
def ti44:TI:=⟨.strct false [(0,42),(1,43),(2,4)],3,56,[(.slice none 0 0),(.slice none 0 0),(.bool false)]⟩
def ti45:TI:=⟨.strct false [(0,42),(1,43),(2,4)],3,56,[(.slice none 0 0),(.slice none 0 0),(.bool false)]⟩
def ti47:TI:=⟨.other,1,8,[.nilFunc]⟩
def ti48:TI:=⟨.slice 3,1,24,[(.slice none 0 0)]⟩
def ti49:TI:=⟨.other,1,8,[.nilFunc]⟩
def ti50:TI:=⟨.slice 4,1,24,[(.slice none 0 0)]⟩
def ti51:TI:=⟨.other,1,8,[.nilFunc]⟩
def ti52:TI:=⟨.strct true [(0,3),(1,3),(2,3)],3,24,[(.int .i64 0),(.int .i64 0),(.int .i64 0)]⟩
def ti53:TI:=⟨.strct true [(0,3),(1,3),(2,3)],3,24,[(.int .i64 0),(.int .i64 0),(.int .i64 0)]⟩
def ti54:TI:=⟨.other,1,8,[.nilFunc]⟩
def ti55:TI:=⟨.other,1,8,[.nilFunc]⟩
def ti57:TI:=⟨.other,1,8,[.nilFunc]⟩
def ti59:TI:=⟨.other,1,8,[.nilFunc]⟩
def ti60:TI:=⟨.other,1,8,[.nilFunc]⟩
def ti61:TI:=⟨.other,1,8,[.nilFunc]⟩
def ti62:TI:=⟨.other,1,8,[.nilFunc]⟩
def ti63:TI:=⟨.strct false [(0,9),(1,48),(2,48)],3,64,[(.string ⟨#[]⟩),(.slice none 0 0),(.slice none 0 0)]⟩
def ti64:TI:=⟨.strct false [(0,9),(1,48),(2,48)],3,64,[(.string ⟨#[]⟩),(.slice none 0 0),(.slice none 0 0)]⟩
def ti65:TI:=⟨.other,1,8,[.nilFunc]⟩
def ti67:TI:=⟨.other,1,8,[.nilFunc]⟩
def ti68:TI:=⟨.other,1,8,[.nilFunc]⟩
def ti69:TI:=⟨.arr false 2 48,2,48,[(.slice none 0 0),(.slice none 0 0)]⟩
def ti70:TI:=⟨.other,1,8,[.nilFunc]⟩
def ti71:TI:=⟨.other,1,8,[.nilFunc]⟩
def ti72:TI:=⟨.other,1,8,[.nilFunc]⟩
def ti73:TI:=⟨.other,1,8,[.nilFunc]⟩
def ti74:TI:=⟨.other,1,8,[.nilFunc]⟩
def ti75:TI:=⟨.other,1,8,[.nilFunc]⟩
def ti76:TI:=⟨.other,1,8,[.nilFunc]⟩
def ti78:TI:=⟨.other,1,8,[.nilFunc]⟩
def ti80:TI:=⟨.other,1,8,[.nilFunc]⟩
def ti81:TI:=⟨.other,1,8,[.nilFunc]⟩
def ti82:TI:=⟨.slice 25,1,24,[(.slice none 0 0)]⟩
def ti83:TI:=⟨.other,1,8,[.nilFunc]⟩
def ti84:TI:=⟨.other,1,8,[.nilFunc]⟩
def ti85:TI:=⟨.other,1,8,[.nilFunc]⟩
def ti86:TI:=⟨.other,1,8,[.nilFunc]⟩
def ti88:TI:=⟨.other,1,8,[.nilFunc]⟩
def ti89:TI:=⟨.other,1,8,[.nilFunc]⟩
def ti91:TI:=⟨.other,1,8,[.nilFunc]⟩
def ti92:TI:=⟨.other,1,8,[.nilFunc]⟩
def ti93:TI:=⟨.other,1,8,[.nilFunc]⟩
def ti94:TI:=⟨.other,1,8,[.nilFunc]⟩
def ti95:TI:=⟨.other,1,8,[.nilFunc]⟩
def ti96:TI:=⟨.other,1,8,[.nilFunc]⟩
def ti97:TI:=⟨.other,1,8,[.nilFunc]⟩
def ti98:TI:=⟨.other,1,8,[(.pointer none)]⟩
def ti99:TI:=⟨.other,1,8,[.nilFunc]⟩
def ti100:TI:=⟨.other,1,8,[.nilFunc]⟩
def ti101:TI:=⟨.map 3 3,1,8,[(.map none)]⟩
def ti102:TI:=⟨.strct false [(0,3),(1,48)],2,32,[(.int .i64 0),(.slice none 0 0)]⟩
def ti103:TI:=⟨.strct false [(0,3),(1,48)],2,32,[(.int .i64 0),(.slice none 0 0)]⟩
def ti104:TI:=⟨.other,1,8,[.nilFunc]⟩
def ti107:TI:=⟨.other,1,8,[.nilFunc]⟩
def ti108:TI:=⟨.other,1,8,[.nilFunc]⟩
def ti109:TI:=⟨.other,1,8,[.nilFunc]⟩
def ti110:TI:=⟨.other,1,8,[.nilFunc]⟩
def ti111:TI:=⟨.other,1,8,[.nilFunc]⟩
def ti112:TI:=⟨.other,1,8,[.nilFunc]⟩
def ti113:TI:=⟨.strct false [(0,42),(1,48),(2,3),(3,3)],4,64,[(.slice none 0 0),(.slice none 0 0),(.int .i64 0),(.int .i64 0)]⟩
def ti114:TI:=⟨.strct false [(0,42),(1,48),(2,3),(3,3)],4,64,[(.slice none 0 0),(.slice none 0 0),(.int .i64 0),(.int .i64 0)]⟩
def ti115:TI:=⟨.other,1,8,[.nilFunc]⟩
def ti116:TI:=⟨.other,1,8,[.nilFunc]⟩
def ti118:TI:=⟨.other,1,8,[.nilFunc]⟩
def ti119:TI:=⟨.slice 121,1,24,[(.slice none 0 0)]⟩
def ti120:TI:=⟨.other,1,8,[.nilFunc]⟩
def ti121:TI:=⟨.int .u32,1,4,[(.int .u32 0)]⟩
def ti122:TI:=⟨.other,1,8,[.nilFunc]⟩
def ti123:TI:=⟨.other,1,8,[.nilFunc]⟩
def ti124:TI:=⟨.other,1,8,[.nilFunc]⟩
def ti125:TI:=⟨.other,1,8,[.nilFunc]⟩
def ti126:TI:=⟨.other,1,8,[.nilFunc]⟩
def ti128:TI:=⟨.other,1,8,[.nilFunc]⟩
def ti129:TI:=⟨.other,1,8,[.nilFunc]⟩
def ti130:TI:=⟨.other,1,8,[.nilFunc]⟩
def ti131:TI:=⟨.other,1,8,[.nilFunc]⟩
def ti132:TI:=⟨.other,1,8,[.nilFunc]⟩
def ti133:TI:=⟨.other,1,8,[(.pointer none)]⟩
def ti134:TI:=⟨.strct false [(0,42),(1,42)],2,48,[(.slice none 0 0),(.slice none 0 0)]⟩
def ti135:TI:=⟨.strct false [(0,42),(1,42)],2,48,[(.slice none 0 0),(.slice none 0 0)]⟩
def ti136:TI:=⟨.slice 139,1,24,[(.slice none 0 0)]⟩
def ti137:TI:=⟨.other,1,8,[.nilFunc]⟩
def ti138:TI:=⟨.strct false [(0,48),(1,48)],2,48,[(.slice none 0 0),(.slice none 0 0)]⟩
def ti139:TI:=⟨.strct false [(0,48),(1,48)],2,48,[(.slice none 0 0),(.slice none 0 0)]⟩
def ti141:TI:=⟨.other,1,8,[.nilFunc]⟩
def ti142:TI:=⟨.other,1,8,[.nilFunc]⟩
def ti143:TI:=⟨.strct false [(0,42),(1,48),(2,3),(3,3)],4,64,[(.slice none 0 0),(.slice none 0 0),(.int .i64 0),(.int .i64 0)]⟩
def ti144:TI:=⟨.strct false [(0,42),(1,48),(2,3),(3,3)],4,64,[(.slice none 0 0),(.slice none 0 0),(.int .i64 0),(.int .i64 0)]⟩
def ti145:TI:=⟨.other,1,8,[.nilFunc]⟩
def ti146:TI:=⟨.other,1,8,[.nilFunc]⟩
def ti147:TI:=⟨.other,1,8,[.nilFunc]⟩
def ti148:TI:=⟨.other,1,8,[.nilFunc]⟩
def ti149:TI:=⟨.int .u64,1,8,[(.int .u64 0)]⟩
def ti150:TI:=⟨.other,1,8,[.nilFunc]⟩
def ti151:TI:=⟨.other,1,8,[.nilFunc]⟩
def ti153:TI:=⟨.other,1,8,[.nilFunc]⟩
def ti154:TI:=⟨.other,1,8,[.nilFunc]⟩
def ti155:TI:=⟨.other,1,8,[.nilFunc]⟩
def ti156:TI:=⟨.other,1,8,[.nilFunc]⟩
def ti157:TI:=⟨.other,1,8,[(.pointer none)]⟩
def ti158:TI:=⟨.other,1,8,[.nilFunc]⟩
def ti159:TI:=⟨.other,1,8,[.nilFunc]⟩
def ti160:TI:=⟨.other,1,8,[.nilFunc]⟩
def ti161:TI:=⟨.int .i64,1,8,[(.int .i64 0)]⟩
def ti163:TI:=⟨.other,1,8,[.nilFunc]⟩
def ti164:TI:=⟨.other,1,8,[.nilFunc]⟩
def ti165:TI:=⟨.other,1,8,[.nilFunc]⟩
def ti166:TI:=⟨.other,1,8,[.nilFunc]⟩
def ti167:TI:=⟨.other,1,8,[.nilFunc]⟩
def ti168:TI:=⟨.other,1,8,[.nilFunc]⟩
def ti169:TI:=⟨.int .u64,1,8,[(.int .u64 0)]⟩
def ti170:TI:=⟨.other,1,8,[.nilFunc]⟩
def ti171:TI:=⟨.other,1,8,[.nilFunc]⟩
def ti172:TI:=⟨.int .u64,1,8,[(.int .u64 0)]⟩
def ti173:TI:=⟨.other,1,8,[.nilFunc]⟩
def ti174:TI:=⟨.other,1,8,[.nilFunc]⟩
def ti175:TI:=⟨.other,1,8,[.nilFunc]⟩
def ti176:TI:=⟨.other,1,8,[(.pointer none)]⟩
def ti177:TI:=⟨.other,1,8,[.nilFunc]⟩
def ti178:TI:=⟨.other,1,8,[(.pointer none)]⟩
def ti179:TI:=⟨.other,1,8,[.nilFunc]⟩
def ti180:TI:=⟨.other,1,8,[.nilFunc]⟩
def ti181:TI:=⟨.strct false [(0,17),(1,17),(2,17),(3,9)],4,40,[(.pointer none),(.pointer none),(.pointer none),(.string ⟨#[]⟩)]⟩
def ti182:TI:=⟨.strct false [(0,17),(1,17),(2,17),(3,9)],4,40,[(.pointer none),(.pointer none),(.pointer none),(.string ⟨#[]⟩)]⟩
def ti183:TI:=⟨.arr false 0 16,0,0,[]⟩
def ti184:TI:=⟨.strct false [(0,183)],0,0,[]⟩
def ti185:TI:=⟨.strct false [(0,183)],0,0,[]⟩
def ti186:TI:=⟨.other,1,8,[.nilFunc]⟩
def ti187:TI:=⟨.int .u8,1,1,[(.int .u8 0)]⟩
def ti188:TI:=⟨.int .u8,1,1,[(.int .u8 0)]⟩
def ti189:TI:=⟨.other,1,8,[.nilFunc]⟩
def ti190:TI:=⟨.other,1,8,[(.pointer none)]⟩
def ti191:TI:=⟨.int .i32,1,4,[(.int .i32 0)]⟩
def ti192:TI:=⟨.int .i32,1,4,[(.int .i32 0)]⟩
def ti193:TI:=⟨.strct false [(0,12),(1,12),(2,121),(3,187),(4,5),(5,5),(6,188),(7,189),(8,190),(9,191),(10,192)],11,48,[(.int .u64 0),(.int .u64 0),(.int .u32 0),(.int .u8 0),(.int .u8 0),(.int .u8 0),(.int .u8 0),.nilFunc,(.pointer none),(.int .i32 0),(.int .i32 0)]⟩
def ti194:TI:=⟨.strct false [(0,12),(1,12),(2,121),(3,187),(4,5),(5,5),(6,188),(7,189),(8,190),(9,191),(10,192)],11,48,[(.int .u64 0),(.int .u64 0),(.int .u32 0),(.int .u8 0),(.int .u8 0),(.int .u8 0),(.int .u8 0),.nilFunc,(.pointer none),(.int .i32 0),(.int .i32 0)]⟩
def ti195:TI:=⟨.other,1,8,[(.pointer none)]⟩
def tt:TT
 | 1 => some ti1
 | 2 => some ti2
 | 3 => some ti3
 | 4 => some ti4
 | 5 => some ti5
 | 6 => some ti6
 | 7 => some ti7
 | 8 => some ti8
 | 9 => some ti9
 | 10 => some ti10
 | 11 => some ti11
 | 12 => some ti12
 | 13 => some ti13
 | 14 => some ti14
 | 15 => some ti15
 | 16 => some ti16
 | 17 => some ti17
 | 18 => some ti18
 | 19 => some ti19
 | 20 => some ti20
 | 21 => some ti21
 | 22 => some ti22
 | 23 => some ti23
 | 24 => some ti24
 | 25 => some ti25
 | 26 => some ti26
 | 27 => some ti27
 | 29 => some ti29
 | 30 => some ti30
 | 32 => some ti32
 | 34 => some ti34
 | 36 => some ti36
 | 37 => some ti37
 | 38 => some ti38
 | 39 => some ti39
 | 41 => some ti41
 | 42 => some ti42
 | 43 => some ti43
 | 44 => some ti44
 | 45 => some ti45
 | 47 => some ti47
 | 48 => some ti48
 | 49 => some ti49
 | 50 => some ti50
 | 51 => some ti51
 | 52 => some ti52
 | 53 => some ti53
 | 54 => some ti54
 | 55 => some ti55
 | 57 => some ti57
 | 59 => some ti59
 | 60 => some ti60
 | 61 => some ti61
 | 62 => some ti62
 | 63 => some ti63
 | 64 => some ti64
 | 65 => some ti65
 | 67 => some ti67
 | 68 => some ti68
 | 69 => some ti69
 | 70 => some ti70
 | 71 => some ti71
 | 72 => some ti72
 | 73 => some ti73
 | 74 => some ti74
 | 75 => some ti75
 | 76 => some ti76
 | 78 => some ti78
 | 80 => some ti80
 | 81 => some ti81
 | 82 => some ti82
 | 83 => some ti83
 | 84 => some ti84
 | 85 => some ti85
 | 86 => some ti86
 | 88 => some ti88
 | 89 => some ti89
 | 91 => some ti91
 | 92 => some ti92
 | 93 => some ti93
 | 94 => some ti94
 | 95 => some ti95
 | 96 => some ti96
 | 97 => some ti97
 | 98 => some ti98
 | 99 => some ti99
 | 100 => some ti100
 | 101 => some ti101
 | 102 => some ti102
 | 103 => some ti103
 | 104 => some ti104
 | 107 => some ti107
 | 108 => some ti108
 | 109 => some ti109
 | 110 => some ti110
 | 111 => some ti111
 | 112 => some ti112
 | 113 => some ti113
 | 114 => some ti114
 | 115 => some ti115
 | 116 => some ti116
 | 118 => some ti118
 | 119 => some ti119
 | 120 => some ti120
 | 121 => some ti121
 | 122 => some ti122
 | 123 => some ti123
 | 124 => some ti124
 | 125 => some ti125
 | 126 => some ti126
 | 128 => some ti128
 | 129 => some ti129
 | 130 => some ti130
 | 131 => some ti131
 | 132 => some ti132
 | 133 => some ti133
 | 134 => some ti134
 | 135 => some ti135
 | 136 => some ti136
 | 137 => some ti137
 | 138 => some ti138
 | 139 => some ti139
 | 141 => some ti141
 | 142 => some ti142
 | 143 => some ti143
 | 144 => some ti144
 | 145 => some ti145
 | 146 => some ti146
 | 147 => some ti147
 | 148 => some ti148
 | 149 => some ti149
 | 150 => some ti150
 | 151 => some ti151
 | 153 => some ti153
 | 154 => some ti154
 | 155 => some ti155
 | 156 => some ti156
 | 157 => some ti157
 | 158 => some ti158
 | 159 => some ti159
 | 160 => some ti160
 | 161 => some ti161
 | 163 => some ti163
 | 164 => some ti164
 | 165 => some ti165
 | 166 => some ti166
 | 167 => some ti167
 | 168 => some ti168
 | 169 => some ti169
 | 170 => some ti170
 | 171 => some ti171
 | 172 => some ti172
 | 173 => some ti173
 | 174 => some ti174
 | 175 => some ti175
 | 176 => some ti176
 | 177 => some ti177
 | 178 => some ti178
 | 179 => some ti179
 | 180 => some ti180
 | 181 => some ti181
 | 182 => some ti182
 | 183 => some ti183
 | 184 => some ti184
 | 185 => some ti185
 | 186 => some ti186
 | 187 => some ti187
 | 188 => some ti188
 | 189 => some ti189
 | 190 => some ti190
 | 191 => some ti191
 | 192 => some ti192
 | 193 => some ti193
 | 194 => some ti194
 | 195 => some ti195
 | _ => none
theorem fit1:FitsAt Tryz.prog 1 ti1:=fitsAt (z:=.nilFunc) (by kernel_rfl) Tryz.underlying1 rfl rfl (by intro h; cases h) (fun h=>by cases h)
theorem tt1:tt 1=some ⟨.other,1,8,[.nilFunc]⟩:=rfl
theorem fit2:FitsAt Tryz.prog 2 ti2:=fitsAt (z:=(.int .i64 0)) (by kernel_rfl) Tryz.underlying2 rfl rfl (by intro h; cases h) (fun _=>rfl)
theorem tt2:tt 2=some ⟨.int .i64,1,8,[(.int .i64 0)]⟩:=rfl
theorem fit3:FitsAt Tryz.prog 3 ti3:=fitsAt (z:=(.int .i64 0)) (by kernel_rfl) Tryz.underlying3 rfl rfl (by intro h; cases h) (fun _=>rfl)
theorem tt3:tt 3=some ⟨.int .i64,1,8,[(.int .i64 0)]⟩:=rfl
theorem fit4:FitsAt Tryz.prog 4 ti4:=fitsAt (z:=(.bool false)) (by kernel_rfl) Tryz.underlying4 rfl rfl (by intro h; cases h) (fun _=>rfl)
theorem tt4:tt 4=some ⟨.bool,1,1,[(.bool false)]⟩:=rfl
theorem fit5:FitsAt Tryz.prog 5 ti5:=fitsAt (z:=(.int .u8 0)) (by kernel_rfl) Tryz.underlying5 rfl rfl (by intro h; cases h) (fun _=>rfl)
theorem tt5:tt 5=some ⟨.int .u8,1,1,[(.int .u8 0)]⟩:=rfl
theorem fit6:FitsAt Tryz.prog 6 ti6:=fitsAt (z:=(.int .u8 0)) (by kernel_rfl) Tryz.underlying6 rfl rfl (by intro h; cases h) (fun _=>rfl)
theorem tt6:tt 6=some ⟨.int .u8,1,1,[(.int .u8 0)]⟩:=rfl
theorem fit7:FitsAt Tryz.prog 7 ti7:=fitsAt (z:=.agg #[(.int .i64 0),(.int .i64 0),(.bool false),(.int .u8 0)]) (by kernel_rfl) Tryz.underlying7 rfl rfl (by exact fun _=>⟨by kernel_rfl,by kernel_rfl,by kernel_rfl⟩) (fun h=>by cases h)
theorem tt7:tt 7=some ⟨.strct true [(0,2),(1,3),(2,4),(3,6)],4,24,[(.int .i64 0),(.int .i64 0),(.bool false),(.int .u8 0)]⟩:=rfl
theorem fit8:FitsAt Tryz.prog 8 ti8:=fitsAt (z:=.agg #[(.int .i64 0),(.int .i64 0),(.bool false),(.int .u8 0)]) (by kernel_rfl) Tryz.underlying8 rfl rfl (by exact fun _=>⟨by kernel_rfl,by kernel_rfl,by kernel_rfl⟩) (fun h=>by cases h)
theorem tt8:tt 8=some ⟨.strct true [(0,2),(1,3),(2,4),(3,6)],4,24,[(.int .i64 0),(.int .i64 0),(.bool false),(.int .u8 0)]⟩:=rfl
theorem fit9:FitsAt Tryz.prog 9 ti9:=fitsAt (z:=(.string ⟨#[]⟩)) (by kernel_rfl) Tryz.underlying9 rfl rfl (by intro h; cases h) (fun _=>rfl)
theorem tt9:tt 9=some ⟨.str,1,16,[(.string ⟨#[]⟩)]⟩:=rfl
theorem fit10:FitsAt Tryz.prog 10 ti10:=fitsAt (z:=(.string ⟨#[]⟩)) (by kernel_rfl) Tryz.underlying10 rfl rfl (by intro h; cases h) (fun _=>rfl)
theorem tt10:tt 10=some ⟨.str,1,16,[(.string ⟨#[]⟩)]⟩:=rfl
theorem fit11:FitsAt Tryz.prog 11 ti11:=fitsAt (z:=(.string ⟨#[]⟩)) (by kernel_rfl) Tryz.underlying11 rfl rfl (by intro h; cases h) (fun _=>rfl)
theorem tt11:tt 11=some ⟨.str,1,16,[(.string ⟨#[]⟩)]⟩:=rfl
theorem fit12:FitsAt Tryz.prog 12 ti12:=fitsAt (z:=(.int .u64 0)) (by kernel_rfl) Tryz.underlying12 rfl rfl (by intro h; cases h) (fun _=>rfl)
theorem tt12:tt 12=some ⟨.int .u64,1,8,[(.int .u64 0)]⟩:=rfl
theorem fit13:FitsAt Tryz.prog 13 ti13:=fitsAt (z:=.agg #[(.string ⟨#[]⟩),(.int .u64 0)]) (by kernel_rfl) Tryz.underlying13 rfl rfl (by intro h; cases h) (fun h=>by cases h)
theorem tt13:tt 13=some ⟨.strct false [(0,9),(1,12)],2,24,[(.string ⟨#[]⟩),(.int .u64 0)]⟩:=rfl
theorem fit14:FitsAt Tryz.prog 14 ti14:=fitsAt (z:=.agg #[(.string ⟨#[]⟩),(.int .u64 0)]) (by kernel_rfl) Tryz.underlying14 rfl rfl (by intro h; cases h) (fun h=>by cases h)
theorem tt14:tt 14=some ⟨.strct false [(0,9),(1,12)],2,24,[(.string ⟨#[]⟩),(.int .u64 0)]⟩:=rfl
theorem fit15:FitsAt Tryz.prog 15 ti15:=fitsAt (z:=(.pointer none)) (by kernel_rfl) Tryz.underlying15 rfl rfl (by intro h; cases h) (fun h=>by cases h)
theorem tt15:tt 15=some ⟨.other,1,8,[(.pointer none)]⟩:=rfl
theorem fit16:FitsAt Tryz.prog 16 ti16:=fitsAt (z:=(.pointer none)) (by kernel_rfl) Tryz.underlying16 rfl rfl (by intro h; cases h) (fun h=>by cases h)
theorem tt16:tt 16=some ⟨.other,1,8,[(.pointer none)]⟩:=rfl
theorem fit17:FitsAt Tryz.prog 17 ti17:=fitsAt (z:=(.pointer none)) (by kernel_rfl) Tryz.underlying17 rfl rfl (by intro h; cases h) (fun h=>by cases h)
theorem tt17:tt 17=some ⟨.other,1,8,[(.pointer none)]⟩:=rfl
theorem fit18:FitsAt Tryz.prog 18 ti18:=fitsAt (z:=.agg #[(.pointer none)]) (by kernel_rfl) Tryz.underlying18 rfl rfl (by intro h; cases h) (fun h=>by cases h)
theorem tt18:tt 18=some ⟨.strct false [(0,17)],1,8,[(.pointer none)]⟩:=rfl
theorem fit19:FitsAt Tryz.prog 19 ti19:=fitsAt (z:=.agg #[(.pointer none)]) (by kernel_rfl) Tryz.underlying19 rfl rfl (by intro h; cases h) (fun h=>by cases h)
theorem tt19:tt 19=some ⟨.strct false [(0,17)],1,8,[(.pointer none)]⟩:=rfl
theorem fit20:FitsAt Tryz.prog 20 ti20:=fitsAt (z:=.nilIface) (by kernel_rfl) Tryz.underlying20 rfl rfl (by intro h; cases h) (fun h=>by cases h)
theorem tt20:tt 20=some ⟨.other,1,16,[.nilIface]⟩:=rfl
theorem fit21:FitsAt Tryz.prog 21 ti21:=fitsAt (z:=(.int .i32 0)) (by kernel_rfl) Tryz.underlying21 rfl rfl (by intro h; cases h) (fun _=>rfl)
theorem tt21:tt 21=some ⟨.int .i32,1,4,[(.int .i32 0)]⟩:=rfl
theorem fit22:FitsAt Tryz.prog 22 ti22:=fitsAt (z:=(.slice none 0 0)) (by kernel_rfl) Tryz.underlying22 rfl rfl (by intro h; cases h) (fun h=>by cases h)
theorem tt22:tt 22=some ⟨.slice 64,1,24,[(.slice none 0 0)]⟩:=rfl
theorem fit23:FitsAt Tryz.prog 23 ti23:=fitsAt (z:=.agg #[(.int .i64 0),(.slice none 0 0),(.int .i64 0),(.int .i64 0)]) (by kernel_rfl) Tryz.underlying23 rfl rfl (by intro h; cases h) (fun h=>by cases h)
theorem tt23:tt 23=some ⟨.strct false [(0,3),(1,22),(2,3),(3,3)],4,48,[(.int .i64 0),(.slice none 0 0),(.int .i64 0),(.int .i64 0)]⟩:=rfl
theorem fit24:FitsAt Tryz.prog 24 ti24:=fitsAt (z:=.agg #[(.int .i64 0),(.slice none 0 0),(.int .i64 0),(.int .i64 0)]) (by kernel_rfl) Tryz.underlying24 rfl rfl (by intro h; cases h) (fun h=>by cases h)
theorem tt24:tt 24=some ⟨.strct false [(0,3),(1,22),(2,3),(3,3)],4,48,[(.int .i64 0),(.slice none 0 0),(.int .i64 0),(.int .i64 0)]⟩:=rfl
theorem fit25:FitsAt Tryz.prog 25 ti25:=fitsAt (z:=.nilFunc) (by kernel_rfl) Tryz.underlying25 rfl rfl (by intro h; cases h) (fun h=>by cases h)
theorem tt25:tt 25=some ⟨.other,1,8,[.nilFunc]⟩:=rfl
theorem fit26:FitsAt Tryz.prog 26 ti26:=fitsAt (z:=.nilFunc) (by kernel_rfl) Tryz.underlying26 rfl rfl (by intro h; cases h) (fun h=>by cases h)
theorem tt26:tt 26=some ⟨.other,1,8,[.nilFunc]⟩:=rfl
theorem fit27:FitsAt Tryz.prog 27 ti27:=fitsAt (z:=(.int .i64 0)) (by kernel_rfl) Tryz.underlying27 rfl rfl (by intro h; cases h) (fun _=>rfl)
theorem tt27:tt 27=some ⟨.int .i64,1,8,[(.int .i64 0)]⟩:=rfl
theorem fit29:FitsAt Tryz.prog 29 ti29:=fitsAt (z:=.nilFunc) (by kernel_rfl) Tryz.underlying29 rfl rfl (by intro h; cases h) (fun h=>by cases h)
theorem tt29:tt 29=some ⟨.other,1,8,[.nilFunc]⟩:=rfl
theorem fit30:FitsAt Tryz.prog 30 ti30:=fitsAt (z:=(.slice none 0 0)) (by kernel_rfl) Tryz.underlying30 rfl rfl (by intro h; cases h) (fun h=>by cases h)
theorem tt30:tt 30=some ⟨.slice 69,1,24,[(.slice none 0 0)]⟩:=rfl
theorem fit32:FitsAt Tryz.prog 32 ti32:=fitsAt (z:=.nilFunc) (by kernel_rfl) Tryz.underlying32 rfl rfl (by intro h; cases h) (fun h=>by cases h)
theorem tt32:tt 32=some ⟨.other,1,8,[.nilFunc]⟩:=rfl
theorem fit34:FitsAt Tryz.prog 34 ti34:=fitsAt (z:=.nilFunc) (by kernel_rfl) Tryz.underlying34 rfl rfl (by intro h; cases h) (fun h=>by cases h)
theorem tt34:tt 34=some ⟨.other,1,8,[.nilFunc]⟩:=rfl
theorem fit36:FitsAt Tryz.prog 36 ti36:=fitsAt (z:=.nilFunc) (by kernel_rfl) Tryz.underlying36 rfl rfl (by intro h; cases h) (fun h=>by cases h)
theorem tt36:tt 36=some ⟨.other,1,8,[.nilFunc]⟩:=rfl
theorem fit37:FitsAt Tryz.prog 37 ti37:=fitsAt (z:=.nilFunc) (by kernel_rfl) Tryz.underlying37 rfl rfl (by intro h; cases h) (fun h=>by cases h)
theorem tt37:tt 37=some ⟨.other,1,8,[.nilFunc]⟩:=rfl
theorem fit38:FitsAt Tryz.prog 38 ti38:=fitsAt (z:=.nilFunc) (by kernel_rfl) Tryz.underlying38 rfl rfl (by intro h; cases h) (fun h=>by cases h)
theorem tt38:tt 38=some ⟨.other,1,8,[.nilFunc]⟩:=rfl
theorem fit39:FitsAt Tryz.prog 39 ti39:=fitsAt (z:=.nilFunc) (by kernel_rfl) Tryz.underlying39 rfl rfl (by intro h; cases h) (fun h=>by cases h)
theorem tt39:tt 39=some ⟨.other,1,8,[.nilFunc]⟩:=rfl
theorem fit41:FitsAt Tryz.prog 41 ti41:=fitsAt (z:=.nilFunc) (by kernel_rfl) Tryz.underlying41 rfl rfl (by intro h; cases h) (fun h=>by cases h)
theorem tt41:tt 41=some ⟨.other,1,8,[.nilFunc]⟩:=rfl
theorem fit42:FitsAt Tryz.prog 42 ti42:=fitsAt (z:=(.slice none 0 0)) (by kernel_rfl) Tryz.underlying42 rfl rfl (by intro h; cases h) (fun h=>by cases h)
theorem tt42:tt 42=some ⟨.slice 48,1,24,[(.slice none 0 0)]⟩:=rfl
theorem fit43:FitsAt Tryz.prog 43 ti43:=fitsAt (z:=(.slice none 0 0)) (by kernel_rfl) Tryz.underlying43 rfl rfl (by intro h; cases h) (fun h=>by cases h)
theorem tt43:tt 43=some ⟨.slice 53,1,24,[(.slice none 0 0)]⟩:=rfl
theorem fit44:FitsAt Tryz.prog 44 ti44:=fitsAt (z:=.agg #[(.slice none 0 0),(.slice none 0 0),(.bool false)]) (by kernel_rfl) Tryz.underlying44 rfl rfl (by intro h; cases h) (fun h=>by cases h)
theorem tt44:tt 44=some ⟨.strct false [(0,42),(1,43),(2,4)],3,56,[(.slice none 0 0),(.slice none 0 0),(.bool false)]⟩:=rfl
theorem fit45:FitsAt Tryz.prog 45 ti45:=fitsAt (z:=.agg #[(.slice none 0 0),(.slice none 0 0),(.bool false)]) (by kernel_rfl) Tryz.underlying45 rfl rfl (by intro h; cases h) (fun h=>by cases h)
theorem tt45:tt 45=some ⟨.strct false [(0,42),(1,43),(2,4)],3,56,[(.slice none 0 0),(.slice none 0 0),(.bool false)]⟩:=rfl
theorem fit47:FitsAt Tryz.prog 47 ti47:=fitsAt (z:=.nilFunc) (by kernel_rfl) Tryz.underlying47 rfl rfl (by intro h; cases h) (fun h=>by cases h)
theorem tt47:tt 47=some ⟨.other,1,8,[.nilFunc]⟩:=rfl
theorem fit48:FitsAt Tryz.prog 48 ti48:=fitsAt (z:=(.slice none 0 0)) (by kernel_rfl) Tryz.underlying48 rfl rfl (by intro h; cases h) (fun h=>by cases h)
theorem tt48:tt 48=some ⟨.slice 3,1,24,[(.slice none 0 0)]⟩:=rfl
theorem fit49:FitsAt Tryz.prog 49 ti49:=fitsAt (z:=.nilFunc) (by kernel_rfl) Tryz.underlying49 rfl rfl (by intro h; cases h) (fun h=>by cases h)
theorem tt49:tt 49=some ⟨.other,1,8,[.nilFunc]⟩:=rfl
theorem fit50:FitsAt Tryz.prog 50 ti50:=fitsAt (z:=(.slice none 0 0)) (by kernel_rfl) Tryz.underlying50 rfl rfl (by intro h; cases h) (fun h=>by cases h)
theorem tt50:tt 50=some ⟨.slice 4,1,24,[(.slice none 0 0)]⟩:=rfl
theorem fit51:FitsAt Tryz.prog 51 ti51:=fitsAt (z:=.nilFunc) (by kernel_rfl) Tryz.underlying51 rfl rfl (by intro h; cases h) (fun h=>by cases h)
theorem tt51:tt 51=some ⟨.other,1,8,[.nilFunc]⟩:=rfl
theorem fit52:FitsAt Tryz.prog 52 ti52:=fitsAt (z:=.agg #[(.int .i64 0),(.int .i64 0),(.int .i64 0)]) (by kernel_rfl) Tryz.underlying52 rfl rfl (by exact fun _=>⟨by kernel_rfl,by kernel_rfl,by kernel_rfl⟩) (fun h=>by cases h)
theorem tt52:tt 52=some ⟨.strct true [(0,3),(1,3),(2,3)],3,24,[(.int .i64 0),(.int .i64 0),(.int .i64 0)]⟩:=rfl
theorem fit53:FitsAt Tryz.prog 53 ti53:=fitsAt (z:=.agg #[(.int .i64 0),(.int .i64 0),(.int .i64 0)]) (by kernel_rfl) Tryz.underlying53 rfl rfl (by exact fun _=>⟨by kernel_rfl,by kernel_rfl,by kernel_rfl⟩) (fun h=>by cases h)
theorem tt53:tt 53=some ⟨.strct true [(0,3),(1,3),(2,3)],3,24,[(.int .i64 0),(.int .i64 0),(.int .i64 0)]⟩:=rfl
theorem fit54:FitsAt Tryz.prog 54 ti54:=fitsAt (z:=.nilFunc) (by kernel_rfl) Tryz.underlying54 rfl rfl (by intro h; cases h) (fun h=>by cases h)
theorem tt54:tt 54=some ⟨.other,1,8,[.nilFunc]⟩:=rfl
theorem fit55:FitsAt Tryz.prog 55 ti55:=fitsAt (z:=.nilFunc) (by kernel_rfl) Tryz.underlying55 rfl rfl (by intro h; cases h) (fun h=>by cases h)
theorem tt55:tt 55=some ⟨.other,1,8,[.nilFunc]⟩:=rfl
theorem fit57:FitsAt Tryz.prog 57 ti57:=fitsAt (z:=.nilFunc) (by kernel_rfl) Tryz.underlying57 rfl rfl (by intro h; cases h) (fun h=>by cases h)
theorem tt57:tt 57=some ⟨.other,1,8,[.nilFunc]⟩:=rfl
theorem fit59:FitsAt Tryz.prog 59 ti59:=fitsAt (z:=.nilFunc) (by kernel_rfl) Tryz.underlying59 rfl rfl (by intro h; cases h) (fun h=>by cases h)
theorem tt59:tt 59=some ⟨.other,1,8,[.nilFunc]⟩:=rfl
theorem fit60:FitsAt Tryz.prog 60 ti60:=fitsAt (z:=.nilFunc) (by kernel_rfl) Tryz.underlying60 rfl rfl (by intro h; cases h) (fun h=>by cases h)
theorem tt60:tt 60=some ⟨.other,1,8,[.nilFunc]⟩:=rfl
theorem fit61:FitsAt Tryz.prog 61 ti61:=fitsAt (z:=.nilFunc) (by kernel_rfl) Tryz.underlying61 rfl rfl (by intro h; cases h) (fun h=>by cases h)
theorem tt61:tt 61=some ⟨.other,1,8,[.nilFunc]⟩:=rfl
theorem fit62:FitsAt Tryz.prog 62 ti62:=fitsAt (z:=.nilFunc) (by kernel_rfl) Tryz.underlying62 rfl rfl (by intro h; cases h) (fun h=>by cases h)
theorem tt62:tt 62=some ⟨.other,1,8,[.nilFunc]⟩:=rfl
theorem fit63:FitsAt Tryz.prog 63 ti63:=fitsAt (z:=.agg #[(.string ⟨#[]⟩),(.slice none 0 0),(.slice none 0 0)]) (by kernel_rfl) Tryz.underlying63 rfl rfl (by intro h; cases h) (fun h=>by cases h)
theorem tt63:tt 63=some ⟨.strct false [(0,9),(1,48),(2,48)],3,64,[(.string ⟨#[]⟩),(.slice none 0 0),(.slice none 0 0)]⟩:=rfl
theorem fit64:FitsAt Tryz.prog 64 ti64:=fitsAt (z:=.agg #[(.string ⟨#[]⟩),(.slice none 0 0),(.slice none 0 0)]) (by kernel_rfl) Tryz.underlying64 rfl rfl (by intro h; cases h) (fun h=>by cases h)
theorem tt64:tt 64=some ⟨.strct false [(0,9),(1,48),(2,48)],3,64,[(.string ⟨#[]⟩),(.slice none 0 0),(.slice none 0 0)]⟩:=rfl
theorem fit65:FitsAt Tryz.prog 65 ti65:=fitsAt (z:=.nilFunc) (by kernel_rfl) Tryz.underlying65 rfl rfl (by intro h; cases h) (fun h=>by cases h)
theorem tt65:tt 65=some ⟨.other,1,8,[.nilFunc]⟩:=rfl
theorem fit67:FitsAt Tryz.prog 67 ti67:=fitsAt (z:=.nilFunc) (by kernel_rfl) Tryz.underlying67 rfl rfl (by intro h; cases h) (fun h=>by cases h)
theorem tt67:tt 67=some ⟨.other,1,8,[.nilFunc]⟩:=rfl
theorem fit68:FitsAt Tryz.prog 68 ti68:=fitsAt (z:=.nilFunc) (by kernel_rfl) Tryz.underlying68 rfl rfl (by intro h; cases h) (fun h=>by cases h)
theorem tt68:tt 68=some ⟨.other,1,8,[.nilFunc]⟩:=rfl
theorem fit69:FitsAt Tryz.prog 69 ti69:=fitsAt (z:=.agg #[(.slice none 0 0),(.slice none 0 0)]) (by kernel_rfl) Tryz.underlying69 rfl rfl (by intro h; cases h) (fun h=>by cases h)
theorem tt69:tt 69=some ⟨.arr false 2 48,2,48,[(.slice none 0 0),(.slice none 0 0)]⟩:=rfl
theorem fit70:FitsAt Tryz.prog 70 ti70:=fitsAt (z:=.nilFunc) (by kernel_rfl) Tryz.underlying70 rfl rfl (by intro h; cases h) (fun h=>by cases h)
theorem tt70:tt 70=some ⟨.other,1,8,[.nilFunc]⟩:=rfl
theorem fit71:FitsAt Tryz.prog 71 ti71:=fitsAt (z:=.nilFunc) (by kernel_rfl) Tryz.underlying71 rfl rfl (by intro h; cases h) (fun h=>by cases h)
theorem tt71:tt 71=some ⟨.other,1,8,[.nilFunc]⟩:=rfl
theorem fit72:FitsAt Tryz.prog 72 ti72:=fitsAt (z:=.nilFunc) (by kernel_rfl) Tryz.underlying72 rfl rfl (by intro h; cases h) (fun h=>by cases h)
theorem tt72:tt 72=some ⟨.other,1,8,[.nilFunc]⟩:=rfl
theorem fit73:FitsAt Tryz.prog 73 ti73:=fitsAt (z:=.nilFunc) (by kernel_rfl) Tryz.underlying73 rfl rfl (by intro h; cases h) (fun h=>by cases h)
theorem tt73:tt 73=some ⟨.other,1,8,[.nilFunc]⟩:=rfl
theorem fit74:FitsAt Tryz.prog 74 ti74:=fitsAt (z:=.nilFunc) (by kernel_rfl) Tryz.underlying74 rfl rfl (by intro h; cases h) (fun h=>by cases h)
theorem tt74:tt 74=some ⟨.other,1,8,[.nilFunc]⟩:=rfl
theorem fit75:FitsAt Tryz.prog 75 ti75:=fitsAt (z:=.nilFunc) (by kernel_rfl) Tryz.underlying75 rfl rfl (by intro h; cases h) (fun h=>by cases h)
theorem tt75:tt 75=some ⟨.other,1,8,[.nilFunc]⟩:=rfl
theorem fit76:FitsAt Tryz.prog 76 ti76:=fitsAt (z:=.nilFunc) (by kernel_rfl) Tryz.underlying76 rfl rfl (by intro h; cases h) (fun h=>by cases h)
theorem tt76:tt 76=some ⟨.other,1,8,[.nilFunc]⟩:=rfl
theorem fit78:FitsAt Tryz.prog 78 ti78:=fitsAt (z:=.nilFunc) (by kernel_rfl) Tryz.underlying78 rfl rfl (by intro h; cases h) (fun h=>by cases h)
theorem tt78:tt 78=some ⟨.other,1,8,[.nilFunc]⟩:=rfl
theorem fit80:FitsAt Tryz.prog 80 ti80:=fitsAt (z:=.nilFunc) (by kernel_rfl) Tryz.underlying80 rfl rfl (by intro h; cases h) (fun h=>by cases h)
theorem tt80:tt 80=some ⟨.other,1,8,[.nilFunc]⟩:=rfl
theorem fit81:FitsAt Tryz.prog 81 ti81:=fitsAt (z:=.nilFunc) (by kernel_rfl) Tryz.underlying81 rfl rfl (by intro h; cases h) (fun h=>by cases h)
theorem tt81:tt 81=some ⟨.other,1,8,[.nilFunc]⟩:=rfl
theorem fit82:FitsAt Tryz.prog 82 ti82:=fitsAt (z:=(.slice none 0 0)) (by kernel_rfl) Tryz.underlying82 rfl rfl (by intro h; cases h) (fun h=>by cases h)
theorem tt82:tt 82=some ⟨.slice 25,1,24,[(.slice none 0 0)]⟩:=rfl
theorem fit83:FitsAt Tryz.prog 83 ti83:=fitsAt (z:=.nilFunc) (by kernel_rfl) Tryz.underlying83 rfl rfl (by intro h; cases h) (fun h=>by cases h)
theorem tt83:tt 83=some ⟨.other,1,8,[.nilFunc]⟩:=rfl
theorem fit84:FitsAt Tryz.prog 84 ti84:=fitsAt (z:=.nilFunc) (by kernel_rfl) Tryz.underlying84 rfl rfl (by intro h; cases h) (fun h=>by cases h)
theorem tt84:tt 84=some ⟨.other,1,8,[.nilFunc]⟩:=rfl
theorem fit85:FitsAt Tryz.prog 85 ti85:=fitsAt (z:=.nilFunc) (by kernel_rfl) Tryz.underlying85 rfl rfl (by intro h; cases h) (fun h=>by cases h)
theorem tt85:tt 85=some ⟨.other,1,8,[.nilFunc]⟩:=rfl
theorem fit86:FitsAt Tryz.prog 86 ti86:=fitsAt (z:=.nilFunc) (by kernel_rfl) Tryz.underlying86 rfl rfl (by intro h; cases h) (fun h=>by cases h)
theorem tt86:tt 86=some ⟨.other,1,8,[.nilFunc]⟩:=rfl
theorem fit88:FitsAt Tryz.prog 88 ti88:=fitsAt (z:=.nilFunc) (by kernel_rfl) Tryz.underlying88 rfl rfl (by intro h; cases h) (fun h=>by cases h)
theorem tt88:tt 88=some ⟨.other,1,8,[.nilFunc]⟩:=rfl
theorem fit89:FitsAt Tryz.prog 89 ti89:=fitsAt (z:=.nilFunc) (by kernel_rfl) Tryz.underlying89 rfl rfl (by intro h; cases h) (fun h=>by cases h)
theorem tt89:tt 89=some ⟨.other,1,8,[.nilFunc]⟩:=rfl
theorem fit91:FitsAt Tryz.prog 91 ti91:=fitsAt (z:=.nilFunc) (by kernel_rfl) Tryz.underlying91 rfl rfl (by intro h; cases h) (fun h=>by cases h)
theorem tt91:tt 91=some ⟨.other,1,8,[.nilFunc]⟩:=rfl
theorem fit92:FitsAt Tryz.prog 92 ti92:=fitsAt (z:=.nilFunc) (by kernel_rfl) Tryz.underlying92 rfl rfl (by intro h; cases h) (fun h=>by cases h)
theorem tt92:tt 92=some ⟨.other,1,8,[.nilFunc]⟩:=rfl
theorem fit93:FitsAt Tryz.prog 93 ti93:=fitsAt (z:=.nilFunc) (by kernel_rfl) Tryz.underlying93 rfl rfl (by intro h; cases h) (fun h=>by cases h)
theorem tt93:tt 93=some ⟨.other,1,8,[.nilFunc]⟩:=rfl
theorem fit94:FitsAt Tryz.prog 94 ti94:=fitsAt (z:=.nilFunc) (by kernel_rfl) Tryz.underlying94 rfl rfl (by intro h; cases h) (fun h=>by cases h)
theorem tt94:tt 94=some ⟨.other,1,8,[.nilFunc]⟩:=rfl
theorem fit95:FitsAt Tryz.prog 95 ti95:=fitsAt (z:=.nilFunc) (by kernel_rfl) Tryz.underlying95 rfl rfl (by intro h; cases h) (fun h=>by cases h)
theorem tt95:tt 95=some ⟨.other,1,8,[.nilFunc]⟩:=rfl
theorem fit96:FitsAt Tryz.prog 96 ti96:=fitsAt (z:=.nilFunc) (by kernel_rfl) Tryz.underlying96 rfl rfl (by intro h; cases h) (fun h=>by cases h)
theorem tt96:tt 96=some ⟨.other,1,8,[.nilFunc]⟩:=rfl
theorem fit97:FitsAt Tryz.prog 97 ti97:=fitsAt (z:=.nilFunc) (by kernel_rfl) Tryz.underlying97 rfl rfl (by intro h; cases h) (fun h=>by cases h)
theorem tt97:tt 97=some ⟨.other,1,8,[.nilFunc]⟩:=rfl
theorem fit98:FitsAt Tryz.prog 98 ti98:=fitsAt (z:=(.pointer none)) (by kernel_rfl) Tryz.underlying98 rfl rfl (by intro h; cases h) (fun h=>by cases h)
theorem tt98:tt 98=some ⟨.other,1,8,[(.pointer none)]⟩:=rfl
theorem fit99:FitsAt Tryz.prog 99 ti99:=fitsAt (z:=.nilFunc) (by kernel_rfl) Tryz.underlying99 rfl rfl (by intro h; cases h) (fun h=>by cases h)
theorem tt99:tt 99=some ⟨.other,1,8,[.nilFunc]⟩:=rfl
theorem fit100:FitsAt Tryz.prog 100 ti100:=fitsAt (z:=.nilFunc) (by kernel_rfl) Tryz.underlying100 rfl rfl (by intro h; cases h) (fun h=>by cases h)
theorem tt100:tt 100=some ⟨.other,1,8,[.nilFunc]⟩:=rfl
theorem fit101:FitsAt Tryz.prog 101 ti101:=fitsAt (z:=(.map none)) (by kernel_rfl) Tryz.underlying101 rfl rfl (by intro h; cases h) (fun h=>by cases h)
theorem tt101:tt 101=some ⟨.map 3 3,1,8,[(.map none)]⟩:=rfl
theorem fit102:FitsAt Tryz.prog 102 ti102:=fitsAt (z:=.agg #[(.int .i64 0),(.slice none 0 0)]) (by kernel_rfl) Tryz.underlying102 rfl rfl (by intro h; cases h) (fun h=>by cases h)
theorem tt102:tt 102=some ⟨.strct false [(0,3),(1,48)],2,32,[(.int .i64 0),(.slice none 0 0)]⟩:=rfl
theorem fit103:FitsAt Tryz.prog 103 ti103:=fitsAt (z:=.agg #[(.int .i64 0),(.slice none 0 0)]) (by kernel_rfl) Tryz.underlying103 rfl rfl (by intro h; cases h) (fun h=>by cases h)
theorem tt103:tt 103=some ⟨.strct false [(0,3),(1,48)],2,32,[(.int .i64 0),(.slice none 0 0)]⟩:=rfl
theorem fit104:FitsAt Tryz.prog 104 ti104:=fitsAt (z:=.nilFunc) (by kernel_rfl) Tryz.underlying104 rfl rfl (by intro h; cases h) (fun h=>by cases h)
theorem tt104:tt 104=some ⟨.other,1,8,[.nilFunc]⟩:=rfl
theorem fit107:FitsAt Tryz.prog 107 ti107:=fitsAt (z:=.nilFunc) (by kernel_rfl) Tryz.underlying107 rfl rfl (by intro h; cases h) (fun h=>by cases h)
theorem tt107:tt 107=some ⟨.other,1,8,[.nilFunc]⟩:=rfl
theorem fit108:FitsAt Tryz.prog 108 ti108:=fitsAt (z:=.nilFunc) (by kernel_rfl) Tryz.underlying108 rfl rfl (by intro h; cases h) (fun h=>by cases h)
theorem tt108:tt 108=some ⟨.other,1,8,[.nilFunc]⟩:=rfl
theorem fit109:FitsAt Tryz.prog 109 ti109:=fitsAt (z:=.nilFunc) (by kernel_rfl) Tryz.underlying109 rfl rfl (by intro h; cases h) (fun h=>by cases h)
theorem tt109:tt 109=some ⟨.other,1,8,[.nilFunc]⟩:=rfl
theorem fit110:FitsAt Tryz.prog 110 ti110:=fitsAt (z:=.nilFunc) (by kernel_rfl) Tryz.underlying110 rfl rfl (by intro h; cases h) (fun h=>by cases h)
theorem tt110:tt 110=some ⟨.other,1,8,[.nilFunc]⟩:=rfl
theorem fit111:FitsAt Tryz.prog 111 ti111:=fitsAt (z:=.nilFunc) (by kernel_rfl) Tryz.underlying111 rfl rfl (by intro h; cases h) (fun h=>by cases h)
theorem tt111:tt 111=some ⟨.other,1,8,[.nilFunc]⟩:=rfl
theorem fit112:FitsAt Tryz.prog 112 ti112:=fitsAt (z:=.nilFunc) (by kernel_rfl) Tryz.underlying112 rfl rfl (by intro h; cases h) (fun h=>by cases h)
theorem tt112:tt 112=some ⟨.other,1,8,[.nilFunc]⟩:=rfl
theorem fit113:FitsAt Tryz.prog 113 ti113:=fitsAt (z:=.agg #[(.slice none 0 0),(.slice none 0 0),(.int .i64 0),(.int .i64 0)]) (by kernel_rfl) Tryz.underlying113 rfl rfl (by intro h; cases h) (fun h=>by cases h)
theorem tt113:tt 113=some ⟨.strct false [(0,42),(1,48),(2,3),(3,3)],4,64,[(.slice none 0 0),(.slice none 0 0),(.int .i64 0),(.int .i64 0)]⟩:=rfl
theorem fit114:FitsAt Tryz.prog 114 ti114:=fitsAt (z:=.agg #[(.slice none 0 0),(.slice none 0 0),(.int .i64 0),(.int .i64 0)]) (by kernel_rfl) Tryz.underlying114 rfl rfl (by intro h; cases h) (fun h=>by cases h)
theorem tt114:tt 114=some ⟨.strct false [(0,42),(1,48),(2,3),(3,3)],4,64,[(.slice none 0 0),(.slice none 0 0),(.int .i64 0),(.int .i64 0)]⟩:=rfl
theorem fit115:FitsAt Tryz.prog 115 ti115:=fitsAt (z:=.nilFunc) (by kernel_rfl) Tryz.underlying115 rfl rfl (by intro h; cases h) (fun h=>by cases h)
theorem tt115:tt 115=some ⟨.other,1,8,[.nilFunc]⟩:=rfl
theorem fit116:FitsAt Tryz.prog 116 ti116:=fitsAt (z:=.nilFunc) (by kernel_rfl) Tryz.underlying116 rfl rfl (by intro h; cases h) (fun h=>by cases h)
theorem tt116:tt 116=some ⟨.other,1,8,[.nilFunc]⟩:=rfl
theorem fit118:FitsAt Tryz.prog 118 ti118:=fitsAt (z:=.nilFunc) (by kernel_rfl) Tryz.underlying118 rfl rfl (by intro h; cases h) (fun h=>by cases h)
theorem tt118:tt 118=some ⟨.other,1,8,[.nilFunc]⟩:=rfl
theorem fit119:FitsAt Tryz.prog 119 ti119:=fitsAt (z:=(.slice none 0 0)) (by kernel_rfl) Tryz.underlying119 rfl rfl (by intro h; cases h) (fun h=>by cases h)
theorem tt119:tt 119=some ⟨.slice 121,1,24,[(.slice none 0 0)]⟩:=rfl
theorem fit120:FitsAt Tryz.prog 120 ti120:=fitsAt (z:=.nilFunc) (by kernel_rfl) Tryz.underlying120 rfl rfl (by intro h; cases h) (fun h=>by cases h)
theorem tt120:tt 120=some ⟨.other,1,8,[.nilFunc]⟩:=rfl
theorem fit121:FitsAt Tryz.prog 121 ti121:=fitsAt (z:=(.int .u32 0)) (by kernel_rfl) Tryz.underlying121 rfl rfl (by intro h; cases h) (fun _=>rfl)
theorem tt121:tt 121=some ⟨.int .u32,1,4,[(.int .u32 0)]⟩:=rfl
theorem fit122:FitsAt Tryz.prog 122 ti122:=fitsAt (z:=.nilFunc) (by kernel_rfl) Tryz.underlying122 rfl rfl (by intro h; cases h) (fun h=>by cases h)
theorem tt122:tt 122=some ⟨.other,1,8,[.nilFunc]⟩:=rfl
theorem fit123:FitsAt Tryz.prog 123 ti123:=fitsAt (z:=.nilFunc) (by kernel_rfl) Tryz.underlying123 rfl rfl (by intro h; cases h) (fun h=>by cases h)
theorem tt123:tt 123=some ⟨.other,1,8,[.nilFunc]⟩:=rfl
theorem fit124:FitsAt Tryz.prog 124 ti124:=fitsAt (z:=.nilFunc) (by kernel_rfl) Tryz.underlying124 rfl rfl (by intro h; cases h) (fun h=>by cases h)
theorem tt124:tt 124=some ⟨.other,1,8,[.nilFunc]⟩:=rfl
theorem fit125:FitsAt Tryz.prog 125 ti125:=fitsAt (z:=.nilFunc) (by kernel_rfl) Tryz.underlying125 rfl rfl (by intro h; cases h) (fun h=>by cases h)
theorem tt125:tt 125=some ⟨.other,1,8,[.nilFunc]⟩:=rfl
theorem fit126:FitsAt Tryz.prog 126 ti126:=fitsAt (z:=.nilFunc) (by kernel_rfl) Tryz.underlying126 rfl rfl (by intro h; cases h) (fun h=>by cases h)
theorem tt126:tt 126=some ⟨.other,1,8,[.nilFunc]⟩:=rfl
theorem fit128:FitsAt Tryz.prog 128 ti128:=fitsAt (z:=.nilFunc) (by kernel_rfl) Tryz.underlying128 rfl rfl (by intro h; cases h) (fun h=>by cases h)
theorem tt128:tt 128=some ⟨.other,1,8,[.nilFunc]⟩:=rfl
theorem fit129:FitsAt Tryz.prog 129 ti129:=fitsAt (z:=.nilFunc) (by kernel_rfl) Tryz.underlying129 rfl rfl (by intro h; cases h) (fun h=>by cases h)
theorem tt129:tt 129=some ⟨.other,1,8,[.nilFunc]⟩:=rfl
theorem fit130:FitsAt Tryz.prog 130 ti130:=fitsAt (z:=.nilFunc) (by kernel_rfl) Tryz.underlying130 rfl rfl (by intro h; cases h) (fun h=>by cases h)
theorem tt130:tt 130=some ⟨.other,1,8,[.nilFunc]⟩:=rfl
theorem fit131:FitsAt Tryz.prog 131 ti131:=fitsAt (z:=.nilFunc) (by kernel_rfl) Tryz.underlying131 rfl rfl (by intro h; cases h) (fun h=>by cases h)
theorem tt131:tt 131=some ⟨.other,1,8,[.nilFunc]⟩:=rfl
theorem fit132:FitsAt Tryz.prog 132 ti132:=fitsAt (z:=.nilFunc) (by kernel_rfl) Tryz.underlying132 rfl rfl (by intro h; cases h) (fun h=>by cases h)
theorem tt132:tt 132=some ⟨.other,1,8,[.nilFunc]⟩:=rfl
theorem fit133:FitsAt Tryz.prog 133 ti133:=fitsAt (z:=(.pointer none)) (by kernel_rfl) Tryz.underlying133 rfl rfl (by intro h; cases h) (fun h=>by cases h)
theorem tt133:tt 133=some ⟨.other,1,8,[(.pointer none)]⟩:=rfl
theorem fit134:FitsAt Tryz.prog 134 ti134:=fitsAt (z:=.agg #[(.slice none 0 0),(.slice none 0 0)]) (by kernel_rfl) Tryz.underlying134 rfl rfl (by intro h; cases h) (fun h=>by cases h)
theorem tt134:tt 134=some ⟨.strct false [(0,42),(1,42)],2,48,[(.slice none 0 0),(.slice none 0 0)]⟩:=rfl
theorem fit135:FitsAt Tryz.prog 135 ti135:=fitsAt (z:=.agg #[(.slice none 0 0),(.slice none 0 0)]) (by kernel_rfl) Tryz.underlying135 rfl rfl (by intro h; cases h) (fun h=>by cases h)
theorem tt135:tt 135=some ⟨.strct false [(0,42),(1,42)],2,48,[(.slice none 0 0),(.slice none 0 0)]⟩:=rfl
theorem fit136:FitsAt Tryz.prog 136 ti136:=fitsAt (z:=(.slice none 0 0)) (by kernel_rfl) Tryz.underlying136 rfl rfl (by intro h; cases h) (fun h=>by cases h)
theorem tt136:tt 136=some ⟨.slice 139,1,24,[(.slice none 0 0)]⟩:=rfl
theorem fit137:FitsAt Tryz.prog 137 ti137:=fitsAt (z:=.nilFunc) (by kernel_rfl) Tryz.underlying137 rfl rfl (by intro h; cases h) (fun h=>by cases h)
theorem tt137:tt 137=some ⟨.other,1,8,[.nilFunc]⟩:=rfl
theorem fit138:FitsAt Tryz.prog 138 ti138:=fitsAt (z:=.agg #[(.slice none 0 0),(.slice none 0 0)]) (by kernel_rfl) Tryz.underlying138 rfl rfl (by intro h; cases h) (fun h=>by cases h)
theorem tt138:tt 138=some ⟨.strct false [(0,48),(1,48)],2,48,[(.slice none 0 0),(.slice none 0 0)]⟩:=rfl
theorem fit139:FitsAt Tryz.prog 139 ti139:=fitsAt (z:=.agg #[(.slice none 0 0),(.slice none 0 0)]) (by kernel_rfl) Tryz.underlying139 rfl rfl (by intro h; cases h) (fun h=>by cases h)
theorem tt139:tt 139=some ⟨.strct false [(0,48),(1,48)],2,48,[(.slice none 0 0),(.slice none 0 0)]⟩:=rfl
theorem fit141:FitsAt Tryz.prog 141 ti141:=fitsAt (z:=.nilFunc) (by kernel_rfl) Tryz.underlying141 rfl rfl (by intro h; cases h) (fun h=>by cases h)
theorem tt141:tt 141=some ⟨.other,1,8,[.nilFunc]⟩:=rfl
theorem fit142:FitsAt Tryz.prog 142 ti142:=fitsAt (z:=.nilFunc) (by kernel_rfl) Tryz.underlying142 rfl rfl (by intro h; cases h) (fun h=>by cases h)
theorem tt142:tt 142=some ⟨.other,1,8,[.nilFunc]⟩:=rfl
theorem fit143:FitsAt Tryz.prog 143 ti143:=fitsAt (z:=.agg #[(.slice none 0 0),(.slice none 0 0),(.int .i64 0),(.int .i64 0)]) (by kernel_rfl) Tryz.underlying143 rfl rfl (by intro h; cases h) (fun h=>by cases h)
theorem tt143:tt 143=some ⟨.strct false [(0,42),(1,48),(2,3),(3,3)],4,64,[(.slice none 0 0),(.slice none 0 0),(.int .i64 0),(.int .i64 0)]⟩:=rfl
theorem fit144:FitsAt Tryz.prog 144 ti144:=fitsAt (z:=.agg #[(.slice none 0 0),(.slice none 0 0),(.int .i64 0),(.int .i64 0)]) (by kernel_rfl) Tryz.underlying144 rfl rfl (by intro h; cases h) (fun h=>by cases h)
theorem tt144:tt 144=some ⟨.strct false [(0,42),(1,48),(2,3),(3,3)],4,64,[(.slice none 0 0),(.slice none 0 0),(.int .i64 0),(.int .i64 0)]⟩:=rfl
theorem fit145:FitsAt Tryz.prog 145 ti145:=fitsAt (z:=.nilFunc) (by kernel_rfl) Tryz.underlying145 rfl rfl (by intro h; cases h) (fun h=>by cases h)
theorem tt145:tt 145=some ⟨.other,1,8,[.nilFunc]⟩:=rfl
theorem fit146:FitsAt Tryz.prog 146 ti146:=fitsAt (z:=.nilFunc) (by kernel_rfl) Tryz.underlying146 rfl rfl (by intro h; cases h) (fun h=>by cases h)
theorem tt146:tt 146=some ⟨.other,1,8,[.nilFunc]⟩:=rfl
theorem fit147:FitsAt Tryz.prog 147 ti147:=fitsAt (z:=.nilFunc) (by kernel_rfl) Tryz.underlying147 rfl rfl (by intro h; cases h) (fun h=>by cases h)
theorem tt147:tt 147=some ⟨.other,1,8,[.nilFunc]⟩:=rfl
theorem fit148:FitsAt Tryz.prog 148 ti148:=fitsAt (z:=.nilFunc) (by kernel_rfl) Tryz.underlying148 rfl rfl (by intro h; cases h) (fun h=>by cases h)
theorem tt148:tt 148=some ⟨.other,1,8,[.nilFunc]⟩:=rfl
theorem fit149:FitsAt Tryz.prog 149 ti149:=fitsAt (z:=(.int .u64 0)) (by kernel_rfl) Tryz.underlying149 rfl rfl (by intro h; cases h) (fun _=>rfl)
theorem tt149:tt 149=some ⟨.int .u64,1,8,[(.int .u64 0)]⟩:=rfl
theorem fit150:FitsAt Tryz.prog 150 ti150:=fitsAt (z:=.nilFunc) (by kernel_rfl) Tryz.underlying150 rfl rfl (by intro h; cases h) (fun h=>by cases h)
theorem tt150:tt 150=some ⟨.other,1,8,[.nilFunc]⟩:=rfl
theorem fit151:FitsAt Tryz.prog 151 ti151:=fitsAt (z:=.nilFunc) (by kernel_rfl) Tryz.underlying151 rfl rfl (by intro h; cases h) (fun h=>by cases h)
theorem tt151:tt 151=some ⟨.other,1,8,[.nilFunc]⟩:=rfl
theorem fit153:FitsAt Tryz.prog 153 ti153:=fitsAt (z:=.nilFunc) (by kernel_rfl) Tryz.underlying153 rfl rfl (by intro h; cases h) (fun h=>by cases h)
theorem tt153:tt 153=some ⟨.other,1,8,[.nilFunc]⟩:=rfl
theorem fit154:FitsAt Tryz.prog 154 ti154:=fitsAt (z:=.nilFunc) (by kernel_rfl) Tryz.underlying154 rfl rfl (by intro h; cases h) (fun h=>by cases h)
theorem tt154:tt 154=some ⟨.other,1,8,[.nilFunc]⟩:=rfl
theorem fit155:FitsAt Tryz.prog 155 ti155:=fitsAt (z:=.nilFunc) (by kernel_rfl) Tryz.underlying155 rfl rfl (by intro h; cases h) (fun h=>by cases h)
theorem tt155:tt 155=some ⟨.other,1,8,[.nilFunc]⟩:=rfl
theorem fit156:FitsAt Tryz.prog 156 ti156:=fitsAt (z:=.nilFunc) (by kernel_rfl) Tryz.underlying156 rfl rfl (by intro h; cases h) (fun h=>by cases h)
theorem tt156:tt 156=some ⟨.other,1,8,[.nilFunc]⟩:=rfl
theorem fit157:FitsAt Tryz.prog 157 ti157:=fitsAt (z:=(.pointer none)) (by kernel_rfl) Tryz.underlying157 rfl rfl (by intro h; cases h) (fun h=>by cases h)
theorem tt157:tt 157=some ⟨.other,1,8,[(.pointer none)]⟩:=rfl
theorem fit158:FitsAt Tryz.prog 158 ti158:=fitsAt (z:=.nilFunc) (by kernel_rfl) Tryz.underlying158 rfl rfl (by intro h; cases h) (fun h=>by cases h)
theorem tt158:tt 158=some ⟨.other,1,8,[.nilFunc]⟩:=rfl
theorem fit159:FitsAt Tryz.prog 159 ti159:=fitsAt (z:=.nilFunc) (by kernel_rfl) Tryz.underlying159 rfl rfl (by intro h; cases h) (fun h=>by cases h)
theorem tt159:tt 159=some ⟨.other,1,8,[.nilFunc]⟩:=rfl
theorem fit160:FitsAt Tryz.prog 160 ti160:=fitsAt (z:=.nilFunc) (by kernel_rfl) Tryz.underlying160 rfl rfl (by intro h; cases h) (fun h=>by cases h)
theorem tt160:tt 160=some ⟨.other,1,8,[.nilFunc]⟩:=rfl
theorem fit161:FitsAt Tryz.prog 161 ti161:=fitsAt (z:=(.int .i64 0)) (by kernel_rfl) Tryz.underlying161 rfl rfl (by intro h; cases h) (fun _=>rfl)
theorem tt161:tt 161=some ⟨.int .i64,1,8,[(.int .i64 0)]⟩:=rfl
theorem fit163:FitsAt Tryz.prog 163 ti163:=fitsAt (z:=.nilFunc) (by kernel_rfl) Tryz.underlying163 rfl rfl (by intro h; cases h) (fun h=>by cases h)
theorem tt163:tt 163=some ⟨.other,1,8,[.nilFunc]⟩:=rfl
theorem fit164:FitsAt Tryz.prog 164 ti164:=fitsAt (z:=.nilFunc) (by kernel_rfl) Tryz.underlying164 rfl rfl (by intro h; cases h) (fun h=>by cases h)
theorem tt164:tt 164=some ⟨.other,1,8,[.nilFunc]⟩:=rfl
theorem fit165:FitsAt Tryz.prog 165 ti165:=fitsAt (z:=.nilFunc) (by kernel_rfl) Tryz.underlying165 rfl rfl (by intro h; cases h) (fun h=>by cases h)
theorem tt165:tt 165=some ⟨.other,1,8,[.nilFunc]⟩:=rfl
theorem fit166:FitsAt Tryz.prog 166 ti166:=fitsAt (z:=.nilFunc) (by kernel_rfl) Tryz.underlying166 rfl rfl (by intro h; cases h) (fun h=>by cases h)
theorem tt166:tt 166=some ⟨.other,1,8,[.nilFunc]⟩:=rfl
theorem fit167:FitsAt Tryz.prog 167 ti167:=fitsAt (z:=.nilFunc) (by kernel_rfl) Tryz.underlying167 rfl rfl (by intro h; cases h) (fun h=>by cases h)
theorem tt167:tt 167=some ⟨.other,1,8,[.nilFunc]⟩:=rfl
theorem fit168:FitsAt Tryz.prog 168 ti168:=fitsAt (z:=.nilFunc) (by kernel_rfl) Tryz.underlying168 rfl rfl (by intro h; cases h) (fun h=>by cases h)
theorem tt168:tt 168=some ⟨.other,1,8,[.nilFunc]⟩:=rfl
theorem fit169:FitsAt Tryz.prog 169 ti169:=fitsAt (z:=(.int .u64 0)) (by kernel_rfl) Tryz.underlying169 rfl rfl (by intro h; cases h) (fun _=>rfl)
theorem tt169:tt 169=some ⟨.int .u64,1,8,[(.int .u64 0)]⟩:=rfl
theorem fit170:FitsAt Tryz.prog 170 ti170:=fitsAt (z:=.nilFunc) (by kernel_rfl) Tryz.underlying170 rfl rfl (by intro h; cases h) (fun h=>by cases h)
theorem tt170:tt 170=some ⟨.other,1,8,[.nilFunc]⟩:=rfl
theorem fit171:FitsAt Tryz.prog 171 ti171:=fitsAt (z:=.nilFunc) (by kernel_rfl) Tryz.underlying171 rfl rfl (by intro h; cases h) (fun h=>by cases h)
theorem tt171:tt 171=some ⟨.other,1,8,[.nilFunc]⟩:=rfl
theorem fit172:FitsAt Tryz.prog 172 ti172:=fitsAt (z:=(.int .u64 0)) (by kernel_rfl) Tryz.underlying172 rfl rfl (by intro h; cases h) (fun _=>rfl)
theorem tt172:tt 172=some ⟨.int .u64,1,8,[(.int .u64 0)]⟩:=rfl
theorem fit173:FitsAt Tryz.prog 173 ti173:=fitsAt (z:=.nilFunc) (by kernel_rfl) Tryz.underlying173 rfl rfl (by intro h; cases h) (fun h=>by cases h)
theorem tt173:tt 173=some ⟨.other,1,8,[.nilFunc]⟩:=rfl
theorem fit174:FitsAt Tryz.prog 174 ti174:=fitsAt (z:=.nilFunc) (by kernel_rfl) Tryz.underlying174 rfl rfl (by intro h; cases h) (fun h=>by cases h)
theorem tt174:tt 174=some ⟨.other,1,8,[.nilFunc]⟩:=rfl
theorem fit175:FitsAt Tryz.prog 175 ti175:=fitsAt (z:=.nilFunc) (by kernel_rfl) Tryz.underlying175 rfl rfl (by intro h; cases h) (fun h=>by cases h)
theorem tt175:tt 175=some ⟨.other,1,8,[.nilFunc]⟩:=rfl
theorem fit176:FitsAt Tryz.prog 176 ti176:=fitsAt (z:=(.pointer none)) (by kernel_rfl) Tryz.underlying176 rfl rfl (by intro h; cases h) (fun h=>by cases h)
theorem tt176:tt 176=some ⟨.other,1,8,[(.pointer none)]⟩:=rfl
theorem fit177:FitsAt Tryz.prog 177 ti177:=fitsAt (z:=.nilFunc) (by kernel_rfl) Tryz.underlying177 rfl rfl (by intro h; cases h) (fun h=>by cases h)
theorem tt177:tt 177=some ⟨.other,1,8,[.nilFunc]⟩:=rfl
theorem fit178:FitsAt Tryz.prog 178 ti178:=fitsAt (z:=(.pointer none)) (by kernel_rfl) Tryz.underlying178 rfl rfl (by intro h; cases h) (fun h=>by cases h)
theorem tt178:tt 178=some ⟨.other,1,8,[(.pointer none)]⟩:=rfl
theorem fit179:FitsAt Tryz.prog 179 ti179:=fitsAt (z:=.nilFunc) (by kernel_rfl) Tryz.underlying179 rfl rfl (by intro h; cases h) (fun h=>by cases h)
theorem tt179:tt 179=some ⟨.other,1,8,[.nilFunc]⟩:=rfl
theorem fit180:FitsAt Tryz.prog 180 ti180:=fitsAt (z:=.nilFunc) (by kernel_rfl) Tryz.underlying180 rfl rfl (by intro h; cases h) (fun h=>by cases h)
theorem tt180:tt 180=some ⟨.other,1,8,[.nilFunc]⟩:=rfl
theorem fit181:FitsAt Tryz.prog 181 ti181:=fitsAt (z:=.agg #[(.pointer none),(.pointer none),(.pointer none),(.string ⟨#[]⟩)]) (by kernel_rfl) Tryz.underlying181 rfl rfl (by intro h; cases h) (fun h=>by cases h)
theorem tt181:tt 181=some ⟨.strct false [(0,17),(1,17),(2,17),(3,9)],4,40,[(.pointer none),(.pointer none),(.pointer none),(.string ⟨#[]⟩)]⟩:=rfl
theorem fit182:FitsAt Tryz.prog 182 ti182:=fitsAt (z:=.agg #[(.pointer none),(.pointer none),(.pointer none),(.string ⟨#[]⟩)]) (by kernel_rfl) Tryz.underlying182 rfl rfl (by intro h; cases h) (fun h=>by cases h)
theorem tt182:tt 182=some ⟨.strct false [(0,17),(1,17),(2,17),(3,9)],4,40,[(.pointer none),(.pointer none),(.pointer none),(.string ⟨#[]⟩)]⟩:=rfl
theorem fit183:FitsAt Tryz.prog 183 ti183:=fitsAt (z:=.agg #[]) (by kernel_rfl) Tryz.underlying183 rfl rfl (by intro h; cases h) (fun h=>by cases h)
theorem tt183:tt 183=some ⟨.arr false 0 16,0,0,[]⟩:=rfl
theorem fit184:FitsAt Tryz.prog 184 ti184:=fitsAt (z:=.agg #[]) (by kernel_rfl) Tryz.underlying184 rfl rfl (by intro h; cases h) (fun h=>by cases h)
theorem tt184:tt 184=some ⟨.strct false [(0,183)],0,0,[]⟩:=rfl
theorem fit185:FitsAt Tryz.prog 185 ti185:=fitsAt (z:=.agg #[]) (by kernel_rfl) Tryz.underlying185 rfl rfl (by intro h; cases h) (fun h=>by cases h)
theorem tt185:tt 185=some ⟨.strct false [(0,183)],0,0,[]⟩:=rfl
theorem fit186:FitsAt Tryz.prog 186 ti186:=fitsAt (z:=.nilFunc) (by kernel_rfl) Tryz.underlying186 rfl rfl (by intro h; cases h) (fun h=>by cases h)
theorem tt186:tt 186=some ⟨.other,1,8,[.nilFunc]⟩:=rfl
theorem fit187:FitsAt Tryz.prog 187 ti187:=fitsAt (z:=(.int .u8 0)) (by kernel_rfl) Tryz.underlying187 rfl rfl (by intro h; cases h) (fun _=>rfl)
theorem tt187:tt 187=some ⟨.int .u8,1,1,[(.int .u8 0)]⟩:=rfl
theorem fit188:FitsAt Tryz.prog 188 ti188:=fitsAt (z:=(.int .u8 0)) (by kernel_rfl) Tryz.underlying188 rfl rfl (by intro h; cases h) (fun _=>rfl)
theorem tt188:tt 188=some ⟨.int .u8,1,1,[(.int .u8 0)]⟩:=rfl
theorem fit189:FitsAt Tryz.prog 189 ti189:=fitsAt (z:=.nilFunc) (by kernel_rfl) Tryz.underlying189 rfl rfl (by intro h; cases h) (fun h=>by cases h)
theorem tt189:tt 189=some ⟨.other,1,8,[.nilFunc]⟩:=rfl
theorem fit190:FitsAt Tryz.prog 190 ti190:=fitsAt (z:=(.pointer none)) (by kernel_rfl) Tryz.underlying190 rfl rfl (by intro h; cases h) (fun h=>by cases h)
theorem tt190:tt 190=some ⟨.other,1,8,[(.pointer none)]⟩:=rfl
theorem fit191:FitsAt Tryz.prog 191 ti191:=fitsAt (z:=(.int .i32 0)) (by kernel_rfl) Tryz.underlying191 rfl rfl (by intro h; cases h) (fun _=>rfl)
theorem tt191:tt 191=some ⟨.int .i32,1,4,[(.int .i32 0)]⟩:=rfl
theorem fit192:FitsAt Tryz.prog 192 ti192:=fitsAt (z:=(.int .i32 0)) (by kernel_rfl) Tryz.underlying192 rfl rfl (by intro h; cases h) (fun _=>rfl)
theorem tt192:tt 192=some ⟨.int .i32,1,4,[(.int .i32 0)]⟩:=rfl
theorem fit193:FitsAt Tryz.prog 193 ti193:=fitsAt (z:=.agg #[(.int .u64 0),(.int .u64 0),(.int .u32 0),(.int .u8 0),(.int .u8 0),(.int .u8 0),(.int .u8 0),.nilFunc,(.pointer none),(.int .i32 0),(.int .i32 0)]) (by kernel_rfl) Tryz.underlying193 rfl rfl (by intro h; cases h) (fun h=>by cases h)
theorem tt193:tt 193=some ⟨.strct false [(0,12),(1,12),(2,121),(3,187),(4,5),(5,5),(6,188),(7,189),(8,190),(9,191),(10,192)],11,48,[(.int .u64 0),(.int .u64 0),(.int .u32 0),(.int .u8 0),(.int .u8 0),(.int .u8 0),(.int .u8 0),.nilFunc,(.pointer none),(.int .i32 0),(.int .i32 0)]⟩:=rfl
theorem fit194:FitsAt Tryz.prog 194 ti194:=fitsAt (z:=.agg #[(.int .u64 0),(.int .u64 0),(.int .u32 0),(.int .u8 0),(.int .u8 0),(.int .u8 0),(.int .u8 0),.nilFunc,(.pointer none),(.int .i32 0),(.int .i32 0)]) (by kernel_rfl) Tryz.underlying194 rfl rfl (by intro h; cases h) (fun h=>by cases h)
theorem tt194:tt 194=some ⟨.strct false [(0,12),(1,12),(2,121),(3,187),(4,5),(5,5),(6,188),(7,189),(8,190),(9,191),(10,192)],11,48,[(.int .u64 0),(.int .u64 0),(.int .u32 0),(.int .u8 0),(.int .u8 0),(.int .u8 0),(.int .u8 0),.nilFunc,(.pointer none),(.int .i32 0),(.int .i32 0)]⟩:=rfl
theorem fit195:FitsAt Tryz.prog 195 ti195:=fitsAt (z:=(.pointer none)) (by kernel_rfl) Tryz.underlying195 rfl rfl (by intro h; cases h) (fun h=>by cases h)
theorem tt195:tt 195=some ⟨.other,1,8,[(.pointer none)]⟩:=rfl
set_option maxRecDepth 100000 in
theorem fits:Fits Tryz.prog tt:=by
 intro t x h
 unfold tt at h
 split at h
 · cases h; exact fit1
 · cases h; exact fit2
 · cases h; exact fit3
 · cases h; exact fit4
 · cases h; exact fit5
 · cases h; exact fit6
 · cases h; exact fit7
 · cases h; exact fit8
 · cases h; exact fit9
 · cases h; exact fit10
 · cases h; exact fit11
 · cases h; exact fit12
 · cases h; exact fit13
 · cases h; exact fit14
 · cases h; exact fit15
 · cases h; exact fit16
 · cases h; exact fit17
 · cases h; exact fit18
 · cases h; exact fit19
 · cases h; exact fit20
 · cases h; exact fit21
 · cases h; exact fit22
 · cases h; exact fit23
 · cases h; exact fit24
 · cases h; exact fit25
 · cases h; exact fit26
 · cases h; exact fit27
 · cases h; exact fit29
 · cases h; exact fit30
 · cases h; exact fit32
 · cases h; exact fit34
 · cases h; exact fit36
 · cases h; exact fit37
 · cases h; exact fit38
 · cases h; exact fit39
 · cases h; exact fit41
 · cases h; exact fit42
 · cases h; exact fit43
 · cases h; exact fit44
 · cases h; exact fit45
 · cases h; exact fit47
 · cases h; exact fit48
 · cases h; exact fit49
 · cases h; exact fit50
 · cases h; exact fit51
 · cases h; exact fit52
 · cases h; exact fit53
 · cases h; exact fit54
 · cases h; exact fit55
 · cases h; exact fit57
 · cases h; exact fit59
 · cases h; exact fit60
 · cases h; exact fit61
 · cases h; exact fit62
 · cases h; exact fit63
 · cases h; exact fit64
 · cases h; exact fit65
 · cases h; exact fit67
 · cases h; exact fit68
 · cases h; exact fit69
 · cases h; exact fit70
 · cases h; exact fit71
 · cases h; exact fit72
 · cases h; exact fit73
 · cases h; exact fit74
 · cases h; exact fit75
 · cases h; exact fit76
 · cases h; exact fit78
 · cases h; exact fit80
 · cases h; exact fit81
 · cases h; exact fit82
 · cases h; exact fit83
 · cases h; exact fit84
 · cases h; exact fit85
 · cases h; exact fit86
 · cases h; exact fit88
 · cases h; exact fit89
 · cases h; exact fit91
 · cases h; exact fit92
 · cases h; exact fit93
 · cases h; exact fit94
 · cases h; exact fit95
 · cases h; exact fit96
 · cases h; exact fit97
 · cases h; exact fit98
 · cases h; exact fit99
 · cases h; exact fit100
 · cases h; exact fit101
 · cases h; exact fit102
 · cases h; exact fit103
 · cases h; exact fit104
 · cases h; exact fit107
 · cases h; exact fit108
 · cases h; exact fit109
 · cases h; exact fit110
 · cases h; exact fit111
 · cases h; exact fit112
 · cases h; exact fit113
 · cases h; exact fit114
 · cases h; exact fit115
 · cases h; exact fit116
 · cases h; exact fit118
 · cases h; exact fit119
 · cases h; exact fit120
 · cases h; exact fit121
 · cases h; exact fit122
 · cases h; exact fit123
 · cases h; exact fit124
 · cases h; exact fit125
 · cases h; exact fit126
 · cases h; exact fit128
 · cases h; exact fit129
 · cases h; exact fit130
 · cases h; exact fit131
 · cases h; exact fit132
 · cases h; exact fit133
 · cases h; exact fit134
 · cases h; exact fit135
 · cases h; exact fit136
 · cases h; exact fit137
 · cases h; exact fit138
 · cases h; exact fit139
 · cases h; exact fit141
 · cases h; exact fit142
 · cases h; exact fit143
 · cases h; exact fit144
 · cases h; exact fit145
 · cases h; exact fit146
 · cases h; exact fit147
 · cases h; exact fit148
 · cases h; exact fit149
 · cases h; exact fit150
 · cases h; exact fit151
 · cases h; exact fit153
 · cases h; exact fit154
 · cases h; exact fit155
 · cases h; exact fit156
 · cases h; exact fit157
 · cases h; exact fit158
 · cases h; exact fit159
 · cases h; exact fit160
 · cases h; exact fit161
 · cases h; exact fit163
 · cases h; exact fit164
 · cases h; exact fit165
 · cases h; exact fit166
 · cases h; exact fit167
 · cases h; exact fit168
 · cases h; exact fit169
 · cases h; exact fit170
 · cases h; exact fit171
 · cases h; exact fit172
 · cases h; exact fit173
 · cases h; exact fit174
 · cases h; exact fit175
 · cases h; exact fit176
 · cases h; exact fit177
 · cases h; exact fit178
 · cases h; exact fit179
 · cases h; exact fit180
 · cases h; exact fit181
 · cases h; exact fit182
 · cases h; exact fit183
 · cases h; exact fit184
 · cases h; exact fit185
 · cases h; exact fit186
 · cases h; exact fit187
 · cases h; exact fit188
 · cases h; exact fit189
 · cases h; exact fit190
 · cases h; exact fit191
 · cases h; exact fit192
 · cases h; exact fit193
 · cases h; exact fit194
 · cases h; exact fit195
 · cases h
theorem mixed:Tryz.prog.follows .mixedOrders=true:=rfl
attribute [go_sem] tt1 tt2 tt3 tt4 tt5 tt6 tt7 tt8 tt9 tt10 tt11 tt12 tt13 tt14 tt15 tt16 tt17 tt18 tt19 tt20 tt21 tt22 tt23 tt24 tt25 tt26 tt27 tt29 tt30 tt32 tt34 tt36 tt37 tt38 tt39 tt41 tt42 tt43 tt44 tt45 tt47 tt48 tt49 tt50 tt51 tt52 tt53 tt54 tt55 tt57 tt59 tt60 tt61 tt62 tt63 tt64 tt65 tt67 tt68 tt69 tt70 tt71 tt72 tt73 tt74 tt75 tt76 tt78 tt80 tt81 tt82 tt83 tt84 tt85 tt86 tt88 tt89 tt91 tt92 tt93 tt94 tt95 tt96 tt97 tt98 tt99 tt100 tt101 tt102 tt103 tt104 tt107 tt108 tt109 tt110 tt111 tt112 tt113 tt114 tt115 tt116 tt118 tt119 tt120 tt121 tt122 tt123 tt124 tt125 tt126 tt128 tt129 tt130 tt131 tt132 tt133 tt134 tt135 tt136 tt137 tt138 tt139 tt141 tt142 tt143 tt144 tt145 tt146 tt147 tt148 tt149 tt150 tt151 tt153 tt154 tt155 tt156 tt157 tt158 tt159 tt160 tt161 tt163 tt164 tt165 tt166 tt167 tt168 tt169 tt170 tt171 tt172 tt173 tt174 tt175 tt176 tt177 tt178 tt179 tt180 tt181 tt182 tt183 tt184 tt185 tt186 tt187 tt188 tt189 tt190 tt191 tt192 tt193 tt194 tt195
end Go.Proofs.YtclbndfjhjladaaGreat
