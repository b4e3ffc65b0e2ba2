/-
  The types of this seat's program: a row a type (its kind, cells, bytes, the cells of its zero value), and that each row is the program's own. Made by program out of the translation.
-/
import Derived.Test.YtjjhanfglelldaaKE
import Derived.Test.YtjjhanfglelldaaProg
import Derived.KernelRfl
set_option linter.all false
namespace Go.Proofs.Ytjjhanfglelldaa
open Go.K Go.M

theorem fitsAt {P : Program} {t : TypeId} {k : TK} {sz by_ : Nat} {zs : List Value} {z : Value} {d : TypeDesc} (h1 : (P.info? t).map (fun i => (i.zero, i.size, i.bytes)) = some (some z, sz, by_)) (h2 : P.underlying t = some d) (h3 : TK.of d = k.plain) (h4 : z.cells.toList = zs) (h5 : k.cmp = true → Cmp P t) : FitsAt P t ⟨k, sz, by_, zs⟩ := by
  cases hi : P.info? t with
  | none => simp [hi] at h1
  | some i =>
    simp only [hi, Option.map_some, Option.some.injEq, Prod.mk.injEq] at h1
    exact ⟨⟨i, d, z, hi, h2, h3, h1.2.1, h1.2.2, h1.1, h4⟩, h5⟩

def ti1 : TI := ⟨.other, 1, 8, [.nilFunc]⟩
def ti2 : TI := ⟨.int .i64, 1, 8, [(.int .i64 0)]⟩
def ti3 : TI := ⟨.int .i64, 1, 8, [(.int .i64 0)]⟩
def ti4 : TI := ⟨.bool, 1, 1, [(.bool false)]⟩
def ti5 : TI := ⟨.int .u8, 1, 1, [(.int .u8 0)]⟩
def ti6 : TI := ⟨.int .u8, 1, 1, [(.int .u8 0)]⟩
def ti7 : TI := ⟨.strct true [(0, 2), (1, 3), (2, 4), (3, 6)], 4, 24, [(.int .i64 0), (.int .i64 0), (.bool false), (.int .u8 0)]⟩
def ti8 : TI := ⟨.strct true [(0, 2), (1, 3), (2, 4), (3, 6)], 4, 24, [(.int .i64 0), (.int .i64 0), (.bool false), (.int .u8 0)]⟩
def ti9 : TI := ⟨.str, 1, 16, [(.string ⟨#[]⟩)]⟩
def ti10 : TI := ⟨.str, 1, 16, [(.string ⟨#[]⟩)]⟩
def ti11 : TI := ⟨.str, 1, 16, [(.string ⟨#[]⟩)]⟩
def ti12 : TI := ⟨.int .u64, 1, 8, [(.int .u64 0)]⟩
def ti13 : TI := ⟨.strct false [(0, 9), (1, 12)], 2, 24, [(.string ⟨#[]⟩), (.int .u64 0)]⟩
def ti14 : TI := ⟨.strct false [(0, 9), (1, 12)], 2, 24, [(.string ⟨#[]⟩), (.int .u64 0)]⟩
def ti15 : TI := ⟨.other, 1, 8, [(.pointer none)]⟩
def ti16 : TI := ⟨.other, 1, 8, [(.pointer none)]⟩
def ti17 : TI := ⟨.other, 1, 8, [(.pointer none)]⟩
def ti18 : TI := ⟨.strct false [(0, 17)], 1, 8, [(.pointer none)]⟩
def ti19 : TI := ⟨.strct false [(0, 17)], 1, 8, [(.pointer none)]⟩
def ti20 : TI := ⟨.other, 1, 16, [.nilIface]⟩
def ti21 : TI := ⟨.int .i32, 1, 4, [(.int .i32 0)]⟩
def ti22 : TI := ⟨.slice 32, 1, 24, [(.slice none 0 0)]⟩
def ti23 : TI := ⟨.other, 1, 8, [.nilFunc]⟩
def ti24 : TI := ⟨.other, 1, 8, [.nilFunc]⟩
def ti25 : TI := ⟨.int .i64, 1, 8, [(.int .i64 0)]⟩
def ti27 : TI := ⟨.other, 1, 8, [.nilFunc]⟩
def ti29 : TI := ⟨.other, 1, 8, [.nilFunc]⟩
def ti30 : TI := ⟨.other, 1, 8, [.nilFunc]⟩
def ti31 : TI := ⟨.other, 1, 8, [.nilFunc]⟩
def ti32 : TI := ⟨.slice 3, 1, 24, [(.slice none 0 0)]⟩
def ti33 : TI := ⟨.slice 50, 1, 24, [(.slice none 0 0)]⟩
def ti35 : TI := ⟨.other, 1, 8, [.nilFunc]⟩
def ti37 : TI := ⟨.other, 1, 8, [.nilFunc]⟩
def ti39 : TI := ⟨.other, 1, 8, [.nilFunc]⟩
def ti41 : TI := ⟨.other, 1, 8, [.nilFunc]⟩
def ti42 : TI := ⟨.other, 1, 8, [.nilFunc]⟩
def ti43 : TI := ⟨.other, 1, 8, [.nilFunc]⟩
def ti44 : TI := ⟨.other, 1, 8, [.nilFunc]⟩
def ti46 : TI := ⟨.other, 1, 8, [.nilFunc]⟩
def ti47 : TI := ⟨.other, 1, 8, [.nilFunc]⟩
def ti48 : TI := ⟨.other, 1, 8, [.nilFunc]⟩
def ti49 : TI := ⟨.strct true [(0, 3), (1, 3)], 2, 16, [(.int .i64 0), (.int .i64 0)]⟩
def ti50 : TI := ⟨.strct true [(0, 3), (1, 3)], 2, 16, [(.int .i64 0), (.int .i64 0)]⟩
def ti51 : TI := ⟨.other, 1, 8, [.nilFunc]⟩
def ti53 : TI := ⟨.other, 1, 8, [.nilFunc]⟩
def ti54 : TI := ⟨.other, 1, 8, [.nilFunc]⟩
def ti56 : TI := ⟨.other, 1, 8, [.nilFunc]⟩
def ti57 : TI := ⟨.other, 1, 8, [.nilFunc]⟩
def ti58 : TI := ⟨.other, 1, 8, [.nilFunc]⟩
def ti59 : TI := ⟨.other, 1, 8, [.nilFunc]⟩
def ti60 : TI := ⟨.other, 1, 8, [.nilFunc]⟩
def ti61 : TI := ⟨.slice 22, 1, 24, [(.slice none 0 0)]⟩
def ti62 : TI := ⟨.strct false [(0, 22), (1, 32), (2, 3), (3, 3)], 4, 64, [(.slice none 0 0), (.slice none 0 0), (.int .i64 0), (.int .i64 0)]⟩
def ti63 : TI := ⟨.strct false [(0, 22), (1, 32), (2, 3), (3, 3)], 4, 64, [(.slice none 0 0), (.slice none 0 0), (.int .i64 0), (.int .i64 0)]⟩
def ti64 : TI := ⟨.other, 1, 8, [.nilFunc]⟩
def ti65 : TI := ⟨.other, 1, 8, [.nilFunc]⟩
def ti66 : TI := ⟨.strct false [(0, 22), (1, 32), (2, 3), (3, 3)], 4, 64, [(.slice none 0 0), (.slice none 0 0), (.int .i64 0), (.int .i64 0)]⟩
def ti67 : TI := ⟨.strct false [(0, 22), (1, 32), (2, 3), (3, 3)], 4, 64, [(.slice none 0 0), (.slice none 0 0), (.int .i64 0), (.int .i64 0)]⟩
def ti68 : TI := ⟨.other, 1, 8, [.nilFunc]⟩
def ti70 : TI := ⟨.other, 1, 8, [.nilFunc]⟩
def ti71 : TI := ⟨.other, 1, 8, [.nilFunc]⟩
def ti72 : TI := ⟨.other, 1, 8, [.nilFunc]⟩
def ti73 : TI := ⟨.other, 1, 8, [.nilFunc]⟩
def ti74 : TI := ⟨.other, 1, 8, [.nilFunc]⟩
def ti75 : TI := ⟨.other, 1, 8, [.nilFunc]⟩
def ti76 : TI := ⟨.other, 1, 8, [.nilFunc]⟩
def ti77 : TI := ⟨.other, 1, 8, [.nilFunc]⟩
def ti78 : TI := ⟨.other, 1, 8, [.nilFunc]⟩
def ti79 : TI := ⟨.other, 1, 8, [.nilFunc]⟩
def ti80 : TI := ⟨.other, 1, 8, [.nilFunc]⟩
def ti81 : TI := ⟨.int .u64, 1, 8, [(.int .u64 0)]⟩
def ti82 : TI := ⟨.other, 1, 8, [.nilFunc]⟩
def ti83 : TI := ⟨.other, 1, 8, [.nilFunc]⟩
def ti84 : TI := ⟨.other, 1, 8, [.nilFunc]⟩
def ti85 : TI := ⟨.other, 1, 8, [.nilFunc]⟩
def ti86 : TI := ⟨.other, 1, 8, [.nilFunc]⟩
def ti87 : TI := ⟨.other, 1, 8, [(.pointer none)]⟩
def ti88 : TI := ⟨.other, 1, 8, [.nilFunc]⟩
def ti89 : TI := ⟨.other, 1, 8, [.nilFunc]⟩
def ti90 : TI := ⟨.strct false [(0, 17), (1, 17), (2, 17), (3, 9)], 4, 40, [(.pointer none), (.pointer none), (.pointer none), (.string ⟨#[]⟩)]⟩
def ti91 : TI := ⟨.strct false [(0, 17), (1, 17), (2, 17), (3, 9)], 4, 40, [(.pointer none), (.pointer none), (.pointer none), (.string ⟨#[]⟩)]⟩
def ti92 : TI := ⟨.arr false 0 16, 0, 0, []⟩
def ti93 : TI := ⟨.strct false [(0, 92)], 0, 0, []⟩
def ti94 : TI := ⟨.strct false [(0, 92)], 0, 0, []⟩
def ti95 : TI := ⟨.other, 1, 8, [.nilFunc]⟩
def ti96 : TI := ⟨.int .u32, 1, 4, [(.int .u32 0)]⟩
def ti97 : TI := ⟨.int .u8, 1, 1, [(.int .u8 0)]⟩
def ti98 : TI := ⟨.int .u8, 1, 1, [(.int .u8 0)]⟩
def ti99 : TI := ⟨.other, 1, 8, [.nilFunc]⟩
def ti100 : TI := ⟨.other, 1, 8, [(.pointer none)]⟩
def ti101 : TI := ⟨.int .i32, 1, 4, [(.int .i32 0)]⟩
def ti102 : TI := ⟨.int .i32, 1, 4, [(.int .i32 0)]⟩
def ti103 : TI := ⟨.strct false [(0, 12), (1, 12), (2, 96), (3, 97), (4, 5), (5, 5), (6, 98), (7, 99), (8, 100), (9, 101), (10, 102)], 11, 48, [(.int .u64 0), (.int .u64 0), (.int .u32 0), (.int .u8 0), (.int .u8 0), (.int .u8 0), (.int .u8 0), .nilFunc, (.pointer none), (.int .i32 0), (.int .i32 0)]⟩
def ti104 : TI := ⟨.strct false [(0, 12), (1, 12), (2, 96), (3, 97), (4, 5), (5, 5), (6, 98), (7, 99), (8, 100), (9, 101), (10, 102)], 11, 48, [(.int .u64 0), (.int .u64 0), (.int .u32 0), (.int .u8 0), (.int .u8 0), (.int .u8 0), (.int .u8 0), .nilFunc, (.pointer none), (.int .i32 0), (.int .i32 0)]⟩
def ti105 : TI := ⟨.other, 1, 8, [(.pointer none)]⟩

def tt : TT
  | 1 => some ti1
  | 2 => some ti2
  | 3 => some ti3
  | 4 => some ti4
  | 5 => some ti5
  | 6 => some ti6
  | 7 => some ti7
  | 8 => some ti8
  | 9 => some ti9
  | 10 => some ti10
  | 11 => some ti11
  | 12 => some ti12
  | 13 => some ti13
  | 14 => some ti14
  | 15 => some ti15
  | 16 => some ti16
  | 17 => some ti17
  | 18 => some ti18
  | 19 => some ti19
  | 20 => some ti20
  | 21 => some ti21
  | 22 => some ti22
  | 23 => some ti23
  | 24 => some ti24
  | 25 => some ti25
  | 27 => some ti27
  | 29 => some ti29
  | 30 => some ti30
  | 31 => some ti31
  | 32 => some ti32
  | 33 => some ti33
  | 35 => some ti35
  | 37 => some ti37
  | 39 => some ti39
  | 41 => some ti41
  | 42 => some ti42
  | 43 => some ti43
  | 44 => some ti44
  | 46 => some ti46
  | 47 => some ti47
  | 48 => some ti48
  | 49 => some ti49
  | 50 => some ti50
  | 51 => some ti51
  | 53 => some ti53
  | 54 => some ti54
  | 56 => some ti56
  | 57 => some ti57
  | 58 => some ti58
  | 59 => some ti59
  | 60 => some ti60
  | 61 => some ti61
  | 62 => some ti62
  | 63 => some ti63
  | 64 => some ti64
  | 65 => some ti65
  | 66 => some ti66
  | 67 => some ti67
  | 68 => some ti68
  | 70 => some ti70
  | 71 => some ti71
  | 72 => some ti72
  | 73 => some ti73
  | 74 => some ti74
  | 75 => some ti75
  | 76 => some ti76
  | 77 => some ti77
  | 78 => some ti78
  | 79 => some ti79
  | 80 => some ti80
  | 81 => some ti81
  | 82 => some ti82
  | 83 => some ti83
  | 84 => some ti84
  | 85 => some ti85
  | 86 => some ti86
  | 87 => some ti87
  | 88 => some ti88
  | 89 => some ti89
  | 90 => some ti90
  | 91 => some ti91
  | 92 => some ti92
  | 93 => some ti93
  | 94 => some ti94
  | 95 => some ti95
  | 96 => some ti96
  | 97 => some ti97
  | 98 => some ti98
  | 99 => some ti99
  | 100 => some ti100
  | 101 => some ti101
  | 102 => some ti102
  | 103 => some ti103
  | 104 => some ti104
  | 105 => some ti105
  | _ => none

theorem fit1 : FitsAt Try.prog 1 ti1 := fitsAt (z := .nilFunc) (by kernel_rfl) Try.underlying1 rfl rfl (by intro h; cases h)
theorem tt1 : tt 1 = some ⟨.other, 1, 8, [.nilFunc]⟩ := rfl
theorem fit2 : FitsAt Try.prog 2 ti2 := fitsAt (z := (.int .i64 0)) (by kernel_rfl) Try.underlying2 rfl rfl (by intro h; cases h)
theorem tt2 : tt 2 = some ⟨.int .i64, 1, 8, [(.int .i64 0)]⟩ := rfl
theorem fit3 : FitsAt Try.prog 3 ti3 := fitsAt (z := (.int .i64 0)) (by kernel_rfl) Try.underlying3 rfl rfl (by intro h; cases h)
theorem tt3 : tt 3 = some ⟨.int .i64, 1, 8, [(.int .i64 0)]⟩ := rfl
theorem fit4 : FitsAt Try.prog 4 ti4 := fitsAt (z := (.bool false)) (by kernel_rfl) Try.underlying4 rfl rfl (by intro h; cases h)
theorem tt4 : tt 4 = some ⟨.bool, 1, 1, [(.bool false)]⟩ := rfl
theorem fit5 : FitsAt Try.prog 5 ti5 := fitsAt (z := (.int .u8 0)) (by kernel_rfl) Try.underlying5 rfl rfl (by intro h; cases h)
theorem tt5 : tt 5 = some ⟨.int .u8, 1, 1, [(.int .u8 0)]⟩ := rfl
theorem fit6 : FitsAt Try.prog 6 ti6 := fitsAt (z := (.int .u8 0)) (by kernel_rfl) Try.underlying6 rfl rfl (by intro h; cases h)
theorem tt6 : tt 6 = some ⟨.int .u8, 1, 1, [(.int .u8 0)]⟩ := rfl
theorem fit7 : FitsAt Try.prog 7 ti7 := fitsAt (z := .agg #[(.int .i64 0), (.int .i64 0), (.bool false), (.int .u8 0)]) (by kernel_rfl) Try.underlying7 rfl rfl (by exact fun _ => ⟨by kernel_rfl, by kernel_rfl, by kernel_rfl⟩)
theorem tt7 : tt 7 = some ⟨.strct true [(0, 2), (1, 3), (2, 4), (3, 6)], 4, 24, [(.int .i64 0), (.int .i64 0), (.bool false), (.int .u8 0)]⟩ := rfl
theorem fit8 : FitsAt Try.prog 8 ti8 := fitsAt (z := .agg #[(.int .i64 0), (.int .i64 0), (.bool false), (.int .u8 0)]) (by kernel_rfl) Try.underlying8 rfl rfl (by exact fun _ => ⟨by kernel_rfl, by kernel_rfl, by kernel_rfl⟩)
theorem tt8 : tt 8 = some ⟨.strct true [(0, 2), (1, 3), (2, 4), (3, 6)], 4, 24, [(.int .i64 0), (.int .i64 0), (.bool false), (.int .u8 0)]⟩ := rfl
theorem fit9 : FitsAt Try.prog 9 ti9 := fitsAt (z := (.string ⟨#[]⟩)) (by kernel_rfl) Try.underlying9 rfl rfl (by intro h; cases h)
theorem tt9 : tt 9 = some ⟨.str, 1, 16, [(.string ⟨#[]⟩)]⟩ := rfl
theorem fit10 : FitsAt Try.prog 10 ti10 := fitsAt (z := (.string ⟨#[]⟩)) (by kernel_rfl) Try.underlying10 rfl rfl (by intro h; cases h)
theorem tt10 : tt 10 = some ⟨.str, 1, 16, [(.string ⟨#[]⟩)]⟩ := rfl
theorem fit11 : FitsAt Try.prog 11 ti11 := fitsAt (z := (.string ⟨#[]⟩)) (by kernel_rfl) Try.underlying11 rfl rfl (by intro h; cases h)
theorem tt11 : tt 11 = some ⟨.str, 1, 16, [(.string ⟨#[]⟩)]⟩ := rfl
theorem fit12 : FitsAt Try.prog 12 ti12 := fitsAt (z := (.int .u64 0)) (by kernel_rfl) Try.underlying12 rfl rfl (by intro h; cases h)
theorem tt12 : tt 12 = some ⟨.int .u64, 1, 8, [(.int .u64 0)]⟩ := rfl
theorem fit13 : FitsAt Try.prog 13 ti13 := fitsAt (z := .agg #[(.string ⟨#[]⟩), (.int .u64 0)]) (by kernel_rfl) Try.underlying13 rfl rfl (by intro h; cases h)
theorem tt13 : tt 13 = some ⟨.strct false [(0, 9), (1, 12)], 2, 24, [(.string ⟨#[]⟩), (.int .u64 0)]⟩ := rfl
theorem fit14 : FitsAt Try.prog 14 ti14 := fitsAt (z := .agg #[(.string ⟨#[]⟩), (.int .u64 0)]) (by kernel_rfl) Try.underlying14 rfl rfl (by intro h; cases h)
theorem tt14 : tt 14 = some ⟨.strct false [(0, 9), (1, 12)], 2, 24, [(.string ⟨#[]⟩), (.int .u64 0)]⟩ := rfl
theorem fit15 : FitsAt Try.prog 15 ti15 := fitsAt (z := (.pointer none)) (by kernel_rfl) Try.underlying15 rfl rfl (by intro h; cases h)
theorem tt15 : tt 15 = some ⟨.other, 1, 8, [(.pointer none)]⟩ := rfl
theorem fit16 : FitsAt Try.prog 16 ti16 := fitsAt (z := (.pointer none)) (by kernel_rfl) Try.underlying16 rfl rfl (by intro h; cases h)
theorem tt16 : tt 16 = some ⟨.other, 1, 8, [(.pointer none)]⟩ := rfl
theorem fit17 : FitsAt Try.prog 17 ti17 := fitsAt (z := (.pointer none)) (by kernel_rfl) Try.underlying17 rfl rfl (by intro h; cases h)
theorem tt17 : tt 17 = some ⟨.other, 1, 8, [(.pointer none)]⟩ := rfl
theorem fit18 : FitsAt Try.prog 18 ti18 := fitsAt (z := .agg #[(.pointer none)]) (by kernel_rfl) Try.underlying18 rfl rfl (by intro h; cases h)
theorem tt18 : tt 18 = some ⟨.strct false [(0, 17)], 1, 8, [(.pointer none)]⟩ := rfl
theorem fit19 : FitsAt Try.prog 19 ti19 := fitsAt (z := .agg #[(.pointer none)]) (by kernel_rfl) Try.underlying19 rfl rfl (by intro h; cases h)
theorem tt19 : tt 19 = some ⟨.strct false [(0, 17)], 1, 8, [(.pointer none)]⟩ := rfl
theorem fit20 : FitsAt Try.prog 20 ti20 := fitsAt (z := .nilIface) (by kernel_rfl) Try.underlying20 rfl rfl (by intro h; cases h)
theorem tt20 : tt 20 = some ⟨.other, 1, 16, [.nilIface]⟩ := rfl
theorem fit21 : FitsAt Try.prog 21 ti21 := fitsAt (z := (.int .i32 0)) (by kernel_rfl) Try.underlying21 rfl rfl (by intro h; cases h)
theorem tt21 : tt 21 = some ⟨.int .i32, 1, 4, [(.int .i32 0)]⟩ := rfl
theorem fit22 : FitsAt Try.prog 22 ti22 := fitsAt (z := (.slice none 0 0)) (by kernel_rfl) Try.underlying22 rfl rfl (by intro h; cases h)
theorem tt22 : tt 22 = some ⟨.slice 32, 1, 24, [(.slice none 0 0)]⟩ := rfl
theorem fit23 : FitsAt Try.prog 23 ti23 := fitsAt (z := .nilFunc) (by kernel_rfl) Try.underlying23 rfl rfl (by intro h; cases h)
theorem tt23 : tt 23 = some ⟨.other, 1, 8, [.nilFunc]⟩ := rfl
theorem fit24 : FitsAt Try.prog 24 ti24 := fitsAt (z := .nilFunc) (by kernel_rfl) Try.underlying24 rfl rfl (by intro h; cases h)
theorem tt24 : tt 24 = some ⟨.other, 1, 8, [.nilFunc]⟩ := rfl
theorem fit25 : FitsAt Try.prog 25 ti25 := fitsAt (z := (.int .i64 0)) (by kernel_rfl) Try.underlying25 rfl rfl (by intro h; cases h)
theorem tt25 : tt 25 = some ⟨.int .i64, 1, 8, [(.int .i64 0)]⟩ := rfl
theorem fit27 : FitsAt Try.prog 27 ti27 := fitsAt (z := .nilFunc) (by kernel_rfl) Try.underlying27 rfl rfl (by intro h; cases h)
theorem tt27 : tt 27 = some ⟨.other, 1, 8, [.nilFunc]⟩ := rfl
theorem fit29 : FitsAt Try.prog 29 ti29 := fitsAt (z := .nilFunc) (by kernel_rfl) Try.underlying29 rfl rfl (by intro h; cases h)
theorem tt29 : tt 29 = some ⟨.other, 1, 8, [.nilFunc]⟩ := rfl
theorem fit30 : FitsAt Try.prog 30 ti30 := fitsAt (z := .nilFunc) (by kernel_rfl) Try.underlying30 rfl rfl (by intro h; cases h)
theorem tt30 : tt 30 = some ⟨.other, 1, 8, [.nilFunc]⟩ := rfl
theorem fit31 : FitsAt Try.prog 31 ti31 := fitsAt (z := .nilFunc) (by kernel_rfl) Try.underlying31 rfl rfl (by intro h; cases h)
theorem tt31 : tt 31 = some ⟨.other, 1, 8, [.nilFunc]⟩ := rfl
theorem fit32 : FitsAt Try.prog 32 ti32 := fitsAt (z := (.slice none 0 0)) (by kernel_rfl) Try.underlying32 rfl rfl (by intro h; cases h)
theorem tt32 : tt 32 = some ⟨.slice 3, 1, 24, [(.slice none 0 0)]⟩ := rfl
theorem fit33 : FitsAt Try.prog 33 ti33 := fitsAt (z := (.slice none 0 0)) (by kernel_rfl) Try.underlying33 rfl rfl (by intro h; cases h)
theorem tt33 : tt 33 = some ⟨.slice 50, 1, 24, [(.slice none 0 0)]⟩ := rfl
theorem fit35 : FitsAt Try.prog 35 ti35 := fitsAt (z := .nilFunc) (by kernel_rfl) Try.underlying35 rfl rfl (by intro h; cases h)
theorem tt35 : tt 35 = some ⟨.other, 1, 8, [.nilFunc]⟩ := rfl
theorem fit37 : FitsAt Try.prog 37 ti37 := fitsAt (z := .nilFunc) (by kernel_rfl) Try.underlying37 rfl rfl (by intro h; cases h)
theorem tt37 : tt 37 = some ⟨.other, 1, 8, [.nilFunc]⟩ := rfl
theorem fit39 : FitsAt Try.prog 39 ti39 := fitsAt (z := .nilFunc) (by kernel_rfl) Try.underlying39 rfl rfl (by intro h; cases h)
theorem tt39 : tt 39 = some ⟨.other, 1, 8, [.nilFunc]⟩ := rfl
theorem fit41 : FitsAt Try.prog 41 ti41 := fitsAt (z := .nilFunc) (by kernel_rfl) Try.underlying41 rfl rfl (by intro h; cases h)
theorem tt41 : tt 41 = some ⟨.other, 1, 8, [.nilFunc]⟩ := rfl
theorem fit42 : FitsAt Try.prog 42 ti42 := fitsAt (z := .nilFunc) (by kernel_rfl) Try.underlying42 rfl rfl (by intro h; cases h)
theorem tt42 : tt 42 = some ⟨.other, 1, 8, [.nilFunc]⟩ := rfl
theorem fit43 : FitsAt Try.prog 43 ti43 := fitsAt (z := .nilFunc) (by kernel_rfl) Try.underlying43 rfl rfl (by intro h; cases h)
theorem tt43 : tt 43 = some ⟨.other, 1, 8, [.nilFunc]⟩ := rfl
theorem fit44 : FitsAt Try.prog 44 ti44 := fitsAt (z := .nilFunc) (by kernel_rfl) Try.underlying44 rfl rfl (by intro h; cases h)
theorem tt44 : tt 44 = some ⟨.other, 1, 8, [.nilFunc]⟩ := rfl
theorem fit46 : FitsAt Try.prog 46 ti46 := fitsAt (z := .nilFunc) (by kernel_rfl) Try.underlying46 rfl rfl (by intro h; cases h)
theorem tt46 : tt 46 = some ⟨.other, 1, 8, [.nilFunc]⟩ := rfl
theorem fit47 : FitsAt Try.prog 47 ti47 := fitsAt (z := .nilFunc) (by kernel_rfl) Try.underlying47 rfl rfl (by intro h; cases h)
theorem tt47 : tt 47 = some ⟨.other, 1, 8, [.nilFunc]⟩ := rfl
theorem fit48 : FitsAt Try.prog 48 ti48 := fitsAt (z := .nilFunc) (by kernel_rfl) Try.underlying48 rfl rfl (by intro h; cases h)
theorem tt48 : tt 48 = some ⟨.other, 1, 8, [.nilFunc]⟩ := rfl
theorem fit49 : FitsAt Try.prog 49 ti49 := fitsAt (z := .agg #[(.int .i64 0), (.int .i64 0)]) (by kernel_rfl) Try.underlying49 rfl rfl (by exact fun _ => ⟨by kernel_rfl, by kernel_rfl, by kernel_rfl⟩)
theorem tt49 : tt 49 = some ⟨.strct true [(0, 3), (1, 3)], 2, 16, [(.int .i64 0), (.int .i64 0)]⟩ := rfl
theorem fit50 : FitsAt Try.prog 50 ti50 := fitsAt (z := .agg #[(.int .i64 0), (.int .i64 0)]) (by kernel_rfl) Try.underlying50 rfl rfl (by exact fun _ => ⟨by kernel_rfl, by kernel_rfl, by kernel_rfl⟩)
theorem tt50 : tt 50 = some ⟨.strct true [(0, 3), (1, 3)], 2, 16, [(.int .i64 0), (.int .i64 0)]⟩ := rfl
theorem fit51 : FitsAt Try.prog 51 ti51 := fitsAt (z := .nilFunc) (by kernel_rfl) Try.underlying51 rfl rfl (by intro h; cases h)
theorem tt51 : tt 51 = some ⟨.other, 1, 8, [.nilFunc]⟩ := rfl
theorem fit53 : FitsAt Try.prog 53 ti53 := fitsAt (z := .nilFunc) (by kernel_rfl) Try.underlying53 rfl rfl (by intro h; cases h)
theorem tt53 : tt 53 = some ⟨.other, 1, 8, [.nilFunc]⟩ := rfl
theorem fit54 : FitsAt Try.prog 54 ti54 := fitsAt (z := .nilFunc) (by kernel_rfl) Try.underlying54 rfl rfl (by intro h; cases h)
theorem tt54 : tt 54 = some ⟨.other, 1, 8, [.nilFunc]⟩ := rfl
theorem fit56 : FitsAt Try.prog 56 ti56 := fitsAt (z := .nilFunc) (by kernel_rfl) Try.underlying56 rfl rfl (by intro h; cases h)
theorem tt56 : tt 56 = some ⟨.other, 1, 8, [.nilFunc]⟩ := rfl
theorem fit57 : FitsAt Try.prog 57 ti57 := fitsAt (z := .nilFunc) (by kernel_rfl) Try.underlying57 rfl rfl (by intro h; cases h)
theorem tt57 : tt 57 = some ⟨.other, 1, 8, [.nilFunc]⟩ := rfl
theorem fit58 : FitsAt Try.prog 58 ti58 := fitsAt (z := .nilFunc) (by kernel_rfl) Try.underlying58 rfl rfl (by intro h; cases h)
theorem tt58 : tt 58 = some ⟨.other, 1, 8, [.nilFunc]⟩ := rfl
theorem fit59 : FitsAt Try.prog 59 ti59 := fitsAt (z := .nilFunc) (by kernel_rfl) Try.underlying59 rfl rfl (by intro h; cases h)
theorem tt59 : tt 59 = some ⟨.other, 1, 8, [.nilFunc]⟩ := rfl
theorem fit60 : FitsAt Try.prog 60 ti60 := fitsAt (z := .nilFunc) (by kernel_rfl) Try.underlying60 rfl rfl (by intro h; cases h)
theorem tt60 : tt 60 = some ⟨.other, 1, 8, [.nilFunc]⟩ := rfl
theorem fit61 : FitsAt Try.prog 61 ti61 := fitsAt (z := (.slice none 0 0)) (by kernel_rfl) Try.underlying61 rfl rfl (by intro h; cases h)
theorem tt61 : tt 61 = some ⟨.slice 22, 1, 24, [(.slice none 0 0)]⟩ := rfl
theorem fit62 : FitsAt Try.prog 62 ti62 := fitsAt (z := .agg #[(.slice none 0 0), (.slice none 0 0), (.int .i64 0), (.int .i64 0)]) (by kernel_rfl) Try.underlying62 rfl rfl (by intro h; cases h)
theorem tt62 : tt 62 = some ⟨.strct false [(0, 22), (1, 32), (2, 3), (3, 3)], 4, 64, [(.slice none 0 0), (.slice none 0 0), (.int .i64 0), (.int .i64 0)]⟩ := rfl
theorem fit63 : FitsAt Try.prog 63 ti63 := fitsAt (z := .agg #[(.slice none 0 0), (.slice none 0 0), (.int .i64 0), (.int .i64 0)]) (by kernel_rfl) Try.underlying63 rfl rfl (by intro h; cases h)
theorem tt63 : tt 63 = some ⟨.strct false [(0, 22), (1, 32), (2, 3), (3, 3)], 4, 64, [(.slice none 0 0), (.slice none 0 0), (.int .i64 0), (.int .i64 0)]⟩ := rfl
theorem fit64 : FitsAt Try.prog 64 ti64 := fitsAt (z := .nilFunc) (by kernel_rfl) Try.underlying64 rfl rfl (by intro h; cases h)
theorem tt64 : tt 64 = some ⟨.other, 1, 8, [.nilFunc]⟩ := rfl
theorem fit65 : FitsAt Try.prog 65 ti65 := fitsAt (z := .nilFunc) (by kernel_rfl) Try.underlying65 rfl rfl (by intro h; cases h)
theorem tt65 : tt 65 = some ⟨.other, 1, 8, [.nilFunc]⟩ := rfl
theorem fit66 : FitsAt Try.prog 66 ti66 := fitsAt (z := .agg #[(.slice none 0 0), (.slice none 0 0), (.int .i64 0), (.int .i64 0)]) (by kernel_rfl) Try.underlying66 rfl rfl (by intro h; cases h)
theorem tt66 : tt 66 = some ⟨.strct false [(0, 22), (1, 32), (2, 3), (3, 3)], 4, 64, [(.slice none 0 0), (.slice none 0 0), (.int .i64 0), (.int .i64 0)]⟩ := rfl
theorem fit67 : FitsAt Try.prog 67 ti67 := fitsAt (z := .agg #[(.slice none 0 0), (.slice none 0 0), (.int .i64 0), (.int .i64 0)]) (by kernel_rfl) Try.underlying67 rfl rfl (by intro h; cases h)
theorem tt67 : tt 67 = some ⟨.strct false [(0, 22), (1, 32), (2, 3), (3, 3)], 4, 64, [(.slice none 0 0), (.slice none 0 0), (.int .i64 0), (.int .i64 0)]⟩ := rfl
theorem fit68 : FitsAt Try.prog 68 ti68 := fitsAt (z := .nilFunc) (by kernel_rfl) Try.underlying68 rfl rfl (by intro h; cases h)
theorem tt68 : tt 68 = some ⟨.other, 1, 8, [.nilFunc]⟩ := rfl
theorem fit70 : FitsAt Try.prog 70 ti70 := fitsAt (z := .nilFunc) (by kernel_rfl) Try.underlying70 rfl rfl (by intro h; cases h)
theorem tt70 : tt 70 = some ⟨.other, 1, 8, [.nilFunc]⟩ := rfl
theorem fit71 : FitsAt Try.prog 71 ti71 := fitsAt (z := .nilFunc) (by kernel_rfl) Try.underlying71 rfl rfl (by intro h; cases h)
theorem tt71 : tt 71 = some ⟨.other, 1, 8, [.nilFunc]⟩ := rfl
theorem fit72 : FitsAt Try.prog 72 ti72 := fitsAt (z := .nilFunc) (by kernel_rfl) Try.underlying72 rfl rfl (by intro h; cases h)
theorem tt72 : tt 72 = some ⟨.other, 1, 8, [.nilFunc]⟩ := rfl
theorem fit73 : FitsAt Try.prog 73 ti73 := fitsAt (z := .nilFunc) (by kernel_rfl) Try.underlying73 rfl rfl (by intro h; cases h)
theorem tt73 : tt 73 = some ⟨.other, 1, 8, [.nilFunc]⟩ := rfl
theorem fit74 : FitsAt Try.prog 74 ti74 := fitsAt (z := .nilFunc) (by kernel_rfl) Try.underlying74 rfl rfl (by intro h; cases h)
theorem tt74 : tt 74 = some ⟨.other, 1, 8, [.nilFunc]⟩ := rfl
theorem fit75 : FitsAt Try.prog 75 ti75 := fitsAt (z := .nilFunc) (by kernel_rfl) Try.underlying75 rfl rfl (by intro h; cases h)
theorem tt75 : tt 75 = some ⟨.other, 1, 8, [.nilFunc]⟩ := rfl
theorem fit76 : FitsAt Try.prog 76 ti76 := fitsAt (z := .nilFunc) (by kernel_rfl) Try.underlying76 rfl rfl (by intro h; cases h)
theorem tt76 : tt 76 = some ⟨.other, 1, 8, [.nilFunc]⟩ := rfl
theorem fit77 : FitsAt Try.prog 77 ti77 := fitsAt (z := .nilFunc) (by kernel_rfl) Try.underlying77 rfl rfl (by intro h; cases h)
theorem tt77 : tt 77 = some ⟨.other, 1, 8, [.nilFunc]⟩ := rfl
theorem fit78 : FitsAt Try.prog 78 ti78 := fitsAt (z := .nilFunc) (by kernel_rfl) Try.underlying78 rfl rfl (by intro h; cases h)
theorem tt78 : tt 78 = some ⟨.other, 1, 8, [.nilFunc]⟩ := rfl
theorem fit79 : FitsAt Try.prog 79 ti79 := fitsAt (z := .nilFunc) (by kernel_rfl) Try.underlying79 rfl rfl (by intro h; cases h)
theorem tt79 : tt 79 = some ⟨.other, 1, 8, [.nilFunc]⟩ := rfl
theorem fit80 : FitsAt Try.prog 80 ti80 := fitsAt (z := .nilFunc) (by kernel_rfl) Try.underlying80 rfl rfl (by intro h; cases h)
theorem tt80 : tt 80 = some ⟨.other, 1, 8, [.nilFunc]⟩ := rfl
theorem fit81 : FitsAt Try.prog 81 ti81 := fitsAt (z := (.int .u64 0)) (by kernel_rfl) Try.underlying81 rfl rfl (by intro h; cases h)
theorem tt81 : tt 81 = some ⟨.int .u64, 1, 8, [(.int .u64 0)]⟩ := rfl
theorem fit82 : FitsAt Try.prog 82 ti82 := fitsAt (z := .nilFunc) (by kernel_rfl) Try.underlying82 rfl rfl (by intro h; cases h)
theorem tt82 : tt 82 = some ⟨.other, 1, 8, [.nilFunc]⟩ := rfl
theorem fit83 : FitsAt Try.prog 83 ti83 := fitsAt (z := .nilFunc) (by kernel_rfl) Try.underlying83 rfl rfl (by intro h; cases h)
theorem tt83 : tt 83 = some ⟨.other, 1, 8, [.nilFunc]⟩ := rfl
theorem fit84 : FitsAt Try.prog 84 ti84 := fitsAt (z := .nilFunc) (by kernel_rfl) Try.underlying84 rfl rfl (by intro h; cases h)
theorem tt84 : tt 84 = some ⟨.other, 1, 8, [.nilFunc]⟩ := rfl
theorem fit85 : FitsAt Try.prog 85 ti85 := fitsAt (z := .nilFunc) (by kernel_rfl) Try.underlying85 rfl rfl (by intro h; cases h)
theorem tt85 : tt 85 = some ⟨.other, 1, 8, [.nilFunc]⟩ := rfl
theorem fit86 : FitsAt Try.prog 86 ti86 := fitsAt (z := .nilFunc) (by kernel_rfl) Try.underlying86 rfl rfl (by intro h; cases h)
theorem tt86 : tt 86 = some ⟨.other, 1, 8, [.nilFunc]⟩ := rfl
theorem fit87 : FitsAt Try.prog 87 ti87 := fitsAt (z := (.pointer none)) (by kernel_rfl) Try.underlying87 rfl rfl (by intro h; cases h)
theorem tt87 : tt 87 = some ⟨.other, 1, 8, [(.pointer none)]⟩ := rfl
theorem fit88 : FitsAt Try.prog 88 ti88 := fitsAt (z := .nilFunc) (by kernel_rfl) Try.underlying88 rfl rfl (by intro h; cases h)
theorem tt88 : tt 88 = some ⟨.other, 1, 8, [.nilFunc]⟩ := rfl
theorem fit89 : FitsAt Try.prog 89 ti89 := fitsAt (z := .nilFunc) (by kernel_rfl) Try.underlying89 rfl rfl (by intro h; cases h)
theorem tt89 : tt 89 = some ⟨.other, 1, 8, [.nilFunc]⟩ := rfl
theorem fit90 : FitsAt Try.prog 90 ti90 := fitsAt (z := .agg #[(.pointer none), (.pointer none), (.pointer none), (.string ⟨#[]⟩)]) (by kernel_rfl) Try.underlying90 rfl rfl (by intro h; cases h)
theorem tt90 : tt 90 = some ⟨.strct false [(0, 17), (1, 17), (2, 17), (3, 9)], 4, 40, [(.pointer none), (.pointer none), (.pointer none), (.string ⟨#[]⟩)]⟩ := rfl
theorem fit91 : FitsAt Try.prog 91 ti91 := fitsAt (z := .agg #[(.pointer none), (.pointer none), (.pointer none), (.string ⟨#[]⟩)]) (by kernel_rfl) Try.underlying91 rfl rfl (by intro h; cases h)
theorem tt91 : tt 91 = some ⟨.strct false [(0, 17), (1, 17), (2, 17), (3, 9)], 4, 40, [(.pointer none), (.pointer none), (.pointer none), (.string ⟨#[]⟩)]⟩ := rfl
theorem fit92 : FitsAt Try.prog 92 ti92 := fitsAt (z := .agg #[]) (by kernel_rfl) Try.underlying92 rfl rfl (by intro h; cases h)
theorem tt92 : tt 92 = some ⟨.arr false 0 16, 0, 0, []⟩ := rfl
theorem fit93 : FitsAt Try.prog 93 ti93 := fitsAt (z := .agg #[]) (by kernel_rfl) Try.underlying93 rfl rfl (by intro h; cases h)
theorem tt93 : tt 93 = some ⟨.strct false [(0, 92)], 0, 0, []⟩ := rfl
theorem fit94 : FitsAt Try.prog 94 ti94 := fitsAt (z := .agg #[]) (by kernel_rfl) Try.underlying94 rfl rfl (by intro h; cases h)
theorem tt94 : tt 94 = some ⟨.strct false [(0, 92)], 0, 0, []⟩ := rfl
theorem fit95 : FitsAt Try.prog 95 ti95 := fitsAt (z := .nilFunc) (by kernel_rfl) Try.underlying95 rfl rfl (by intro h; cases h)
theorem tt95 : tt 95 = some ⟨.other, 1, 8, [.nilFunc]⟩ := rfl
theorem fit96 : FitsAt Try.prog 96 ti96 := fitsAt (z := (.int .u32 0)) (by kernel_rfl) Try.underlying96 rfl rfl (by intro h; cases h)
theorem tt96 : tt 96 = some ⟨.int .u32, 1, 4, [(.int .u32 0)]⟩ := rfl
theorem fit97 : FitsAt Try.prog 97 ti97 := fitsAt (z := (.int .u8 0)) (by kernel_rfl) Try.underlying97 rfl rfl (by intro h; cases h)
theorem tt97 : tt 97 = some ⟨.int .u8, 1, 1, [(.int .u8 0)]⟩ := rfl
theorem fit98 : FitsAt Try.prog 98 ti98 := fitsAt (z := (.int .u8 0)) (by kernel_rfl) Try.underlying98 rfl rfl (by intro h; cases h)
theorem tt98 : tt 98 = some ⟨.int .u8, 1, 1, [(.int .u8 0)]⟩ := rfl
theorem fit99 : FitsAt Try.prog 99 ti99 := fitsAt (z := .nilFunc) (by kernel_rfl) Try.underlying99 rfl rfl (by intro h; cases h)
theorem tt99 : tt 99 = some ⟨.other, 1, 8, [.nilFunc]⟩ := rfl
theorem fit100 : FitsAt Try.prog 100 ti100 := fitsAt (z := (.pointer none)) (by kernel_rfl) Try.underlying100 rfl rfl (by intro h; cases h)
theorem tt100 : tt 100 = some ⟨.other, 1, 8, [(.pointer none)]⟩ := rfl
theorem fit101 : FitsAt Try.prog 101 ti101 := fitsAt (z := (.int .i32 0)) (by kernel_rfl) Try.underlying101 rfl rfl (by intro h; cases h)
theorem tt101 : tt 101 = some ⟨.int .i32, 1, 4, [(.int .i32 0)]⟩ := rfl
theorem fit102 : FitsAt Try.prog 102 ti102 := fitsAt (z := (.int .i32 0)) (by kernel_rfl) Try.underlying102 rfl rfl (by intro h; cases h)
theorem tt102 : tt 102 = some ⟨.int .i32, 1, 4, [(.int .i32 0)]⟩ := rfl
theorem fit103 : FitsAt Try.prog 103 ti103 := fitsAt (z := .agg #[(.int .u64 0), (.int .u64 0), (.int .u32 0), (.int .u8 0), (.int .u8 0), (.int .u8 0), (.int .u8 0), .nilFunc, (.pointer none), (.int .i32 0), (.int .i32 0)]) (by kernel_rfl) Try.underlying103 rfl rfl (by intro h; cases h)
theorem tt103 : tt 103 = some ⟨.strct false [(0, 12), (1, 12), (2, 96), (3, 97), (4, 5), (5, 5), (6, 98), (7, 99), (8, 100), (9, 101), (10, 102)], 11, 48, [(.int .u64 0), (.int .u64 0), (.int .u32 0), (.int .u8 0), (.int .u8 0), (.int .u8 0), (.int .u8 0), .nilFunc, (.pointer none), (.int .i32 0), (.int .i32 0)]⟩ := rfl
theorem fit104 : FitsAt Try.prog 104 ti104 := fitsAt (z := .agg #[(.int .u64 0), (.int .u64 0), (.int .u32 0), (.int .u8 0), (.int .u8 0), (.int .u8 0), (.int .u8 0), .nilFunc, (.pointer none), (.int .i32 0), (.int .i32 0)]) (by kernel_rfl) Try.underlying104 rfl rfl (by intro h; cases h)
theorem tt104 : tt 104 = some ⟨.strct false [(0, 12), (1, 12), (2, 96), (3, 97), (4, 5), (5, 5), (6, 98), (7, 99), (8, 100), (9, 101), (10, 102)], 11, 48, [(.int .u64 0), (.int .u64 0), (.int .u32 0), (.int .u8 0), (.int .u8 0), (.int .u8 0), (.int .u8 0), .nilFunc, (.pointer none), (.int .i32 0), (.int .i32 0)]⟩ := rfl
theorem fit105 : FitsAt Try.prog 105 ti105 := fitsAt (z := (.pointer none)) (by kernel_rfl) Try.underlying105 rfl rfl (by intro h; cases h)
theorem tt105 : tt 105 = some ⟨.other, 1, 8, [(.pointer none)]⟩ := rfl

theorem fits : Fits Try.prog tt := by
  intro t x h
  unfold tt at h
  split at h
  · cases h; exact fit1
  · cases h; exact fit2
  · cases h; exact fit3
  · cases h; exact fit4
  · cases h; exact fit5
  · cases h; exact fit6
  · cases h; exact fit7
  · cases h; exact fit8
  · cases h; exact fit9
  · cases h; exact fit10
  · cases h; exact fit11
  · cases h; exact fit12
  · cases h; exact fit13
  · cases h; exact fit14
  · cases h; exact fit15
  · cases h; exact fit16
  · cases h; exact fit17
  · cases h; exact fit18
  · cases h; exact fit19
  · cases h; exact fit20
  · cases h; exact fit21
  · cases h; exact fit22
  · cases h; exact fit23
  · cases h; exact fit24
  · cases h; exact fit25
  · cases h; exact fit27
  · cases h; exact fit29
  · cases h; exact fit30
  · cases h; exact fit31
  · cases h; exact fit32
  · cases h; exact fit33
  · cases h; exact fit35
  · cases h; exact fit37
  · cases h; exact fit39
  · cases h; exact fit41
  · cases h; exact fit42
  · cases h; exact fit43
  · cases h; exact fit44
  · cases h; exact fit46
  · cases h; exact fit47
  · cases h; exact fit48
  · cases h; exact fit49
  · cases h; exact fit50
  · cases h; exact fit51
  · cases h; exact fit53
  · cases h; exact fit54
  · cases h; exact fit56
  · cases h; exact fit57
  · cases h; exact fit58
  · cases h; exact fit59
  · cases h; exact fit60
  · cases h; exact fit61
  · cases h; exact fit62
  · cases h; exact fit63
  · cases h; exact fit64
  · cases h; exact fit65
  · cases h; exact fit66
  · cases h; exact fit67
  · cases h; exact fit68
  · cases h; exact fit70
  · cases h; exact fit71
  · cases h; exact fit72
  · cases h; exact fit73
  · cases h; exact fit74
  · cases h; exact fit75
  · cases h; exact fit76
  · cases h; exact fit77
  · cases h; exact fit78
  · cases h; exact fit79
  · cases h; exact fit80
  · cases h; exact fit81
  · cases h; exact fit82
  · cases h; exact fit83
  · cases h; exact fit84
  · cases h; exact fit85
  · cases h; exact fit86
  · cases h; exact fit87
  · cases h; exact fit88
  · cases h; exact fit89
  · cases h; exact fit90
  · cases h; exact fit91
  · cases h; exact fit92
  · cases h; exact fit93
  · cases h; exact fit94
  · cases h; exact fit95
  · cases h; exact fit96
  · cases h; exact fit97
  · cases h; exact fit98
  · cases h; exact fit99
  · cases h; exact fit100
  · cases h; exact fit101
  · cases h; exact fit102
  · cases h; exact fit103
  · cases h; exact fit104
  · cases h; exact fit105
  · cases h

theorem mixed : Try.prog.follows .mixedOrders = true := rfl

attribute [go_sem] tt1 tt2 tt3 tt4 tt5 tt6 tt7 tt8 tt9 tt10 tt11 tt12 tt13 tt14 tt15 tt16 tt17 tt18 tt19 tt20 tt21 tt22 tt23 tt24 tt25 tt27 tt29 tt30 tt31 tt32 tt33 tt35 tt37 tt39 tt41 tt42 tt43 tt44 tt46 tt47 tt48 tt49 tt50 tt51 tt53 tt54 tt56 tt57 tt58 tt59 tt60 tt61 tt62 tt63 tt64 tt65 tt66 tt67 tt68 tt70 tt71 tt72 tt73 tt74 tt75 tt76 tt77 tt78 tt79 tt80 tt81 tt82 tt83 tt84 tt85 tt86 tt87 tt88 tt89 tt90 tt91 tt92 tt93 tt94 tt95 tt96 tt97 tt98 tt99 tt100 tt101 tt102 tt103 tt104 tt105

end Go.Proofs.Ytjjhanfglelldaa
