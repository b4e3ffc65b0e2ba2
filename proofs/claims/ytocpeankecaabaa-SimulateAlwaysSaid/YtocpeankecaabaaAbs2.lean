/-
  The operations that write no owned object: their abstract values, and that these are right. No program is named.
-/
import Derived.Test.YtocpeankecaabaaAbs1
set_option linter.all false
namespace Go.Abs
open Go.RowKit

inductive TK where
  | int (k : IntKind)
  | bool
  | slice (e : TypeId)
  | arr (n : Nat) (e : TypeId)
  | strct (c : Bool) (fs : List (Nat × TypeId))
  | str
  | other

/-- What is used of a type. -/
structure TI where
  k : TK
  sz : Nat
  bytes : Nat
  zero : List Value

abbrev TT := TypeId → Option TI

def TK.of : TypeDesc → TK
  | .int k => .int k
  | .bool => .bool
  | .string => .str
  | .slice e => .slice e
  | .array n e => .arr n e
  | .struct fs => .strct false (fs.toList.map fun f => (f.offset, f.type))
  | _ => .other

def TK.plain : TK → TK
  | .strct _ fs => .strct false fs
  | k => k
/-- A struct whose fields are compared one by one. -/
def TK.cmp : TK → Bool
  | .strct c _ => c
  | _ => false
structure Cmp (P : Program) (t : TypeId) : Prop where
  stood : P.stoodInHeld t = false
  guard : P.eqGuardType P.depth t = false
  names : (P.fieldsOf t).toList.all (fun f => f.name != "_") = true

/-- The row of a type is the program's own. -/
def FitsAt (P : Program) (t : TypeId) (x : TI) : Prop :=
  (∃ i d z, P.info? t = some i ∧ P.underlying t = some d ∧ TK.of d = x.k.plain ∧ i.size = x.sz ∧ i.bytes = x.bytes ∧ i.zero = some z ∧ z.cells.toList = x.zero) ∧ (x.k.cmp = true → Cmp P t)

/-- The table is the program's own. -/
def Fits (P : Program) (tt : TT) : Prop := ∀ t x, tt t = some x → FitsAt P t x

def TK.agg : TK → Bool
  | .arr _ _ | .strct _ _ => true
  | _ => false

def InR : IntKind → Int → Prop
  | .i8, n => -128 ≤ n ∧ n ≤ 127
  | .i16, n => -32768 ≤ n ∧ n ≤ 32767
  | .i32, n => -2147483648 ≤ n ∧ n ≤ 2147483647
  | .i64, n => -9223372036854775808 ≤ n ∧ n ≤ 9223372036854775807
  | .u8, n => 0 ≤ n ∧ n ≤ 255
  | .u16, n => 0 ≤ n ∧ n ≤ 65535
  | .u32, n => 0 ≤ n ∧ n ≤ 4294967295
  | .u64, n => 0 ≤ n ∧ n ≤ 18446744073709551615

theorem InR.wrap {k : IntKind} {n : Int} (h : InR k n) : k.wrap n = n := by
  cases k <;> simp only [InR] at h <;> simp [IntKind.wrap, IntKind.bits, IntKind.signed] <;> omega

/-- The value behind guards, and that the guards held. -/
def AV.get : AV → AV
  | .cond _ a => a.get
  | a => a
def AV.need : AV → Prop
  | .cond c a => c = true ∧ a.need
  | _ => True

theorem V.get {w : World} {B : Nat} {σ τ : Tags} : ∀ {A : AV} {v : Value}, V w B σ A τ v → A.need → V w B σ A.get τ v := by
  intro A
  induction A with
  | cond c a ih =>
    intro v hv hn
    obtain ⟨hc, hn⟩ := hn
    unfold V VX at hv
    rw [if_pos hc] at hv
    exact ih hv hn
  | _ => intro v hv _; exact hv

def pickV (g : Bool) (A A' : AV) : AV := bif g then A else A'

theorem V_pickV {w : World} {B : Nat} {σ τ : Tags} {g : Bool} {A A' : AV} {u v : Value} (hu : g = true → V w B σ A τ u) (hv : g = false → V w B σ A' τ v) : V w B σ (pickV g A A') τ (if g = true then u else v) := by
  cases g
  · simpa [pickV] using hv rfl
  · simpa [pickV] using hu rfl

/-- Two integers. -/
def binI (op : BinOp) (k : IntKind) (a b : Int) : Option (Prop × AV) :=
  match op with
  | .add => some (InR k (a + b), .int k (a + b))
  | .sub => some (InR k (a - b), .int k (a - b))
  | .mul => some (InR k (a * b), .int k (a * b))
  | .quo => some (b ≠ 0 ∧ InR k (a.tdiv b), .int k (a.tdiv b))
  | .rem => some (b ≠ 0, .int k (a.tmod b))
  | .eql => some (True, .bool (decide (a = b)))
  | .neq => some (True, .bool (!decide (a = b)))
  | .lss => some (True, .bool (decide (a < b)))
  | .leq => some (True, .bool (decide (a ≤ b)))
  | .gtr => some (True, .bool (decide (b < a)))
  | .geq => some (True, .bool (decide (b ≤ a)))
  | _ => none

/-- Two structs, field by field. -/
def eqC (tt : TT) (cs cs' : Nat → AV) : List (Nat × TypeId) → Option Bool
  | [] => some true
  | (o, t) :: l =>
    match eqC tt cs cs' l with
    | some r =>
      match tt t, cs o, cs' o with
      | some ⟨.int _, _, _, _⟩, .int k a, .int k' b => if k = k' then some (decide (a = b) && r) else none
      | some ⟨.bool, _, _, _⟩, .bool a, .bool b => some ((a == b) && r)
      | _, _, _ => none
    | none => none

def binV (tt : TT) (op : BinOp) (t : TypeId) (x y : AV) : Option (Prop × AV) :=
  match x, y with
  | .int k a, .int k' b => if k = k' then binI op k a b else none
  | .bool a, .bool b =>
    match tt t, op with
    | some ⟨.bool, _, _, _⟩, .eql => some (True, .bool (a == b))
    | some ⟨.bool, _, _, _⟩, .neq => some (True, .bool (!(a == b)))
    | _, _ => none
  | .agg k cs, .agg k' cs' =>
    match tt t with
    | some ⟨.strct true fs, _, _, _⟩ =>
      match eqC tt cs cs' fs with
      | some r =>
        match op with
        | .eql => some (∀ p ∈ fs, p.1 < k ∧ p.1 < k', .bool r)
        | .neq => some (∀ p ∈ fs, p.1 < k ∧ p.1 < k', .bool (!r))
        | _ => none
      | none => none
    | _ => none
  | _, _ => none

def unV (op : UnOp) (x : AV) : Option (Prop × AV) :=
  match op, x with
  | .not, .bool b => some (True, .bool (!b))
  | .neg, .int k n => if k.signed = true then some (InR k (0 - n), .int k (0 - n)) else some (True, .int k (k.wrap (0 - n)))
  | _, _ => none

def convV (tt : TT) (src dst : TypeId) (x : AV) : Option (Prop × AV) :=
  match x, tt src, tt dst with
  | .int _ n, some ⟨.int _, _, _, _⟩, some ⟨.int k, _, _, _⟩ => if k.signed = true then some (InR k n, .int k n) else some (True, .int k (k.wrap n))
  | _, _, _ => none

def rowV (k : Nat) (agg : Bool) (sz n : Nat) (cs : Nat → Nat → AV) (i f : Nat) : Prop × AV :=
  match agg with
  | true => (i < n ∧ f + k ≤ sz, .agg k (fun j => cs i (f + j)))
  | false => (i < n ∧ f < sz, cs i f)

def loadV (tt : TT) (H : List AObj) (t : TypeId) (x : AV) : Option (Prop × AV) :=
  match tt t with
  | none => none
  | some ti =>
    match x with
    | .ptr tg sz i f =>
      match H[tg]? with
      | some o => let r := rowV ti.sz ti.k.agg sz o.n o.cs i f; some (o.sz = sz ∧ r.1, r.2)
      | none => none
    | .rptr sz n cs i f => some (rowV ti.sz ti.k.agg sz n cs i f)
    | _ => none

def faddrV (tt : TT) (s : TypeId) (x : AV) (f : Nat) : Option (Prop × AV) :=
  match tt s with
  | some ⟨.strct _ fs, _, _, _⟩ =>
    match fs[f]? with
    | some (off, ft) =>
      match tt ft with
      | some fi =>
        match x with
        | .ptr t sz i f0 => some (fi.sz ≠ 0, .ptr t sz i (f0 + off))
        | .rptr sz n cs i f0 => some (fi.sz ≠ 0, .rptr sz n cs i (f0 + off))
        | _ => none
      | none => none
    | none => none
  | _ => none

def partV (ti : TI) (k : Nat) (cs : Nat → AV) (off : Nat) : Prop × AV :=
  match ti.k.agg with
  | true => (off + ti.sz ≤ k, .agg ti.sz (fun j => cs (off + j)))
  | false => (off < k, cs off)

def fieldV (tt : TT) (s : TypeId) (x : AV) (f : Nat) : Option (Prop × AV) :=
  match tt s with
  | some ⟨.strct _ fs, _, _, _⟩ =>
    match fs[f]? with
    | some (off, ft) =>
      match tt ft, x with
      | some fi, .agg k cs => some (partV fi k cs off)
      | _, _ => none
    | none => none
  | _ => none

def iaddrV (tt : TT) (t : TypeId) (x ix : AV) : Option (Prop × AV) :=
  match tt t with
  | some ⟨.slice el, _, _, _⟩ =>
    match tt el with
    | some ei =>
      match x, ix with
      | .ro fr sz n cs, .int _ i => some (ei.sz = sz ∧ 0 ≤ i ∧ i < (n : Int), .rptr sz n cs i.toNat 0)
      | .own tg sz n, .int _ i => some (ei.sz = sz ∧ 0 ≤ i ∧ i < (n : Int), .ptr tg sz i.toNat 0)
      | .ownS tg sz off n, .int _ i => some (ei.sz = sz ∧ 0 ≤ i ∧ i < (n : Int), .ptr tg sz (off + i.toNat) 0)
      | _, _ => none
    | none => none
  | some ⟨.arr len el, _, _, _⟩ =>
    match tt el with
    | some ei =>
      match x, ix with
      | .ptr tg sz i0 f0, .int _ i => some (0 ≤ i ∧ i < (len : Int), .ptr tg sz i0 (f0 + i.toNat * ei.sz))
      | .rptr sz n cs i0 f0, .int _ i => some (0 ≤ i ∧ i < (len : Int), .rptr sz n cs i0 (f0 + i.toNat * ei.sz))
      | _, _ => none
    | none => none
  | _ => none

def indexV (tt : TT) (t : TypeId) (x ix : AV) : Option (Prop × AV) :=
  match tt t with
  | some ⟨.arr len el, _, _, _⟩ =>
    match tt el, x, ix with
    | some ei, .agg k cs, .int _ i => let r := partV ei k cs (i.toNat * ei.sz); some (0 ≤ i ∧ i < (len : Int) ∧ r.1, r.2)
    | _, _, _ => none
  | _ => none

def optI : Option AV → Option (Option Int)
  | none => some none
  | some (.int _ i) => some (some i)
  | some _ => none

def sliceV (tt : TT) (t : TypeId) (x : AV) (lo hi : Option AV) : Option (Prop × AV) :=
  match tt t with
  | some ⟨.slice el, _, _, _⟩ =>
    match tt el, optI lo, optI hi with
    | some ei, some l, some h =>
      match x with
      | .ro fr sz n cs => some (ei.sz = sz ∧ 0 ≤ l.getD 0 ∧ l.getD 0 ≤ h.getD n ∧ h.getD n ≤ n, .ro fr sz ((h.getD n).toNat - (l.getD 0).toNat) (fun i f => cs ((l.getD 0).toNat + i) f))
      | .own tg sz n => some (ei.sz = sz ∧ 0 ≤ l.getD 0 ∧ l.getD 0 ≤ h.getD n ∧ h.getD n ≤ n, .ownS tg sz (l.getD 0).toNat ((h.getD n).toNat - (l.getD 0).toNat))
      | .ownS tg sz off n => some (ei.sz = sz ∧ 0 ≤ l.getD 0 ∧ l.getD 0 ≤ h.getD n ∧ h.getD n ≤ n, .ownS tg sz (off + (l.getD 0).toNat) ((h.getD n).toNat - (l.getD 0).toNat))
      | _ => none
    | _, _, _ => none
  | _ => none

def lenV (tt : TT) (t : TypeId) (x : AV) : Option (Prop × AV) :=
  match tt t with
  | some ⟨.slice _, _, _, _⟩ =>
    match x with
    | .ro _ _ n _ => some (True, .int .i64 n)
    | .own _ _ n => some (True, .int .i64 n)
    | .ownS _ _ _ n => some (True, .int .i64 n)
    | .val (.slice _ n _) => some (True, .int .i64 n)
    | _ => none
  | some ⟨.arr n _, _, _, _⟩ => some (True, .int .i64 n)
  | _ => none

/-- One cell, whatever it holds. -/
def AV.scalar : AV → Bool
  | .int _ _ | .bool _ | .ro _ _ _ _ | .rptr _ _ _ _ _ | .own _ _ _ | .ownS _ _ _ _ | .ptr _ _ _ _ | .fn _ _ _ => true
  | .val v => v.oneCell'
  | _ => false

theorem V.scalar {w : World} {B : Nat} {σ τ : Tags} {A : AV} {v : Value} (hs : A.scalar = true) (h : V w B σ A τ v) : v.oneCell' = true := by
  cases A <;> simp only [AV.scalar, Bool.false_eq_true] at hs
  case int => simp only [V, VX] at h; subst h; rfl
  case bool => simp only [V, VX] at h; subst h; rfl
  case val => simp only [V, VX] at h; subst h; exact hs
  case ro => obtain ⟨a, c, rfl, _⟩ := h; rfl
  case rptr => obtain ⟨b, o, rfl, _⟩ := h; rfl
  case own => rcases h with ⟨_, rfl⟩ | ⟨g, c, cur, e, _, rfl, _⟩ <;> rfl
  case ownS => obtain ⟨a, c, rfl, _⟩ := h; rfl
  case ptr => obtain ⟨g, _, rfl⟩ := h; rfl
  case fn => obtain ⟨l, rfl, _⟩ := h; rfl

/-- A value that names no tag. -/
def AV.closedB : AV → Bool
  | .int _ _ | .bool _ | .ro _ _ _ _ | .rptr _ _ _ _ _ | .val _ | .any => true
  | _ => false

/-- The cells of a part of a struct, an array or a slice that is written out. -/
def putCells (L : List AV) (off sz : Nat) (A : AV) : Option (List AV) :=
  match A with
  | .agg k cs => if k = sz ∧ off + sz ≤ L.length then some ((List.range L.length).map fun j => if off ≤ j ∧ j < off + sz then cs (j - off) else L.getD j .any) else none
  | A => if A.scalar = true ∧ sz = 1 ∧ off < L.length then some (L.set off A) else none

def fillL (place : Nat → Option (Nat × Nat)) : List AV → List (Nat × AV) → Option (List AV)
  | L, [] => some L
  | L, (i, A) :: rest =>
    match place i with
    | some (off, sz) =>
      match putCells L off sz A with
      | some L' => fillL place L' rest
      | none => none
    | none => none

def placesL (tt : TT) : List (Nat × TypeId) → Option (List (Nat × Nat))
  | [] => some []
  | (off, ft) :: fs =>
    match tt ft, placesL tt fs with
    | some x, some l => some ((off, x.sz) :: l)
    | _, _ => none

def AV.zeroOk (L : List Value) : Bool := L.all (·.oneCell')

def needs (e : Operand → AV) (ps : List (Nat × Operand)) : Prop := ∀ p ∈ ps, (e p.2).need

def buildV (tt : TT) (t : TypeId) (ps : List (Nat × AV)) : Option (Prop × AV) :=
  match tt t with
  | some ⟨.strct _ fs, sz, _, z⟩ =>
    match placesL tt fs with
    | some pl =>
      match fillL (fun i => pl[i]?) (z.map ofC) ps with
      | some L => some (z.length = sz ∧ AV.zeroOk z = true, .agg sz (fun j => L.getD j .any))
      | none => none
    | none => none
  | some ⟨.arr _ el, sz, _, z⟩ =>
    match tt el with
    | some ei =>
      match fillL (fun i => some (i * ei.sz, ei.sz)) (z.map ofC) ps with
      | some L => some (z.length = sz ∧ AV.zeroOk z = true, .agg sz (fun j => L.getD j .any))
      | none => none
    | none => none
  | _ => none

def needO (e : Operand → AV) : Option Operand → Prop
  | some y => (e y).need
  | none => True

def both (e : Operand → AV) (x y : Operand) (r : Option (Prop × AV)) : Option (Prop × AV) :=
  match r with
  | some (C, A) => some ((e x).need ∧ (e y).need ∧ C, A)
  | none => none
def one (e : Operand → AV) (x : Operand) (r : Option (Prop × AV)) : Option (Prop × AV) :=
  match r with
  | some (C, A) => some ((e x).need ∧ C, A)
  | none => none

def pvO (tt : TT) (H : List AObj) (e : Operand → AV) : Op → Option (Prop × AV)
  | .move x => some (True, e x)
  | .assign x => some (True, e x)
  | .pick c a b =>
    match (e c).get with
    | .bool g => some ((e c).need ∧ (g = true → (e a).need) ∧ (g = false → (e b).need), pickV g (e a).get (e b).get)
    | _ => none
  | .binOp op t x y _ => both e x y (binV tt op t (e x).get (e y).get)
  | .unOp op _ x => one e x (unV op (e x).get)
  | .convert src dst x => one e x (convV tt src dst (e x).get)
  | .load t x => one e x (loadV tt H t (e x).get)
  | .fieldAddr s x f => one e x (faddrV tt s (e x).get f)
  | .field s x f => one e x (fieldV tt s (e x).get f)
  | .indexAddr t x ix => both e x ix (iaddrV tt t (e x).get (e ix).get)
  | .index t x ix => both e x ix (indexV tt t (e x).get (e ix).get)
  | .slice t x lo hi none =>
    match sliceV tt t (e x).get (lo.map fun y => (e y).get) (hi.map fun y => (e y).get) with
    | some (C, A) => some ((e x).need ∧ needO e lo ∧ needO e hi ∧ C, A)
    | none => none
  | .extract x ix =>
    match (e x).get with
    | .tup k cs => some ((e x).need ∧ ix < k, cs ix)
    | _ => none
  | .call ⟨.builtin .len, ⟨[x]⟩, ⟨[t]⟩⟩ => one e x (lenV tt t (e x).get)
  | .call ⟨.builtin .max, ⟨[x, y]⟩, _⟩ =>
    match (e x).get, (e y).get with
    | .int k a, .int _ b => some ((e x).need ∧ (e y).need, .int k (max a b))
    | _, _ => none
  | .call ⟨.builtin .min, ⟨[x, y]⟩, _⟩ =>
    match (e x).get, (e y).get with
    | .int k a, .int _ b => some ((e x).need ∧ (e y).need, .int k (min a b))
    | _, _ => none
  | .build t ps =>
    match buildV tt t (ps.toList.map fun p => (p.1, (e p.2).get)) with
    | some (C, A) => some (needs e ps.toList ∧ C, A)
    | none => none
  | .makeFunc (.func f) ⟨[]⟩ caps => some (True, .fn f caps.size (fun j => (caps.toList.map e).getD j .any))
  | .nilCheck x =>
    match (e x).get with
    | .ptr t sz i f => some ((e x).need, .ptr t sz i f)
    | .rptr sz n cs i f => some ((e x).need, .rptr sz n cs i f)
    | .fn f k cap => some ((e x).need, .fn f k cap)
    | _ => none
  | _ => none

end Go.Abs
