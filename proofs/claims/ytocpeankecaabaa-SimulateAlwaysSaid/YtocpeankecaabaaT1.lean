/-
  A typed pure machine: data are plain Lean values of types that are told by codes ('Ty'), what a function holds and owns is told by 'TS'. No program is named.
-/
import Derived.Test.YtocpeankecaabaaAbs16
import Derived.Test.YtocpeankecaabaaMo1
set_option linter.all false
namespace Go.T
open Go.Abs Go.M

mutual
inductive Ty where
  | int (k : IntKind)
  | bool
  | str
  | slice (t : Ty)
  | struct (l : TyL)
inductive TyL where
  | nil
  | cons (t : Ty) (l : TyL)
end

mutual
def Ty.den : Ty → Type
  | .int _ => Int
  | .bool => Bool
  | .str => ByteArray
  | .slice t => List t.den
  | .struct l => l.den
def TyL.den : TyL → Type
  | .nil => Unit
  | .cons t l => t.den × l.den
end

mutual
def Ty.dft : (t : Ty) → t.den
  | .int _ => (0 : Int)
  | .bool => false
  | .str => (⟨#[]⟩ : ByteArray)
  | .slice t => ([] : List t.den)
  | .struct l => l.dft
def TyL.dft : (l : TyL) → l.den
  | .nil => ()
  | .cons t l => (t.dft, l.dft)
end

mutual
def Ty.sz : Ty → Nat
  | .int _ => 1
  | .bool => 1
  | .str => 1
  | .slice _ => 1
  | .struct l => l.sz
def TyL.sz : TyL → Nat
  | .nil => 0
  | .cons t l => t.sz + l.sz
end

inductive TV where
  | any
  | int (k : IntKind) (n : Int)
  | bool (b : Bool)
  | val (v : Value)
  | sl (fr : Bool) (t : Ty) (xs : List t.den)
  | rptr (fr : Bool) (t : Ty) (xs : List t.den) (i : Int) (f : Nat)
  | own (t : Nat)
  | ownS (t off n : Nat)
  | ptr (t : Nat) (i : Int) (f : Nat)
  | fn (f : FuncId) (caps : List TV)
  | agg (cs : List TV)
  | tup (cs : List TV)
  | cond (c : Bool) (a : TV)

mutual
def Ty.cells (fr : Bool) : (t : Ty) → t.den → List TV
  | .int k, n => [.int k n]
  | .bool, b => [.bool b]
  | .str, s => [.val (.string s)]
  | .slice t, xs => [.sl fr t xs]
  | .struct l, x => l.cells fr x
def TyL.cells (fr : Bool) : (l : TyL) → l.den → List TV
  | .nil, _ => []
  | .cons t l, x => t.cells fr x.1 ++ l.cells fr x.2
end

mutual
def Ty.eq? : (a b : Ty) → Option (PLift (a = b))
  | .int k, .int k' => if h : k = k' then some ⟨congrArg Ty.int h⟩ else none
  | .bool, .bool => some ⟨rfl⟩
  | .str, .str => some ⟨rfl⟩
  | .slice a, .slice b => match a.eq? b with | some ⟨h⟩ => some ⟨congrArg Ty.slice h⟩ | none => none
  | .struct a, .struct b => match a.eq? b with | some ⟨h⟩ => some ⟨congrArg Ty.struct h⟩ | none => none
  | _, _ => none
def TyL.eq? : (a b : TyL) → Option (PLift (a = b))
  | .nil, .nil => some ⟨rfl⟩
  | .cons a l, .cons b m =>
    match a.eq? b with
    | some ⟨h⟩ => match l.eq? m with | some ⟨h'⟩ => some ⟨by rw [h, h']⟩ | none => none
    | none => none
  | _, _ => none
end

def castL {t u : Ty} (h : t = u) (xs : List t.den) : List u.den := h ▸ xs

def packS (t : Ty) : List TV → Option (List t.den × Bool × List TV)
  | .sl fr t' xs :: r => match Ty.eq? t' t with | some ⟨h⟩ => some (castL h xs, fr, r) | none => none
  | .val (.slice none 0 0) :: r => some ([], true, r)
  | _ => none

mutual
/-- A value out of its cells; whether all memory in it is new. -/
def Ty.pack : (t : Ty) → List TV → Option (t.den × Bool × List TV)
  | .int k, cs => match cs with | .int k' n :: r => if k = k' then some ((n : Int), true, r) else none | _ => none
  | .bool, cs => match cs with | .bool b :: r => some (b, true, r) | _ => none
  | .str, cs => match cs with | .val (.string s) :: r => some (s, true, r) | _ => none
  | .slice t, cs => packS t cs
  | .struct l, cs => l.pack cs
def TyL.pack : (l : TyL) → List TV → Option (l.den × Bool × List TV)
  | .nil, cs => some ((), true, cs)
  | .cons t l, cs =>
    match t.pack cs with
    | some (x, f, r) => match l.pack r with | some (y, g, r') => some ((x, y), f && g, r') | none => none
    | none => none
end

/-- Exactly one value. -/
def Ty.pack1 (t : Ty) (cs : List TV) : Option (t.den × Bool) :=
  match t.pack cs with
  | some (x, f, []) => some (x, f)
  | _ => none

def Ty.packN (t : Ty) : Nat → List TV → Option (List t.den × Bool)
  | 0, [] => some ([], true)
  | 0, _ => none
  | n + 1, cs =>
    match t.pack cs with
    | some (x, f, r) => match t.packN n r with | some (xs, g) => some (x :: xs, f && g) | none => none
    | none => none

/-- Owned objects: a row of data; a variable (its cells). -/
inductive TOb where
  | arr (ty : TypeId) (fr : Bool) (t : Ty) (xs : List t.den)
  | box (ty : TypeId) (cs : List TV)

structure TS where
  S : List (Nat × TV)
  H : List TOb

def getS : List (Nat × TV) → Nat → TV
  | [], _ => .any
  | (a, v) :: r, t => bif Nat.beq a t then v else getS r t

def TS.put (s : TS) (d : Option Tmp) (v : TV) : TS :=
  match d with
  | some d => ⟨(d, v) :: s.S, s.H⟩
  | none => s

def ofV : Value → TV
  | .int k n => .int k n
  | .bool b => .bool b
  | v => .val v

/-- The slot t of N. -/
def rd (N : Nat) (S : List (Nat × TV)) (t : Nat) : TV := bif Nat.blt t N then getS S t else .any

def evT (N : Nat) (S : List (Nat × TV)) : Operand → TV
  | .tmp t => rd N S t
  | .const v => ofV v
  | .func f => .fn f []
  | .global _ => .any

/-- The value behind guards, and the guards. -/
def TV.gt : TV → TV
  | .cond _ a => a.gt
  | a => a
def TV.nd : TV → List Bool
  | .cond c a => c :: a.nd
  | _ => []

def ckB {α : Type} (c : Bool) (m : Option α) : Option α := bif c then m else none
def ckL {α : Type} : List Bool → Option α → Option α
  | [], m => m
  | c :: l, m => ckB c (ckL l m)

def inR : IntKind → Int → Bool
  | .i8, n => decide (-128 ≤ n) && decide (n ≤ 127)
  | .i16, n => decide (-32768 ≤ n) && decide (n ≤ 32767)
  | .i32, n => decide (-2147483648 ≤ n) && decide (n ≤ 2147483647)
  | .i64, n => decide (-9223372036854775808 ≤ n) && decide (n ≤ 9223372036854775807)
  | .u8, n => decide (0 ≤ n) && decide (n ≤ 255)
  | .u16, n => decide (0 ≤ n) && decide (n ≤ 65535)
  | .u32, n => decide (0 ≤ n) && decide (n ≤ 4294967295)
  | .u64, n => decide (0 ≤ n) && decide (n ≤ 18446744073709551615)

/-- An index that is met. -/
def ix (i : Int) (n : Nat) : Bool := decide (0 ≤ i) && decide (i < (n : Int))
/-- Bounds of a part that are met. -/
def cut (l h : Int) (n : Nat) : Bool := decide (0 ≤ l) && decide (l ≤ h) && decide (h ≤ (n : Int))
/-- There is room for so many elements of so many bytes. -/
def room (n bytes : Nat) : Bool := decide (n ≤ 9223372036854775807) && decide (n * bytes ≤ 140737488355328)
def mkOk (l c : Int) (bytes : Nat) : Bool := decide (0 ≤ l) && decide (l ≤ c) && decide ((bytes : Int) * c ≤ 281474976710656) && decide (c ≤ 9223372036854775807)

def binIT (op : BinOp) (k : IntKind) (a b : Int) : Option (List Bool × TV) :=
  match op with
  | .add => some ([inR k (a + b)], .int k (a + b))
  | .sub => some ([inR k (a - b)], .int k (a - b))
  | .mul => some ([inR k (a * b)], .int k (a * b))
  | .quo => some ([!decide (b = 0), inR k (a.tdiv b)], .int k (a.tdiv b))
  | .rem => some ([!decide (b = 0)], .int k (a.tmod b))
  | .eql => some ([], .bool (decide (a = b)))
  | .neq => some ([], .bool (!decide (a = b)))
  | .lss => some ([], .bool (decide (a < b)))
  | .leq => some ([], .bool (decide (a ≤ b)))
  | .gtr => some ([], .bool (decide (b < a)))
  | .geq => some ([], .bool (decide (b ≤ a)))
  | _ => none

def eqT (tt : TT) (cs cs' : List TV) : List (Nat × TypeId) → Option Bool
  | [] => some true
  | (o, t) :: l =>
    match eqT tt cs cs' l with
    | some r =>
      match tt t, cs.getD o .any, cs'.getD o .any with
      | some ⟨.int _, _, _, _⟩, .int k a, .int k' b => if k = k' then some (decide (a = b) && r) else none
      | some ⟨.bool, _, _, _⟩, .bool a, .bool b => some ((a == b) && r)
      | _, _, _ => none
    | none => none

def offsIn (k : Nat) : List (Nat × TypeId) → Bool
  | [] => true
  | (o, _) :: l => Nat.blt o k && offsIn k l

def binT (tt : TT) (op : BinOp) (t : TypeId) (x y : TV) : Option (List Bool × TV) :=
  match x, y with
  | .int k a, .int k' b => if k = k' then binIT op k a b else none
  | .bool a, .bool b =>
    match tt t, op with
    | some ⟨.bool, _, _, _⟩, .eql => some ([], .bool (a == b))
    | some ⟨.bool, _, _, _⟩, .neq => some ([], .bool (!(a == b)))
    | _, _ => none
  | .agg cs, .agg cs' =>
    match tt t with
    | some ⟨.strct true fs, _, _, _⟩ =>
      match eqT tt cs cs' fs with
      | some r =>
        match op with
        | .eql => bif offsIn cs.length fs && offsIn cs'.length fs then some ([], .bool r) else none
        | .neq => bif offsIn cs.length fs && offsIn cs'.length fs then some ([], .bool (!r)) else none
        | _ => none
      | none => none
    | _ => none
  | _, _ => none

def unT (op : UnOp) (x : TV) : Option (List Bool × TV) :=
  match op, x with
  | .not, .bool b => some ([], .bool (!b))
  | .neg, .int k n => if k.signed = true then some ([inR k (0 - n)], .int k (0 - n)) else some ([], .int k (k.wrap (0 - n)))
  | _, _ => none

def convT (tt : TT) (src dst : TypeId) (x : TV) : Option (List Bool × TV) :=
  match x, tt src, tt dst with
  | .int _ n, some ⟨.int _, _, _, _⟩, some ⟨.int k, _, _, _⟩ => if k.signed = true then some ([inR k n], .int k n) else some ([], .int k (k.wrap n))
  | _, _, _ => none

/-- Part of a row's cells. -/
def partT (ti : TI) (cs : List TV) (f : Nat) : Option TV :=
  match ti.k.agg with
  | true => bif Nat.ble (f + ti.sz) cs.length then some (.agg ((cs.drop f).take ti.sz)) else none
  | false => bif Nat.blt f cs.length then some (cs.getD f .any) else none

def loadT (tt : TT) (H : List TOb) (t : TypeId) (x : TV) : Option (List Bool × TV) :=
  match tt t with
  | none => none
  | some ti =>
    match x with
    | .ptr tg i f =>
      match H[tg]? with
      | some (.arr _ fr u xs) => match partT ti (u.cells fr (xs.getD i.toNat u.dft)) f with | some v => some ([ix i xs.length], v) | none => none
      | some (.box _ cs) => match i with
        | .ofNat 0 => match partT ti cs f with | some v => some ([], v) | none => none
        | _ => none
      | none => none
    | .rptr fr u xs i f => match partT ti (u.cells fr (xs.getD i.toNat u.dft)) f with | some v => some ([ix i xs.length], v) | none => none
    | _ => none

def faddrT (tt : TT) (s : TypeId) (x : TV) (f : Nat) : Option (List Bool × TV) :=
  match tt s with
  | some ⟨.strct _ fs, _, _, _⟩ =>
    match fs[f]? with
    | some (off, ft) =>
      match tt ft with
      | some fi =>
        match x with
        | .ptr t i f0 => bif Nat.beq fi.sz 0 then none else some ([], .ptr t i (f0 + off))
        | .rptr fr u xs i f0 => bif Nat.beq fi.sz 0 then none else some ([], .rptr fr u xs i (f0 + off))
        | _ => none
      | none => none
    | none => none
  | _ => none

def fieldT (tt : TT) (s : TypeId) (x : TV) (f : Nat) : Option (List Bool × TV) :=
  match tt s with
  | some ⟨.strct _ fs, _, _, _⟩ =>
    match fs[f]? with
    | some (off, ft) =>
      match tt ft, x with
      | some fi, .agg cs => match partT fi cs off with | some v => some ([], v) | none => none
      | _, _ => none
    | none => none
  | _ => none

def iaddrT (tt : TT) (H : List TOb) (t : TypeId) (x y : TV) : Option (List Bool × TV) :=
  match tt t with
  | some ⟨.slice el, _, _, _⟩ =>
    match tt el with
    | some ei =>
      match x, y with
      | .sl fr u xs, .int _ i => bif Nat.beq ei.sz u.sz then some ([ix i xs.length], .rptr fr u xs i 0) else none
      | .own tg, .int _ i =>
        match H[tg]? with
        | some (.arr _ _ u xs) => bif Nat.beq ei.sz u.sz then some ([ix i xs.length], .ptr tg i 0) else none
        | _ => none
      | .ownS tg off n, .int _ i =>
        match H[tg]? with
        | some (.arr _ _ u _) => bif Nat.beq ei.sz u.sz then some ([ix i n, decide (0 ≤ i)], .ptr tg (off + i) 0) else none
        | _ => none
      | _, _ => none
    | none => none
  | some ⟨.arr len el, _, _, _⟩ =>
    match tt el with
    | some ei =>
      match x, y with
      | .ptr tg i0 f0, .int _ (.ofNat i) => bif Nat.blt i len then some ([], .ptr tg i0 (f0 + i * ei.sz)) else none
      | .rptr fr u xs i0 f0, .int _ (.ofNat i) => bif Nat.blt i len then some ([], .rptr fr u xs i0 (f0 + i * ei.sz)) else none
      | _, _ => none
    | none => none
  | _ => none

def indexT (tt : TT) (t : TypeId) (x y : TV) : Option (List Bool × TV) :=
  match tt t with
  | some ⟨.arr len el, _, _, _⟩ =>
    match tt el, x, y with
    | some ei, .agg cs, .int _ (.ofNat i) => bif Nat.blt i len then (match partT ei cs (i * ei.sz) with | some v => some ([], v) | none => none) else none
    | _, _, _ => none
  | _ => none

def lenO (H : List TOb) (t : Nat) : Option Nat :=
  match H[t]? with
  | some (.arr _ _ _ xs) => some xs.length
  | _ => none

def optT : Option TV → Option (Option Int)
  | none => some none
  | some (.int _ i) => some (some i)
  | some _ => none

def sliceT (tt : TT) (H : List TOb) (t : TypeId) (x : TV) (lo hi : Option TV) : Option (List Bool × TV) :=
  match tt t with
  | some ⟨.slice el, _, _, _⟩ =>
    match tt el, optT lo, optT hi with
    | some ei, some l, some h =>
      match x with
      | .sl fr u xs =>
        bif Nat.beq ei.sz u.sz then
          match l, h with
          | none, none => some ([], .sl fr u xs)
          | none, some h => some ([cut 0 h xs.length], .sl fr u (xs.take h.toNat))
          | some l, none => some ([cut l xs.length xs.length], .sl fr u (xs.drop l.toNat))
          | some l, some h => some ([cut l h xs.length], .sl fr u ((xs.take h.toNat).drop l.toNat))
        else none
      | .own tg =>
        match H[tg]? with
        | some (.arr _ _ u xs) => bif Nat.beq ei.sz u.sz then some ([cut (l.getD 0) (h.getD xs.length) xs.length], .ownS tg (l.getD 0).toNat ((h.getD xs.length).toNat - (l.getD 0).toNat)) else none
        | _ => none
      | .ownS tg off n =>
        match H[tg]? with
        | some (.arr _ _ u _) => bif Nat.beq ei.sz u.sz then some ([cut (l.getD 0) (h.getD n) n], .ownS tg (off + (l.getD 0).toNat) ((h.getD n).toNat - (l.getD 0).toNat)) else none
        | _ => none
      | _ => none
    | _, _, _ => none
  | _ => none

def lenT (tt : TT) (H : List TOb) (t : TypeId) (x : TV) : Option (List Bool × TV) :=
  match tt t with
  | some ⟨.slice _, _, _, _⟩ =>
    match x with
    | .sl _ _ xs => some ([], .int .i64 xs.length)
    | .own tg => match lenO H tg with | some n => some ([], .int .i64 n) | none => none
    | .ownS _ _ n => some ([], .int .i64 n)
    | .val (.slice none 0 0) => some ([], .int .i64 0)
    | _ => none
  | some ⟨.arr n _, _, _, _⟩ => some ([], .int .i64 n)
  | _ => none

def pickT (g : Bool) : TV → TV → TV
  | .bool x, .bool y => .bool (bif g then x else y)
  | .int k x, .int k' y => if k = k' then .int k (bif g then x else y) else .any
  | a, b => bif g then a else b

def TV.scalar : TV → Bool
  | .int _ _ | .bool _ | .sl _ _ _ | .rptr _ _ _ _ _ | .fn _ _ => true
  | .val v => v.oneCell'
  | _ => false
/-- Owned things are one cell too, if they are there. -/
def TV.scalarH (H : List TOb) : TV → Bool
  | .own t => (lenO H t).isSome
  | .ownS t _ _ => (lenO H t).isSome
  | .ptr t _ _ => match H[t]? with | some _ => true | none => false
  | v => v.scalar

/-- The cells of a value, if it has so many. -/
def cellsT (H : List TOb) (sz : Nat) : TV → Option (List TV)
  | .agg cs => bif Nat.beq cs.length sz then some cs else none
  | v => bif Nat.beq sz 1 && v.scalarH H then some [v] else none

def putL (L : List TV) (off : Nat) (cs : List TV) : Option (List TV) :=
  bif Nat.ble (off + cs.length) L.length then some (L.take off ++ (cs ++ L.drop (off + cs.length))) else none

def fillT (H : List TOb) (place : Nat → Option (Nat × Nat)) : List TV → List (Nat × TV) → Option (List TV)
  | L, [] => some L
  | L, (i, v) :: rest =>
    match place i with
    | some (off, sz) =>
      match cellsT H sz v with
      | some cs =>
        match putL L off cs with
        | some L' => fillT H place L' rest
        | none => none
      | none => none
    | none => none

def buildT (tt : TT) (H : List TOb) (t : TypeId) (ps : List (Nat × TV)) : Option TV :=
  match tt t with
  | some ⟨.strct _ fs, sz, _, z⟩ =>
    match placesL tt fs with
    | some pl => bif Nat.beq z.length sz && AV.zeroOk z then (match fillT H (fun i => pl[i]?) (z.map ofV) ps with | some L => some (.agg L) | none => none) else none
    | none => none
  | some ⟨.arr _ el, sz, _, z⟩ =>
    match tt el with
    | some ei => bif Nat.beq z.length sz && AV.zeroOk z then (match fillT H (fun i => some (i * ei.sz, ei.sz)) (z.map ofV) ps with | some L => some (.agg L) | none => none) else none
    | none => none
  | _ => none

def with1 (x : TV) (r : Option (List Bool × TV)) : Option (List Bool × TV) :=
  match r with
  | some (cs, v) => some (x.nd ++ cs, v)
  | none => none
def with2 (x y : TV) (r : Option (List Bool × TV)) : Option (List Bool × TV) :=
  match r with
  | some (cs, v) => some (x.nd ++ (y.nd ++ cs), v)
  | none => none

def ndO (e : Operand → TV) : Option Operand → List Bool
  | some y => (e y).nd
  | none => []
def nds (e : Operand → TV) : List Operand → List Bool
  | [] => []
  | x :: l => (e x).nd ++ nds e l

def pvT (tt : TT) (H : List TOb) (e : Operand → TV) : Op → Option (List Bool × TV)
  | .move x => some ([], e x)
  | .assign x => some ([], e x)
  | .pick c a b =>
    match (e c).gt with
    | .bool g => some ((e c).nd ++ ((e a).nd.map (fun z => !g || z) ++ (e b).nd.map (fun z => g || z)), pickT g (e a).gt (e b).gt)
    | _ => none
  | .binOp op t x y _ => with2 (e x) (e y) (binT tt op t (e x).gt (e y).gt)
  | .unOp op _ x => with1 (e x) (unT op (e x).gt)
  | .convert src dst x => with1 (e x) (convT tt src dst (e x).gt)
  | .load t x => with1 (e x) (loadT tt H t (e x).gt)
  | .fieldAddr s x f => with1 (e x) (faddrT tt s (e x).gt f)
  | .field s x f => with1 (e x) (fieldT tt s (e x).gt f)
  | .indexAddr t x y => with2 (e x) (e y) (iaddrT tt H t (e x).gt (e y).gt)
  | .index t x y => with2 (e x) (e y) (indexT tt t (e x).gt (e y).gt)
  | .slice t x lo hi none =>
    match sliceT tt H t (e x).gt (lo.map fun y => (e y).gt) (hi.map fun y => (e y).gt) with
    | some (cs, v) => some ((e x).nd ++ (ndO e lo ++ (ndO e hi ++ cs)), v)
    | none => none
  | .extract x i =>
    match (e x).gt with
    | .tup cs => bif Nat.blt i cs.length then some ((e x).nd, cs.getD i .any) else none
    | _ => none
  | .call ⟨.builtin .len, ⟨[x]⟩, ⟨[t]⟩⟩ => with1 (e x) (lenT tt H t (e x).gt)
  | .call ⟨.builtin .max, ⟨[x, y]⟩, _⟩ =>
    match (e x).gt, (e y).gt with
    | .int k a, .int _ b => some ((e x).nd ++ (e y).nd, .int k (max a b))
    | _, _ => none
  | .call ⟨.builtin .min, ⟨[x, y]⟩, _⟩ =>
    match (e x).gt, (e y).gt with
    | .int k a, .int _ b => some ((e x).nd ++ (e y).nd, .int k (min a b))
    | _, _ => none
  | .build t ps =>
    match buildT tt H t (ps.toList.map fun p => (p.1, (e p.2).gt)) with
    | some v => some (nds e (ps.toList.map (·.2)), v)
    | none => none
  | .makeFunc (.func f) ⟨[]⟩ caps => some ([], .fn f (caps.toList.map e))
  | .nilCheck x =>
    match (e x).gt with
    | .ptr t i f => some ((e x).nd, .ptr t i f)
    | .rptr fr u xs i f => some ((e x).nd, .rptr fr u xs i f)
    | .fn f caps => some ((e x).nd, .fn f caps)
    | _ => none
  | _ => none

end Go.T
