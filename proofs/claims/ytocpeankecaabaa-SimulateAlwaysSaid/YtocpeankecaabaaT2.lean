/-
  The typed machine: operations that make or write owned objects, calls, regions, code ('den'). No program is named.
-/
import Derived.Test.YtocpeankecaabaaT1
set_option linter.all false
namespace Go.T
open Go.Abs Go.M

def tyFs (f : TypeId → Option Ty) : List (Nat × TypeId) → Option TyL
  | [] => some .nil
  | (_, t) :: l =>
    match f t with
    | some a => match tyFs f l with | some b => some (.cons a b) | none => none
    | none => none
def repL (t : Ty) : Nat → TyL
  | 0 => .nil
  | n + 1 => .cons t (repL t n)
/-- The code of a type. -/
def tyF (tt : TT) : Nat → TypeId → Option Ty
  | 0, _ => none
  | n + 1, t =>
    match tt t with
    | some ⟨.int k, _, _, _⟩ => some (.int k)
    | some ⟨.bool, _, _, _⟩ => some .bool
    | some ⟨.slice e, _, _, _⟩ => match tyF tt n e with | some x => some (.slice x) | none => none
    | some ⟨.strct _ fs, _, _, _⟩ => match tyFs (tyF tt n) fs with | some x => some (.struct x) | none => none
    | some ⟨.arr k e, _, _, _⟩ => match tyF tt n e with | some x => some (.struct (repL x k)) | none => none
    | some ⟨.str, _, _, _⟩ => some .str
    | _ => none
abbrev tyOf (tt : TT) (t : TypeId) : Option Ty := tyF tt 12 t

/-- The zero cells are those of the default. -/
def zeroB : List TV → List Value → Bool
  | [], [] => true
  | .int k n :: l, .int k' m :: l' => decide (k = k') && decide (n = m) && zeroB l l'
  | .bool b :: l, .bool b' :: l' => (b == b') && zeroB l l'
  | .val (.string ⟨⟨[]⟩⟩) :: l, .string ⟨⟨[]⟩⟩ :: l' => zeroB l l'
  | .sl _ _ [] :: l, .slice none 0 0 :: l' => zeroB l l'
  | _, _ => false

/-- The code of an element's type, its table's row, checked. -/
def elT (tt : TT) (el : TypeId) : Option (Ty × TI) :=
  match tt el, tyOf tt el with
  | some ei, some u => bif Nat.beq u.sz ei.sz && Nat.blt 0 ei.sz && Nat.beq ei.zero.length ei.sz && AV.zeroOk ei.zero && zeroB (u.cells true u.dft) ei.zero then some (u, ei) else none
  | _, _ => none

mutual
def killT (t : Nat) : TV → TV
  | .own t' => bif Nat.beq t' t then .any else .own t'
  | .ownS t' off n => bif Nat.beq t' t then .any else .ownS t' off n
  | .ptr t' i f => bif Nat.beq t' t then .any else .ptr t' i f
  | .fn f cs => .fn f (killTL t cs)
  | .agg cs => .agg (killTL t cs)
  | .tup cs => .tup (killTL t cs)
  | .cond c a => .cond c (killT t a)
  | v => v
def killTL (t : Nat) : List TV → List TV
  | [] => []
  | v :: l => killT t v :: killTL t l
end
def killS (t : Nat) : List (Nat × TV) → List (Nat × TV)
  | [] => []
  | (a, v) :: l => (a, killT t v) :: killS t l
def killH (t : Nat) : List TOb → List TOb
  | [] => []
  | .box ty cs :: l => .box ty (killTL t cs) :: killH t l
  | .arr ty fr u xs :: l => .arr ty fr u xs :: killH t l

/-- What is handed on without tags. -/
def frz0 (H : List TOb) : TV → TV
  | .ptr _ _ _ => .any
  | .fn _ _ => .any
  | .agg _ => .any
  | .tup _ => .any
  | .cond _ _ => .any
  | .ownS _ _ _ => .any
  | .own t => match H[t]? with | some (.arr _ fr u xs) => .sl fr u xs | _ => .any
  | v => v
def frz0L (H : List TOb) : List TV → List TV
  | [] => []
  | v :: l => frz0 H v :: frz0L H l
mutual
def frz (tt : TT) (H : List TOb) : TV → TV
  | .own t => match H[t]? with | some (.arr _ fr u xs) => .sl fr u xs | _ => .any
  | .ownS _ _ _ => .any
  | .ptr t i f =>
    match H[t]? with
    | some (.arr _ fr u xs) => .rptr fr u xs i f
    | some (.box ty cs) =>
      match tyOf tt ty with
      | some u => match u.pack1 (frz0L H cs) with | some (x, fr) => .rptr fr u [x] i f | none => .any
      | none => .any
    | none => .any
  | .fn f cs => .fn f (frzL tt H cs)
  | .agg cs => .agg (frzL tt H cs)
  | .tup cs => .tup (frzL tt H cs)
  | .cond _ _ => .any
  | v => v
def frzL (tt : TT) (H : List TOb) : List TV → List TV
  | [] => []
  | v :: l => frz tt H v :: frzL tt H l
end

/-- The same of an argument: a part of an owned row is handed on too. -/
def frzA (tt : TT) (H : List TOb) : TV → TV
  | .ownS t off n => match H[t]? with | some (.arr _ fr u xs) => .sl fr u ((xs.drop off).take n) | _ => .any
  | v => frz tt H v
def frzAL (tt : TT) (H : List TOb) : List TV → List TV
  | [] => []
  | v :: l => frzA tt H v :: frzAL tt H l
def frzC (H : List TOb) : List TV → List Bool
  | [] => []
  | .ownS t off n :: l => (match H[t]? with | some (.arr _ _ _ xs) => decide (off + n ≤ xs.length) | _ => true) :: frzC H l
  | _ :: l => frzC H l

/-- What a function computes. -/
structure Mdl where
  A : Type
  B : Type
  dec : List TV → Option A
  m : A → Option B
  dflt : B
  res : B → TV

/-- What a statement computes. -/
structure Summ (Rf : Type) where
  A : Type
  O : Type
  dec : TS → Option A
  m : A → Option O
  cont : {R : Type} → A → O → (TS → Option R) → (Nat → TS → Option R) → (Rf → Option R) → Option R

structure Ctx (Rf : Type) where
  N : Nat
  tt : TT
  Γ : FuncId → List Mdl
  Λ : Nat → Option (Summ Rf)
  res : TS → Option Rf

def grd {β : Type} (g : Bool) (m : Option β) (d : β) : Option β := bif g then m else some d

def callM {R : Type} (l : List Mdl) (args : List TV) (k : TV → Option R) : Option R :=
  match l with
  | [] => none
  | M :: r => match M.dec args with | some a => bnd (M.m a) (fun b => k (M.res b)) | none => callM r args k
def callG {R : Type} (g : Bool) (l : List Mdl) (args : List TV) (k : TV → Option R) : Option R :=
  match l with
  | [] => none
  | M :: r => match M.dec args with | some a => bnd (grd g (M.m a) M.dflt) (fun b => k (.cond g (M.res b))) | none => callG g r args k

def srcT (H : List TOb) : TV → Option (Bool × (u : Ty) × List u.den)
  | .sl fr u xs => some (fr, ⟨u, xs⟩)
  | .own t => match H[t]? with | some (.arr _ fr u xs) => some (fr, ⟨u, xs⟩) | _ => none
  | _ => none
/-- There is something to append. -/
def neC {α : Type} : List α → List Bool
  | [] => [false]
  | _ :: _ => []

section
variable {R Rf : Type}

def killO1 (t : Nat) : TOb → TOb
  | .box ty cs => .box ty (killTL t cs)
  | .arr ty fr u xs => .arr ty fr u xs
/-- A new object; nothing named its tag. -/
def TS.push (s : TS) (o : TOb) : TS := ⟨killS s.H.length s.S, killH s.H.length s.H ++ [killO1 s.H.length o]⟩

def effT (X : Ctx Rf) (o : Oper) (s : TS) (k : TS → Option R) : Option R :=
  match o.op with
  | .alloc t =>
    match X.tt t with
    | some x => bif Nat.beq x.zero.length x.sz && AV.zeroOk x.zero then k ((s.push (.box t (x.zero.map ofV))).put o.dst (.ptr s.H.length (.ofNat 0) 0)) else none
    | none => none
  | .box t x =>
    match X.tt t with
    | some ti => match cellsT s.H ti.sz (evT X.N s.S x).gt with
      | some cs => ckL (evT X.N s.S x).nd (k ((s.push (.box t cs)).put o.dst (.ptr s.H.length (.ofNat 0) 0)))
      | none => none
    | none => none
  | .store t p x =>
    match X.tt t with
    | some ti =>
      match (evT X.N s.S p).gt with
      | .ptr tg i f =>
        match cellsT s.H ti.sz (evT X.N s.S x).gt with
        | some new =>
          match s.H[tg]? with
          | some (.box ty cs) =>
            match i with
            | .ofNat 0 => match putL cs f new with
              | some cs' => ckL ((evT X.N s.S p).nd ++ (evT X.N s.S x).nd) (k ((TS.mk s.S (s.H.set tg (.box ty cs'))).put o.dst .any))
              | none => none
            | _ => none
          | some (.arr ty fr u xs) =>
            match putL (u.cells fr (xs.getD i.toNat u.dft)) f new with
            | some cs' =>
              match u.pack1 cs' with
              | some (x', g) => ckL ((evT X.N s.S p).nd ++ ((evT X.N s.S x).nd ++ [ix i xs.length])) (k ((TS.mk s.S (s.H.set tg (.arr ty (fr && g) u (xs.set i.toNat x')))).put o.dst .any))
              | none => none
            | none => none
          | none => none
        | none => none
      | _ => none
    | none => none
  | .makeSlice t l c =>
    match X.tt t with
    | some ⟨.slice el, _, _, _⟩ =>
      match elT X.tt el with
      | some (u, ei) =>
        match (evT X.N s.S l).gt, (evT X.N s.S c).gt with
        | .int _ lv, .int _ cv => ckL ((evT X.N s.S l).nd ++ ((evT X.N s.S c).nd ++ [mkOk lv cv ei.bytes])) (k ((s.push (.arr el true u (List.replicate lv.toNat u.dft))).put o.dst (.own s.H.length)))
        | _, _ => none
      | none => none
    | _ => none
  | .buildSlice t len ps =>
    match X.tt t with
    | some ⟨.slice el, _, _, _⟩ =>
      match elT X.tt el with
      | some (u, ei) =>
        match fillT s.H (fun i => some (i * ei.sz, ei.sz)) ((List.range (len * ei.sz)).map fun j => ofV (ei.zero.getD (j % ei.sz) undef)) (ps.toList.map fun p => (p.1, (evT X.N s.S p.2).gt)) with
        | some L => match u.packN len L with
          | some (xs, fr) => bif Nat.ble (len * ei.sz) 16777216 then ckL (nds (evT X.N s.S) (ps.toList.map (·.2))) (k ((s.push (.arr el fr u xs)).put o.dst (.own s.H.length))) else none
          | none => none
        | none => none
      | none => none
    | _ => none
  | .call ⟨.builtin .append, ⟨[d, x]⟩, ⟨[t, t']⟩⟩ =>
    bif Nat.beq t t' then
    match X.tt t with
    | some ⟨.slice el, _, _, _⟩ =>
      match elT X.tt el, srcT s.H (evT X.N s.S x).gt with
      | some (u, ei), some (fr', ⟨u', ys⟩) =>
        match u'.eq? u with
        | some ⟨h⟩ =>
          match (evT X.N s.S d).gt with
          | .own tg =>
            match s.H[tg]? with
            | some (.arr ty fr u2 xs) =>
              match u.eq? u2 with
              | some ⟨h2⟩ => bif Nat.beq ty el then
                  ckL ((evT X.N s.S d).nd ++ ((evT X.N s.S x).nd ++ (neC ys ++ [room (xs.length + ys.length) ei.bytes])))
                    (k ((TS.mk (killS tg s.S) ((killH tg s.H).set tg (.arr ty (fr && fr') u2 (xs ++ castL h2 (castL h ys))))).put o.dst (.own tg))) else none
              | none => none
            | _ => none
          | .val (.slice none 0 0) =>
            ckL ((evT X.N s.S d).nd ++ ((evT X.N s.S x).nd ++ (neC ys ++ [room ys.length ei.bytes]))) (k ((s.push (.arr el fr' u (castL h ys))).put o.dst (.own s.H.length)))
          | _ => none
        | none => none
      | _, _ => none
    | _ => none else none
  | .call ⟨.value f, args, _⟩ =>
    match (evT X.N s.S f).gt with
    | .fn fid caps => ckL ((evT X.N s.S f).nd ++ (nds (evT X.N s.S) args.toList ++ frzC s.H (args.toList.map fun x => (evT X.N s.S x).gt))) (callM (X.Γ fid) (frzAL X.tt s.H (args.toList.map fun x => (evT X.N s.S x).gt) ++ frzL X.tt s.H caps) (fun v => k (s.put o.dst v)))
    | _ => none
  | _ => none

def dstAt : List Oper → Nat → Option Tmp
  | [], _ => none
  | o :: _, 0 => o.dst
  | _ :: l, n + 1 => dstAt l n

/-- What was not carried out has no value. -/
abbrev TV.undef : TV := .cond false (.bool false)

/-- The slot of a guard, and what it holds (none: nothing). -/
def guardT (N : Nat) (ops : List Oper) (S : List (Nat × TV)) (j : Nat) : Option (Tmp × Option Bool) :=
  match dstAt ops j with
  | some d => match rd N S d with | .bool b => some (d, some b) | .cond false (.bool false) => some (d, none) | _ => none
  | none => none

/-- A pure operation, or a call that leaves nothing behind: its value. -/
def valT (X : Ctx Rf) (o : Oper) (H : List TOb) (S : List (Nat × TV)) (k : TV → Option R) : Option R :=
  match pvT X.tt H (evT X.N S) o.op with
  | some (cs, v) => ckL cs (k v)
  | none =>
    match o.op with
    | .call ⟨.value f, args, _⟩ =>
      match (evT X.N S f).gt with
      | .fn fid caps => ckL ((evT X.N S f).nd ++ (nds (evT X.N S) args.toList ++ frzC H (args.toList.map fun x => (evT X.N S x).gt))) (callM (X.Γ fid) (frzAL X.tt H (args.toList.map fun x => (evT X.N S x).gt) ++ frzL X.tt H caps) k)
      | _ => none
    | _ => none

/-- A guarded operation: behind it the guard is known. -/
def grdT (N : Nat) (all : List Oper) (g : Nat × Bool) (S : List (Nat × TV)) (run skip : List (Nat × TV) → Option R) : Option R :=
  match guardT N all S g.1 with
  | some (_, none) => skip S
  | some (d, some b) =>
    match g.2 with
    | true => bif b then run ((d, .bool true) :: S) else skip ((d, .bool false) :: S)
    | false => bif b then skip ((d, .bool true) :: S) else run ((d, .bool false) :: S)
  | none => none

def opT (X : Ctx Rf) (o : Oper) (s : TS) (k : TS → Option R) : Option R :=
  match pvT X.tt s.H (evT X.N s.S) o.op with
  | some (cs, v) => ckL cs (k (s.put o.dst v))
  | none => effT X o s k

def stepT (X : Ctx Rf) (all : List Oper) (o : Oper) (s : TS) (k : TS → Option R) : Option R :=
  match o.guard with
  | none => opT X o s k
  | some g => grdT X.N all g s.S (fun S => opT X o ⟨S, s.H⟩ k) (fun S => k ((TS.mk S s.H).put o.dst .undef))

def runT (X : Ctx Rf) (all : List Oper) : List Oper → TS → (TS → Option R) → Option R
  | [], s, k => k s
  | o :: rest, s, k => stepT X all o s (fun s' => runT X all rest s' k)

def dataL : List TV → Bool
  | [] => true
  | .int _ _ :: l => dataL l
  | .bool _ :: l => dataL l
  | .val _ :: l => dataL l
  | .sl _ _ _ :: l => dataL l
  | _ => false

/-- One operation of a region that draws. -/
def stepD (X : Ctx Rf) (all : List Oper) (o : Oper) (H : List TOb) (S : List (Nat × TV)) (k : List (Nat × TV) → TV → Option R) : Option R :=
  match o.guard with
  | none =>
    match o.op with
    | .buildSlice t len ps =>
      match X.tt t with
      | some ⟨.slice el, _, _, _⟩ =>
        match elT X.tt el with
        | some (u, ei) =>
          match fillT [] (fun i => some (i * ei.sz, ei.sz)) ((List.range (len * ei.sz)).map fun j => ofV (ei.zero.getD (j % ei.sz) undef)) (ps.toList.map fun p => (p.1, (evT X.N S p.2).gt)) with
          | some L => match u.packN len L with
            | some (xs, fr) => bif fr && Nat.ble (len * ei.sz) 16777216 && dataL L then ckL (nds (evT X.N S) (ps.toList.map (·.2))) (k S (.sl true u xs)) else none
            | none => none
          | none => none
        | none => none
      | _ => none
    | _ => valT X o H S (k S)
  | some g => grdT X.N all g S (fun S' => valT X o H S' (k S')) (fun S' => k S' .undef)

def putT (S : List (Nat × TV)) (d : Option Tmp) (v : TV) : List (Nat × TV) := match d with | some d => (d, v) :: S | none => S

def runDT (X : Ctx Rf) (all : List Oper) (H : List TOb) : List Oper → List (Nat × TV) → (List (Nat × TV) → Option R) → Option R
  | [], S, k => k S
  | o :: rest, S, k => stepD X all o H S (fun S' v => runDT X all H rest (putT S' o.dst v) k)

def isEff (o : Oper) : Bool :=
  match o.op with
  | .alloc _ | .box _ _ | .store _ _ _ | .makeSlice _ _ _ => true
  | .call ⟨.builtin .append, _, _⟩ => true
  | _ => false
def pureN : List Oper → Nat
  | [] => 0
  | o :: l => bif isEff o then 0 else pureN l + 1

def regT (X : Ctx Rf) (l : List Oper) (draw : Bool) (s : TS) (k : TS → Option R) : Option R :=
  match draw with
  | false => runT X l l s k
  | true => bif drawN l (pureN l) then runDT X l s.H (l.take (pureN l)) s.S (fun S' => runT X l (l.drop (pureN l)) ⟨S', s.H⟩ k) else none

/-- Which statements are told by a summary. -/
inductive Ann where
  | z
  | s (n : Nat)
  | one (a : Ann)
  | two (a b : Ann)
def Ann.l : Ann → Ann
  | .two a _ => a
  | .one a => a
  | _ => .z
def Ann.r : Ann → Ann
  | .two _ b => b
  | _ => .z
def Ann.sum : Ann → Option Nat
  | .s n => some n
  | _ => none

/-- A part of code: left, right (inside). -/
def subC : Code → List Bool → Code
  | c, [] => c
  | .seq x _, false :: p => subC x p
  | .seq _ y, true :: p => subC y p
  | .cond _ x _, false :: p => subC x p
  | .cond _ _ y, true :: p => subC y p
  | .block _ x, _ :: p => subC x p
  | .loop x, _ :: p => subC x p
  | c, _ => c
def bodyOf (f : Func) : Code := match f.body with | some c => c | none => .skip

def den (X : Ctx Rf) : Code → Ann → TS → (TS → Option R) → (Nat → TS → Option R) → (Rf → Option R) → Option R
  | c, a, s, kn, ke, kr =>
    match a.sum with
    | some n =>
      match X.Λ n with
      | some σ => match σ.dec s with | some x => bnd (σ.m x) (fun o => σ.cont x o kn ke kr) | none => none
      | none => none
    | none =>
      match c with
      | .skip => kn s
      | .region _ ops d => regT X ops.toList d s kn
      | .seq x y => den X x a.l s (fun s' => den X y a.r s' kn ke kr) ke kr
      | .cond c x y => match evT X.N s.S c with | .bool g => bif g then den X x a.l s kn ke kr else den X y a.r s kn ke kr | _ => none
      | .block id x => den X x a.l s kn (fun id' s' => bif Nat.beq id' id then kn s' else ke id' s') kr
      | .exit id => ke id s
      | .ret => match X.res s with | some r => kr r | none => none
      | _ => none

end
end Go.T
