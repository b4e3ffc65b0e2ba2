/-
  What the typed machine's states tell of the world: their abstract states; the pure operations agree. No program is named.
-/
import Derived.Test.YtocpeankecaabaaT2
set_option linter.all false
namespace Go.T
open Go.Abs Go.M

mutual
def Ty.av (fr : Bool) : (t : Ty) → t.den → Nat → AV
  | .int k, n, _ => .int k n
  | .bool, b, _ => .bool b
  | .str, s, _ => .val (.string s)
  | .slice t, xs, _ => .ro fr t.sz (List.length (α := t.den) xs) (fun i f => t.av fr (List.getD (α := t.den) xs i t.dft) f)
  | .struct l, x, f => l.av fr x f
def TyL.av (fr : Bool) : (l : TyL) → l.den → Nat → AV
  | .nil, _, _ => .any
  | .cons t l, x, f => if f < t.sz then t.av fr x.1 f else l.av fr x.2 (f - t.sz)
end

def TOb.sz : TOb → Nat
  | .arr _ _ t _ => t.sz
  | .box _ cs => cs.length
def TOb.n : TOb → Nat
  | .arr _ _ _ xs => xs.length
  | .box _ _ => 1

def szAt (H : List TOb) (t : Nat) : Nat := match H[t]? with | some o => o.sz | none => 0
def nAt (H : List TOb) (t : Nat) : Nat := match H[t]? with | some o => o.n | none => 0
theorem szAt_of {H : List TOb} {t : Nat} {o : TOb} (h : H[t]? = some o) : szAt H t = o.sz := by unfold szAt; rw [h]
theorem nAt_of {H : List TOb} {t : Nat} {o : TOb} (h : H[t]? = some o) : nAt H t = o.n := by unfold nAt; rw [h]

mutual
def encV (H : List TOb) : TV → AV
  | .any => .any
  | .int k n => .int k n
  | .bool b => .bool b
  | .val v => .val v
  | .sl fr t xs => .ro fr t.sz xs.length (fun i f => t.av fr (xs.getD i t.dft) f)
  | .rptr fr t xs i f => .rptr t.sz xs.length (fun i f => t.av fr (xs.getD i t.dft) f) i.toNat f
  | .own t => .own t (szAt H t) (nAt H t)
  | .ownS t off n => .ownS t (szAt H t) off n
  | .ptr t i f => .ptr t (szAt H t) i.toNat f
  | .fn f cs => .fn f cs.length (fun j => (encL H cs).getD j .any)
  | .agg cs => .agg cs.length (fun j => (encL H cs).getD j .any)
  | .tup cs => .tup cs.length (fun j => (encL H cs).getD j .any)
  | .cond c a => .cond c (encV H a)
def encL (H : List TOb) : List TV → List AV
  | [] => []
  | v :: l => encV H v :: encL H l
end

theorem encL_map (H : List TOb) : ∀ l, encL H l = l.map (encV H)
  | [] => by simp [encL]
  | v :: l => by simp [encL, encL_map H l]

theorem encL_getD (H : List TOb) (l : List TV) (j : Nat) : (encL H l).getD j .any = encV H (l.getD j .any) := by
  rw [encL_map]
  simp only [List.getD_eq_getElem?_getD, List.getElem?_map]
  cases l[j]? <;> simp [encV]

def encO (H : List TOb) : TOb → AObj
  | .arr ty fr u xs => ⟨ty, u.sz, xs.length, fun i f => u.av fr (xs.getD i u.dft) f⟩
  | .box ty cs => ⟨ty, cs.length, 1, fun _ f => encV H (cs.getD f .any)⟩

def encS (N : Nat) (s : TS) : AS := ⟨(List.range N).map (fun t => encV s.H (getS s.S t)), s.H.map (encO s.H)⟩

theorem encO_sz (H : List TOb) (o : TOb) : (encO H o).sz = o.sz := by cases o <;> rfl
theorem encO_n (H : List TOb) (o : TOb) : (encO H o).n = o.n := by cases o <;> rfl

mutual
theorem Ty.cells_len (fr : Bool) : ∀ (t : Ty) (x : t.den), (t.cells fr x).length = t.sz
  | .int k, n => rfl
  | .bool, b => rfl
  | .str, s => rfl
  | .slice t, xs => rfl
  | .struct l, x => TyL.cells_len fr l x
theorem TyL.cells_len (fr : Bool) : ∀ (l : TyL) (x : l.den), (l.cells fr x).length = l.sz
  | .nil, _ => rfl
  | .cons t l, x => by
    unfold TyL.cells TyL.sz
    rw [List.length_append, Ty.cells_len fr t x.1, TyL.cells_len fr l x.2]
end

mutual
theorem Ty.cells_av (H : List TOb) (fr : Bool) : ∀ (t : Ty) (x : t.den) (f : Nat), f < t.sz → encV H ((t.cells fr x).getD f .any) = t.av fr x f
  | .int k, n, f, h => by obtain rfl : f = 0 := by simp [Ty.sz] at h; omega
                          rfl
  | .bool, b, f, h => by obtain rfl : f = 0 := by simp [Ty.sz] at h; omega
                         rfl
  | .str, s, f, h => by obtain rfl : f = 0 := by simp [Ty.sz] at h; omega
                        rfl
  | .slice t, xs, f, h => by
    obtain rfl : f = 0 := by simp [Ty.sz] at h; omega
    rfl
  | .struct l, x, f, h => TyL.cells_av H fr l x f h
theorem TyL.cells_av (H : List TOb) (fr : Bool) : ∀ (l : TyL) (x : l.den) (f : Nat), f < l.sz → encV H ((l.cells fr x).getD f .any) = l.av fr x f
  | .nil, _, f, h => by simp [TyL.sz] at h
  | .cons t l, x, f, h => by
    unfold TyL.cells TyL.av
    unfold TyL.sz at h
    have hl := Ty.cells_len fr t x.1
    split
    · rename_i hf
      rw [← Ty.cells_av H fr t x.1 f hf, List.getD_eq_getElem?_getD, List.getD_eq_getElem?_getD, List.getElem?_append_left (by omega)]
    · rename_i hf
      rw [← TyL.cells_av H fr l x.2 (f - t.sz) (by omega), List.getD_eq_getElem?_getD, List.getD_eq_getElem?_getD, List.getElem?_append_right (by omega), hl]
end

/-! ### Guards -/

theorem get_gt (H : List TOb) : ∀ x : TV, (encV H x).get = encV H x.gt
  | .cond c a => by simp only [encV, AV.get, TV.gt]; exact get_gt H a
  | .any => rfl
  | .int _ _ => rfl
  | .bool _ => rfl
  | .val _ => rfl
  | .sl _ _ _ => rfl
  | .rptr _ _ _ _ _ => rfl
  | .own t => rfl
  | .ownS t _ _ => rfl
  | .ptr t _ _ => rfl
  | .fn _ _ => rfl
  | .agg _ => rfl
  | .tup _ => rfl

def allT (l : List Bool) : Prop := ∀ c ∈ l, c = true
theorem allT_nil : allT [] := fun _ h => by simp at h
theorem allT_app {l m : List Bool} : allT (l ++ m) ↔ allT l ∧ allT m := by
  unfold allT
  constructor
  · intro h; exact ⟨fun c hc => h c (List.mem_append_left _ hc), fun c hc => h c (List.mem_append_right _ hc)⟩
  · rintro ⟨h1, h2⟩ c hc
    rcases List.mem_append.1 hc with h | h
    · exact h1 c h
    · exact h2 c h
theorem allT_cons {c : Bool} {l : List Bool} : allT (c :: l) ↔ c = true ∧ allT l := by
  unfold allT; simp

theorem need_nd (H : List TOb) : ∀ x : TV, allT x.nd → (encV H x).need
  | .cond c a, h => by
    simp only [TV.nd] at h
    simp only [encV, AV.need]
    exact ⟨(allT_cons.1 h).1, need_nd H a (allT_cons.1 h).2⟩
  | .any, _ => trivial
  | .int _ _, _ => trivial
  | .bool _, _ => trivial
  | .val _, _ => trivial
  | .sl _ _ _, _ => trivial
  | .rptr _ _ _ _ _, _ => trivial
  | .own t, _ => trivial
  | .ownS t _ _, _ => trivial
  | .ptr t _ _, _ => trivial
  | .fn _ _, _ => trivial
  | .agg _, _ => trivial
  | .tup _, _ => trivial

theorem ckB_some {α : Type} {c : Bool} {m : Option α} {r : α} (h : ckB c m = some r) : c = true ∧ m = some r := by
  cases c
  · cases h
  · exact ⟨rfl, h⟩
theorem ckL_some {α : Type} : ∀ {l : List Bool} {m : Option α} {r : α}, ckL l m = some r → allT l ∧ m = some r
  | [], _, _, h => ⟨allT_nil, h⟩
  | c :: l, m, r, h => by
    obtain ⟨h1, h2⟩ := ckB_some h
    obtain ⟨h3, h4⟩ := ckL_some h2
    exact ⟨allT_cons.2 ⟨h1, h3⟩, h4⟩

theorem inR_InR {k : IntKind} {n : Int} (h : inR k n = true) : InR k n := by
  cases k <;> simpa [inR, InR] using h

/-! ### The pure operations -/

/-- A result of the typed machine is met by one of the abstract one. -/
def Meets (H : List TOb) (r : Option (List Bool × TV)) (r' : Option (Prop × AV)) : Prop :=
  ∀ cs v, r = some (cs, v) → ∃ C A, r' = some (C, A) ∧ (allT cs → C ∧ ALe A (encV H v))

theorem Meets.none (H : List TOb) (r' : Option (Prop × AV)) : Meets H none r' := fun _ _ h => by cases h
theorem Meets.pure {H : List TOb} {v : TV} {C : Prop} {A : AV} (hC : C) (h : A = encV H v) : Meets H (some ([], v)) (some (C, A)) := by
  intro cs v' e
  cases e
  exact ⟨C, A, rfl, fun _ => ⟨hC, h ▸ ALe.refl _⟩⟩

theorem binIT_meets (H : List TOb) (op : BinOp) (k : IntKind) (a b : Int) : Meets H (binIT op k a b) (binI op k a b) := by
  intro cs v h
  unfold binIT at h
  unfold binI
  cases op <;> simp only [Option.some.injEq, Prod.mk.injEq, reduceCtorEq] at h <;> obtain ⟨rfl, rfl⟩ := h <;> refine ⟨_, _, rfl, fun hc => ⟨?_, ALe.refl _⟩⟩
  all_goals first | trivial | (exact inR_InR (hc _ (by simp)))| skip
  · exact ⟨by simpa using hc _ (List.mem_cons_self ..), inR_InR (hc _ (by simp))⟩
  · simpa using hc _ (List.mem_cons_self ..)

theorem eqT_eqC {tt : TT} {H : List TOb} {cs cs' : List TV} : ∀ (fs : List (Nat × TypeId)) (r : Bool), eqT tt cs cs' fs = some r → eqC tt (fun j => (encL H cs).getD j .any) (fun j => (encL H cs').getD j .any) fs = some r := by
  intro fs
  induction fs with
  | nil => intro r h; exact h
  | cons p l ih =>
    intro r h
    obtain ⟨o, t⟩ := p
    unfold eqT at h
    unfold eqC
    split at h
    · rename_i r0 h0
      simp only [ih r0 h0]
      split at h
      · rename_i k a k' b ht h1 h2
        simp only [ht, encL_getD, h1, h2, encV]
        exact h
      · rename_i a b ht h1 h2
        simp only [ht, encL_getD, h1, h2, encV]
        exact h
      · cases h
    · cases h

theorem offsIn_at {k : Nat} : ∀ {fs : List (Nat × TypeId)}, offsIn k fs = true → ∀ p ∈ fs, p.1 < k
  | [], _, p, hp => by simp at hp
  | (o, t) :: l, h, p, hp => by
    simp only [offsIn, Bool.and_eq_true] at h
    rcases List.mem_cons.1 hp with rfl | hp
    · exact Nat.le_of_ble_eq_true h.1
    · exact offsIn_at h.2 p hp

theorem bif_some {α : Type} {c : Bool} {a : Option α} {r : α} (h : (bif c then a else none) = some r) : c = true ∧ a = some r := by
  cases c
  · cases h
  · exact ⟨rfl, h⟩
theorem bif_some' {α : Type} {c : Bool} {a : Option α} {r : α} (h : (bif c then none else a) = some r) : c = false ∧ a = some r := by
  cases c
  · exact ⟨rfl, h⟩
  · cases h

theorem binT_meets (tt : TT) (H : List TOb) (op : BinOp) (t : TypeId) (x y : TV) : Meets H (binT tt op t x y) (binV tt op t (encV H x) (encV H y)) := by
  intro cs v h
  unfold binT at h
  split at h
  · rename_i k a k' b
    simp only [encV, binV]
    split at h
    · rename_i hk
      rw [if_pos hk]
      exact binIT_meets H op k a b cs v h
    · cases h
  · rename_i a b
    simp only [encV, binV]
    split at h
    · rename_i ht
      simp only [ht]
      cases h
      exact ⟨_, _, rfl, fun _ => ⟨trivial, ALe.refl _⟩⟩
    · rename_i ht
      simp only [ht]
      cases h
      exact ⟨_, _, rfl, fun _ => ⟨trivial, ALe.refl _⟩⟩
    · cases h
  · rename_i l l'
    simp only [encV, binV]
    split at h
    · rename_i fs a1 a2 a3 ht
      simp only [ht]
      split at h
      · rename_i r hr
        simp only [eqT_eqC fs r hr]
        split at h
        · obtain ⟨h1, h2⟩ := bif_some h
          cases h2
          rw [Bool.and_eq_true] at h1
          exact ⟨_, _, rfl, fun _ => ⟨fun p hp => ⟨offsIn_at h1.1 p hp, offsIn_at h1.2 p hp⟩, ALe.refl _⟩⟩
        · obtain ⟨h1, h2⟩ := bif_some h
          cases h2
          rw [Bool.and_eq_true] at h1
          exact ⟨_, _, rfl, fun _ => ⟨fun p hp => ⟨offsIn_at h1.1 p hp, offsIn_at h1.2 p hp⟩, ALe.refl _⟩⟩
        · cases h
      · cases h
    · cases h
  · cases h

theorem unT_meets (H : List TOb) (op : UnOp) (x : TV) : Meets H (unT op x) (unV op (encV H x)) := by
  intro cs v h
  unfold unT at h
  split at h
  · cases h
    exact ⟨_, _, rfl, fun _ => ⟨trivial, ALe.refl _⟩⟩
  · simp only [encV, unV]
    split at h
    · rename_i hk
      rw [if_pos hk]
      cases h
      exact ⟨_, _, rfl, fun hc => ⟨inR_InR (hc _ (by simp)), ALe.refl _⟩⟩
    · rename_i hk
      rw [if_neg hk]
      cases h
      exact ⟨_, _, rfl, fun _ => ⟨trivial, ALe.refl _⟩⟩
  · cases h

theorem convT_meets (tt : TT) (H : List TOb) (src dst : TypeId) (x : TV) : Meets H (convT tt src dst x) (convV tt src dst (encV H x)) := by
  intro cs v h
  unfold convT at h
  split at h
  · rename_i h1 h2
    simp only [encV, convV, h1, h2]
    split at h
    · rename_i hk
      rw [if_pos hk]
      cases h
      exact ⟨_, _, rfl, fun hc => ⟨inR_InR (hc _ (by simp)), ALe.refl _⟩⟩
    · rename_i hk
      rw [if_neg hk]
      cases h
      exact ⟨_, _, rfl, fun _ => ⟨trivial, ALe.refl _⟩⟩
  · cases h

theorem ALe.agg {k : Nat} {cs cs' : Nat → AV} (h : ∀ j, j < k → ALe (cs j) (cs' j)) : ALe (.agg k cs) (.agg k cs') := by
  rintro w E B τ v ⟨l, hl, hk, hc⟩
  exact ⟨l, hl, hk, fun j hj => let ⟨u, hu, h1, hV⟩ := hc j hj; ⟨u, hu, h1, h j hj _ _ _ _ _ hV⟩⟩
theorem ALe.of_eq {A A' : AV} (h : A = A') : ALe A A' := h ▸ ALe.refl _

theorem ble_le {a b : Nat} (h : Nat.ble a b = true) : a ≤ b := Nat.le_of_ble_eq_true h
theorem blt_lt {a b : Nat} (h : Nat.blt a b = true) : a < b := Nat.le_of_ble_eq_true h
theorem beq_eq {a b : Nat} (h : Nat.beq a b = true) : a = b := Nat.eq_of_beq_eq_true h

/-- A part of cells: the abstract one is of the same cells. -/
theorem partT_row {H : List TOb} {ti : TI} {cs : List TV} {f : Nat} {v : TV} (h : partT ti cs f = some v) {sz n : Nat} {acs : Nat → Nat → AV} {i : Nat} (hsz : cs.length = sz) (hi : i < n) (hc : ∀ f, f < sz → acs i f = encV H (cs.getD f .any)) :
    (rowV ti.sz ti.k.agg sz n acs i f).1 ∧ ALe (rowV ti.sz ti.k.agg sz n acs i f).2 (encV H v) := by
  unfold partT at h
  unfold rowV
  split at h
  · rename_i ha
    obtain ⟨h1, h2⟩ := bif_some h
    cases h2
    have hle := ble_le h1
    simp only [ha]
    refine ⟨⟨hi, by omega⟩, ?_⟩
    simp only [encV]
    have hl : (List.take ti.sz (List.drop f cs)).length = ti.sz := by simp; omega
    rw [hl]
    refine ALe.agg fun j hj => ALe.of_eq ?_
    rw [encL_getD, hc (f + j) (by omega)]
    simp [List.getD_eq_getElem?_getD, List.getElem?_take, hj]
  · rename_i ha
    obtain ⟨h1, h2⟩ := bif_some h
    cases h2
    have hlt := blt_lt h1
    simp only [ha]
    exact ⟨⟨hi, by omega⟩, ALe.of_eq (hc f (by omega))⟩

theorem partT_part {H : List TOb} {ti : TI} {cs : List TV} {f : Nat} {v : TV} (h : partT ti cs f = some v) : (partV ti cs.length (fun j => (encL H cs).getD j .any) f).1 ∧ ALe (partV ti cs.length (fun j => (encL H cs).getD j .any) f).2 (encV H v) := by
  unfold partT at h
  unfold partV
  split at h
  · rename_i ha
    obtain ⟨h1, h2⟩ := bif_some h
    cases h2
    have hle := ble_le h1
    simp only [ha]
    refine ⟨hle, ?_⟩
    simp only [encV]
    have hl : (List.take ti.sz (List.drop f cs)).length = ti.sz := by simp; omega
    rw [hl]
    refine ALe.agg fun j hj => ALe.of_eq ?_
    rw [encL_getD, encL_getD]
    simp [List.getD_eq_getElem?_getD, List.getElem?_take, hj]
  · rename_i ha
    obtain ⟨h1, h2⟩ := bif_some h
    cases h2
    have hlt := blt_lt h1
    simp only [ha]
    exact ⟨hlt, ALe.of_eq (encL_getD ..)⟩

theorem ix_at {i : Int} {n : Nat} (h : ix i n = true) : 0 ≤ i ∧ i < (n : Int) := by simpa [ix] using h

theorem loadT_meets (tt : TT) (H : List TOb) (t : TypeId) (x : TV) : Meets H (loadT tt H t x) (loadV tt (H.map (encO H)) t (encV H x)) := by
  intro cs v h
  unfold loadT at h
  unfold loadV
  split at h
  · cases h
  · rename_i ti hti
    simp only [hti]
    split at h
    · rename_i tg i f
      split at h
      · rename_i ty fr u xs ho
        have ho' : (H.map (encO H))[tg]? = some (encO H (.arr ty fr u xs)) := by rw [List.getElem?_map, ho]; rfl
        simp only [encV, szAt_of ho, ho']
        split at h
        · rename_i v' hp
          cases h
          refine ⟨_, _, rfl, fun hc => ?_⟩
          obtain ⟨h0, h1⟩ := ix_at (hc _ (List.mem_singleton.2 rfl))
          obtain ⟨r1, r2⟩ := partT_row (H := H) hp (n := xs.length) (acs := (encO H (.arr ty fr u xs)).cs) (i := i.toNat) (u.cells_len fr _) (by omega) (fun f hf => (u.cells_av H fr _ f hf).symm)
          exact ⟨⟨rfl, r1⟩, r2⟩
        · cases h
      · rename_i ty cells ho
        have ho' : (H.map (encO H))[tg]? = some (encO H (.box ty cells)) := by rw [List.getElem?_map, ho]; rfl
        simp only [encV, szAt_of ho, ho']
        split at h
        · split at h
          · rename_i v' hp
            cases h
            refine ⟨_, _, rfl, fun hc => ?_⟩
            obtain ⟨r1, r2⟩ := partT_row (H := H) hp (n := 1) (acs := (encO H (.box ty cells)).cs) (i := 0) rfl (by omega) (fun f hf => rfl)
            exact ⟨⟨rfl, r1⟩, r2⟩
          · cases h
        · cases h
      · cases h
    · rename_i fr u xs i f
      simp only [encV]
      split at h
      · rename_i v' hp
        cases h
        refine ⟨_, _, rfl, fun hc => ?_⟩
        obtain ⟨h0, h1⟩ := ix_at (hc _ (List.mem_singleton.2 rfl))
        exact partT_row (H := H) hp (n := xs.length) (acs := fun i f => u.av fr (xs.getD i u.dft) f) (i := i.toNat) (u.cells_len fr _) (by omega) (fun f hf => (u.cells_av H fr _ f hf).symm)
      · cases h
    · cases h

theorem faddrT_meets (tt : TT) (H : List TOb) (s : TypeId) (x : TV) (f : Nat) : Meets H (faddrT tt s x f) (faddrV tt s (encV H x) f) := by
  intro cs v h
  unfold faddrT at h
  unfold faddrV
  split at h
  · rename_i fs a1 a2 a3 hs
    simp only [hs]
    split at h
    · rename_i off ft hf
      simp only [hf]
      split at h
      · rename_i fi hfi
        simp only [hfi]
        split at h
        · rename_i t i f0
          obtain ⟨h1, h2⟩ := bif_some' h
          cases h2
          have hne : fi.sz ≠ 0 := fun e => by rw [e] at h1; cases h1
          exact ⟨_, _, rfl, fun _ => ⟨hne, ALe.refl _⟩⟩
        · rename_i fr u xs i f0
          obtain ⟨h1, h2⟩ := bif_some' h
          cases h2
          have hne : fi.sz ≠ 0 := fun e => by rw [e] at h1; cases h1
          exact ⟨_, _, rfl, fun _ => ⟨hne, ALe.refl _⟩⟩
        · cases h
      · cases h
    · cases h
  · cases h

theorem fieldT_meets (tt : TT) (H : List TOb) (s : TypeId) (x : TV) (f : Nat) : Meets H (fieldT tt s x f) (fieldV tt s (encV H x) f) := by
  intro cs v h
  unfold fieldT at h
  unfold fieldV
  split at h
  · rename_i fs a1 a2 a3 hs
    simp only [hs]
    split at h
    · rename_i off ft hf
      simp only [hf]
      split at h
      · rename_i fi cs' hfi
        simp only [hfi, encV]
        split at h
        · rename_i v' hp
          cases h
          exact ⟨_, _, rfl, fun _ => partT_part hp⟩
        · cases h
      · cases h
    · cases h
  · cases h

theorem iaddrT_meets (tt : TT) (H : List TOb) (t : TypeId) (x y : TV) : Meets H (iaddrT tt H t x y) (iaddrV tt t (encV H x) (encV H y)) := by
  intro cs v h
  unfold iaddrT at h
  unfold iaddrV
  split at h
  · rename_i el a1 a2 a3 ht
    simp only [ht]
    split at h
    · rename_i ei hel
      simp only [hel]
      split at h
      · rename_i fr u xs k i
        obtain ⟨h1, h2⟩ := bif_some h
        cases h2
        simp only [encV]
        exact ⟨_, _, rfl, fun hc => ⟨⟨beq_eq h1, ix_at (hc _ (List.mem_singleton.2 rfl))⟩, ALe.refl _⟩⟩
      · rename_i tg k i
        split at h
        · rename_i ty fr u xs ho
          obtain ⟨h1, h2⟩ := bif_some h
          cases h2
          simp only [encV, szAt_of ho, nAt_of ho]
          exact ⟨_, _, rfl, fun hc => ⟨⟨beq_eq h1, ix_at (hc _ (List.mem_singleton.2 rfl))⟩, ALe.refl _⟩⟩
        · cases h
      · rename_i tg off n k i
        split at h
        · rename_i ty fr u xs ho
          obtain ⟨h1, h2⟩ := bif_some h
          cases h2
          simp only [encV, szAt_of ho]
          refine ⟨_, _, rfl, fun hc => ?_⟩
          have hi := ix_at (hc _ (List.mem_cons_self ..))
          refine ⟨⟨beq_eq h1, hi⟩, ALe.of_eq ?_⟩
          have : ((off : Int) + i).toNat = off + i.toNat := by omega
          rw [this]
        · cases h
      · cases h
    · cases h
  · rename_i len el a1 a2 a3 ht
    simp only [ht]
    split at h
    · rename_i ei hel
      simp only [hel]
      split at h
      · rename_i tg i0 f0 k i
        obtain ⟨h1, h2⟩ := bif_some h
        cases h2
        simp only [encV]
        have := blt_lt h1
        refine ⟨_, _, rfl, fun _ => ⟨⟨Int.natCast_nonneg i, ?_⟩, ALe.refl _⟩⟩
        exact Int.ofNat_lt.2 this
      · rename_i fr u xs i0 f0 k i
        obtain ⟨h1, h2⟩ := bif_some h
        cases h2
        simp only [encV]
        have := blt_lt h1
        refine ⟨_, _, rfl, fun _ => ⟨⟨Int.natCast_nonneg i, ?_⟩, ALe.refl _⟩⟩
        exact Int.ofNat_lt.2 this
      · cases h
    · cases h
  · cases h

theorem indexT_meets (tt : TT) (H : List TOb) (t : TypeId) (x y : TV) : Meets H (indexT tt t x y) (indexV tt t (encV H x) (encV H y)) := by
  intro cs v h
  unfold indexT at h
  unfold indexV
  split at h
  · rename_i len el a1 a2 a3 ht
    simp only [ht]
    split at h
    · rename_i ei l k i hel
      simp only [hel, encV]
      obtain ⟨h1, h2⟩ := bif_some h
      split at h2
      · rename_i v' hp
        cases h2
        have := blt_lt h1
        have hp' := partT_part (H := H) hp
        exact ⟨_, _, rfl, fun _ => ⟨⟨Int.natCast_nonneg i, Int.ofNat_lt.2 this, hp'.1⟩, hp'.2⟩⟩
      · cases h2
    · cases h
  · cases h

theorem ALe.ro {fr fr' : Bool} {sz n : Nat} {cs cs' : Nat → Nat → AV} (hfr : fr' = true → fr = true) (h : ∀ i f, i < n → f < sz → ALe (cs i f) (cs' i f)) : ALe (.ro fr sz n cs) (.ro fr' sz n cs') := by
  rintro w E B τ v ⟨a, c, hv, hn, hc, hr⟩
  refine ⟨a, c, hv, hn, hc, fun h0 => ?_⟩
  obtain ⟨b, o, ha, hb, hE, hf, hcell⟩ := hr h0
  refine ⟨b, o, ha, hb, hE, fun e => hf (hfr e), fun i f hi hff => ?_⟩
  obtain ⟨u, hu, h1, hV⟩ := hcell i f hi hff
  exact ⟨u, hu, h1, h i f hi hff _ _ _ _ _ hV⟩

theorem cut_at {l h : Int} {n : Nat} (e : cut l h n = true) : 0 ≤ l ∧ l ≤ h ∧ h ≤ (n : Int) := by
  simp only [cut, Bool.and_eq_true, decide_eq_true_eq] at e
  exact ⟨e.1.1, e.1.2, e.2⟩

theorem optT_opt {H : List TOb} {x : Option TV} {l : Option Int} (h : optT x = some l) : optI (x.map (encV H)) = some l := by
  cases x with
  | none => exact h
  | some v => cases v <;> simp only [optT, Option.some.injEq, reduceCtorEq] at h <;> simp [optI, encV, h]

theorem sl_part {H : List TOb} {fr : Bool} {u : Ty} {xs ys : List u.den} {l : Nat} {m : Nat} (hm : ys.length = m) (hg : ∀ i, i < m → ys.getD i u.dft = xs.getD (l + i) u.dft) :
    ALe (.ro fr u.sz m (fun i f => u.av fr (xs.getD (l + i) u.dft) f)) (encV H (.sl fr u ys)) := by
  subst hm
  simp only [encV]
  exact ALe.ro id fun i f hi _ => ALe.of_eq (by rw [hg i hi])

theorem sliceT_meets (tt : TT) (H : List TOb) (t : TypeId) (x : TV) (lo hi : Option TV) : Meets H (sliceT tt H t x lo hi) (sliceV tt t (encV H x) (lo.map (encV H)) (hi.map (encV H))) := by
  intro cs v h
  unfold sliceT at h
  unfold sliceV
  split at h
  · rename_i el a1 a2 a3 ht
    simp only [ht]
    split at h
    · rename_i ei l hh hel hlo hhi
      simp only [hel, optT_opt hlo, optT_opt hhi]
      split at h
      · rename_i fr u xs
        obtain ⟨h1, h2⟩ := bif_some h
        have hsz := beq_eq h1
        simp only [encV]
        split at h2
        · cases h2
          refine ⟨_, _, rfl, fun _ => ⟨⟨hsz, by simp, by simp, by simp⟩, ?_⟩⟩
          exact sl_part (by simp) (fun i hi => by simp)
        · rename_i h'
          cases h2
          refine ⟨_, _, rfl, fun hc => ?_⟩
          have hcut := cut_at (hc _ (List.mem_singleton.2 rfl))
          refine ⟨⟨hsz, by simp, by simpa using hcut.2.1, by simpa using hcut.2.2⟩, ?_⟩
          refine sl_part (by simp; omega) (fun i hi => ?_)
          simp only [Option.getD_some, Option.getD_none, Int.toNat_zero, Nat.zero_add, Nat.sub_zero] at hi ⊢
          simp [List.getD_eq_getElem?_getD, List.getElem?_take, hi]
        · rename_i l'
          cases h2
          refine ⟨_, _, rfl, fun hc => ?_⟩
          have hcut := cut_at (hc _ (List.mem_singleton.2 rfl))
          refine ⟨⟨hsz, by simpa using hcut.1, by simpa using hcut.2.1, by simp⟩, ?_⟩
          refine sl_part (by simp) (fun i hi => ?_)
          simp [List.getD_eq_getElem?_getD]
        · rename_i l' h'
          cases h2
          refine ⟨_, _, rfl, fun hc => ?_⟩
          have hcut := cut_at (hc _ (List.mem_singleton.2 rfl))
          refine ⟨⟨hsz, by simpa using hcut.1, by simpa using hcut.2.1, by simpa using hcut.2.2⟩, ?_⟩
          refine sl_part (by simp; omega) (fun i hi => ?_)
          simp only [Option.getD_some] at hi ⊢
          simp [List.getD_eq_getElem?_getD, List.getElem?_take, show l'.toNat + i < h'.toNat by omega]
      · rename_i tg
        split at h
        · rename_i ty fr u xs ho
          obtain ⟨h1, h2⟩ := bif_some h
          cases h2
          simp only [encV, szAt_of ho, nAt_of ho]
          refine ⟨_, _, rfl, fun hc => ?_⟩
          have hcut := cut_at (hc _ (List.mem_singleton.2 rfl))
          exact ⟨⟨beq_eq h1, hcut.1, hcut.2.1, hcut.2.2⟩, ALe.refl _⟩
        · cases h
      · rename_i tg off n
        split at h
        · rename_i ty fr u xs ho
          obtain ⟨h1, h2⟩ := bif_some h
          cases h2
          simp only [encV, szAt_of ho]
          refine ⟨_, _, rfl, fun hc => ?_⟩
          have hcut := cut_at (hc _ (List.mem_singleton.2 rfl))
          exact ⟨⟨beq_eq h1, hcut.1, hcut.2.1, hcut.2.2⟩, ALe.refl _⟩
        · cases h
      · cases h
    · cases h
  · cases h

theorem lenT_meets (tt : TT) (H : List TOb) (t : TypeId) (x : TV) : Meets H (lenT tt H t x) (lenV tt t (encV H x)) := by
  intro cs v h
  unfold lenT at h
  unfold lenV
  split at h
  · rename_i e a1 a2 a3 ht
    simp only [ht]
    split at h
    · cases h; exact ⟨_, _, rfl, fun _ => ⟨trivial, ALe.refl _⟩⟩
    · rename_i tg
      split at h
      · rename_i n hn
        cases h
        unfold lenO at hn
        split at hn
        · rename_i ty fr u xs ho
          cases hn
          simp only [encV, nAt_of ho]
          exact ⟨_, _, rfl, fun _ => ⟨trivial, ALe.refl _⟩⟩
        · cases hn
      · cases h
    · cases h; exact ⟨_, _, rfl, fun _ => ⟨trivial, ALe.refl _⟩⟩
    · cases h; exact ⟨_, _, rfl, fun _ => ⟨trivial, ALe.refl _⟩⟩
    · cases h
  · rename_i n e a1 a2 a3 ht
    simp only [ht]
    cases h; exact ⟨_, _, rfl, fun _ => ⟨trivial, ALe.refl _⟩⟩
  · cases h

theorem ALe.any (A : AV) : ALe A .any := fun _ _ _ _ _ _ => trivial

theorem pickT_le (H : List TOb) (g : Bool) (a b : TV) : ALe (pickV g (encV H a) (encV H b)) (encV H (pickT g a b)) := by
  unfold pickT pickV
  split
  · cases g <;> exact ALe.refl _
  · rename_i k x k' y
    split
    · rename_i hk
      subst hk
      cases g <;> exact ALe.refl _
    · exact ALe.any _
  · cases g <;> exact ALe.refl _

end Go.T
