/-
  Matrices: elimination without fractions: the program and the reference do the same.
-/
import Derived.Test.YtjjhanfglelldaaQ1
set_option linter.all false
namespace Go.Proofs.Ytjjhanfglelldaa
open Go.K Go.M

/-- A list of rows by its entries. -/
abbrev T2 (R C : Nat) (A : Nat → Nat → Int) : List (List Int) := tab R fun i => tab C (A i)
theorem T2_row {R C : Nat} {A : Nat → Nat → Int} {i : Nat} (hi : i < R) : (T2 R C A).getD i [] = tab C (A i) := tab_getD hi
theorem T2_len {R C : Nat} {A : Nat → Nat → Int} : (T2 R C A).length = R := tab_len _ _
theorem T2_congr {R C : Nat} {A B : Nat → Nat → Int} (h : ∀ i j, i < R → j < C → A i j = B i j) : T2 R C A = T2 R C B := tab_congr fun i hi => tab_congr fun j hj => h i j hi hj
theorem T2_set {R C : Nat} {A : Nat → Nat → Int} {i j : Nat} {x : Int} : (T2 R C A).set i ((tab C (A i)).set j x) = T2 R C (fun a b => if a = i ∧ b = j then x else A a b) := by
  rw [tab_set, tab_set]
  refine tab_congr fun a _ => ?_
  by_cases e : a = i
  · subst e
    rw [if_pos rfl]
    exact tab_congr fun b _ => by by_cases e : b = j <;> simp [e]
  · rw [if_neg e]
    exact tab_congr fun b _ => by simp [e]
theorem T2_setr {R C : Nat} {A : Nat → Nat → Int} {i : Nat} {f : Nat → Int} : (T2 R C A).set i (tab C f) = T2 R C (fun a b => if a = i then f b else A a b) := by
  rw [tab_set]
  refine tab_congr fun a _ => ?_
  by_cases e : a = i <;> simp [e]

abbrev w64 (x : Int) : Int := IntKind.wrap .i64 x
theorem w64_nat {n : Nat} (h : n ≤ 9223372036854775807) : IntKind.wrap .i64 (n : Int) = (n : Int) := wrap_i64 (by omega) (by omega)
theorem w64_succ {n : Nat} (h : n ≤ 9223372036854775806) : IntKind.wrap .i64 ((n : Int) + 1) = ((n + 1 : Nat) : Int) := by rw [cast_succ]; exact w64_nat (by omega)

/-- An entry after a step. -/
def el (p f den x y : Int) : Int := w64 (Int.tdiv (w64 (w64 (p * x) - w64 (f * y))) den)
def clr (top c : Nat) (A : Nat → Nat → Int) (den : Int) (i j : Nat) : Int := if i = top then A i j else el (A top c) (A i c) den (A i j) (A top j)
/-- The first row from k on whose entry is not 0; n rows are left. -/
def nz (A : Nat → Nat → Int) (c : Nat) : Nat → Nat → Nat
  | 0, k => k
  | n + 1, k => if A k c = 0 then nz A c n (k + 1) else k
def swp (A : Nat → Nat → Int) (k t i j : Nat) : Int := A (if i = t then k else if i = k then t else i) j

structure RS where
  A : Nat → Nat → Int
  den : Int
  sw : Nat
  piv : List Nat

def stepR (R c : Nat) (s : RS) : RS :=
  if nz s.A c (R - s.piv.length) s.piv.length = R then s
  else if nz s.A c (R - s.piv.length) s.piv.length = s.piv.length then ⟨clr s.piv.length c s.A s.den, s.A s.piv.length c, s.sw, s.piv ++ [c]⟩
  else ⟨clr s.piv.length c (swp s.A (nz s.A c (R - s.piv.length) s.piv.length) s.piv.length) s.den, s.A (nz s.A c (R - s.piv.length) s.piv.length) c, s.sw + 1, s.piv ++ [c]⟩
def redR (R : Nat) (A : Nat → Nat → Int) : Nat → RS
  | 0 => ⟨A, 1, 0, []⟩
  | c + 1 => stepR R c (redR R A c)

theorem nz_spec (A : Nat → Nat → Int) (c : Nat) : ∀ (n k : Nat), k ≤ nz A c n k ∧ nz A c n k ≤ k + n ∧ (nz A c n k < k + n → A (nz A c n k) c ≠ 0) ∧ ∀ i, k ≤ i → i < nz A c n k → A i c = 0
  | 0, k => ⟨Nat.le_refl _, Nat.le_refl _, fun h => absurd h (by simp [nz]), fun i h1 h2 => by simp [nz] at h2; omega⟩
  | n + 1, k => by
    unfold nz
    split
    · rename_i h0
      obtain ⟨h1, h2, h3, h4⟩ := nz_spec A c n (k + 1)
      refine ⟨by omega, by omega, fun h => h3 (by omega), fun i hi hlt => ?_⟩
      by_cases e : i = k
      · rw [e]; exact h0
      · exact h4 i (by omega) hlt
    · rename_i h0
      exact ⟨Nat.le_refl _, by omega, fun _ => h0, fun i h1 h2 => by omega⟩

structure RInv (R c : Nat) (s : RS) : Prop where
  den : s.den ≠ 0
  piv : s.piv.length ≤ R
  plt : ∀ p ∈ s.piv, p < c
  swl : s.sw ≤ s.piv.length
theorem redR_inv (R : Nat) (A : Nat → Nat → Int) : ∀ c, RInv R c (redR R A c)
  | 0 => ⟨by simp [redR], Nat.zero_le _, fun p h => by simp [redR] at h, Nat.le_refl _⟩
  | c + 1 => by
    have h := redR_inv R A c
    show RInv R (c + 1) (stepR R c (redR R A c))
    generalize redR R A c = s at h
    obtain ⟨h1, h2, h3, h4⟩ := nz_spec s.A c (R - s.piv.length) s.piv.length
    have hp := h.piv
    have hlt : ∀ p ∈ s.piv ++ [c], p < c + 1 := fun p hp => by
      rcases List.mem_append.1 hp with hp | hp
      · have := h.plt p hp; omega
      · simp at hp; omega
    unfold stepR
    split
    · exact ⟨h.den, h.piv, fun p hp => by have := h.plt p hp; omega, h.swl⟩
    · rename_i e1
      have hne := h3 (by omega)
      split
      · rename_i e2
        rw [e2] at hne
        exact ⟨hne, by simp; omega, hlt, by have := h.swl; simp; omega⟩
      · exact ⟨hne, by simp; omega, hlt, by have := h.swl; simp; omega⟩

/-! The program. -/
section
variable {R C : Nat}

theorem clearL0_eq (hC : C ≤ 50) {A : Nat → Nat → Int} {top i : Nat} (ht : top < R) (hi : i < R) (hne : i ≠ top) {den : Int} (hd : den ≠ 0) (p f a b c d e : Int) (g : List Int) :
    matrix_reduced_clear'L0 a b top p i f c d ((C : Nat) : Int) den e g (0, T2 R C A) = some (.inl (T2 R C (fun a b => if a = i then el p f den (A i b) (A top b) else A a b))) := by
  refine loop_to (fun j : Nat => ((j : Int), T2 R C (fun a b => if a = i ∧ b < j then el p f den (A i b) (A top b) else A a b))) C (many_of (by omega)) _ ?_ ?_ _ ?_
  · intro j hj
    have e1 : (if top = i ∧ j < j then el p f den (A i j) (A top j) else A top j) = A top j := if_neg (by omega)
    have e2 : (if i = i ∧ j < j then el p f den (A i j) (A top j) else A i j) = A i j := if_neg (by omega)
    simp (disch := omega) only [matrix_reduced_clear'L0K, T2_row hi, T2_row ht, tab_len, tab_getD hj, e1, e2, tab_set, w64_succ, ckB_ne, ckB_ix, ckB_inR, ckB_room, ckB_cut, ckB_mk, ckB_ne, bif_lt, bif_nlt, bif_le, bif_nle, bif_eq, bif_neq, bif_ne, bif_nne, bif_not, bif_true', bif_false', bnd_ok, lk_inl, lk_inr, Int.toNat_natCast]
    refine congrArg some (congrArg LR.next (Prod.ext rfl (tab_congr fun a ha => ?_)))
    by_cases h1 : a = i
    · subst h1
      rw [if_pos rfl]
      refine tab_congr fun b hb => ?_
      by_cases h2 : b = j
      · subst h2
        simp [el]
      · by_cases h3 : b < j
        · have : b < j + 1 := by omega
          simp [h2, h3, this]
        · have : ¬ b < j + 1 := by omega
          simp [h2, h3, this]
    · rw [if_neg h1]
      exact tab_congr fun b hb => by simp [h1]
  · simp (disch := omega) only [matrix_reduced_clear'L0K, ckB_ix, ckB_inR, ckB_room, ckB_cut, ckB_mk, ckB_ne, bif_lt, bif_nlt, bif_le, bif_nle, bif_eq, bif_neq, bif_ne, bif_nne, bif_not, bif_true', bif_false', bnd_ok, lk_inl, lk_inr, Int.toNat_natCast]
    refine congrArg some (congrArg LR.done (T2_congr fun a b ha hb => ?_))
    by_cases h1 : a = i <;> simp [h1, hb]
  · simp

theorem clearL1_eq (hR : R ≤ 50) (hC : C ≤ 50) {A : Nat → Nat → Int} {top c : Nat} (ht : top < R) (hc : c < C) {den : Int} (hd : den ≠ 0) (e : Int) (g : List Int) :
    matrix_reduced_clear'L1 (top : Int) (c : Int) top (A top c) (R : Int) den e g (0, T2 R C A) = some (.inl (T2 R C (clr top c A den))) := by
  refine loop_to (fun i : Nat => ((i : Int), T2 R C (fun a b => if a < i then clr top c A den a b else A a b))) R (many_of (by omega)) _ ?_ ?_ _ ?_
  · intro i hi
    have hfin : ∀ B : Nat → Nat → Int, (∀ b, b < C → B i b = clr top c A den i b) → (∀ a b, a < R → b < C → a ≠ i → B a b = if a < i then clr top c A den a b else A a b) → T2 R C B = T2 R C (fun a b => if a < i + 1 then clr top c A den a b else A a b) := fun B h1 h2 => T2_congr fun a b ha hb => by
      by_cases e : a = i
      · subst e
        rw [if_pos (by omega), h1 b hb]
      · rw [h2 a b ha hb e]
        by_cases h : a < i
        · rw [if_pos h, if_pos (by omega)]
        · rw [if_neg h, if_neg (by omega)]
    by_cases hne : i = top
    · subst hne
      simp (disch := omega) only [matrix_reduced_clear'L1K, T2_len, w64_succ, ckB_ix, ckB_inR, ckB_room, ckB_cut, ckB_mk, ckB_ne, bif_lt, bif_nlt, bif_le, bif_nle, bif_eq, bif_neq, bif_ne, bif_nne, bif_not, bif_true', bif_false', bnd_ok, lk_inl, lk_inr, Int.toNat_natCast]
      refine congrArg some (congrArg LR.next (Prod.ext rfl (hfin _ (fun b hb => ?_) fun a b ha hb he => rfl)))
      rw [if_neg (by omega)]
      simp [clr]
    · have hii : ∀ b, (if i < i then clr top c A den i b else A i b) = A i b := fun b => if_neg (by omega)
      have hL0 := clearL0_eq (R := R) hC (A := fun a b => if a < i then clr top c A den a b else A a b) ht hi hne hd (A top c) (A i c) (top : Int) (c : Int) (R : Int) (i : Int) e g
      have hine : (i : Int) ≠ (top : Int) := by omega
      simp (disch := omega) only [matrix_reduced_clear'L1K, T2_len, T2_row hi, tab_len, tab_getD hc, hii, hL0, w64_succ, ckB_ix, ckB_inR, ckB_room, ckB_cut, ckB_mk, ckB_ne, bif_lt, bif_nlt, bif_le, bif_nle, bif_eq, bif_neq, bif_ne, bif_nne, bif_not, bif_true', bif_false', bnd_ok, lk_inl, lk_inr, Int.toNat_natCast]
      refine congrArg some (congrArg LR.next (Prod.ext rfl (hfin _ (fun b hb => ?_) fun a b ha hb he => ?_)))
      · have h1 : (if top < i then clr top c A den top b else A top b) = A top b := by
          split
          · simp [clr]
          · rfl
        simp only [if_true, hii, h1]
        simp [clr, hne]
      · simp only [if_neg he]
  · simp (disch := omega) only [matrix_reduced_clear'L1K, ckB_ix, ckB_inR, ckB_room, ckB_cut, ckB_mk, ckB_ne, bif_lt, bif_nlt, bif_le, bif_nle, bif_eq, bif_neq, bif_ne, bif_nne, bif_not, bif_true', bif_false', bnd_ok, lk_inl, lk_inr, Int.toNat_natCast]
    refine congrArg some (congrArg LR.done (T2_congr fun a b ha hb => ?_))
    simp [ha]
  · simp

theorem clear_eq (hR : R ≤ 50) (hC : C ≤ 50) {A : Nat → Nat → Int} {top c : Nat} (ht : top < R) (hc : c < C) {den : Int} (hd : den ≠ 0) (e : Int) (g : List Int) :
    matrix_reduced_clear' (top : Int) (c : Int) den e (T2 R C A) g = some (A top c, e, T2 R C (clr top c A den), g) := by
  have h := clearL1_eq hR hC (A := A) ht hc hd e g
  unfold matrix_reduced_clear'
  simp (disch := omega) only [T2_len, T2_row ht, tab_len, tab_getD hc, h, ckB_ix, ckB_inR, ckB_room, ckB_cut, ckB_mk, ckB_ne, bif_lt, bif_nlt, bif_le, bif_nle, bif_eq, bif_neq, bif_ne, bif_nne, bif_not, bif_true', bif_false', bnd_ok, lk_inl, lk_inr, Int.toNat_natCast]

abbrev casts (l : List Nat) : List Int := l.map fun (v : Nat) => (v : Int)
theorem casts_len (l : List Nat) : (casts l).length = l.length := by simp

theorem nzL1_eq (hR : R ≤ 50) {A : Nat → Nat → Int} {c : Nat} (hc : c < C) {k : Nat} (hk : k ≤ R) (a b d e : Int) (x : List (List Int)) (y : List Int) (f g : Int) (z : List Int) :
    matrix_reduceL1 a (c : Int) b x y d e f g (T2 R C A) z (k : Int) = some (.inl ((nz A c (R - k) k : Nat) : Int)) := by
  obtain ⟨h1, h2, h3, h4⟩ := nz_spec A c (R - k) k
  refine loop_to (fun i : Nat => ((k + i : Nat) : Int)) (nz A c (R - k) k - k) (many_of (by omega)) _ ?_ ?_ _ rfl
  · intro i hi
    have h0 := h4 (k + i) (by omega) (by omega)
    have hkR : k + i < R := by omega
    simp (disch := omega) only [matrix_reduceL1K, T2_len, T2_row hkR, tab_len, tab_getD hc, h0, w64_succ, decide_true, ckB_ix, ckB_inR, ckB_room, ckB_cut, ckB_mk, ckB_ne, bif_lt, bif_nlt, bif_le, bif_nle, bif_eq, bif_neq, bif_ne, bif_nne, bif_not, bif_true', bif_false', bnd_ok, lk_inl, lk_inr, Int.toNat_natCast]
    rw [Nat.add_assoc]
  · have e0 : k + (nz A c (R - k) k - k) = nz A c (R - k) k := by omega
    rw [e0]
    by_cases hlt : nz A c (R - k) k < R
    · have hne := h3 (by omega)
      simp (disch := omega) only [matrix_reduceL1K, T2_len, T2_row hlt, tab_len, tab_getD hc, ckB_ix, ckB_inR, ckB_room, ckB_cut, ckB_mk, ckB_ne, bif_lt, bif_nlt, bif_le, bif_nle, bif_eq, bif_neq, bif_ne, bif_nne, bif_not, bif_true', bif_false', bnd_ok, lk_inl, lk_inr, Int.toNat_natCast]
    · simp (disch := omega) only [matrix_reduceL1K, T2_len, ckB_ix, ckB_inR, ckB_room, ckB_cut, ckB_mk, ckB_ne, bif_lt, bif_nlt, bif_le, bif_nle, bif_eq, bif_neq, bif_ne, bif_nne, bif_not, bif_true', bif_false', bnd_ok, lk_inl, lk_inr, Int.toNat_natCast]

theorem redR_full {A : Nat → Nat → Int} {c : Nat} (h : (redR R A c).piv.length = R) : ∀ n, redR R A (c + n) = redR R A c
  | 0 => rfl
  | n + 1 => by
    have ih := redR_full h n
    show stepR R (c + n) (redR R A (c + n)) = _
    rw [ih]
    unfold stepR
    rw [h, Nat.sub_self, if_pos (show nz _ _ 0 R = R from rfl)]

theorem swap_T2 {A : Nat → Nat → Int} {k t : Nat} (hk : k < R) (ht : t < R) : ((T2 R C A).set k ((T2 R C A).getD t [])).set t ((T2 R C A).getD k []) = T2 R C (swp A k t) := by
  rw [T2_row hk, T2_row ht, T2_setr]
  rw [T2_setr]
  refine T2_congr fun a b _ _ => ?_
  unfold swp
  by_cases e1 : a = t
  · rw [if_pos e1, if_pos e1]
  · rw [if_neg e1, if_neg e1]
    by_cases e2 : a = k
    · rw [if_pos e2, if_pos e2]
    · rw [if_neg e2, if_neg e2]

def prStep (R C : Nat) (cols : Nat) (a : Int × Int × Int × List (List Int) × List Int) : Option (LR (Int × Int × Int × List (List Int) × List Int) (Int × Int × List (List Int) × List Int) Casebookref05Form) :=
  matrix_reduceL2K (cols : Int) [] [] 0 0 a.1 a.2.1 a.2.2.1 a.2.2.2.1 a.2.2.2.2 (fun a' => some (.next a')) (fun e => some (.done e)) (fun r => some (.ret r))

theorem prStep_eq (hR : R ≤ 50) (hC : C ≤ 50) {cols : Nat} (hcols : cols ≤ C) {A : Nat → Nat → Int} {c : Nat} (hc : c < cols) (hp : (redR R A c).piv.length < R) :
    prStep R C cols ((c : Int), (redR R A c).den, ((redR R A c).sw : Int), T2 R C (redR R A c).A, casts (redR R A c).piv) = some (.next (((c + 1 : Nat) : Int), (redR R A (c + 1)).den, ((redR R A (c + 1)).sw : Int), T2 R C (redR R A (c + 1)).A, casts (redR R A (c + 1)).piv)) := by
  have hI := redR_inv R A c
  show _ = some (LR.next (((c + 1 : Nat) : Int), (stepR R c (redR R A c)).den, ((stepR R c (redR R A c)).sw : Int), T2 R C (stepR R c (redR R A c)).A, casts (stepR R c (redR R A c)).piv))
  generalize redR R A c = s at hI hp
  obtain ⟨h1, h2, h3, h4⟩ := nz_spec s.A c (R - s.piv.length) s.piv.length
  have hcC : c < C := by omega
  have hcl := casts_len s.piv
  have hsw := hI.swl
  have hL1 := nzL1_eq hR (A := s.A) hcC (k := s.piv.length) (by omega) (cols : Int) (s.piv.length : Int) 0 0 [] [] s.den (s.sw : Int) (casts s.piv)
  unfold stepR
  by_cases e1 : nz s.A c (R - s.piv.length) s.piv.length = R
  · rw [if_pos e1]
    rw [e1] at hL1
    simp (disch := omega) only [prStep, matrix_reduceL2K, hcl, T2_len, hL1, w64_succ, decide_true, ckB_ix, ckB_inR, ckB_room, ckB_cut, ckB_mk, ckB_ne, bif_lt, bif_nlt, bif_le, bif_nle, bif_eq, bif_neq, bif_ne, bif_nne, bif_not, bif_true', bif_false', bnd_ok, lk_inl, lk_inr, Int.toNat_natCast]
  · rw [if_neg e1]
    have hk : nz s.A c (R - s.piv.length) s.piv.length < R := by omega
    have e1' : ((nz s.A c (R - s.piv.length) s.piv.length : Nat) : Int) ≠ (R : Int) := by omega
    by_cases e2 : nz s.A c (R - s.piv.length) s.piv.length = s.piv.length
    · rw [if_pos e2]
      have e2' : ((nz s.A c (R - s.piv.length) s.piv.length : Nat) : Int) = (s.piv.length : Int) := by omega
      have hcz := clear_eq hR hC (A := s.A) hp hcC hI.den (s.sw : Int) (casts s.piv)
      simp (disch := omega) only [prStep, matrix_reduceL2K, hcl, T2_len, hL1, hcz, w64_succ, decide_true, ckB_true, ckB_ix, ckB_inR, ckB_room, ckB_cut, ckB_mk, ckB_ne, bif_lt, bif_nlt, bif_le, bif_nle, bif_eq, bif_neq, bif_ne, bif_nne, bif_not, bif_true', bif_false', bnd_ok, lk_inl, lk_inr, Int.toNat_natCast]
      simp [casts]
    · rw [if_neg e2]
      have e2' : ((nz s.A c (R - s.piv.length) s.piv.length : Nat) : Int) ≠ (s.piv.length : Int) := by omega
      have hcz := clear_eq hR hC (A := swp s.A (nz s.A c (R - s.piv.length) s.piv.length) s.piv.length) hp hcC hI.den ((s.sw + 1 : Nat) : Int) (casts s.piv)
      have hsp := swap_T2 (C := C) (A := s.A) hk hp
      have hval : swp s.A (nz s.A c (R - s.piv.length) s.piv.length) s.piv.length s.piv.length c = s.A (nz s.A c (R - s.piv.length) s.piv.length) c := by simp [swp]
      rw [hval] at hcz
      simp (disch := omega) only [prStep, matrix_reduceL2K, hcl, T2_len, hL1, hsp, hcz, w64_succ, decide_true, ckB_true, ckB_ix, ckB_inR, ckB_room, ckB_cut, ckB_mk, ckB_ne, bif_lt, bif_nlt, bif_le, bif_nle, bif_eq, bif_neq, bif_ne, bif_nne, bif_not, bif_true', bif_false', bnd_ok, lk_inl, lk_inr, Int.toNat_natCast]
      simp [casts]

theorem prLoop_eq (hR : R ≤ 50) (hC : C ≤ 50) {cols : Nat} (hcols : cols ≤ C) {A : Nat → Nat → Int} : ∀ (n c : Nat), n + c = cols → ∀ m, n < m →
    iter (prStep R C cols) m ((c : Int), (redR R A c).den, ((redR R A c).sw : Int), T2 R C (redR R A c).A, casts (redR R A c).piv) = some (.inl ((redR R A cols).den, ((redR R A cols).sw : Int), T2 R C (redR R A cols).A, casts (redR R A cols).piv)) := by
  intro n
  induction n with
  | zero =>
    intro c hc m hm
    obtain ⟨m, rfl⟩ : ∃ q, m = q + 1 := ⟨m - 1, by omega⟩
    obtain rfl : c = cols := by omega
    have hs : prStep R C c ((c : Int), (redR R A c).den, ((redR R A c).sw : Int), T2 R C (redR R A c).A, casts (redR R A c).piv) = some (.done ((redR R A c).den, ((redR R A c).sw : Int), T2 R C (redR R A c).A, casts (redR R A c).piv)) := by
      simp (disch := omega) only [prStep, matrix_reduceL2K, ckB_ix, ckB_inR, ckB_room, ckB_cut, ckB_mk, ckB_ne, bif_lt, bif_nlt, bif_le, bif_nle, bif_eq, bif_neq, bif_ne, bif_nne, bif_not, bif_true', bif_false', bnd_ok, lk_inl, lk_inr, Int.toNat_natCast]
    rw [iter_succ, hs]
    rfl
  | succ n ih =>
    intro c hc m hm
    obtain ⟨m, rfl⟩ : ∃ q, m = q + 1 := ⟨m - 1, by omega⟩
    have hI := redR_inv R A c
    by_cases hp : (redR R A c).piv.length < R
    · rw [iter_succ, prStep_eq hR hC hcols (by omega) hp, bnd_ok]
      exact ih (c + 1) (by omega) m (by omega)
    · have hpe : (redR R A c).piv.length = R := by have := hI.piv; omega
      have hfull := redR_full hpe (cols - c)
      rw [show c + (cols - c) = cols by omega] at hfull
      have hcl := casts_len (redR R A c).piv
      have hs : prStep R C cols ((c : Int), (redR R A c).den, ((redR R A c).sw : Int), T2 R C (redR R A c).A, casts (redR R A c).piv) = some (.done ((redR R A c).den, ((redR R A c).sw : Int), T2 R C (redR R A c).A, casts (redR R A c).piv)) := by
        simp (disch := omega) only [prStep, matrix_reduceL2K, hcl, T2_len, ckB_ix, ckB_inR, ckB_room, ckB_cut, ckB_mk, ckB_ne, bif_lt, bif_nlt, bif_le, bif_nle, bif_eq, bif_neq, bif_ne, bif_nne, bif_not, bif_true', bif_false', bnd_ok, lk_inl, lk_inr, Int.toNat_natCast]
      rw [iter_succ, hs, hfull]
      rfl

theorem clone_eq (l : List Int) (h0 : 0 < l.length) (h : l.length ≤ 50) : slices_Clone_int_int l = some l := by
  unfold slices_Clone_int_int
  simp (disch := omega) only [ckB_blt h0, List.nil_append, ckB_ix, ckB_inR, ckB_room, ckB_cut, ckB_mk, ckB_ne, bif_lt, bif_nlt, bif_le, bif_nle, bif_eq, bif_neq, bif_ne, bif_nne, bif_not, bif_true', bif_false', bnd_ok, lk_inl, lk_inr, Int.toNat_natCast]

theorem reduceL0_eq (hR : R ≤ 50) (hC : C ≤ 50) (hC0 : 0 < C) {A : Nat → Nat → Int} (a : Int) : matrix_reduceL0 a (T2 R C A) (R : Int) [] [] 0 0 1 0 [] (0, []) = some (.inl (T2 R C A)) := by
  refine loop_to (fun i : Nat => ((i : Int), T2 i C A)) R (many_of (by omega)) _ ?_ ?_ _ rfl
  · intro i hi
    have hcl := clone_eq (tab C (A i)) (by rw [tab_len]; exact hC0) (by rw [tab_len]; exact hC)
    simp (disch := omega) only [matrix_reduceL0K, T2_len, T2_row hi, hcl, w64_succ, ckB_ix, ckB_inR, ckB_room, ckB_cut, ckB_mk, ckB_ne, bif_lt, bif_nlt, bif_le, bif_nle, bif_eq, bif_neq, bif_ne, bif_nne, bif_not, bif_true', bif_false', bnd_ok, lk_inl, lk_inr, Int.toNat_natCast]
    rw [T2, ← tab_succ]
  · simp (disch := omega) only [matrix_reduceL0K, T2_len, ckB_ix, ckB_inR, ckB_room, ckB_cut, ckB_mk, ckB_ne, bif_lt, bif_nlt, bif_le, bif_nle, bif_eq, bif_neq, bif_ne, bif_nne, bif_not, bif_true', bif_false', bnd_ok, lk_inl, lk_inr, Int.toNat_natCast]

theorem reduce_eq (hR : R ≤ 50) (hC : C ≤ 50) (hC0 : 0 < C) {cols : Nat} (hcols : cols ≤ C) (A : Nat → Nat → Int) :
    matrix_reduce (T2 R C A) (cols : Int) = some (T2 R C (redR R A cols).A, casts (redR R A cols).piv, (redR R A cols).den, ((redR R A cols).sw : Int), ()) := by
  have h0 := reduceL0_eq hR hC hC0 (A := A) (cols : Int)
  have h1 : matrix_reduceL2 (cols : Int) [] [] 0 0 (0, 1, 0, T2 R C A, []) = some (.inl ((redR R A cols).den, ((redR R A cols).sw : Int), T2 R C (redR R A cols).A, casts (redR R A cols).piv)) :=
    prLoop_eq hR hC hcols (A := A) cols 0 rfl many (many_of (by omega))
  unfold matrix_reduce
  simp (disch := omega) only [T2_len, h0, h1, ckB_ix, ckB_inR, ckB_room, ckB_cut, ckB_mk, ckB_ne, bif_lt, bif_nlt, bif_le, bif_nle, bif_eq, bif_neq, bif_ne, bif_nne, bif_not, bif_true', bif_false', bnd_ok, lk_inl, lk_inr, Int.toNat_natCast]

end
end Go.Proofs.Ytjjhanfglelldaa
