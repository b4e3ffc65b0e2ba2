/-
  Matrices: which are small; Rank and Det: the statement MatrixRanks in plain words.
-/
import Derived.Test.YtjjhanfglelldaaQ3
set_option linter.all false
namespace Go.Proofs.Ytjjhanfglelldaa
open Go.K Go.M

/-- A valid matrix by its entries. -/
theorem valid_at {m : List (List Int)} (h : validM m = true) : ∃ (R C : Nat) (A : Nat → Nat → Int), m = T2 R C A ∧ m.length = R ∧ (m.getD 0 []).length = C ∧ 1 ≤ R ∧ R ≤ 20 ∧ 1 ≤ C ∧ C ≤ 20 ∧ ∀ i j, -1048576 ≤ A i j ∧ A i j ≤ 1048576 := by
  unfold validM at h
  simp only [Bool.and_eq_true, decide_eq_true_eq, List.all_eq_true] at h
  obtain ⟨⟨⟨⟨h1, h2⟩, h3⟩, h4⟩, h5⟩ := h
  refine ⟨m.length, (m.getD 0 []).length, fun i j => (m.getD i []).getD j 0, ?_, rfl, rfl, h1, h2, h3, h4, fun i j => ?_⟩
  · conv => lhs; rw [tab_of m []]
    refine tab_congr fun i hi => ?_
    have hl := (h5 _ (getD_mem [] hi)).1
    conv => lhs; rw [tab_of (m.getD i []) 0]
    rw [hl]
  · by_cases hi : i < m.length
    · by_cases hj : j < (m.getD i []).length
      · have := (h5 _ (getD_mem [] hi)).2 _ (getD_mem 0 hj)
        simp only [entB, Bool.and_eq_true, decide_eq_true_eq] at this
        exact this
      · have : (m.getD i []).getD j 0 = 0 := by simp [List.getD_eq_getElem?_getD] at hj ⊢; rw [List.getElem?_eq_none (by omega)]; rfl
        simp only [this]
        omega
    · have : m.getD i [] = [] := by simp only [List.getD_eq_getElem?_getD]; rw [List.getElem?_eq_none (by omega)]; rfl
      simp only [this]
      simp

section
variable {R C : Nat} {A : Nat → Nat → Int}

def ab (x : Int) : Int := max x (0 - x)
theorem ab_nn (x : Int) : 0 ≤ ab x := by unfold ab; omega
def aS (C : Nat) (A : Nat → Nat → Int) (i : Nat) : Int := sumN (fun j => ab (A i j)) C
def pr (C : Nat) (A : Nat → Nat → Int) : Nat → Int
  | 0 => 1
  | n + 1 => pr C A n * max (aS C A n) 1

theorem sumN_nn {f : Nat → Int} : ∀ n, (∀ k, k < n → 0 ≤ f k) → 0 ≤ sumN f n
  | 0, _ => Int.le_refl _
  | n + 1, h => by
    have := sumN_nn n fun k hk => h k (by omega)
    have := h n (by omega)
    simp only [sumN]
    omega
theorem aS_bd (hC : C ≤ 50) (hA : ∀ i j, -1048576 ≤ A i j ∧ A i j ≤ 1048576) (i : Nat) {n : Nat} (hn : n ≤ C) : 0 ≤ sumN (fun j => ab (A i j)) n ∧ sumN (fun j => ab (A i j)) n ≤ 52428800 := by
  refine ⟨sumN_nn n fun k _ => ab_nn _, ?_⟩
  have := (sumN_bound (b := 1048576) n (f := fun j => ab (A i j)) fun k _ => by have := hA i k; unfold ab; omega).2
  have h2 : (n : Int) * 1048576 ≤ 50 * 1048576 := Int.mul_le_mul_of_nonneg_right (by omega) (by omega)
  omega
theorem pr_pos (C : Nat) (A : Nat → Nat → Int) : ∀ n, 1 ≤ pr C A n
  | 0 => Int.le_refl _
  | n + 1 => by
    have h := pr_pos C A n
    have h1 : 1 ≤ max (aS C A n) 1 := by omega
    have h2 : pr C A n * 1 ≤ pr C A n * max (aS C A n) 1 := Int.mul_le_mul_of_nonneg_left h1 (by omega)
    show 1 ≤ pr C A n * max (aS C A n) 1
    omega
theorem pr_mono (C : Nat) (A : Nat → Nat → Int) (n : Nat) : pr C A n ≤ pr C A (n + 1) := by
  have h := pr_pos C A n
  have h1 : 1 ≤ max (aS C A n) 1 := by omega
  have h2 : pr C A n * 1 ≤ pr C A n * max (aS C A n) 1 := Int.mul_le_mul_of_nonneg_left h1 (by omega)
  show pr C A n ≤ pr C A n * max (aS C A n) 1
  omega
theorem pr_le (C : Nat) (A : Nat → Nat → Int) (n : Nat) : ∀ k, pr C A n ≤ pr C A (n + k)
  | 0 => Int.le_refl _
  | k + 1 => Int.le_trans (pr_le C A n k) (pr_mono C A (n + k))

/-- Small matrices. -/
def smallM (R C : Nat) (A : Nat → Nat → Int) : Bool := decide (pr C A R ≤ 1073741824)

theorem abs_eq {x : Int} (h0 : -1048576 ≤ x) (h1 : x ≤ 1048576) : matrix_abs x = some (ab x) := by
  unfold matrix_abs ab
  rw [wrap_i64 (by omega) (by omega)]
theorem size_eq {x : Int} (h0 : -1048576 ≤ x) (h1 : x ≤ 1048576) : ref05_size x = some (ab x) := by
  unfold ref05_size ab
  by_cases h : x < 0
  · rw [bif_lt h, wrap_i64 (by omega) (by omega)]
    refine congrArg some ?_
    omega
  · rw [bif_nlt (by omega)]
    refine congrArg some ?_
    omega

theorem smallL0_eq (hC : C ≤ 50) (hA : ∀ i j, -1048576 ≤ A i j ∧ A i j ≤ 1048576) (i : Nat) (p : Int) (x : List (List Int)) (a b : Int) : matrix_smallL0 p x a b (tab C (A i)) (C : Int) (0, 0) = some (.inl (aS C A i)) := by
  refine loop_to (fun j : Nat => (sumN (fun j => ab (A i j)) j, (j : Int))) C (many_of (by omega)) _ ?_ ?_ _ rfl
  · intro j hj
    have h1 := aS_bd hC hA i (n := j) (by omega)
    have h2 := hA i j
    have h3 := abs_eq h2.1 h2.2
    have h4 := ab_nn (A i j)
    have h5 : ab (A i j) ≤ 1048576 := by unfold ab; omega
    simp (disch := omega) only [matrix_smallL0K, tab_len, tab_getD hj, h3, ckB_ix, ckB_inR, ckB_room, ckB_cut, ckB_mk, ckB_ne, bif_lt, bif_nlt, bif_le, bif_nle, bif_eq, bif_neq, bif_ne, bif_nne, bif_not, bif_true', bif_false', bnd_ok, lk_inl, lk_inr, Int.toNat_natCast]
    rw [cast_succ]
    rfl
  · simp (disch := omega) only [matrix_smallL0K, ckB_ix, ckB_inR, ckB_room, ckB_cut, ckB_mk, ckB_ne, bif_lt, bif_nlt, bif_le, bif_nle, bif_eq, bif_neq, bif_ne, bif_nne, bif_not, bif_true', bif_false', bnd_ok, lk_inl, lk_inr, Int.toNat_natCast]
    rfl
theorem refsmallL0_eq (hR : R ≤ 50) (hC : C ≤ 50) (hA : ∀ i j, -1048576 ≤ A i j ∧ A i j ≤ 1048576) {i : Nat} (hi : i < R) (p : Int) : ref05_SmallL0 (T2 R C A) p (i : Int) (0, 0) = some (.inl (aS C A i)) := by
  refine loop_to (fun j : Nat => (sumN (fun j => ab (A i j)) j, (j : Int))) C (many_of (by omega)) _ ?_ ?_ _ rfl
  · intro j hj
    have h1 := aS_bd hC hA i (n := j) (by omega)
    have h2 := hA i j
    have h3 := size_eq h2.1 h2.2
    have h4 := ab_nn (A i j)
    have h5 : ab (A i j) ≤ 1048576 := by unfold ab; omega
    simp (disch := omega) only [ref05_SmallL0K, T2_len, T2_row hi, tab_len, tab_getD hj, h3, ckB_ix, ckB_inR, ckB_room, ckB_cut, ckB_mk, ckB_ne, bif_lt, bif_nlt, bif_le, bif_nle, bif_eq, bif_neq, bif_ne, bif_nne, bif_not, bif_true', bif_false', bnd_ok, lk_inl, lk_inr, Int.toNat_natCast]
    rw [cast_succ]
    rfl
  · simp (disch := omega) only [ref05_SmallL0K, T2_len, T2_row hi, tab_len, ckB_ix, ckB_inR, ckB_room, ckB_cut, ckB_mk, ckB_ne, bif_lt, bif_nlt, bif_le, bif_nle, bif_eq, bif_neq, bif_ne, bif_nne, bif_not, bif_true', bif_false', bnd_ok, lk_inl, lk_inr, Int.toNat_natCast]
    rfl

theorem pr_step (hC : C ≤ 50) (hA : ∀ i j, -1048576 ≤ A i j ∧ A i j ≤ 1048576) {i : Nat} (h : pr C A i ≤ 1073741824) : 1 ≤ pr C A (i + 1) ∧ pr C A (i + 1) ≤ 1073741824 * 52428800 := by
  refine ⟨pr_pos C A (i + 1), ?_⟩
  have h1 := pr_pos C A i
  have h2 := aS_bd hC hA i (Nat.le_refl C)
  have h3 := mul_bound (a := 1073741824) (b := 52428800) (x := pr C A i) (y := max (aS C A i) 1) ⟨by omega, h⟩ (by unfold aS; omega)
  exact h3.2

theorem small_eq (hR : R ≤ 50) (hC : C ≤ 50) (hA : ∀ i j, -1048576 ≤ A i j ∧ A i j ≤ 1048576) : matrix_small (T2 R C A) = some (smallM R C A) := by
  obtain ⟨o, ho, hp⟩ : ∃ o, matrix_smallL1 (T2 R C A) (R : Int) (1, 0) = some o ∧ (o = .inl () ∧ smallM R C A = true ∨ o = .inr false ∧ smallM R C A = false) := by
    refine loop_inv (fun s => ∃ i : Nat, s = (pr C A i, (i : Int)) ∧ i ≤ R ∧ pr C A i ≤ 1073741824) (fun s => R + 1 - Int.toNat s.2) _ _ ⟨0, rfl, Nat.zero_le _, by simp [pr]⟩ (by show R + 1 - Int.toNat 0 < many; unfold many; omega) ?_
    rintro s ⟨i, rfl, hi, hpi⟩
    by_cases hlt : i < R
    · have hL0 := smallL0_eq hC hA i (pr C A i) (T2 R C A) (R : Int) (i : Int)
      obtain ⟨h1, h2⟩ := pr_step hC hA hpi
      have hpe : pr C A i * max (aS C A i) 1 = pr C A (i + 1) := rfl
      by_cases hb : 1073741824 < pr C A (i + 1)
      · refine ⟨.ret false, by simp (disch := omega) only [matrix_smallL1K, T2_len, T2_row hlt, tab_len, hL0, hpe, ckB_ix, ckB_inR, ckB_room, ckB_cut, ckB_mk, ckB_ne, bif_lt, bif_nlt, bif_le, bif_nle, bif_eq, bif_neq, bif_ne, bif_nne, bif_not, bif_true', bif_false', bnd_ok, lk_inl, lk_inr, Int.toNat_natCast], .inr ⟨rfl, ?_⟩⟩
        have := pr_le C A (i + 1) (R - (i + 1))
        rw [show i + 1 + (R - (i + 1)) = R by omega] at this
        exact decide_eq_false (by omega)
      · refine ⟨.next (pr C A (i + 1), (i : Int) + 1), by simp (disch := omega) only [matrix_smallL1K, T2_len, T2_row hlt, tab_len, hL0, hpe, ckB_ix, ckB_inR, ckB_room, ckB_cut, ckB_mk, ckB_ne, bif_lt, bif_nlt, bif_le, bif_nle, bif_eq, bif_neq, bif_ne, bif_nne, bif_not, bif_true', bif_false', bnd_ok, lk_inl, lk_inr, Int.toNat_natCast], ⟨i + 1, by rw [cast_succ], hlt, by omega⟩, by simp only []; omega⟩
    · obtain rfl : i = R := by omega
      exact ⟨.done (), by simp (disch := omega) only [matrix_smallL1K, ckB_ix, ckB_inR, ckB_room, ckB_cut, ckB_mk, ckB_ne, bif_lt, bif_nlt, bif_le, bif_nle, bif_eq, bif_neq, bif_ne, bif_nne, bif_not, bif_true', bif_false', bnd_ok, lk_inl, lk_inr, Int.toNat_natCast], .inl ⟨rfl, decide_eq_true hpi⟩⟩
  unfold matrix_small
  rw [T2_len, ho, bnd_ok]
  rcases hp with ⟨rfl, h⟩ | ⟨rfl, h⟩ <;> rw [h] <;> rfl

theorem refSmall_eq (hR : R ≤ 50) (hC : C ≤ 50) (hA : ∀ i j, -1048576 ≤ A i j ∧ A i j ≤ 1048576) : ref05_Small (T2 R C A) = some (smallM R C A) := by
  obtain ⟨o, ho, hp⟩ : ∃ o, ref05_SmallL1 (T2 R C A) (1, 0) = some o ∧ (o = .inl () ∧ smallM R C A = true ∨ o = .inr false ∧ smallM R C A = false) := by
    refine loop_inv (fun s => ∃ i : Nat, s = (pr C A i, (i : Int)) ∧ i ≤ R ∧ pr C A i ≤ 1073741824) (fun s => R + 1 - Int.toNat s.2) _ _ ⟨0, rfl, Nat.zero_le _, by simp [pr]⟩ (by show R + 1 - Int.toNat 0 < many; unfold many; omega) ?_
    rintro s ⟨i, rfl, hi, hpi⟩
    by_cases hlt : i < R
    · have hL0 := refsmallL0_eq hR hC hA hlt (pr C A i)
      obtain ⟨h1, h2⟩ := pr_step hC hA hpi
      have hnn := (aS_bd hC hA i (Nat.le_refl C)).1
      have hpe : pr C A (i + 1) = pr C A i * max (aS C A i) 1 := rfl
      by_cases hz : 0 < aS C A i
      · have hpe' : pr C A i * aS C A i = pr C A (i + 1) := by rw [hpe]; congr 1; omega
        by_cases hb : 1073741824 < pr C A (i + 1)
        · refine ⟨.ret false, by simp (disch := omega) only [ref05_SmallL1K, T2_len, hL0, hpe', ckB_ix, ckB_inR, ckB_room, ckB_cut, ckB_mk, ckB_ne, bif_lt, bif_nlt, bif_le, bif_nle, bif_eq, bif_neq, bif_ne, bif_nne, bif_not, bif_true', bif_false', bnd_ok, lk_inl, lk_inr, Int.toNat_natCast], .inr ⟨rfl, ?_⟩⟩
          have := pr_le C A (i + 1) (R - (i + 1))
          rw [show i + 1 + (R - (i + 1)) = R by omega] at this
          exact decide_eq_false (by omega)
        · refine ⟨.next (pr C A (i + 1), (i : Int) + 1), by simp (disch := omega) only [ref05_SmallL1K, T2_len, hL0, hpe', ckB_ix, ckB_inR, ckB_room, ckB_cut, ckB_mk, ckB_ne, bif_lt, bif_nlt, bif_le, bif_nle, bif_eq, bif_neq, bif_ne, bif_nne, bif_not, bif_true', bif_false', bnd_ok, lk_inl, lk_inr, Int.toNat_natCast], ⟨i + 1, by rw [cast_succ], hlt, by omega⟩, by simp only []; omega⟩
      · have hpe' : pr C A (i + 1) = pr C A i := by
          have : max (aS C A i) 1 = 1 := by unfold aS at hz ⊢; omega
          rw [hpe, this, Int.mul_one]
        refine ⟨.next (pr C A i, (i : Int) + 1), by simp (disch := omega) only [ref05_SmallL1K, T2_len, hL0, ckB_ix, ckB_inR, ckB_room, ckB_cut, ckB_mk, ckB_ne, bif_lt, bif_nlt, bif_le, bif_nle, bif_eq, bif_neq, bif_ne, bif_nne, bif_not, bif_true', bif_false', bnd_ok, lk_inl, lk_inr, Int.toNat_natCast], ⟨i + 1, by rw [cast_succ, hpe'], hlt, by omega⟩, by simp only []; omega⟩
    · obtain rfl : i = R := by omega
      exact ⟨.done (), by simp (disch := omega) only [ref05_SmallL1K, T2_len, ckB_ix, ckB_inR, ckB_room, ckB_cut, ckB_mk, ckB_ne, bif_lt, bif_nlt, bif_le, bif_nle, bif_eq, bif_neq, bif_ne, bif_nne, bif_not, bif_true', bif_false', bnd_ok, lk_inl, lk_inr, Int.toNat_natCast], .inl ⟨rfl, decide_eq_true hpi⟩⟩
  unfold ref05_Small
  rw [ho, bnd_ok]
  rcases hp with ⟨rfl, h⟩ | ⟨rfl, h⟩ <;> rw [h] <;> rfl

/-! Integers of 64 bits. -/
def in64 (x : Int) : Prop := -9223372036854775808 ≤ x ∧ x ≤ 9223372036854775807
theorem w64_in (x : Int) : in64 (w64 x) := by
  unfold in64 w64
  simp [IntKind.wrap, IntKind.bits, IntKind.signed]
  omega
theorem w64_id {x : Int} (h : in64 x) : w64 x = x := wrap_i64 h.1 h.2
theorem redR_in {A : Nat → Nat → Int} (hA : ∀ i j, in64 (A i j)) : ∀ c, (∀ i j, in64 ((redR R A c).A i j)) ∧ in64 (redR R A c).den
  | 0 => ⟨hA, ⟨show (-9223372036854775808 : Int) ≤ 1 by decide, show (1 : Int) ≤ 9223372036854775807 by decide⟩⟩
  | c + 1 => by
    have h := redR_in hA c
    show (∀ i j, in64 ((stepR R c (redR R A c)).A i j)) ∧ in64 (stepR R c (redR R A c)).den
    generalize redR R A c = s at h
    have hc : ∀ (B : Nat → Nat → Int) t d, (∀ i j, in64 (B i j)) → ∀ i j, in64 (clr t c B d i j) := fun B t d hB i j => by
      unfold clr
      split
      · exact hB i j
      · exact w64_in _
    unfold stepR
    split
    · exact h
    · split
      · exact ⟨hc _ _ _ h.1, h.1 _ _⟩
      · exact ⟨hc _ _ _ fun i j => h.1 _ _, h.1 _ _⟩

theorem sgn_mod (n : Nat) (hn : n ≤ 1000) (d : Int) (hd : in64 d) : (bif decide (Int.tmod (n : Int) 2 = 1) then w64 (0 - d) else d) = w64 (sgn n * d) := by
  have e : Int.tmod (n : Int) 2 = ((n % 2 : Nat) : Int) := by rw [Int.tmod_eq_emod_of_nonneg (by omega)]; omega
  rw [e]
  unfold sgn
  rcases Nat.mod_two_eq_zero_or_one n with h | h
  · rw [h, if_pos rfl, Int.one_mul, w64_id hd]
    rfl
  · rw [h, if_neg (by omega)]
    simp
end

theorem okM.valid {m : List (List Int)} (h : okM m) : matrix_Valid m = some (validM m) := Valid_eq m h.row

/-- Rank and Det, by both. -/
theorem rank_both {m : List (List Int)} (h : okM m) : ∃ a b, matrix_Rank m = some (a, b) ∧ ref05_Rank m = some (a, b) := by
  cases hv : validM m with
  | false =>
    refine ⟨0, 1, ?_, ?_⟩
    · unfold matrix_Rank; rw [h.valid, hv]; rfl
    · unfold ref05_Rank; rw [refValid_eq, hv]; rfl
  | true =>
    obtain ⟨R, C, A, rfl, hR, hC, r1, r2, c1, c2, hA⟩ := valid_at hv
    have hval := h.valid
    rw [hv] at hval
    have hs := small_eq (R := R) (C := C) (by omega) (by omega) hA
    have hs' := refSmall_eq (R := R) (C := C) (by omega) (by omega) hA
    have h0 : 0 < R := by omega
    cases hsm : smallM R C A with
    | false =>
      rw [hsm] at hs hs'
      refine ⟨0, 6, ?_, ?_⟩
      · unfold matrix_Rank; simp (disch := omega) only [hval, Bool.not_true, hs, Bool.not_false, ckB_ix, ckB_inR, ckB_room, ckB_cut, ckB_mk, ckB_ne, bif_lt, bif_nlt, bif_le, bif_nle, bif_eq, bif_neq, bif_ne, bif_nne, bif_not, bif_true', bif_false', bnd_ok, lk_inl, lk_inr, Int.toNat_natCast]
      · unfold ref05_Rank; simp (disch := omega) only [refValid_eq, hv, Bool.not_true, hs', Bool.not_false, ckB_ix, ckB_inR, ckB_room, ckB_cut, ckB_mk, ckB_ne, bif_lt, bif_nlt, bif_le, bif_nle, bif_eq, bif_neq, bif_ne, bif_nne, bif_not, bif_true', bif_false', bnd_ok, lk_inl, lk_inr, Int.toNat_natCast]
    | true =>
      rw [hsm] at hs hs'
      have hred := reduce_eq (R := R) (C := C) (by omega) (by omega) c1 (Nat.le_refl C) A
      have hred' := refReduce_eq (R := R) (C := C) (by omega) (by omega) (Nat.le_refl C) A
      refine ⟨((casts (redR R A C).piv).length : Int), 0, ?_, ?_⟩
      · unfold matrix_Rank; simp (disch := omega) only [hval, Bool.not_true, hs, T2_len, T2_row h0, tab_len, hred, ckB_ix, ckB_inR, ckB_room, ckB_cut, ckB_mk, ckB_ne, bif_lt, bif_nlt, bif_le, bif_nle, bif_eq, bif_neq, bif_ne, bif_nne, bif_not, bif_true', bif_false', bnd_ok, lk_inl, lk_inr, Int.toNat_natCast]
      · unfold ref05_Rank; simp (disch := omega) only [refValid_eq, hv, Bool.not_true, hs', T2_len, T2_row h0, tab_len, hred', ckB_ix, ckB_inR, ckB_room, ckB_cut, ckB_mk, ckB_ne, bif_lt, bif_nlt, bif_le, bif_nle, bif_eq, bif_neq, bif_ne, bif_nne, bif_not, bif_true', bif_false', bnd_ok, lk_inl, lk_inr, Int.toNat_natCast]

theorem det_both {m : List (List Int)} (h : okM m) : ∃ a b, matrix_Det m = some (a, b) ∧ ref05_Det m = some (a, b) := by
  cases hv : validM m with
  | false =>
    refine ⟨0, 1, ?_, ?_⟩
    · unfold matrix_Det; rw [h.valid, hv]; rfl
    · unfold ref05_Det; rw [refValid_eq, hv]; rfl
  | true =>
    obtain ⟨R, C, A, rfl, hR, hC, r1, r2, c1, c2, hA⟩ := valid_at hv
    have hval := h.valid
    rw [hv] at hval
    have hs := small_eq (R := R) (C := C) (by omega) (by omega) hA
    have hs' := refSmall_eq (R := R) (C := C) (by omega) (by omega) hA
    have h0 : 0 < R := by omega
    by_cases hsq : R = C
    · have hsq' : (R : Int) = (C : Int) := by omega
      cases hsm : smallM R C A with
      | false =>
        rw [hsm] at hs hs'
        refine ⟨0, 6, ?_, ?_⟩
        · unfold matrix_Det; simp (disch := omega) only [hval, Bool.not_true, hs, T2_len, T2_row h0, tab_len, Bool.not_false, ckB_ix, ckB_inR, ckB_room, ckB_cut, ckB_mk, ckB_ne, bif_lt, bif_nlt, bif_le, bif_nle, bif_eq, bif_neq, bif_ne, bif_nne, bif_not, bif_true', bif_false', bnd_ok, lk_inl, lk_inr, Int.toNat_natCast]
        · unfold ref05_Det; simp (disch := omega) only [refValid_eq, hv, Bool.not_true, hs', T2_len, T2_row h0, tab_len, Bool.not_false, ckB_ix, ckB_inR, ckB_room, ckB_cut, ckB_mk, ckB_ne, bif_lt, bif_nlt, bif_le, bif_nle, bif_eq, bif_neq, bif_ne, bif_nne, bif_not, bif_true', bif_false', bnd_ok, lk_inl, lk_inr, Int.toNat_natCast]
      | true =>
        rw [hsm] at hs hs'
        have hred := reduce_eq (R := R) (C := C) (by omega) (by omega) c1 (cols := R) (by omega) A
        have hred' := refReduce_eq (R := R) (C := C) (by omega) (by omega) (cols := R) (by omega) A
        have hI := redR_inv R A R
        have hin := redR_in (R := R) (A := A) (fun i j => by have := hA i j; unfold in64; omega) R
        have hcl := casts_len (redR R A R).piv
        by_cases hfull : (redR R A R).piv.length < R
        · refine ⟨0, 0, ?_, ?_⟩
          · unfold matrix_Det; simp (disch := omega) only [hval, Bool.not_true, hs, T2_len, T2_row h0, tab_len, hred, hcl, ckB_ix, ckB_inR, ckB_room, ckB_cut, ckB_mk, ckB_ne, bif_lt, bif_nlt, bif_le, bif_nle, bif_eq, bif_neq, bif_ne, bif_nne, bif_not, bif_true', bif_false', bnd_ok, lk_inl, lk_inr, Int.toNat_natCast]
          · unfold ref05_Det; simp (disch := omega) only [refValid_eq, hv, Bool.not_true, hs', T2_len, T2_row h0, tab_len, hred', hcl, ckB_ix, ckB_inR, ckB_room, ckB_cut, ckB_mk, ckB_ne, bif_lt, bif_nlt, bif_le, bif_nle, bif_eq, bif_neq, bif_ne, bif_nne, bif_not, bif_true', bif_false', bnd_ok, lk_inl, lk_inr, Int.toNat_natCast]
        · have hsw := hI.swl
          have hpl := hI.piv
          have hsg := sgn_mod (redR R A R).sw (by omega) (redR R A R).den hin.2
          refine ⟨w64 (sgn (redR R A R).sw * (redR R A R).den), 0, ?_, ?_⟩
          · rw [← hsg]
            unfold matrix_Det; simp (disch := omega) only [hval, Bool.not_true, hs, T2_len, T2_row h0, tab_len, hred, hcl, ckB_ne, ckB_ix, ckB_inR, ckB_room, ckB_cut, ckB_mk, ckB_ne, bif_lt, bif_nlt, bif_le, bif_nle, bif_eq, bif_neq, bif_ne, bif_nne, bif_not, bif_true', bif_false', bnd_ok, lk_inl, lk_inr, Int.toNat_natCast]
            cases decide (Int.tmod ((redR R A R).sw : Int) 2 = 1) <;> rfl
          · unfold ref05_Det; simp (disch := omega) only [refValid_eq, hv, Bool.not_true, hs', T2_len, T2_row h0, tab_len, hred', hcl, ckB_ix, ckB_inR, ckB_room, ckB_cut, ckB_mk, ckB_ne, bif_lt, bif_nlt, bif_le, bif_nle, bif_eq, bif_neq, bif_ne, bif_nne, bif_not, bif_true', bif_false', bnd_ok, lk_inl, lk_inr, Int.toNat_natCast]
    · have hsq' : (R : Int) ≠ (C : Int) := by omega
      refine ⟨0, 29, ?_, ?_⟩
      · unfold matrix_Det; simp (disch := omega) only [hval, Bool.not_true, hs, T2_len, T2_row h0, tab_len, ckB_ix, ckB_inR, ckB_room, ckB_cut, ckB_mk, ckB_ne, bif_lt, bif_nlt, bif_le, bif_nle, bif_eq, bif_neq, bif_ne, bif_nne, bif_not, bif_true', bif_false', bnd_ok, lk_inl, lk_inr, Int.toNat_natCast]
      · unfold ref05_Det; simp (disch := omega) only [refValid_eq, hv, Bool.not_true, hs', T2_len, T2_row h0, tab_len, ckB_ix, ckB_inR, ckB_room, ckB_cut, ckB_mk, ckB_ne, bif_lt, bif_nlt, bif_le, bif_nle, bif_eq, bif_neq, bif_ne, bif_nne, bif_not, bif_true', bif_false', bnd_ok, lk_inl, lk_inr, Int.toNat_natCast]

theorem MatrixRanks_true (m : List (List Int)) : law05_MatrixRanks m = some true := by
  obtain ⟨b, hb, hok⟩ := great_eq [m] (by simp)
  unfold law05_MatrixRanks
  cases b with
  | true => simp (disch := omega) only [awake_true, Bool.not_true, hb, ckB_ix, ckB_inR, ckB_room, ckB_cut, ckB_mk, ckB_ne, bif_lt, bif_nlt, bif_le, bif_nle, bif_eq, bif_neq, bif_ne, bif_nne, bif_not, bif_true', bif_false', bnd_ok, lk_inl, lk_inr, Int.toNat_natCast]
  | false =>
    have h := hok rfl m (by simp)
    obtain ⟨a, e, h1, h2⟩ := rank_both h
    obtain ⟨d, f, h3, h4⟩ := det_both h
    simp (disch := omega) only [awake_true, Bool.not_true, hb, h1, h2, h3, h4, decide_true, ckB_ix, ckB_inR, ckB_room, ckB_cut, ckB_mk, ckB_ne, bif_lt, bif_nlt, bif_le, bif_nle, bif_eq, bif_neq, bif_ne, bif_nne, bif_not, bif_true', bif_false', bnd_ok, lk_inl, lk_inr, Int.toNat_natCast]

end Go.Proofs.Ytjjhanfglelldaa
