/-
  Matrices: products and transposed matrices.
-/
import Derived.Test.YtjjhanfglelldaaQ5
set_option linter.all false
namespace Go.Proofs.Ytjjhanfglelldaa
open Go.K Go.M

section
variable {R K C : Nat}

abbrev Ent (A : Nat → Nat → Int) : Prop := ∀ i j, -1048576 ≤ A i j ∧ A i j ≤ 1048576
/-- An entry of a product. -/
def mulF (K : Nat) (A B : Nat → Nat → Int) (i j : Nat) : Int := sumN (fun k => A i k * B k j) K

theorem prod_bd {A B : Nat → Nat → Int} (hA : Ent A) (hB : Ent B) (i k j : Nat) : -1099511627776 ≤ A i k * B k j ∧ A i k * B k j ≤ 1099511627776 := by
  have h := mul_bound (hA i k) (hB k j)
  omega
theorem mulF_bd {A B : Nat → Nat → Int} (hA : Ent A) (hB : Ent B) (i j : Nat) {n : Nat} (hn : n ≤ 50) : -54975581388800 ≤ mulF n A B i j ∧ mulF n A B i j ≤ 54975581388800 := by
  have h := sumN_bound (f := fun k => A i k * B k j) (b := 1099511627776) n fun k _ => prod_bd hA hB i k j
  have h2 : (n : Int) * 1099511627776 ≤ 50 * 1099511627776 := Int.mul_le_mul_of_nonneg_right (by omega) (by omega)
  unfold mulF
  omega

theorem mulL0_eq (hK : K ≤ 50) (hC : C ≤ 50) {A B : Nat → Nat → Int} (hA : Ent A) (hB : Ent B) (i k : Nat) (hk : k < K) (b : List (List Int)) (v31 : List (List Int)) (v32 v33 v43 v44 : Int) (v42 : List Int) (o : List (List Int)) :
    matrix_MulL0 b (A i k) v31 v32 v33 v42 v43 v44 (tab C (B k)) (C : Int) o (0, tab C (mulF k A B i)) = some (.inl (tab C (mulF (k + 1) A B i))) := by
  refine loop_to (fun j : Nat => ((j : Int), tab C fun c => if c < j then mulF (k + 1) A B i c else mulF k A B i c)) C (many_of (by omega)) _ ?_ ?_ _ (by simp)
  · intro j hj
    have h1 := prod_bd hA hB i k j
    have h2 := mulF_bd hA hB i j (n := k) (by omega)
    have hjj : (if j < j then mulF (k + 1) A B i j else mulF k A B i j) = mulF k A B i j := if_neg (by omega)
    simp (disch := omega) only [matrix_MulL0K, tab_len, tab_getD hj, hjj, tab_set, ckB_ix, ckB_inR, ckB_room, ckB_cut, ckB_mk, ckB_ne, bif_lt, bif_nlt, bif_le, bif_nle, bif_eq, bif_neq, bif_ne, bif_nne, bif_not, bif_true', bif_false', bnd_ok, lk_inl, lk_inr, Int.toNat_natCast]
    refine congrArg some (congrArg LR.next (Prod.ext (cast_succ j) (tab_congr fun c _ => ?_)))
    by_cases e : c = j
    · subst e
      rw [if_pos rfl, if_pos (by omega)]
      rfl
    · by_cases e2 : c < j
      · rw [if_neg e, if_pos e2, if_pos (by omega)]
      · rw [if_neg e, if_neg e2, if_neg (by omega)]
  · simp (disch := omega) only [matrix_MulL0K, ckB_ix, ckB_inR, ckB_room, ckB_cut, ckB_mk, ckB_ne, bif_lt, bif_nlt, bif_le, bif_nle, bif_eq, bif_neq, bif_ne, bif_nne, bif_not, bif_true', bif_false', bnd_ok, lk_inl, lk_inr, Int.toNat_natCast]
    refine congrArg some (congrArg LR.done (tab_congr fun c hc => ?_))
    rw [if_pos hc]

theorem mulL1_eq (hK : K ≤ 50) (hC : C ≤ 50) {A B : Nat → Nat → Int} (hA : Ent A) (hB : Ent B) (i : Nat) (v31 : List (List Int)) (v32 v33 : Int) (o : List (List Int)) :
    matrix_MulL1 (T2 K C B) v31 v32 v33 (tab K (A i)) (K : Int) o (0, List.replicate C 0) = some (.inl (tab C (mulF K A B i))) := by
  refine loop_to (fun k : Nat => ((k : Int), tab C (mulF k A B i))) K (many_of (by omega)) _ ?_ ?_ _ ?_
  · intro k hk
    have hL0 := mulL0_eq hK hC hA hB i k hk (T2 K C B) v31 v32 v33 (K : Int) (k : Int) (tab K (A i)) o
    simp (disch := omega) only [matrix_MulL1K, tab_len, tab_getD hk, T2_len, T2_row hk, hL0, ckB_ix, ckB_inR, ckB_room, ckB_cut, ckB_mk, ckB_ne, bif_lt, bif_nlt, bif_le, bif_nle, bif_eq, bif_neq, bif_ne, bif_nne, bif_not, bif_true', bif_false', bnd_ok, lk_inl, lk_inr, Int.toNat_natCast]
    rw [cast_succ]
  · simp (disch := omega) only [matrix_MulL1K, ckB_ix, ckB_inR, ckB_room, ckB_cut, ckB_mk, ckB_ne, bif_lt, bif_nlt, bif_le, bif_nle, bif_eq, bif_neq, bif_ne, bif_nne, bif_not, bif_true', bif_false', bnd_ok, lk_inl, lk_inr, Int.toNat_natCast]
  · rw [tab_rep]; rfl

theorem mulL2_eq (hR : R ≤ 50) (hK : K ≤ 50) (hK0 : 0 < K) (hC : C ≤ 50) {A B : Nat → Nat → Int} (hA : Ent A) (hB : Ent B) : matrix_MulL2 (T2 K C B) (T2 R K A) (R : Int) (0, []) = some (.inl (T2 R C (mulF K A B))) := by
  refine loop_to (fun i : Nat => ((i : Int), T2 i C (mulF K A B))) R (many_of (by omega)) _ ?_ ?_ _ rfl
  · intro i hi
    have hL1 := mulL1_eq hK hC hA hB i (T2 R K A) (R : Int) (i : Int) (T2 i C (mulF K A B))
    simp (disch := omega) only [matrix_MulL2K, T2_len, T2_row hi, T2_row hK0, tab_len, hL1, ckB_ix, ckB_inR, ckB_room, ckB_cut, ckB_mk, ckB_ne, bif_lt, bif_nlt, bif_le, bif_nle, bif_eq, bif_neq, bif_ne, bif_nne, bif_not, bif_true', bif_false', bnd_ok, lk_inl, lk_inr, Int.toNat_natCast]
    rw [cast_succ, T2, ← tab_succ]
  · simp (disch := omega) only [matrix_MulL2K, ckB_ix, ckB_inR, ckB_room, ckB_cut, ckB_mk, ckB_ne, bif_lt, bif_nlt, bif_le, bif_nle, bif_eq, bif_neq, bif_ne, bif_nne, bif_not, bif_true', bif_false', bnd_ok, lk_inl, lk_inr, Int.toNat_natCast]

theorem zeros_eq (hR : R ≤ 50) (hC : C ≤ 50) : ref05_zeros (R : Int) (C : Int) = some (T2 R C fun _ _ => 0) := by
  have hL : ref05_zerosL0 (R : Int) (C : Int) (0, []) = some (.inl (T2 R C fun _ _ => 0)) := by
    refine loop_to (fun i : Nat => ((i : Int), T2 i C fun _ _ => 0)) R (many_of (by omega)) _ ?_ ?_ _ rfl
    · intro i hi
      simp (disch := omega) only [ref05_zerosL0K, T2_len, tab_rep, ckB_ix, ckB_inR, ckB_room, ckB_cut, ckB_mk, ckB_ne, bif_lt, bif_nlt, bif_le, bif_nle, bif_eq, bif_neq, bif_ne, bif_nne, bif_not, bif_true', bif_false', bnd_ok, lk_inl, lk_inr, Int.toNat_natCast]
      rw [cast_succ, T2, ← tab_succ]
    · simp (disch := omega) only [ref05_zerosL0K, ckB_ix, ckB_inR, ckB_room, ckB_cut, ckB_mk, ckB_ne, bif_lt, bif_nlt, bif_le, bif_nle, bif_eq, bif_neq, bif_ne, bif_nne, bif_not, bif_true', bif_false', bnd_ok, lk_inl, lk_inr, Int.toNat_natCast]
  unfold ref05_zeros
  simp (disch := omega) only [hL, ckB_ix, ckB_inR, ckB_room, ckB_cut, ckB_mk, ckB_ne, bif_lt, bif_nlt, bif_le, bif_nle, bif_eq, bif_neq, bif_ne, bif_nne, bif_not, bif_true', bif_false', bnd_ok, lk_inl, lk_inr, Int.toNat_natCast]

theorem refMulL0_eq (hR : R ≤ 50) (hK : K ≤ 50) (hC : C ≤ 50) {A B : Nat → Nat → Int} (hA : Ent A) (hB : Ent B) {i j : Nat} (hi : i < R) (hj : j < C) (D : Nat → Nat → Int) (hD : D i j = 0) :
    ref05_MulL0 (T2 R K A) (T2 K C B) (i : Int) (j : Int) (0, T2 R C D) = some (.inl (T2 R C fun a b => if a = i ∧ b = j then mulF K A B i j else D a b)) := by
  refine loop_to (fun k : Nat => ((k : Int), T2 R C fun a b => if a = i ∧ b = j then mulF k A B i j else D a b)) K (many_of (by omega)) _ ?_ ?_ _ ?_
  · intro k hk
    have h1 := prod_bd hA hB i k j
    have h2 := mulF_bd hA hB i j (n := k) (by omega)
    have e0 : (if i = i ∧ j = j then mulF k A B i j else D i j) = mulF k A B i j := if_pos ⟨rfl, rfl⟩
    simp (disch := omega) only [ref05_MulL0K, T2_len, T2_row hi, T2_row hk, tab_len, tab_getD hk, tab_getD hj, e0, tab_set, ckB_ix, ckB_inR, ckB_room, ckB_cut, ckB_mk, ckB_ne, bif_lt, bif_nlt, bif_le, bif_nle, bif_eq, bif_neq, bif_ne, bif_nne, bif_not, bif_true', bif_false', bnd_ok, lk_inl, lk_inr, Int.toNat_natCast]
    refine congrArg some (congrArg LR.next (Prod.ext (cast_succ k) (tab_congr fun a ha => ?_)))
    by_cases h1 : a = i
    · subst h1
      rw [if_pos rfl]
      refine tab_congr fun b hb => ?_
      by_cases h2 : b = j
      · subst h2
        simp only [and_self, if_true]
        rfl
      · simp [h2]
    · rw [if_neg h1]
      exact tab_congr fun b hb => by simp [h1]
  · simp (disch := omega) only [ref05_MulL0K, T2_len, ckB_ix, ckB_inR, ckB_room, ckB_cut, ckB_mk, ckB_ne, bif_lt, bif_nlt, bif_le, bif_nle, bif_eq, bif_neq, bif_ne, bif_nne, bif_not, bif_true', bif_false', bnd_ok, lk_inl, lk_inr, Int.toNat_natCast]
  · refine Prod.ext rfl (T2_congr fun a b _ _ => ?_)
    by_cases h : a = i ∧ b = j
    · rw [if_pos h, h.1, h.2, hD]; rfl
    · rw [if_neg h]

theorem refMulL1_eq (hR : R ≤ 50) (hK : K ≤ 50) (hK0 : 0 < K) (hC : C ≤ 50) {A B : Nat → Nat → Int} (hA : Ent A) (hB : Ent B) {i : Nat} (hi : i < R) (D : Nat → Nat → Int) (hD : ∀ j, D i j = 0) :
    ref05_MulL1 (T2 R K A) (T2 K C B) (i : Int) (0, T2 R C D) = some (.inl (T2 R C fun a b => if a = i then mulF K A B i b else D a b)) := by
  refine loop_to (fun j : Nat => ((j : Int), T2 R C fun a b => if a = i ∧ b < j then mulF K A B i b else D a b)) C (many_of (by omega)) _ ?_ ?_ _ ?_
  · intro j hj
    have hL0 := refMulL0_eq hR hK hC hA hB hi hj (fun a b => if a = i ∧ b < j then mulF K A B i b else D a b) (by simp [hD])
    simp (disch := omega) only [ref05_MulL1K, T2_len, T2_row hK0, tab_len, hL0, ckB_ix, ckB_inR, ckB_room, ckB_cut, ckB_mk, ckB_ne, bif_lt, bif_nlt, bif_le, bif_nle, bif_eq, bif_neq, bif_ne, bif_nne, bif_not, bif_true', bif_false', bnd_ok, lk_inl, lk_inr, Int.toNat_natCast]
    refine congrArg some (congrArg LR.next (Prod.ext (cast_succ j) (T2_congr fun a b _ _ => ?_)))
    by_cases h1 : a = i
    · by_cases h2 : b = j
      · subst h2
        simp [h1]
      · by_cases h3 : b < j
        · have : b < j + 1 := by omega
          simp [h1, h2, h3, this]
        · have : ¬ b < j + 1 := by omega
          simp [h1, h2, h3, this]
    · simp [h1]
  · simp (disch := omega) only [ref05_MulL1K, T2_len, T2_row hK0, tab_len, ckB_ix, ckB_inR, ckB_room, ckB_cut, ckB_mk, ckB_ne, bif_lt, bif_nlt, bif_le, bif_nle, bif_eq, bif_neq, bif_ne, bif_nne, bif_not, bif_true', bif_false', bnd_ok, lk_inl, lk_inr, Int.toNat_natCast]
    refine congrArg some (congrArg LR.done (T2_congr fun a b _ hb => ?_))
    simp [hb]
  · simp

theorem refMulL2_eq (hR : R ≤ 50) (hK : K ≤ 50) (hK0 : 0 < K) (hC : C ≤ 50) {A B : Nat → Nat → Int} (hA : Ent A) (hB : Ent B) :
    ref05_MulL2 (T2 R K A) (T2 K C B) (0, T2 R C fun _ _ => 0) = some (.inl (T2 R C (mulF K A B))) := by
  refine loop_to (fun i : Nat => ((i : Int), T2 R C fun a b => if a < i then mulF K A B a b else 0)) R (many_of (by omega)) _ ?_ ?_ _ (by simp)
  · intro i hi
    have hL1 := refMulL1_eq hR hK hK0 hC hA hB hi (fun a b => if a < i then mulF K A B a b else 0) (fun j => by simp)
    simp (disch := omega) only [ref05_MulL2K, T2_len, hL1, ckB_ix, ckB_inR, ckB_room, ckB_cut, ckB_mk, ckB_ne, bif_lt, bif_nlt, bif_le, bif_nle, bif_eq, bif_neq, bif_ne, bif_nne, bif_not, bif_true', bif_false', bnd_ok, lk_inl, lk_inr, Int.toNat_natCast]
    refine congrArg some (congrArg LR.next (Prod.ext (cast_succ i) (T2_congr fun a b _ _ => ?_)))
    by_cases h1 : a = i
    · subst h1
      simp
    · by_cases h2 : a < i
      · have : a < i + 1 := by omega
        simp [h1, h2, this]
      · have : ¬ a < i + 1 := by omega
        simp [h1, h2, this]
  · simp (disch := omega) only [ref05_MulL2K, T2_len, ckB_ix, ckB_inR, ckB_room, ckB_cut, ckB_mk, ckB_ne, bif_lt, bif_nlt, bif_le, bif_nle, bif_eq, bif_neq, bif_ne, bif_nne, bif_not, bif_true', bif_false', bnd_ok, lk_inl, lk_inr, Int.toNat_natCast]
    refine congrArg some (congrArg LR.done (T2_congr fun a b ha _ => ?_))
    rw [if_pos ha]

theorem T2_rows {A : Nat → Nat → Int} (hC : C ≤ 50) : ∀ r ∈ T2 R C A, r.length ≤ 9223372036854775806 := fun r hr => by
  obtain ⟨i, _, rfl⟩ := tab_mem.1 hr
  rw [tab_len]
  omega
theorem T2_short {A : Nat → Nat → Int} (hC : C ≤ 50) : ∀ r ∈ T2 R C A, r.length ≤ 50 := fun r hr => by
  obtain ⟨i, _, rfl⟩ := tab_mem.1 hr
  rw [tab_len]
  omega
theorem T2_valid {A : Nat → Nat → Int} (r1 : 1 ≤ R) (r2 : R ≤ 20) (c1 : 1 ≤ C) (c2 : C ≤ 20) (hA : Ent A) : validM (T2 R C A) = true := by
  unfold validM
  have h0 : 0 < R := by omega
  simp only [Bool.and_eq_true, decide_eq_true_eq, List.all_eq_true, T2_len, T2_row h0, tab_len]
  refine ⟨⟨⟨⟨r1, r2⟩, c1⟩, c2⟩, fun r hr => ?_⟩
  obtain ⟨i, _, rfl⟩ := tab_mem.1 hr
  refine ⟨tab_len _ _, fun x hx => ?_⟩
  obtain ⟨j, _, rfl⟩ := tab_mem.1 hx
  have := hA i j
  simp [entB, this]

/-- What a product is. -/
def mulV (R K C : Nat) (A B : Nat → Nat → Int) : Int × List (List Int) := if validM (T2 R C (mulF K A B)) = true then (0, T2 R C (mulF K A B)) else (6, [])

theorem mul_val (r1 : 1 ≤ R) (r2 : R ≤ 20) (k1 : 1 ≤ K) (k2 : K ≤ 20) (c1 : 1 ≤ C) (c2 : C ≤ 20) {A B : Nat → Nat → Int} (hA : Ent A) (hB : Ent B) : matrix_Mul (T2 R K A) (T2 K C B) = some (mulV R K C A B) ∧ ref05_Mul (T2 R K A) (T2 K C B) = some (mulV R K C A B) := by
  have va := Valid_eq (T2 R K A) (T2_rows (by omega))
  have vb := Valid_eq (T2 K C B) (T2_rows (by omega))
  have vm := Valid_eq (T2 R C (mulF K A B)) (T2_rows (by omega))
  have ha := T2_valid r1 r2 k1 k2 hA
  have hb := T2_valid k1 k2 c1 c2 hB
  rw [ha] at va
  rw [hb] at vb
  have h0 : 0 < R := by omega
  have hk0 : 0 < K := by omega
  have hL2 := mulL2_eq (R := R) (K := K) (C := C) (by omega) (by omega) hk0 (by omega) hA hB
  have hL2' := refMulL2_eq (R := R) (K := K) (C := C) (by omega) (by omega) hk0 (by omega) hA hB
  have hz := zeros_eq (R := R) (C := C) (by omega) (by omega)
  unfold mulV
  constructor
  · unfold matrix_Mul
    simp (disch := omega) only [va, vb, Bool.not_true, T2_len, T2_row h0, tab_len, hL2, vm, decide_true, ckB_ix, ckB_inR, ckB_room, ckB_cut, ckB_mk, ckB_ne, bif_lt, bif_nlt, bif_le, bif_nle, bif_eq, bif_neq, bif_ne, bif_nne, bif_not, bif_true', bif_false', bnd_ok, lk_inl, lk_inr, Int.toNat_natCast]
    cases validM (T2 R C (mulF K A B)) <;> rfl
  · unfold ref05_Mul
    simp (disch := omega) only [refValid_eq, ha, hb, Bool.not_true, T2_len, T2_row h0, T2_row hk0, tab_len, hz, hL2', decide_true, ckB_ix, ckB_inR, ckB_room, ckB_cut, ckB_mk, ckB_ne, bif_lt, bif_nlt, bif_le, bif_nle, bif_eq, bif_neq, bif_ne, bif_nne, bif_not, bif_true', bif_false', bnd_ok, lk_inl, lk_inr, Int.toNat_natCast]
    cases validM (T2 R C (mulF K A B)) <;> rfl

/-- A product of matrices that may be anything, by both. -/
theorem mul_both {a b : List (List Int)} (ha : okM a) (hb : okM b) : ∃ e l, matrix_Mul a b = some (e, l) ∧ ref05_Mul a b = some (e, l) ∧ l.length ≤ 50 ∧ ∀ x ∈ l, x.length ≤ 50 := by
  have va := ha.valid
  have vb := hb.valid
  cases hva : validM a with
  | false =>
    rw [hva] at va
    refine ⟨1, [], ?_, ?_, by simp, by simp⟩
    · unfold matrix_Mul; simp (disch := omega) only [va, Bool.not_false, ckB_ix, ckB_inR, ckB_room, ckB_cut, ckB_mk, ckB_ne, bif_lt, bif_nlt, bif_le, bif_nle, bif_eq, bif_neq, bif_ne, bif_nne, bif_not, bif_true', bif_false', bnd_ok, lk_inl, lk_inr, Int.toNat_natCast]
    · unfold ref05_Mul; simp (disch := omega) only [refValid_eq, hva, Bool.not_false, ckB_ix, ckB_inR, ckB_room, ckB_cut, ckB_mk, ckB_ne, bif_lt, bif_nlt, bif_le, bif_nle, bif_eq, bif_neq, bif_ne, bif_nne, bif_not, bif_true', bif_false', bnd_ok, lk_inl, lk_inr, Int.toNat_natCast]
  | true =>
    rw [hva] at va
    cases hvb : validM b with
    | false =>
      rw [hvb] at vb
      refine ⟨1, [], ?_, ?_, by simp, by simp⟩
      · unfold matrix_Mul; simp (disch := omega) only [va, vb, Bool.not_true, Bool.not_false, ckB_ix, ckB_inR, ckB_room, ckB_cut, ckB_mk, ckB_ne, bif_lt, bif_nlt, bif_le, bif_nle, bif_eq, bif_neq, bif_ne, bif_nne, bif_not, bif_true', bif_false', bnd_ok, lk_inl, lk_inr, Int.toNat_natCast]
      · unfold ref05_Mul; simp (disch := omega) only [refValid_eq, hva, hvb, Bool.not_true, Bool.not_false, ckB_ix, ckB_inR, ckB_room, ckB_cut, ckB_mk, ckB_ne, bif_lt, bif_nlt, bif_le, bif_nle, bif_eq, bif_neq, bif_ne, bif_nne, bif_not, bif_true', bif_false', bnd_ok, lk_inl, lk_inr, Int.toNat_natCast]
    | true =>
      rw [hvb] at vb
      obtain ⟨R, K, A, rfl, _, _, r1, r2, k1, k2, hA⟩ := valid_at hva
      obtain ⟨K', C, B, rfl, _, _, k1', k2', c1, c2, hB⟩ := valid_at hvb
      have h0 : 0 < R := by omega
      by_cases hk : K = K'
      · subst hk
        obtain ⟨h1, h2⟩ := mul_val r1 r2 k1 k2 c1 c2 hA hB
        refine ⟨(mulV R K C A B).1, (mulV R K C A B).2, h1, h2, ?_, ?_⟩
        · unfold mulV
          split
          · rw [T2_len]; omega
          · simp
        · unfold mulV
          split
          · exact T2_short (by omega)
          · simp
      · have hk' : (K : Int) ≠ (K' : Int) := by omega
        refine ⟨29, [], ?_, ?_, by simp, by simp⟩
        · unfold matrix_Mul; simp (disch := omega) only [va, vb, Bool.not_true, T2_len, T2_row h0, tab_len, ckB_ix, ckB_inR, ckB_room, ckB_cut, ckB_mk, ckB_ne, bif_lt, bif_nlt, bif_le, bif_nle, bif_eq, bif_neq, bif_ne, bif_nne, bif_not, bif_true', bif_false', bnd_ok, lk_inl, lk_inr, Int.toNat_natCast]
        · unfold ref05_Mul; simp (disch := omega) only [refValid_eq, hva, hvb, Bool.not_true, T2_len, T2_row h0, tab_len, ckB_ix, ckB_inR, ckB_room, ckB_cut, ckB_mk, ckB_ne, bif_lt, bif_nlt, bif_le, bif_nle, bif_eq, bif_neq, bif_ne, bif_nne, bif_not, bif_true', bif_false', bnd_ok, lk_inl, lk_inr, Int.toNat_natCast]

/-! Transposed matrices. -/
def trF (A : Nat → Nat → Int) (i j : Nat) : Int := A j i

theorem transposed_eq (hR : R ≤ 50) (hR0 : 0 < R) (hC : C ≤ 50) (A : Nat → Nat → Int) : matrix_transposed (T2 R C A) = some (T2 C R (trF A)) := by
  have hL0 : ∀ i, i < R → ∀ (x : List (List Int)) (a b : Int), matrix_transposedL0 x a b (tab C (A i)) (C : Int) (0, T2 C i (trF A)) = some (.inl (T2 C (i + 1) (trF A))) := by
    intro i hi x a b
    refine loop_to (fun j : Nat => ((j : Int), tab C fun c => if c < j then tab (i + 1) (trF A c) else tab i (trF A c))) C (many_of (by omega)) _ ?_ ?_ _ ?_
    · intro j hj
      have hjj : (if j < j then tab (i + 1) (trF A j) else tab i (trF A j)) = tab i (trF A j) := if_neg (by omega)
      simp (disch := omega) only [matrix_transposedL0K, List.length_set, tab_len, tab_getD hj, hjj, decide_true, ckB_true, ckB_ix, ckB_inR, ckB_room, ckB_cut, ckB_mk, ckB_ne, bif_lt, bif_nlt, bif_le, bif_nle, bif_eq, bif_neq, bif_ne, bif_nne, bif_not, bif_true', bif_false', bnd_ok, lk_inl, lk_inr, Int.toNat_natCast]
      refine congrArg some (congrArg LR.next (Prod.ext (cast_succ j) ?_))
      simp only [tab_set]
      refine tab_congr fun c _ => ?_
      by_cases e : c = j
      · subst e
        rw [if_pos rfl, if_pos (by omega), tab_succ]
        rfl
      · by_cases e2 : c < j
        · rw [if_neg e, if_pos e2, if_pos (by omega)]
        · rw [if_neg e, if_neg e2, if_neg (by omega)]
    · simp (disch := omega) only [matrix_transposedL0K, ckB_ix, ckB_inR, ckB_room, ckB_cut, ckB_mk, ckB_ne, bif_lt, bif_nlt, bif_le, bif_nle, bif_eq, bif_neq, bif_ne, bif_nne, bif_not, bif_true', bif_false', bnd_ok, lk_inl, lk_inr, Int.toNat_natCast]
      refine congrArg some (congrArg LR.done (tab_congr fun c hc => ?_))
      rw [if_pos hc]
    · simp
  have hL1 : matrix_transposedL1 (T2 R C A) (R : Int) (0, List.replicate C []) = some (.inl (T2 C R (trF A))) := by
    refine loop_to (fun i : Nat => ((i : Int), T2 C i (trF A))) R (many_of (by omega)) _ ?_ ?_ _ ?_
    · intro i hi
      simp (disch := omega) only [matrix_transposedL1K, T2_len, T2_row hi, tab_len, hL0 i hi, ckB_ix, ckB_inR, ckB_room, ckB_cut, ckB_mk, ckB_ne, bif_lt, bif_nlt, bif_le, bif_nle, bif_eq, bif_neq, bif_ne, bif_nne, bif_not, bif_true', bif_false', bnd_ok, lk_inl, lk_inr, Int.toNat_natCast]
      rw [cast_succ]
    · simp (disch := omega) only [matrix_transposedL1K, ckB_ix, ckB_inR, ckB_room, ckB_cut, ckB_mk, ckB_ne, bif_lt, bif_nlt, bif_le, bif_nle, bif_eq, bif_neq, bif_ne, bif_nne, bif_not, bif_true', bif_false', bnd_ok, lk_inl, lk_inr, Int.toNat_natCast]
    · rw [tab_rep]; rfl
  unfold matrix_transposed
  simp (disch := omega) only [T2_len, T2_row hR0, tab_len, hL1, ckB_ix, ckB_inR, ckB_room, ckB_cut, ckB_mk, ckB_ne, bif_lt, bif_nlt, bif_le, bif_nle, bif_eq, bif_neq, bif_ne, bif_nne, bif_not, bif_true', bif_false', bnd_ok, lk_inl, lk_inr, Int.toNat_natCast]

theorem refTranspose_eq (hR : R ≤ 50) (hR0 : 0 < R) (hC : C ≤ 50) (A : Nat → Nat → Int) : ref05_Transpose (T2 R C A) = some (T2 C R (trF A)) := by
  have hL0 : ∀ i, i < R → ref05_TransposeL0 (T2 R C A) (i : Int) (0, T2 C R fun b a => if a < i then A a b else 0) = some (.inl (T2 C R fun b a => if a < i + 1 then A a b else 0)) := by
    intro i hi
    refine loop_to (fun j : Nat => ((j : Int), T2 C R fun b a => if a < i ∨ (a = i ∧ b < j) then A a b else 0)) C (many_of (by omega)) _ ?_ ?_ _ ?_
    · intro j hj
      simp (disch := omega) only [ref05_TransposeL0K, T2_len, T2_row hR0, T2_row hi, T2_row hj, tab_len, tab_getD hj, tab_set, ckB_ix, ckB_inR, ckB_room, ckB_cut, ckB_mk, ckB_ne, bif_lt, bif_nlt, bif_le, bif_nle, bif_eq, bif_neq, bif_ne, bif_nne, bif_not, bif_true', bif_false', bnd_ok, lk_inl, lk_inr, Int.toNat_natCast]
      refine congrArg some (congrArg LR.next (Prod.ext (cast_succ j) (tab_congr fun b _ => ?_)))
      by_cases e : b = j
      · subst e
        rw [if_pos rfl]
        refine tab_congr fun a _ => ?_
        by_cases e2 : a = i
        · simp [e2]
        · simp [e2]
      · rw [if_neg e]
        refine tab_congr fun a _ => ?_
        have : b < j + 1 ↔ b < j := by omega
        simp [this]
    · simp (disch := omega) only [ref05_TransposeL0K, T2_len, T2_row hR0, tab_len, ckB_ix, ckB_inR, ckB_room, ckB_cut, ckB_mk, ckB_ne, bif_lt, bif_nlt, bif_le, bif_nle, bif_eq, bif_neq, bif_ne, bif_nne, bif_not, bif_true', bif_false', bnd_ok, lk_inl, lk_inr, Int.toNat_natCast]
      refine congrArg some (congrArg LR.done (T2_congr fun b a hb _ => ?_))
      by_cases e : a < i + 1
      · rw [if_pos e, if_pos (by omega)]
      · rw [if_neg e, if_neg (by omega)]
    · refine Prod.ext rfl (T2_congr fun b a _ _ => ?_)
      simp
  have hL1 : ref05_TransposeL1 (T2 R C A) (0, T2 C R fun _ _ => 0) = some (.inl (T2 C R (trF A))) := by
    refine loop_to (fun i : Nat => ((i : Int), T2 C R fun b a => if a < i then A a b else 0)) R (many_of (by omega)) _ ?_ ?_ _ (by simp)
    · intro i hi
      simp (disch := omega) only [ref05_TransposeL1K, T2_len, hL0 i hi, ckB_ix, ckB_inR, ckB_room, ckB_cut, ckB_mk, ckB_ne, bif_lt, bif_nlt, bif_le, bif_nle, bif_eq, bif_neq, bif_ne, bif_nne, bif_not, bif_true', bif_false', bnd_ok, lk_inl, lk_inr, Int.toNat_natCast]
      rw [cast_succ]
    · simp (disch := omega) only [ref05_TransposeL1K, T2_len, ckB_ix, ckB_inR, ckB_room, ckB_cut, ckB_mk, ckB_ne, bif_lt, bif_nlt, bif_le, bif_nle, bif_eq, bif_neq, bif_ne, bif_nne, bif_not, bif_true', bif_false', bnd_ok, lk_inl, lk_inr, Int.toNat_natCast]
      refine congrArg some (congrArg LR.done (T2_congr fun b a _ ha => ?_))
      rw [if_pos ha]
      rfl
  have hz := zeros_eq (R := C) (C := R) hC hR
  unfold ref05_Transpose
  simp (disch := omega) only [T2_len, T2_row hR0, tab_len, hz, hL1, ckB_ix, ckB_inR, ckB_room, ckB_cut, ckB_mk, ckB_ne, bif_lt, bif_nlt, bif_le, bif_nle, bif_eq, bif_neq, bif_ne, bif_nne, bif_not, bif_true', bif_false', bnd_ok, lk_inl, lk_inr, Int.toNat_natCast]
end

theorem Transpose_no {m : List (List Int)} (h : okM m) (hv : validM m = false) : matrix_Transpose m = some (1, []) := by
  have := h.valid
  rw [hv] at this
  unfold matrix_Transpose
  simp (disch := omega) only [this, Bool.not_false, ckB_ix, ckB_inR, ckB_room, ckB_cut, ckB_mk, ckB_ne, bif_lt, bif_nlt, bif_le, bif_nle, bif_eq, bif_neq, bif_ne, bif_nne, bif_not, bif_true', bif_false', bnd_ok, lk_inl, lk_inr, Int.toNat_natCast]
theorem Transpose_val {R C : Nat} (r1 : 1 ≤ R) (r2 : R ≤ 20) (c1 : 1 ≤ C) (c2 : C ≤ 20) {A : Nat → Nat → Int} (hA : Ent A) : matrix_Transpose (T2 R C A) = some (0, T2 C R (trF A)) := by
  have va := Valid_eq (T2 R C A) (T2_rows (by omega))
  rw [T2_valid r1 r2 c1 c2 hA] at va
  have ht := transposed_eq (R := R) (C := C) (by omega) (by omega) (by omega) A
  unfold matrix_Transpose
  simp (disch := omega) only [va, Bool.not_true, ht, ckB_ix, ckB_inR, ckB_room, ckB_cut, ckB_mk, ckB_ne, bif_lt, bif_nlt, bif_le, bif_nle, bif_eq, bif_neq, bif_ne, bif_nne, bif_not, bif_true', bif_false', bnd_ok, lk_inl, lk_inr, Int.toNat_natCast]

theorem MatrixMuls_true (a b : List (List Int)) : law05_MatrixMuls a b = some true := by
  obtain ⟨c, hc, hok⟩ := great_eq [a, b] (by simp)
  unfold law05_MatrixMuls
  cases c with
  | true => simp (disch := omega) only [awake_true, Bool.not_true, hc, ckB_ix, ckB_inR, ckB_room, ckB_cut, ckB_mk, ckB_ne, bif_lt, bif_nlt, bif_le, bif_nle, bif_eq, bif_neq, bif_ne, bif_nne, bif_not, bif_true', bif_false', bnd_ok, lk_inl, lk_inr, Int.toNat_natCast]
  | false =>
    have ha := hok rfl a (by simp)
    have hb := hok rfl b (by simp)
    obtain ⟨e, l, h1, h2, h3, h4⟩ := mul_both ha hb
    have h5 := same_self l h3 h4
    have hbeq : ∀ x : Bool, (!(x == x)) = false := by intro x; cases x <;> rfl
    cases hv : validM a with
    | false =>
      have ht := Transpose_no ha hv
      simp (disch := omega) only [awake_true, Bool.not_true, hc, h1, h2, ha.valid, refValid_eq, hv, hbeq, h5, decide_true, Bool.not_false, ht, ckB_ix, ckB_inR, ckB_room, ckB_cut, ckB_mk, ckB_ne, bif_lt, bif_nlt, bif_le, bif_nle, bif_eq, bif_neq, bif_ne, bif_nne, bif_not, bif_true', bif_false', bnd_ok, lk_inl, lk_inr, Int.toNat_natCast]
      simp
    | true =>
      obtain ⟨R, K, A, rfl, _, _, r1, r2, k1, k2, hA⟩ := valid_at hv
      have ht := Transpose_val r1 r2 k1 k2 hA
      have ht' := refTranspose_eq (R := R) (C := K) (by omega) (by omega) (by omega) A
      have h6 := same_self (T2 K R (trF A)) (by rw [T2_len]; omega) (T2_short (by omega))
      simp (disch := omega) only [awake_true, Bool.not_true, hc, h1, h2, ha.valid, refValid_eq, hv, hbeq, h5, decide_true, ht, ht', h6, ckB_ix, ckB_inR, ckB_room, ckB_cut, ckB_mk, ckB_ne, bif_lt, bif_nlt, bif_le, bif_nle, bif_eq, bif_neq, bif_ne, bif_nne, bif_not, bif_true', bif_false', bnd_ok, lk_inl, lk_inr, Int.toNat_natCast]
      rfl

end Go.Proofs.Ytjjhanfglelldaa
