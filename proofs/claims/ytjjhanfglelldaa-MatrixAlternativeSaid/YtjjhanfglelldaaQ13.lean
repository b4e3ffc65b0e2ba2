/-
  Matrices: Solve and Refute, by the program and by the reference (MatrixSolves).
-/
import Derived.Test.YtjjhanfglelldaaQ10
import Derived.Test.YtjjhanfglelldaaQ12
set_option linter.all false
namespace Go.Proofs.Ytjjhanfglelldaa
open Go.K Go.M

def colB (b : List Int) : Bool := decide (1 ≤ b.length) && decide (b.length ≤ 20) && b.all entB
theorem column_eq (b : List Int) (hl : b.length ≤ 9223372036854775806) : matrix_column b = some (colB b) := by
  unfold matrix_column colB
  by_cases h1 : 1 ≤ (b.length : Int)
  · have h1' : 1 ≤ b.length := by omega
    rw [decide_eq_true h1']
    by_cases h2 : (b.length : Int) ≤ 20
    · have h2' : b.length ≤ 20 := by omega
      rw [decide_eq_true h2']
      simp (disch := omega) only [entries_eq b hl, ckB_ix, ckB_inR, ckB_room, ckB_cut, ckB_mk, ckB_ne, bif_lt, bif_nlt, bif_le, bif_nle, bif_eq, bif_neq, bif_ne, bif_nne, bif_not, bif_true', bif_false', bnd_ok, lk_inl, lk_inr, Int.toNat_natCast, decide_true]
      rfl
    · have h2' : ¬ b.length ≤ 20 := by omega
      rw [decide_eq_false h2']
      simp (disch := omega) only [ckB_ix, ckB_inR, ckB_room, ckB_cut, ckB_mk, ckB_ne, bif_lt, bif_nlt, bif_le, bif_nle, bif_eq, bif_neq, bif_ne, bif_nne, bif_not, bif_true', bif_false', bnd_ok, lk_inl, lk_inr, Int.toNat_natCast, decide_true]
      rfl
  · have h1' : ¬ 1 ≤ b.length := by omega
    rw [decide_eq_false h1']
    simp (disch := omega) only [ckB_ix, ckB_inR, ckB_room, ckB_cut, ckB_mk, ckB_ne, bif_lt, bif_nlt, bif_le, bif_nle, bif_eq, bif_neq, bif_ne, bif_nne, bif_not, bif_true', bif_false', bnd_ok, lk_inl, lk_inr, Int.toNat_natCast, decide_true]
    rfl
theorem colB_at {b : List Int} (h : colB b = true) : ∃ f : Nat → Int, b = tab b.length f ∧ 1 ≤ b.length ∧ b.length ≤ 20 ∧ ∀ j, -1048576 ≤ f j ∧ f j ≤ 1048576 := by
  unfold colB at h
  simp only [Bool.and_eq_true, decide_eq_true_eq, List.all_eq_true] at h
  obtain ⟨⟨h1, h2⟩, h3⟩ := h
  refine ⟨fun j => b.getD j 0, tab_of b 0, h1, h2, fun j => ?_⟩
  by_cases hj : j < b.length
  · have := h3 _ (getD_mem 0 hj)
    simp only [entB, Bool.and_eq_true, decide_eq_true_eq] at this
    exact this
  · have : b.getD j 0 = 0 := by simp only [List.getD_eq_getElem?_getD]; rw [List.getElem?_eq_none (by omega)]; rfl
    simp only [this]
    omega

section
variable {R C : Nat} {M : Mat} {f : Nat → Int}

/-- With a further column. -/
def wM (C : Nat) (M : Mat) (f : Nat → Int) : Mat := fun i j => if j = C then f i else M i j
theorem wM_ent (hA : Ent M) (hf : ∀ j, -1048576 ≤ f j ∧ f j ≤ 1048576) : Ent (wM C M f) := fun i j => by
  unfold wM
  split
  · exact hf i
  · exact hA i j
theorem wM_row (i : Nat) : tab C (M i) ++ [f i] = tab (C + 1) (wM C M f i) := tab_app
theorem solveL0_eq (hR : R ≤ 50) (hC : C ≤ 50) (hC0 : 0 < C) : matrix_SolveL0 (T2 R C M) (tab R f) (T2 R C M) (R : Int) (0, []) = some (.inl (T2 R (C + 1) (wM C M f))) := by
  refine loop_to (fun i : Nat => ((i : Int), T2 i (C + 1) (wM C M f))) R (many_of (by omega)) _ ?_ ?_ _ rfl
  · intro i hi
    have hcl := clone_eq (tab C (M i)) (by rw [tab_len]; exact hC0) (by rw [tab_len]; exact hC)
    simp (disch := omega) only [matrix_SolveL0K, T2_len, T2_row hi, hcl, tab_len, tab_getD hi, wM_row, ckB_ix, ckB_inR, ckB_room, ckB_cut, ckB_mk, ckB_ne, bif_lt, bif_nlt, bif_le, bif_nle, bif_eq, bif_neq, bif_ne, bif_nne, bif_not, bif_true', bif_false', bnd_ok, lk_inl, lk_inr, Int.toNat_natCast, decide_true]
    rw [cast_succ, T2, ← tab_succ]
  · simp (disch := omega) only [matrix_SolveL0K, ckB_ix, ckB_inR, ckB_room, ckB_cut, ckB_mk, ckB_ne, bif_lt, bif_nlt, bif_le, bif_nle, bif_eq, bif_neq, bif_ne, bif_nne, bif_not, bif_true', bif_false', bnd_ok, lk_inl, lk_inr, Int.toNat_natCast, decide_true]
theorem with_eq (hR : R ≤ 50) (hC : C ≤ 50) : ref05_with (T2 R C M) (tab R f) = some (T2 R (C + 1) (wM C M f)) := by
  have hL : ref05_withL0 (T2 R C M) (tab R f) (0, []) = some (.inl (T2 R (C + 1) (wM C M f))) := by
    refine loop_to (fun i : Nat => ((i : Int), T2 i (C + 1) (wM C M f))) R (many_of (by omega)) _ ?_ ?_ _ rfl
    · intro i hi
      simp (disch := omega) only [ref05_withL0K, T2_len, T2_row hi, tab_len, tab_getD hi, List.nil_append, wM_row, ckB_ix, ckB_inR, ckB_room, ckB_cut, ckB_mk, ckB_ne, bif_lt, bif_nlt, bif_le, bif_nle, bif_eq, bif_neq, bif_ne, bif_nne, bif_not, bif_true', bif_false', bnd_ok, lk_inl, lk_inr, Int.toNat_natCast, decide_true]
      rw [cast_succ, T2, ← tab_succ]
    · simp (disch := omega) only [ref05_withL0K, T2_len, ckB_ix, ckB_inR, ckB_room, ckB_cut, ckB_mk, ckB_ne, bif_lt, bif_nlt, bif_le, bif_nle, bif_eq, bif_neq, bif_ne, bif_nne, bif_not, bif_true', bif_false', bnd_ok, lk_inl, lk_inr, Int.toNat_natCast, decide_true]
  unfold ref05_with
  rw [hL]; rfl

/-! Solve. -/
def noB (R C : Nat) (s : RS) : Bool := (List.range (R - s.piv.length)).all fun i => decide (s.A (s.piv.length + i) C = 0)
def mk1 (a d : Int) : Frac := match frac_Make a d with | some r => r.1 | none => (0, 0, ())
def sF (s : RS) (C : Nat) : Nat → Nat → Frac
  | 0 => fun _ => (0, 1, ())
  | i + 1 => fun j => if j = qs s i then mk1 (s.A i C) s.den else sF s C i j
theorem mk1_eq {a d : Int} (ha : -1073741824 ≤ a ∧ a ≤ 1073741824) (hd : -1073741824 ≤ d ∧ d ≤ 1073741824) (h0 : d ≠ 0) : frac_Make a d = some (mk1 a d, 0) ∧ ref01_Make a d = some (mk1 a d, 0) ∧ NF (mk1 a d) ∧ (mk1 a d).1 * d = a * (mk1 a d).2.1 := by
  obtain ⟨r, h1, h2, h3⟩ := make_both (num := a) (den := d) (by omega) (by omega) (by omega) (by omega) h0
  have e : mk1 a d = r.1 := by unfold mk1; rw [h1]
  rcases h3 with ⟨_, h3⟩ | ⟨h3, h4, h5⟩
  · exact absurd ⟨ha.1, ha.2, hd.1, hd.2⟩ h3
  · rw [e]
    have hr : (r.1, (0 : Int)) = r := Prod.ext rfl h3.symm
    exact ⟨by rw [hr]; exact h1, by rw [hr]; exact h2, h4, h5⟩

def solveV (R C : Nat) (M : Mat) (f : Nat → Int) : Int × List Frac :=
  if smallM R (C + 1) (wM C M f) = true then (if noB R C (redR R (wM C M f) C) = true then (0, tab C (sF (redR R (wM C M f) C) C (redR R (wM C M f) C).piv.length)) else (10, [])) else (6, [])

theorem solveL1_eq (hR : R ≤ 50) (s : RS) (a b : List (List Int)) (c : List Int) (d e : Int) (hk : s.piv.length ≤ R) : matrix_SolveL1 (C : Int) (tab (R - s.piv.length) fun i => tab (C + 1) (s.A (s.piv.length + i))) ((R - s.piv.length : Nat) : Int) b c d e 0 = some (bif noB R C s then .inl () else .inr (10, [])) := by
  refine loop_all (fun i : Nat => (i : Int)) (R - s.piv.length) (many_of (by omega)) _ () (10, []) ?_ ?_ ?_
  · intro i hi hp
    have hp' := of_decide_eq_true hp
    have hc : C < C + 1 := by omega
    simp (disch := omega) only [matrix_SolveL1K, tab_len, tab_getD hi, tab_getD hc, hp', ckB_ix, ckB_inR, ckB_room, ckB_cut, ckB_mk, ckB_ne, bif_lt, bif_nlt, bif_le, bif_nle, bif_eq, bif_neq, bif_ne, bif_nne, bif_not, bif_true', bif_false', bnd_ok, lk_inl, lk_inr, Int.toNat_natCast, decide_true]
    rw [cast_succ]
  · intro i hi hp
    have hp' := of_decide_eq_false hp
    have hc : C < C + 1 := by omega
    simp (disch := omega) only [matrix_SolveL1K, tab_len, tab_getD hi, tab_getD hc, ckB_ix, ckB_inR, ckB_room, ckB_cut, ckB_mk, ckB_ne, bif_lt, bif_nlt, bif_le, bif_nle, bif_eq, bif_neq, bif_ne, bif_nne, bif_not, bif_true', bif_false', bnd_ok, lk_inl, lk_inr, Int.toNat_natCast, decide_true]
  · simp (disch := omega) only [matrix_SolveL1K, ckB_ix, ckB_inR, ckB_room, ckB_cut, ckB_mk, ckB_ne, bif_lt, bif_nlt, bif_le, bif_nle, bif_eq, bif_neq, bif_ne, bif_nne, bif_not, bif_true', bif_false', bnd_ok, lk_inl, lk_inr, Int.toNat_natCast, decide_true]
theorem refSolveL0_eq (hR : R ≤ 50) (s : RS) (a : List (List Int)) (ha : a.length = R) (c : List Int) (d e : Int) (hk : s.piv.length ≤ R) : ref05_SolveL0 a (C : Int) (T2 R (C + 1) s.A) c d e (s.piv.length : Int) = some (bif noB R C s then .inl () else .inr (10, [])) := by
  refine loop_all (fun i : Nat => ((s.piv.length + i : Nat) : Int)) (R - s.piv.length) (many_of (by omega)) _ () (10, []) ?_ ?_ ?_
  · intro i hi hp
    have hp' := of_decide_eq_true hp
    have hc : C < C + 1 := by omega
    have hi' : s.piv.length + i < R := by omega
    simp (disch := omega) only [ref05_SolveL0K, ha, T2_len, T2_row hi', tab_len, tab_getD hc, hp', ckB_ix, ckB_inR, ckB_room, ckB_cut, ckB_mk, ckB_ne, bif_lt, bif_nlt, bif_le, bif_nle, bif_eq, bif_neq, bif_ne, bif_nne, bif_not, bif_true', bif_false', bnd_ok, lk_inl, lk_inr, Int.toNat_natCast, decide_true]
    rw [cast_succ]
    rfl
  · intro i hi hp
    have hp' := of_decide_eq_false hp
    have hc : C < C + 1 := by omega
    have hi' : s.piv.length + i < R := by omega
    simp (disch := omega) only [ref05_SolveL0K, ha, T2_len, T2_row hi', tab_len, tab_getD hc, ckB_ix, ckB_inR, ckB_room, ckB_cut, ckB_mk, ckB_ne, bif_lt, bif_nlt, bif_le, bif_nle, bif_eq, bif_neq, bif_ne, bif_nne, bif_not, bif_true', bif_false', bnd_ok, lk_inl, lk_inr, Int.toNat_natCast, decide_true]
  · have e : s.piv.length + (R - s.piv.length) = R := by omega
    rw [e]
    simp (disch := omega) only [ref05_SolveL0K, ha, ckB_ix, ckB_inR, ckB_room, ckB_cut, ckB_mk, ckB_ne, bif_lt, bif_nlt, bif_le, bif_nle, bif_eq, bif_neq, bif_ne, bif_nne, bif_not, bif_true', bif_false', bnd_ok, lk_inl, lk_inr, Int.toNat_natCast, decide_true]

theorem solveL2_eq (hC : C ≤ 50) (b : List (List Int)) (c : List Int) (d e : Int) : matrix_SolveL2 (C : Int) (C : Int) b c d e (0, List.replicate C (Frac.z : Frac)) = some (.inl (tab C fun _ => ((0, 1, ()) : Frac))) := by
  refine loop_to (fun i : Nat => ((i : Int), tab C fun j => if j < i then ((0, 1, ()) : Frac) else Frac.z)) C (many_of (by omega)) _ ?_ ?_ _ ?_
  · intro i hi
    simp (disch := omega) only [matrix_SolveL2K, tab_len, tab_set, ckB_ix, ckB_inR, ckB_room, ckB_cut, ckB_mk, ckB_ne, bif_lt, bif_nlt, bif_le, bif_nle, bif_eq, bif_neq, bif_ne, bif_nne, bif_not, bif_true', bif_false', bnd_ok, lk_inl, lk_inr, Int.toNat_natCast, decide_true]
    rw [cast_succ]
    refine congrArg some (congrArg LR.next (Prod.ext rfl (tab_congr fun j _ => ?_)))
    by_cases e : j = i
    · rw [if_pos e, if_pos (by omega)]
    · by_cases e2 : j < i
      · rw [if_neg e, if_pos e2, if_pos (by omega)]
      · rw [if_neg e, if_neg e2, if_neg (by omega)]
  · simp (disch := omega) only [matrix_SolveL2K, ckB_ix, ckB_inR, ckB_room, ckB_cut, ckB_mk, ckB_ne, bif_lt, bif_nlt, bif_le, bif_nle, bif_eq, bif_neq, bif_ne, bif_nne, bif_not, bif_true', bif_false', bnd_ok, lk_inl, lk_inr, Int.toNat_natCast, decide_true]
    refine congrArg some (congrArg LR.done (tab_congr fun j hj => ?_))
    rw [if_pos hj]
  · rw [tab_rep]
    simp
theorem refSolveL1_eq (hC : C ≤ 50) (b : List (List Int)) (c : List Int) (d e : Int) : ref05_SolveL1 (C : Int) b c d e (0, []) = some (.inl (tab C fun _ => ((0, 1, ()) : Frac))) := by
  refine loop_to (fun i : Nat => ((i : Int), tab i fun _ => ((0, 1, ()) : Frac))) C (many_of (by omega)) _ ?_ ?_ _ rfl
  · intro i hi
    simp (disch := omega) only [ref05_SolveL1K, ref01_Of, tab_len, ckB_ix, ckB_inR, ckB_room, ckB_cut, ckB_mk, ckB_ne, bif_lt, bif_nlt, bif_le, bif_nle, bif_eq, bif_neq, bif_ne, bif_nne, bif_not, bif_true', bif_false', bnd_ok, lk_inl, lk_inr, Int.toNat_natCast, decide_true]
    rw [cast_succ, ← tab_succ]
  · simp (disch := omega) only [ref05_SolveL1K, ckB_ix, ckB_inR, ckB_room, ckB_cut, ckB_mk, ckB_ne, bif_lt, bif_nlt, bif_le, bif_nle, bif_eq, bif_neq, bif_ne, bif_nne, bif_not, bif_true', bif_false', bnd_ok, lk_inl, lk_inr, Int.toNat_natCast, decide_true]

theorem solveL3_eq {s : RS} (hR : R ≤ 50) (hC : C ≤ 50) (hk : s.piv.length ≤ R) (hq : ∀ i, i < s.piv.length → qs s i < C) (hb : ∀ i, i < s.piv.length → -1073741824 ≤ s.A i C ∧ s.A i C ≤ 1073741824) (hd : -1073741824 ≤ s.den ∧ s.den ≤ 1073741824) (hd0 : s.den ≠ 0) (c : List Int) (e : Int) :
    matrix_SolveL3 (C : Int) (casts s.piv) (s.piv.length : Int) (T2 R (C + 1) s.A) c s.den e (0, tab C fun _ => ((0, 1, ()) : Frac)) = some (.inl (tab C (sF s C s.piv.length))) := by
  refine loop_to (fun i : Nat => ((i : Int), tab C (sF s C i))) s.piv.length (many_of (by omega)) _ ?_ ?_ _ rfl
  · intro i hi
    have hi' : i < R := by omega
    have hc : C < C + 1 := by omega
    have hm := (mk1_eq (hb i hi) hd hd0).1
    have hg : (casts s.piv).getD i 0 = ((qs s i : Nat) : Int) := casts_getD s.piv i
    have hqi := hq i hi
    have hcl := casts_len s.piv
    simp (disch := omega) only [matrix_SolveL3K, hcl, T2_len, T2_row hi', tab_len, tab_getD hc, hm, hg, tab_set, ckB_ix, ckB_inR, ckB_room, ckB_cut, ckB_mk, ckB_ne, bif_lt, bif_nlt, bif_le, bif_nle, bif_eq, bif_neq, bif_ne, bif_nne, bif_not, bif_true', bif_false', bnd_ok, lk_inl, lk_inr, Int.toNat_natCast, decide_true]
    rw [cast_succ]
    rfl
  · simp (disch := omega) only [matrix_SolveL3K, ckB_ix, ckB_inR, ckB_room, ckB_cut, ckB_mk, ckB_ne, bif_lt, bif_nlt, bif_le, bif_nle, bif_eq, bif_neq, bif_ne, bif_nne, bif_not, bif_true', bif_false', bnd_ok, lk_inl, lk_inr, Int.toNat_natCast, decide_true]
theorem refSolveL2_eq {s : RS} (hR : R ≤ 50) (hC : C ≤ 50) (hk : s.piv.length ≤ R) (hq : ∀ i, i < s.piv.length → qs s i < C) (hb : ∀ i, i < s.piv.length → -1073741824 ≤ s.A i C ∧ s.A i C ≤ 1073741824) (hd : -1073741824 ≤ s.den ∧ s.den ≤ 1073741824) (hd0 : s.den ≠ 0) (e : Int) :
    ref05_SolveL2 (C : Int) (T2 R (C + 1) s.A) (casts s.piv) s.den e (0, tab C fun _ => ((0, 1, ()) : Frac)) = some (.inl (tab C (sF s C s.piv.length))) := by
  refine loop_to (fun i : Nat => ((i : Int), tab C (sF s C i))) s.piv.length (many_of (by omega)) _ ?_ ?_ _ rfl
  · intro i hi
    have hi' : i < R := by omega
    have hc : C < C + 1 := by omega
    have hm := (mk1_eq (hb i hi) hd hd0).2.1
    have hg : (casts s.piv).getD i 0 = ((qs s i : Nat) : Int) := casts_getD s.piv i
    have hqi := hq i hi
    have hcl := casts_len s.piv
    simp (disch := omega) only [ref05_SolveL2K, hcl, T2_len, T2_row hi', tab_len, tab_getD hc, hm, hg, tab_set, ckB_ix, ckB_inR, ckB_room, ckB_cut, ckB_mk, ckB_ne, bif_lt, bif_nlt, bif_le, bif_nle, bif_eq, bif_neq, bif_ne, bif_nne, bif_not, bif_true', bif_false', bnd_ok, lk_inl, lk_inr, Int.toNat_natCast, decide_true]
    rw [cast_succ]
    rfl
  · have hcl := casts_len s.piv
    simp (disch := omega) only [ref05_SolveL2K, hcl, ckB_ix, ckB_inR, ckB_room, ckB_cut, ckB_mk, ckB_ne, bif_lt, bif_nlt, bif_le, bif_nle, bif_eq, bif_neq, bif_ne, bif_nne, bif_not, bif_true', bif_false', bnd_ok, lk_inl, lk_inr, Int.toNat_natCast, decide_true]

theorem colB_tab (r1 : 1 ≤ R) (r2 : R ≤ 20) (hf : ∀ j, -1048576 ≤ f j ∧ f j ≤ 1048576) : colB (tab R f) = true := by
  unfold colB
  rw [tab_len, decide_eq_true r1, decide_eq_true r2]
  simp only [Bool.true_and, List.all_eq_true]
  intro x hx
  obtain ⟨i, _, rfl⟩ := tab_mem.1 hx
  have := hf i
  simp [entB, this]

theorem solve_val (r1 : 1 ≤ R) (r2 : R ≤ 20) (c1 : 1 ≤ C) (c2 : C ≤ 20) (hA : Ent M) (hf : ∀ j, -1048576 ≤ f j ∧ f j ≤ 1048576) : matrix_Solve (T2 R C M) (tab R f) = some (solveV R C M f) ∧ ref05_Solve (T2 R C M) (tab R f) = some (solveV R C M f) := by
  have hv := T2_valid r1 r2 c1 c2 hA
  have hval := Valid_eq (T2 R C M) (T2_rows (by omega))
  rw [hv] at hval
  have hrv := refValid_eq (T2 R C M)
  rw [hv] at hrv
  have hcb := colB_tab r1 r2 hf
  have hcol := column_eq (tab R f) (by rw [tab_len]; omega)
  have hrc := Column_eq (tab R f)
  have hrc' : ref05_Column (tab R f) = some (colB (tab R f)) := hrc
  rw [hcb] at hcol hrc'
  have hW := wM_ent (C := C) hA hf
  have hs := small_eq (R := R) (C := C + 1) (by omega) (by omega) hW
  have hs' := refSmall_eq (R := R) (C := C + 1) (by omega) (by omega) hW
  have h0 : 0 < R := by omega
  have hL0 := solveL0_eq (R := R) (C := C) (M := M) (f := f) (by omega) (by omega) c1
  have hwi := with_eq (R := R) (C := C) (M := M) (f := f) (by omega) (by omega)
  unfold solveV
  cases hsm : smallM R (C + 1) (wM C M f) with
  | false =>
    rw [hsm] at hs hs'
    rw [if_neg (by simp)]
    constructor
    · unfold matrix_Solve; simp (disch := omega) only [hval, Bool.not_true, hcol, T2_len, tab_len, hL0, hs, Bool.not_false, ckB_ix, ckB_inR, ckB_room, ckB_cut, ckB_mk, ckB_ne, bif_lt, bif_nlt, bif_le, bif_nle, bif_eq, bif_neq, bif_ne, bif_nne, bif_not, bif_true', bif_false', bnd_ok, lk_inl, lk_inr, Int.toNat_natCast, decide_true]
    · unfold ref05_Solve; simp (disch := omega) only [hrv, Bool.not_true, hrc', T2_len, tab_len, hwi, hs', Bool.not_false, ckB_ix, ckB_inR, ckB_room, ckB_cut, ckB_mk, ckB_ne, bif_lt, bif_nlt, bif_le, bif_nle, bif_eq, bif_neq, bif_ne, bif_nne, bif_not, bif_true', bif_false', bnd_ok, lk_inl, lk_inr, Int.toNat_natCast, decide_true]
  | true =>
    rw [hsm] at hs hs'
    rw [if_pos rfl]
    have hP : pr (C + 1) (wM C M f) R ≤ 1073741824 := of_decide_eq_true hsm
    obtain ⟨σ, hX⟩ := redR_exact hP C (by omega)
    have hred := reduce_eq (R := R) (C := C + 1) (by omega) (by omega) (by omega) (cols := C) (by omega) (wM C M f)
    have hred' := refReduce_eq (R := R) (C := C + 1) (by omega) (by omega) (cols := C) (by omega) (wM C M f)
    generalize redR R (wM C M f) C = s at hX hred hred'
    have hle := hX.le
    have hcl := casts_len s.piv
    have hb : ∀ i, i < s.piv.length → -1073741824 ≤ s.A i C ∧ s.A i C ≤ 1073741824 := fun i hi => hX.bnd_up hP (by omega) hi (by omega)
    have hd := hX.bnd_den hP (by omega)
    have hd0 : s.den ≠ 0 := by rw [hX.den]; exact hX.d0
    have hL1 := solveL1_eq (C := C) (R := R) (by omega) s (T2 R C M) (T2 R (C + 1) s.A) (casts s.piv) s.den (s.sw : Int) hle
    have hL1' := refSolveL0_eq (C := C) (R := R) (by omega) s (T2 R (C + 1) (wM C M f)) T2_len (casts s.piv) s.den (sgn s.sw) hle
    have hdr : (T2 R (C + 1) s.A).drop s.piv.length = tab (R - s.piv.length) fun i => tab (C + 1) (s.A (s.piv.length + i)) := tab_drop _
    cases hno : noB R C s with
    | false =>
      rw [hno] at hL1 hL1'
      rw [if_neg (by simp)]
      constructor
      · unfold matrix_Solve; simp (disch := omega) only [hval, Bool.not_true, hcol, T2_len, T2_row h0, tab_len, hL0, hs, hred, hcl, hdr, hL1, ckB_ix, ckB_inR, ckB_room, ckB_cut, ckB_mk, ckB_ne, bif_lt, bif_nlt, bif_le, bif_nle, bif_eq, bif_neq, bif_ne, bif_nne, bif_not, bif_true', bif_false', bnd_ok, lk_inl, lk_inr, Int.toNat_natCast, decide_true]
      · unfold ref05_Solve; simp (disch := omega) only [hrv, Bool.not_true, hrc', T2_len, T2_row h0, tab_len, hwi, hs', hred', hcl, hL1', ckB_ix, ckB_inR, ckB_room, ckB_cut, ckB_mk, ckB_ne, bif_lt, bif_nlt, bif_le, bif_nle, bif_eq, bif_neq, bif_ne, bif_nne, bif_not, bif_true', bif_false', bnd_ok, lk_inl, lk_inr, Int.toNat_natCast, decide_true]
    | true =>
      rw [hno] at hL1 hL1'
      rw [if_pos rfl]
      have hL2 := solveL2_eq (C := C) (by omega) (T2 R (C + 1) s.A) (casts s.piv) s.den (s.sw : Int)
      have hL2' := refSolveL1_eq (C := C) (by omega) (T2 R (C + 1) s.A) (casts s.piv) s.den (sgn s.sw)
      have hL3 := solveL3_eq (R := R) (C := C) (by omega) (by omega) hle hX.lt hb hd hd0 (casts s.piv) (s.sw : Int)
      have hL3' := refSolveL2_eq (R := R) (C := C) (by omega) (by omega) hle hX.lt hb hd hd0 (sgn s.sw)
      constructor
      · unfold matrix_Solve; simp (disch := omega) only [hval, Bool.not_true, hcol, T2_len, T2_row h0, tab_len, hL0, hs, hred, hcl, hdr, hL1, List.length_replicate, hL2, hL3, ckB_ix, ckB_inR, ckB_room, ckB_cut, ckB_mk, ckB_ne, bif_lt, bif_nlt, bif_le, bif_nle, bif_eq, bif_neq, bif_ne, bif_nne, bif_not, bif_true', bif_false', bnd_ok, lk_inl, lk_inr, Int.toNat_natCast, decide_true]
      · unfold ref05_Solve; simp (disch := omega) only [hrv, Bool.not_true, hrc', T2_len, T2_row h0, tab_len, hwi, hs', hred', hcl, hL1', hL2', hL3', ckB_ix, ckB_inR, ckB_room, ckB_cut, ckB_mk, ckB_ne, bif_lt, bif_nlt, bif_le, bif_nle, bif_eq, bif_neq, bif_ne, bif_nne, bif_not, bif_true', bif_false', bnd_ok, lk_inl, lk_inr, Int.toNat_natCast, decide_true]

/-! Refute. -/
def dot (R : Nat) (s : RS) (f : Nat → Int) (c : Nat) : Int := sumN (fun i => kf R s c i * f i) R
def refuteV (R C : Nat) (M : Mat) (f : Nat → Int) : List Int × Int :=
  if smallM C R (trF M) = true then (match (frees (redR C (trF M) R) R).find? fun c => !decide (dot R (redR C (trF M) R) f c = 0) with | some c => (tab R (kf R (redR C (trF M) R) c), 0) | none => ([], 10)) else ([], 6)

theorem refuteL0_eq (hR : R ≤ 50) (hf : ∀ j, -1048576 ≤ f j ∧ f j ≤ 1048576) {g : Nat → Int} (hg : ∀ j, j < R → -1073741824 ≤ g j ∧ g j ≤ 1073741824) (l : List (List Int)) (i : Nat) (hl : l.getD i [] = tab R g) (y : Nat) (a c : Int) : matrix_RefuteL0 (tab R f) y a c i (R : Int) l (0, 0) = some (.inl (sumN (fun i => g i * f i) R)) := by
  refine loop_to (fun j : Nat => (sumN (fun i => g i * f i) j, (j : Int))) R (many_of (by omega)) _ ?_ ?_ _ rfl
  · intro j hj
    have h1 := mul_bound (hg j hj) (hf j)
    have h2 := sumN_bound (b := 1073741824 * 1048576) j (f := fun i => g i * f i) fun k hk => mul_bound (hg k (by omega)) (hf k)
    have h3 : (j : Int) * (1073741824 * 1048576) ≤ 50 * (1073741824 * 1048576) := Int.mul_le_mul_of_nonneg_right (by omega) (by omega)
    simp (disch := omega) only [matrix_RefuteL0K, hl, tab_len, tab_getD hj, ckB_ix, ckB_inR, ckB_room, ckB_cut, ckB_mk, ckB_ne, bif_lt, bif_nlt, bif_le, bif_nle, bif_eq, bif_neq, bif_ne, bif_nne, bif_not, bif_true', bif_false', bnd_ok, lk_inl, lk_inr, Int.toNat_natCast, decide_true]
    rw [cast_succ]
    rfl
  · simp (disch := omega) only [matrix_RefuteL0K, ckB_ix, ckB_inR, ckB_room, ckB_cut, ckB_mk, ckB_ne, bif_lt, bif_nlt, bif_le, bif_nle, bif_eq, bif_neq, bif_ne, bif_nne, bif_not, bif_true', bif_false', bnd_ok, lk_inl, lk_inr, Int.toNat_natCast, decide_true]

def outR (o : Option Nat) (R : Nat) (s : RS) : Unit ⊕ (List Int × Int) := match o with | some c => .inr (tab R (kf R s c), 0) | none => .inl ()
theorem getD_map {α β : Type} {l : List α} {g : α → β} {i : Nat} (hi : i < l.length) (d : α) (e : β) : (l.map g).getD i e = g (l.getD i d) := by
  rw [getD_at _ _ e (by rw [List.length_map]; exact hi), List.getElem_map, getD_at _ _ d hi]
theorem refuteL1_eq (hR : R ≤ 50) (hf : ∀ j, -1048576 ≤ f j ∧ f j ≤ 1048576) (s : RS) (l : List Nat) (hl : l.length ≤ 50) (hk : ∀ c, c ∈ l → ∀ j, j < R → -1073741824 ≤ kf R s c j ∧ kf R s c j ≤ 1073741824) :
    matrix_RefuteL1 (tab R f) (l.length : Int) (l.map fun c => tab R (kf R s c)) 0 = some (outR (l.find? fun c => !decide (dot R s f c = 0)) R s) := by
  have hml : (l.map fun c => tab R (kf R s c)).length = l.length := List.length_map _
  refine loop_list l 0 (many_of (by omega)) (fun i (_ : Unit) => (i : Int)) (fun _ _ => True) (fun l _ => outR (l.find? fun c => !decide (dot R s f c = 0)) R s) ?_ ?_ () trivial 0 rfl
  · intro _ _
    simp (disch := omega) only [matrix_RefuteL1K, ckB_ix, ckB_inR, ckB_room, ckB_cut, ckB_mk, ckB_ne, bif_lt, bif_nlt, bif_le, bif_nle, bif_eq, bif_neq, bif_ne, bif_nne, bif_not, bif_true', bif_false', bnd_ok, lk_inl, lk_inr, Int.toNat_natCast, decide_true]
    rfl
  · intro i _ hi _
    have hg : (l.map fun c => tab R (kf R s c)).getD i [] = tab R (kf R s (l.getD i 0)) := getD_map hi 0 []
    have hL0 := refuteL0_eq hR hf (hk _ (getD_mem 0 hi)) _ i hg i (l.length : Int) (i : Int)
    have hdef : sumN (fun j => kf R s (l.getD i 0) j * f j) R = dot R s f (l.getD i 0) := rfl
    rw [hdef] at hL0
    by_cases h : dot R s f (l.getD i 0) = 0
    · refine .inl ⟨(), ?_, trivial, ?_⟩
      · simp (disch := omega) only [matrix_RefuteL1K, hml, hg, tab_len, hL0, h, ckB_ix, ckB_inR, ckB_room, ckB_cut, ckB_mk, ckB_ne, bif_lt, bif_nlt, bif_le, bif_nle, bif_eq, bif_neq, bif_ne, bif_nne, bif_not, bif_true', bif_false', bnd_ok, lk_inl, lk_inr, Int.toNat_natCast, decide_true]
        rw [cast_succ]
      · simp only [List.find?_cons, h, decide_true, Bool.not_true]
    · refine .inr ?_
      have hh : (l.getD i 0 :: l.drop (i + 1)).find? (fun c => !decide (dot R s f c = 0)) = some (l.getD i 0) := by
        simp only [List.find?_cons, h, decide_false, Bool.not_false]
      rw [hh]
      simp (disch := omega) only [matrix_RefuteL1K, hml, hg, tab_len, hL0, ckB_ix, ckB_inR, ckB_room, ckB_cut, ckB_mk, ckB_ne, bif_lt, bif_nlt, bif_le, bif_nle, bif_eq, bif_neq, bif_ne, bif_nne, bif_not, bif_true', bif_false', bnd_ok, lk_inl, lk_inr, Int.toNat_natCast, decide_true]
      rfl
theorem refRefuteL0_eq (hR : R ≤ 50) (hf : ∀ j, -1048576 ≤ f j ∧ f j ≤ 1048576) (s : RS) (l : List Nat) (hl : l.length ≤ 50) (hk : ∀ c, c ∈ l → ∀ j, j < R → -1073741824 ≤ kf R s c j ∧ kf R s c j ≤ 1073741824) :
    ref05_RefuteL0 (tab R f) (l.map fun c => tab R (kf R s c)) 0 = some (outR (l.find? fun c => !decide (dot R s f c = 0)) R s) := by
  have hml : (l.map fun c => tab R (kf R s c)).length = l.length := List.length_map _
  refine loop_list l 0 (many_of (by omega)) (fun i (_ : Unit) => (i : Int)) (fun _ _ => True) (fun l _ => outR (l.find? fun c => !decide (dot R s f c = 0)) R s) ?_ ?_ () trivial 0 rfl
  · intro _ _
    simp (disch := omega) only [ref05_RefuteL0K, hml, ckB_ix, ckB_inR, ckB_room, ckB_cut, ckB_mk, ckB_ne, bif_lt, bif_nlt, bif_le, bif_nle, bif_eq, bif_neq, bif_ne, bif_nne, bif_not, bif_true', bif_false', bnd_ok, lk_inl, lk_inr, Int.toNat_natCast, decide_true]
    rfl
  · intro i _ hi _
    have hg : (l.map fun c => tab R (kf R s c)).getD i [] = tab R (kf R s (l.getD i 0)) := getD_map hi 0 []
    have hT := times_eq hR (f := kf R s (l.getD i 0)) (g := f) fun j hj => by
      have := mul_bound (hk _ (getD_mem 0 hi) j hj) (hf j)
      omega
    have hdef : sumN (fun j => kf R s (l.getD i 0) j * f j) R = dot R s f (l.getD i 0) := rfl
    rw [hdef] at hT
    by_cases h : dot R s f (l.getD i 0) = 0
    · refine .inl ⟨(), ?_, trivial, ?_⟩
      · simp (disch := omega) only [ref05_RefuteL0K, hml, hg, tab_len, hT, h, ckB_ix, ckB_inR, ckB_room, ckB_cut, ckB_mk, ckB_ne, bif_lt, bif_nlt, bif_le, bif_nle, bif_eq, bif_neq, bif_ne, bif_nne, bif_not, bif_true', bif_false', bnd_ok, lk_inl, lk_inr, Int.toNat_natCast, decide_true]
        rw [cast_succ]
      · simp only [List.find?_cons, h, decide_true, Bool.not_true]
    · refine .inr ?_
      have hh : (l.getD i 0 :: l.drop (i + 1)).find? (fun c => !decide (dot R s f c = 0)) = some (l.getD i 0) := by
        simp only [List.find?_cons, h, decide_false, Bool.not_false]
      rw [hh]
      simp (disch := omega) only [ref05_RefuteL0K, hml, hg, tab_len, hT, ckB_ix, ckB_inR, ckB_room, ckB_cut, ckB_mk, ckB_ne, bif_lt, bif_nlt, bif_le, bif_nle, bif_eq, bif_neq, bif_ne, bif_nne, bif_not, bif_true', bif_false', bnd_ok, lk_inl, lk_inr, Int.toNat_natCast, decide_true]
      rfl

theorem trF_ent (hA : Ent M) : Ent (trF M) := fun i j => hA j i
theorem refKernel_val (r1 : 1 ≤ R) (r2 : R ≤ 20) (c1 : 1 ≤ C) (c2 : C ≤ 20) (hA : Ent M) : ref05_Kernel (T2 R C M) = some (if smallM R C M = true then (0, (frees (redR R M C) C).map fun c => tab C (kf C (redR R M C) c)) else (6, [])) := by
  have hv := T2_valid r1 r2 c1 c2 hA
  have hrv := refValid_eq (T2 R C M)
  rw [hv] at hrv
  have hs' := refSmall_eq (R := R) (C := C) (by omega) (by omega) hA
  have h0 : 0 < R := by omega
  cases hsm : smallM R C M with
  | false =>
    rw [hsm] at hs'
    rw [if_neg (by simp)]
    unfold ref05_Kernel; simp (disch := omega) only [hrv, Bool.not_true, hs', Bool.not_false, ckB_ix, ckB_inR, ckB_room, ckB_cut, ckB_mk, ckB_ne, bif_lt, bif_nlt, bif_le, bif_nle, bif_eq, bif_neq, bif_ne, bif_nne, bif_not, bif_true', bif_false', bnd_ok, lk_inl, lk_inr, Int.toNat_natCast, decide_true]
  | true =>
    rw [hsm] at hs'
    rw [if_pos rfl]
    have hI := redR_inv R M C
    have hin := redR_in (R := R) (in64_A hA) C
    have hred' := refReduce_eq (R := R) (C := C) (by omega) (by omega) (Nat.le_refl C) M
    have hL1 := refKernelL1_eq (R := R) (C := C) (by omega) h0 (by omega) M (redR R M C) hI.piv hI.plt hin.1 hin.2 (sgn (redR R M C).sw)
    rw [basis_frees] at hL1
    unfold ref05_Kernel; simp (disch := omega) only [hrv, Bool.not_true, hs', T2_len, T2_row h0, tab_len, hred', hL1, ckB_ix, ckB_inR, ckB_room, ckB_cut, ckB_mk, ckB_ne, bif_lt, bif_nlt, bif_le, bif_nle, bif_eq, bif_neq, bif_ne, bif_nne, bif_not, bif_true', bif_false', bnd_ok, lk_inl, lk_inr, Int.toNat_natCast, decide_true]

theorem refute_val (r1 : 1 ≤ R) (r2 : R ≤ 20) (c1 : 1 ≤ C) (c2 : C ≤ 20) (hA : Ent M) (hf : ∀ j, -1048576 ≤ f j ∧ f j ≤ 1048576) : matrix_Refute (T2 R C M) (tab R f) = some (refuteV R C M f) ∧ ref05_Refute (T2 R C M) (tab R f) = some (refuteV R C M f) := by
  have hv := T2_valid r1 r2 c1 c2 hA
  have hval := Valid_eq (T2 R C M) (T2_rows (by omega))
  rw [hv] at hval
  have hrv := refValid_eq (T2 R C M)
  rw [hv] at hrv
  have hcb := colB_tab r1 r2 hf
  have hcol := column_eq (tab R f) (by rw [tab_len]; omega)
  have hrc' : ref05_Column (tab R f) = some (colB (tab R f)) := Column_eq (tab R f)
  rw [hcb] at hcol hrc'
  have hT := trF_ent hA
  have htr := transposed_eq (R := R) (C := C) (by omega) r1 (by omega) M
  have htr' := refTranspose_eq (R := R) (C := C) (by omega) r1 (by omega) M
  have hs := small_eq (R := C) (C := R) (by omega) (by omega) hT
  have hk := kernel_eq (R := C) (C := R) (by omega) (by omega) (by omega) r1 hT
  rw [basis_frees] at hk
  have hk' := refKernel_val (R := C) (C := R) c1 c2 r1 r2 hT
  unfold refuteV
  cases hsm : smallM C R (trF M) with
  | false =>
    rw [hsm] at hs
    rw [hsm, if_neg (by simp)] at hk'
    rw [if_neg (by simp)]
    constructor
    · unfold matrix_Refute; simp (disch := omega) only [hval, Bool.not_true, hcol, T2_len, tab_len, htr, hs, Bool.not_false, ckB_ix, ckB_inR, ckB_room, ckB_cut, ckB_mk, ckB_ne, bif_lt, bif_nlt, bif_le, bif_nle, bif_eq, bif_neq, bif_ne, bif_nne, bif_not, bif_true', bif_false', bnd_ok, lk_inl, lk_inr, Int.toNat_natCast, decide_true]
    · unfold ref05_Refute; simp (disch := omega) only [hrv, Bool.not_true, hrc', T2_len, tab_len, htr', hk', Bool.not_false, ckB_ix, ckB_inR, ckB_room, ckB_cut, ckB_mk, ckB_ne, bif_lt, bif_nlt, bif_le, bif_nle, bif_eq, bif_neq, bif_ne, bif_nne, bif_not, bif_true', bif_false', bnd_ok, lk_inl, lk_inr, Int.toNat_natCast, decide_true]
  | true =>
    rw [hsm] at hs
    rw [hsm, if_pos rfl] at hk'
    rw [if_pos rfl]
    have hP : pr R (trF M) C ≤ 1073741824 := of_decide_eq_true hsm
    obtain ⟨σ, hX⟩ := redR_exact hP R (Nat.le_refl R)
    generalize redR C (trF M) R = s at hX hk hk'
    have hkv : ∀ c, c ∈ frees s R → ∀ j, j < R → -1073741824 ≤ kf R s c j ∧ kf R s c j ≤ 1073741824 := fun c hc => (kf_KV hP hX (frees_mem.1 hc).1 (frees_mem.1 hc).2).bd
    have hlen : (frees s R).length ≤ 50 := by have := frees_all hX; omega
    have hml : ((frees s R).map fun c => tab R (kf R s c)).length = (frees s R).length := List.length_map _
    have hL1 := refuteL1_eq (R := R) (by omega) hf s (frees s R) hlen hkv
    have hL1' := refRefuteL0_eq (R := R) (by omega) hf s (frees s R) hlen hkv
    cases hfi : (frees s R).find? fun c => !decide (dot R s f c = 0) with
    | none =>
      rw [hfi] at hL1 hL1'
      constructor
      · unfold matrix_Refute; simp (disch := omega) only [hval, Bool.not_true, hcol, T2_len, tab_len, htr, hs, hk, hml, hL1, outR, ckB_ix, ckB_inR, ckB_room, ckB_cut, ckB_mk, ckB_ne, bif_lt, bif_nlt, bif_le, bif_nle, bif_eq, bif_neq, bif_ne, bif_nne, bif_not, bif_true', bif_false', bnd_ok, lk_inl, lk_inr, Int.toNat_natCast, decide_true]
      · unfold ref05_Refute; simp (disch := omega) only [hrv, Bool.not_true, hrc', T2_len, tab_len, htr', hk', hL1', outR, ckB_ix, ckB_inR, ckB_room, ckB_cut, ckB_mk, ckB_ne, bif_lt, bif_nlt, bif_le, bif_nle, bif_eq, bif_neq, bif_ne, bif_nne, bif_not, bif_true', bif_false', bnd_ok, lk_inl, lk_inr, Int.toNat_natCast, decide_true]
    | some c =>
      rw [hfi] at hL1 hL1'
      constructor
      · unfold matrix_Refute; simp (disch := omega) only [hval, Bool.not_true, hcol, T2_len, tab_len, htr, hs, hk, hml, hL1, outR, ckB_ix, ckB_inR, ckB_room, ckB_cut, ckB_mk, ckB_ne, bif_lt, bif_nlt, bif_le, bif_nle, bif_eq, bif_neq, bif_ne, bif_nne, bif_not, bif_true', bif_false', bnd_ok, lk_inl, lk_inr, Int.toNat_natCast, decide_true]
      · unfold ref05_Refute; simp (disch := omega) only [hrv, Bool.not_true, hrc', T2_len, tab_len, htr', hk', hL1', outR, ckB_ix, ckB_inR, ckB_room, ckB_cut, ckB_mk, ckB_ne, bif_lt, bif_nlt, bif_le, bif_nle, bif_eq, bif_neq, bif_ne, bif_nne, bif_not, bif_true', bif_false', bnd_ok, lk_inl, lk_inr, Int.toNat_natCast, decide_true]

theorem sameF_self (l : List Frac) (hl : l.length ≤ 50) : ref01_Same l l = some true := by
  have hL0 : ref01_SameL0 l l 0 = some (.inl ()) := by
    refine loop_to (fun k : Nat => (k : Int)) l.length (many_of (by omega)) _ ?_ ?_ _ rfl
    · intro k hk
      simp (disch := omega) only [ref01_SameL0K, Bool.and_true, Bool.not_true, ckB_ix, ckB_inR, ckB_room, ckB_cut, ckB_mk, ckB_ne, bif_lt, bif_nlt, bif_le, bif_nle, bif_eq, bif_neq, bif_ne, bif_nne, bif_not, bif_true', bif_false', bnd_ok, lk_inl, lk_inr, Int.toNat_natCast, decide_true]
      rw [cast_succ]
    · simp (disch := omega) only [ref01_SameL0K, ckB_ix, ckB_inR, ckB_room, ckB_cut, ckB_mk, ckB_ne, bif_lt, bif_nlt, bif_le, bif_nle, bif_eq, bif_neq, bif_ne, bif_nne, bif_not, bif_true', bif_false', bnd_ok, lk_inl, lk_inr, Int.toNat_natCast, decide_true]
  unfold ref01_Same
  rw [bif_neg (by simp), hL0]
  rfl
theorem sameR_self (x : List Int) (hx : x.length ≤ 50) : ref05_SameRow x x = some true := by
  have hL0 : ref05_SameRowL0 x x 0 = some (.inl ()) := by
    refine loop_to (fun k : Nat => (k : Int)) x.length (many_of (by omega)) _ ?_ ?_ _ rfl
    · intro k hk
      simp (disch := omega) only [ref05_SameRowL0K, decide_true, ckB_ix, ckB_inR, ckB_room, ckB_cut, ckB_mk, ckB_ne, bif_lt, bif_nlt, bif_le, bif_nle, bif_eq, bif_neq, bif_ne, bif_nne, bif_not, bif_true', bif_false', bnd_ok, lk_inl, lk_inr, Int.toNat_natCast, decide_true]
      rw [cast_succ]
    · simp (disch := omega) only [ref05_SameRowL0K, ckB_ix, ckB_inR, ckB_room, ckB_cut, ckB_mk, ckB_ne, bif_lt, bif_nlt, bif_le, bif_nle, bif_eq, bif_neq, bif_ne, bif_nne, bif_not, bif_true', bif_false', bnd_ok, lk_inl, lk_inr, Int.toNat_natCast, decide_true]
  unfold ref05_SameRow
  rw [bif_neg (by simp), hL0]
  rfl
theorem solveV_len (hC : C ≤ 20) : (solveV R C M f).2.length ≤ 50 := by
  unfold solveV
  split
  · split
    · show (tab C _).length ≤ 50
      rw [tab_len]; omega
    · show ([] : List Frac).length ≤ 50
      simp
  · show ([] : List Frac).length ≤ 50
    simp
theorem refuteV_len (hR : R ≤ 20) : (refuteV R C M f).1.length ≤ 50 := by
  unfold refuteV
  split
  · split
    · show (tab R _).length ≤ 50
      rw [tab_len]; omega
    · show ([] : List Int).length ≤ 50
      simp
  · show ([] : List Int).length ≤ 50
    simp
end

theorem MatrixSolves_true (m : List (List Int)) (b : List Int) : law05_MatrixSolves m b = some true := by
  obtain ⟨g, hg, hok⟩ := great_eq [m, [b]] (by simp)
  unfold law05_MatrixSolves
  cases g with
  | true => simp (disch := omega) only [awake_true, Bool.not_true, hg, ckB_ix, ckB_inR, ckB_room, ckB_cut, ckB_mk, ckB_ne, bif_lt, bif_nlt, bif_le, bif_nle, bif_eq, bif_neq, bif_ne, bif_nne, bif_not, bif_true', bif_false', bnd_ok, lk_inl, lk_inr, Int.toNat_natCast, decide_true]
  | false =>
    have hm := hok rfl m (by simp)
    have hb := hok rfl [b] (by simp)
    have hbl : b.length ≤ 40 := by
      have := hb.2 b (by simp)
      unfold okL at this
      omega
    have hval := hm.valid
    have hrv := refValid_eq m
    have hcol := column_eq b (by omega)
    have hrc : ref05_Column b = some (colB b) := Column_eq b
    have main : ∃ p q : Int × List Frac, ∃ r t : List Int × Int, p = q ∧ r = t ∧ p.2.length ≤ 50 ∧ r.1.length ≤ 50 ∧ matrix_Solve m b = some p ∧ ref05_Solve m b = some q ∧ matrix_Refute m b = some r ∧ ref05_Refute m b = some t := by
      cases hv : validM m with
      | false =>
        rw [hv] at hval hrv
        refine ⟨(1, []), _, ([], 1), _, rfl, rfl, by simp, by simp, ?_, ?_, ?_, ?_⟩
        · unfold matrix_Solve; simp (disch := omega) only [hval, Bool.not_false, ckB_ix, ckB_inR, ckB_room, ckB_cut, ckB_mk, ckB_ne, bif_lt, bif_nlt, bif_le, bif_nle, bif_eq, bif_neq, bif_ne, bif_nne, bif_not, bif_true', bif_false', bnd_ok, lk_inl, lk_inr, Int.toNat_natCast, decide_true]
        · unfold ref05_Solve; simp (disch := omega) only [hrv, Bool.not_false, ckB_ix, ckB_inR, ckB_room, ckB_cut, ckB_mk, ckB_ne, bif_lt, bif_nlt, bif_le, bif_nle, bif_eq, bif_neq, bif_ne, bif_nne, bif_not, bif_true', bif_false', bnd_ok, lk_inl, lk_inr, Int.toNat_natCast, decide_true]
        · unfold matrix_Refute; simp (disch := omega) only [hval, Bool.not_false, ckB_ix, ckB_inR, ckB_room, ckB_cut, ckB_mk, ckB_ne, bif_lt, bif_nlt, bif_le, bif_nle, bif_eq, bif_neq, bif_ne, bif_nne, bif_not, bif_true', bif_false', bnd_ok, lk_inl, lk_inr, Int.toNat_natCast, decide_true]
        · unfold ref05_Refute; simp (disch := omega) only [hrv, Bool.not_false, ckB_ix, ckB_inR, ckB_room, ckB_cut, ckB_mk, ckB_ne, bif_lt, bif_nlt, bif_le, bif_nle, bif_eq, bif_neq, bif_ne, bif_nne, bif_not, bif_true', bif_false', bnd_ok, lk_inl, lk_inr, Int.toNat_natCast, decide_true]
      | true =>
        rw [hv] at hval hrv
        cases hc : colB b with
        | false =>
          rw [hc] at hcol hrc
          refine ⟨(1, []), _, ([], 1), _, rfl, rfl, by simp, by simp, ?_, ?_, ?_, ?_⟩
          · unfold matrix_Solve; simp (disch := omega) only [hval, Bool.not_true, hcol, Bool.not_false, ckB_ix, ckB_inR, ckB_room, ckB_cut, ckB_mk, ckB_ne, bif_lt, bif_nlt, bif_le, bif_nle, bif_eq, bif_neq, bif_ne, bif_nne, bif_not, bif_true', bif_false', bnd_ok, lk_inl, lk_inr, Int.toNat_natCast, decide_true]
          · unfold ref05_Solve; simp (disch := omega) only [hrv, Bool.not_true, hrc, Bool.not_false, ckB_ix, ckB_inR, ckB_room, ckB_cut, ckB_mk, ckB_ne, bif_lt, bif_nlt, bif_le, bif_nle, bif_eq, bif_neq, bif_ne, bif_nne, bif_not, bif_true', bif_false', bnd_ok, lk_inl, lk_inr, Int.toNat_natCast, decide_true]
          · unfold matrix_Refute; simp (disch := omega) only [hval, Bool.not_true, hcol, Bool.not_false, ckB_ix, ckB_inR, ckB_room, ckB_cut, ckB_mk, ckB_ne, bif_lt, bif_nlt, bif_le, bif_nle, bif_eq, bif_neq, bif_ne, bif_nne, bif_not, bif_true', bif_false', bnd_ok, lk_inl, lk_inr, Int.toNat_natCast, decide_true]
          · unfold ref05_Refute; simp (disch := omega) only [hrv, Bool.not_true, hrc, Bool.not_false, ckB_ix, ckB_inR, ckB_room, ckB_cut, ckB_mk, ckB_ne, bif_lt, bif_nlt, bif_le, bif_nle, bif_eq, bif_neq, bif_ne, bif_nne, bif_not, bif_true', bif_false', bnd_ok, lk_inl, lk_inr, Int.toNat_natCast, decide_true]
        | true =>
          rw [hc] at hcol hrc
          by_cases hl : (b.length : Int) = (m.length : Int)
          · obtain ⟨R, C, M, rfl, hR, hC, r1, r2, c1, c2, hA⟩ := valid_at hv
            obtain ⟨f, hbf, b1, b2, hf⟩ := colB_at hc
            rw [T2_len] at hl
            have hbR : b.length = R := by omega
            rw [hbR] at hbf
            subst hbf
            obtain ⟨h1, h2⟩ := solve_val r1 r2 c1 c2 hA hf
            obtain ⟨h3, h4⟩ := refute_val r1 r2 c1 c2 hA hf
            exact ⟨_, _, _, _, rfl, rfl, solveV_len c2, refuteV_len r2, h1, h2, h3, h4⟩
          · refine ⟨(29, []), _, ([], 29), _, rfl, rfl, by simp, by simp, ?_, ?_, ?_, ?_⟩
            · unfold matrix_Solve; simp (disch := omega) only [hval, Bool.not_true, hcol, ckB_ix, ckB_inR, ckB_room, ckB_cut, ckB_mk, ckB_ne, bif_lt, bif_nlt, bif_le, bif_nle, bif_eq, bif_neq, bif_ne, bif_nne, bif_not, bif_true', bif_false', bnd_ok, lk_inl, lk_inr, Int.toNat_natCast, decide_true]
            · unfold ref05_Solve; simp (disch := omega) only [hrv, Bool.not_true, hrc, ckB_ix, ckB_inR, ckB_room, ckB_cut, ckB_mk, ckB_ne, bif_lt, bif_nlt, bif_le, bif_nle, bif_eq, bif_neq, bif_ne, bif_nne, bif_not, bif_true', bif_false', bnd_ok, lk_inl, lk_inr, Int.toNat_natCast, decide_true]
            · unfold matrix_Refute; simp (disch := omega) only [hval, Bool.not_true, hcol, ckB_ix, ckB_inR, ckB_room, ckB_cut, ckB_mk, ckB_ne, bif_lt, bif_nlt, bif_le, bif_nle, bif_eq, bif_neq, bif_ne, bif_nne, bif_not, bif_true', bif_false', bnd_ok, lk_inl, lk_inr, Int.toNat_natCast, decide_true]
            · unfold ref05_Refute; simp (disch := omega) only [hrv, Bool.not_true, hrc, ckB_ix, ckB_inR, ckB_room, ckB_cut, ckB_mk, ckB_ne, bif_lt, bif_nlt, bif_le, bif_nle, bif_eq, bif_neq, bif_ne, bif_nne, bif_not, bif_true', bif_false', bnd_ok, lk_inl, lk_inr, Int.toNat_natCast, decide_true]
    obtain ⟨p, q, r, t, rfl, rfl, l1, l2, h1, h2, h3, h4⟩ := main
    simp (disch := omega) only [awake_true, Bool.not_true, hg, h1, h2, h3, h4, sameF_self _ l1, sameR_self _ l2, ckB_ix, ckB_inR, ckB_room, ckB_cut, ckB_mk, ckB_ne, bif_lt, bif_nlt, bif_le, bif_nle, bif_eq, bif_neq, bif_ne, bif_nne, bif_not, bif_true', bif_false', bnd_ok, lk_inl, lk_inr, Int.toNat_natCast, decide_true]

end Go.Proofs.Ytjjhanfglelldaa
