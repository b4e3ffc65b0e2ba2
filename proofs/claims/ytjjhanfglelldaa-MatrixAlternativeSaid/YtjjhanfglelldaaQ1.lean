/-
  Matrices: Valid, and which are too great for the statements.
-/
import Derived.Test.YtjjhanfglelldaaMd
import Derived.Test.YtjjhanfglelldaaKE
import Derived.KernelRfl
set_option linter.all false
namespace Go.Proofs.Ytjjhanfglelldaa
open Go.K Go.M

theorem awake_true : law05_awake = some true := by kernel_rfl

/-- Entries. -/
def entB (x : Int) : Bool := decide (-1048576 ≤ x) && decide (x ≤ 1048576)
/-- Matrices. -/
def validM (m : List (List Int)) : Bool := decide (1 ≤ m.length) && decide (m.length ≤ 20) && decide (1 ≤ (m.getD 0 []).length) && decide ((m.getD 0 []).length ≤ 20) && m.all fun r => decide (r.length = (m.getD 0 []).length) && r.all entB

theorem entries_1_eq (x : Int) : matrix_entries_1 x = some (!entB x) := by
  unfold matrix_entries_1 entB
  by_cases h : x < -1048576
  · have : ¬ -1048576 ≤ x := by omega
    rw [bif_lt h, decide_eq_false this]; rfl
  · have h' : -1048576 ≤ x := by omega
    rw [bif_nlt h', decide_eq_true h']
    by_cases h2 : 1048576 < x
    · have : ¬ x ≤ 1048576 := by omega
      rw [decide_eq_true h2, decide_eq_false this]; rfl
    · have : x ≤ 1048576 := by omega
      rw [decide_eq_false h2, decide_eq_true this]; rfl

theorem entries_eq (l : List Int) (hl : l.length ≤ 9223372036854775806) : matrix_entries l = some (l.all entB) := by
  obtain ⟨o, ho, hq⟩ := loop_any (step := fun a => slices_IndexFunc_int_int_64L0K l (l.length : Int) a (fun a' => some (.next a')) (fun e => some (.done e)) (fun r => some (.ret r))) l 0 (fun x => !entB x) hl (fun i hi => by
    cases he : entB (l.getD i 0) with
    | true =>
      simp (disch := omega) only [slices_IndexFunc_int_int_64L0K, entries_1_eq, he, Bool.not_true, ckB_ix, ckB_inR, ckB_room, ckB_cut, ckB_mk, ckB_ne, bif_lt, bif_nlt, bif_le, bif_nle, bif_eq, bif_neq, bif_ne, bif_nne, bif_not, bif_true', bif_false', bnd_ok, lk_inl, lk_inr, Int.toNat_natCast]
      rw [cast_succ]
    | false =>
      simp (disch := omega) only [slices_IndexFunc_int_int_64L0K, entries_1_eq, he, Bool.not_false, ckB_ix, ckB_inR, ckB_room, ckB_cut, ckB_mk, ckB_ne, bif_lt, bif_nlt, bif_le, bif_nle, bif_eq, bif_neq, bif_ne, bif_nne, bif_not, bif_true', bif_false', bnd_ok, lk_inl, lk_inr, Int.toNat_natCast]) (by simp (disch := omega) only [slices_IndexFunc_int_int_64L0K, ckB_ix, ckB_inR, ckB_room, ckB_cut, ckB_mk, ckB_ne, bif_lt, bif_nlt, bif_le, bif_nle, bif_eq, bif_neq, bif_ne, bif_nne, bif_not, bif_true', bif_false', bnd_ok, lk_inl, lk_inr, Int.toNat_natCast])
  have ho' : slices_IndexFunc_int_int_64L0 l (l.length : Int) 0 = some o := ho
  unfold matrix_entries slices_ContainsFunc_int_int_64 slices_IndexFunc_int_int_64
  rw [ho', bnd_ok]
  have : (l.all entB) = !(l.any fun x => !entB x) := by rw [List.not_any_eq_all_not]; simp
  rw [this, ← hq]
  cases o <;> rfl

theorem Valid_1_eq (r : List Int) (m : List (List Int)) (h0 : 0 < m.length) (hr : r.length ≤ 9223372036854775806) : matrix_Valid_1 r m = some (!(decide (r.length = (m.getD 0 []).length) && r.all entB)) := by
  unfold matrix_Valid_1
  by_cases h : r.length = (m.getD 0 []).length
  · have h' : (r.length : Int) = ((m.getD 0 []).length : Int) := by omega
    simp (disch := omega) only [entries_eq r hr, ckB_ix, ckB_inR, ckB_room, ckB_cut, ckB_mk, ckB_ne, bif_lt, bif_nlt, bif_le, bif_nle, bif_eq, bif_neq, bif_ne, bif_nne, bif_not, bif_true', bif_false', bnd_ok, lk_inl, lk_inr, Int.toNat_natCast]
    rw [decide_eq_true h, Bool.true_and]
  · have h' : (r.length : Int) ≠ ((m.getD 0 []).length : Int) := by omega
    simp (disch := omega) only [ckB_ix, ckB_inR, ckB_room, ckB_cut, ckB_mk, ckB_ne, bif_lt, bif_nlt, bif_le, bif_nle, bif_eq, bif_neq, bif_ne, bif_nne, bif_not, bif_true', bif_false', bnd_ok, lk_inl, lk_inr, Int.toNat_natCast]
    rw [decide_eq_false h]; rfl

theorem Valid_eq (m : List (List Int)) (hr : ∀ r ∈ m, r.length ≤ 9223372036854775806) : matrix_Valid m = some (validM m) := by
  unfold matrix_Valid validM
  by_cases h1 : (m.length : Int) < 1
  · have : ¬ 1 ≤ m.length := by omega
    simp (disch := omega) only [ckB_ix, ckB_inR, ckB_room, ckB_cut, ckB_mk, ckB_ne, bif_lt, bif_nlt, bif_le, bif_nle, bif_eq, bif_neq, bif_ne, bif_nne, bif_not, bif_true', bif_false', bnd_ok, lk_inl, lk_inr, Int.toNat_natCast]
    rw [decide_eq_false this]; rfl
  · have h1' : 1 ≤ m.length := by omega
    rw [decide_eq_true h1']
    by_cases h2 : 20 < (m.length : Int)
    · have : ¬ m.length ≤ 20 := by omega
      simp (disch := omega) only [ckB_ix, ckB_inR, ckB_room, ckB_cut, ckB_mk, ckB_ne, bif_lt, bif_nlt, bif_le, bif_nle, bif_eq, bif_neq, bif_ne, bif_nne, bif_not, bif_true', bif_false', bnd_ok, lk_inl, lk_inr, Int.toNat_natCast]
      rw [decide_eq_false this]; rfl
    · have h2' : m.length ≤ 20 := by omega
      rw [decide_eq_true h2']
      by_cases h3 : ((m.getD 0 []).length : Int) < 1
      · have : ¬ 1 ≤ (m.getD 0 []).length := by omega
        simp (disch := omega) only [ckB_ix, ckB_inR, ckB_room, ckB_cut, ckB_mk, ckB_ne, bif_lt, bif_nlt, bif_le, bif_nle, bif_eq, bif_neq, bif_ne, bif_nne, bif_not, bif_true', bif_false', bnd_ok, lk_inl, lk_inr, Int.toNat_natCast]
        rw [decide_eq_false this]; rfl
      · have h3' : 1 ≤ (m.getD 0 []).length := by omega
        rw [decide_eq_true h3']
        by_cases h4 : 20 < ((m.getD 0 []).length : Int)
        · have : ¬ (m.getD 0 []).length ≤ 20 := by omega
          simp (disch := omega) only [ckB_ix, ckB_inR, ckB_room, ckB_cut, ckB_mk, ckB_ne, bif_lt, bif_nlt, bif_le, bif_nle, bif_eq, bif_neq, bif_ne, bif_nne, bif_not, bif_true', bif_false', bnd_ok, lk_inl, lk_inr, Int.toNat_natCast]
          rw [decide_eq_false this]; rfl
        · have h4' : (m.getD 0 []).length ≤ 20 := by omega
          rw [decide_eq_true h4']
          obtain ⟨o, ho, hq⟩ := loop_any (step := fun a => slices_IndexFunc_int_int_53L0K m m (m.length : Int) a (fun a' => some (.next a')) (fun e => some (.done e)) (fun r => some (.ret r))) m [] (fun r => !(decide (r.length = (m.getD 0 []).length) && r.all entB)) (by omega) (fun i hi => by
            have hv := Valid_1_eq (m.getD i []) m (by omega) (hr _ (getD_mem [] hi))
            cases he : (decide ((m.getD i []).length = (m.getD 0 []).length) && (m.getD i []).all entB) with
            | true =>
              rw [he] at hv
              simp (disch := omega) only [slices_IndexFunc_int_int_53L0K, hv, Bool.not_true, ckB_ix, ckB_inR, ckB_room, ckB_cut, ckB_mk, ckB_ne, bif_lt, bif_nlt, bif_le, bif_nle, bif_eq, bif_neq, bif_ne, bif_nne, bif_not, bif_true', bif_false', bnd_ok, lk_inl, lk_inr, Int.toNat_natCast]
              rw [cast_succ]
            | false =>
              rw [he] at hv
              simp (disch := omega) only [slices_IndexFunc_int_int_53L0K, hv, Bool.not_false, ckB_ix, ckB_inR, ckB_room, ckB_cut, ckB_mk, ckB_ne, bif_lt, bif_nlt, bif_le, bif_nle, bif_eq, bif_neq, bif_ne, bif_nne, bif_not, bif_true', bif_false', bnd_ok, lk_inl, lk_inr, Int.toNat_natCast]) (by simp (disch := omega) only [slices_IndexFunc_int_int_53L0K, ckB_ix, ckB_inR, ckB_room, ckB_cut, ckB_mk, ckB_ne, bif_lt, bif_nlt, bif_le, bif_nle, bif_eq, bif_neq, bif_ne, bif_nne, bif_not, bif_true', bif_false', bnd_ok, lk_inl, lk_inr, Int.toNat_natCast])
          have ho' : slices_IndexFunc_int_int_53L0 m m (m.length : Int) 0 = some o := ho
          simp (disch := omega) only [slices_ContainsFunc_int_int_53, slices_IndexFunc_int_int_53, ho', ckB_ix, ckB_inR, ckB_room, ckB_cut, ckB_mk, ckB_ne, bif_lt, bif_nlt, bif_le, bif_nle, bif_eq, bif_neq, bif_ne, bif_nne, bif_not, bif_true', bif_false', bnd_ok, lk_inl, lk_inr, Int.toNat_natCast]
          have : (m.all fun r => decide (r.length = (m.getD 0 []).length) && r.all entB) = !(m.any fun r => !(decide (r.length = (m.getD 0 []).length) && r.all entB)) := by rw [List.not_any_eq_all_not]; simp
          rw [this, ← hq]
          cases o <;> rfl

theorem Column_eq (b : List Int) : ref05_Column b = some (decide (1 ≤ b.length) && decide (b.length ≤ 20) && b.all entB) := by
  unfold ref05_Column
  by_cases h1 : (b.length : Int) < 1
  · have : ¬ 1 ≤ b.length := by omega
    simp (disch := omega) only [ckB_ix, ckB_inR, ckB_room, ckB_cut, ckB_mk, ckB_ne, bif_lt, bif_nlt, bif_le, bif_nle, bif_eq, bif_neq, bif_ne, bif_nne, bif_not, bif_true', bif_false', bnd_ok, lk_inl, lk_inr, Int.toNat_natCast]
    rw [decide_eq_false this]; rfl
  · have h1' : 1 ≤ b.length := by omega
    rw [decide_eq_true h1']
    by_cases h2 : 20 < (b.length : Int)
    · have : ¬ b.length ≤ 20 := by omega
      simp (disch := omega) only [ckB_ix, ckB_inR, ckB_room, ckB_cut, ckB_mk, ckB_ne, bif_lt, bif_nlt, bif_le, bif_nle, bif_eq, bif_neq, bif_ne, bif_nne, bif_not, bif_true', bif_false', bnd_ok, lk_inl, lk_inr, Int.toNat_natCast]
      rw [decide_eq_false this]; rfl
    · have h2' : b.length ≤ 20 := by omega
      rw [decide_eq_true h2']
      have hloop : ref05_ColumnL0 b 0 = some (bif (List.range b.length).all (fun i => entB (b.getD i 0)) then .inl () else .inr false) := by
        refine loop_all (fun i : Nat => (i : Int)) b.length (many_of (by omega)) _ () false ?_ ?_ ?_
        · intro i hi hp
          simp only [entB, Bool.and_eq_true, decide_eq_true_eq] at hp
          simp (disch := omega) only [ref05_ColumnL0K, ckB_ix, ckB_inR, ckB_room, ckB_cut, ckB_mk, ckB_ne, bif_lt, bif_nlt, bif_le, bif_nle, bif_eq, bif_neq, bif_ne, bif_nne, bif_not, bif_true', bif_false', bnd_ok, lk_inl, lk_inr, Int.toNat_natCast]
          rw [cast_succ]
        · intro i hi hp
          by_cases h3 : b.getD i 0 < -1048576
          · simp (disch := omega) only [ref05_ColumnL0K, ckB_ix, ckB_inR, ckB_room, ckB_cut, ckB_mk, ckB_ne, bif_lt, bif_nlt, bif_le, bif_nle, bif_eq, bif_neq, bif_ne, bif_nne, bif_not, bif_true', bif_false', bnd_ok, lk_inl, lk_inr, Int.toNat_natCast]
          · have h4 : 1048576 < b.getD i 0 := by
              simp only [entB, Bool.and_eq_false_iff, decide_eq_false_iff_not] at hp
              omega
            simp (disch := omega) only [ref05_ColumnL0K, ckB_ix, ckB_inR, ckB_room, ckB_cut, ckB_mk, ckB_ne, bif_lt, bif_nlt, bif_le, bif_nle, bif_eq, bif_neq, bif_ne, bif_nne, bif_not, bif_true', bif_false', bnd_ok, lk_inl, lk_inr, Int.toNat_natCast]
        · simp (disch := omega) only [ref05_ColumnL0K, ckB_ix, ckB_inR, ckB_room, ckB_cut, ckB_mk, ckB_ne, bif_lt, bif_nlt, bif_le, bif_nle, bif_eq, bif_neq, bif_ne, bif_nne, bif_not, bif_true', bif_false', bnd_ok, lk_inl, lk_inr, Int.toNat_natCast]
      rw [all_getD b 0 entB] at hloop
      simp (disch := omega) only [hloop, ckB_ix, ckB_inR, ckB_room, ckB_cut, ckB_mk, ckB_ne, bif_lt, bif_nlt, bif_le, bif_nle, bif_eq, bif_neq, bif_ne, bif_nne, bif_not, bif_true', bif_false', bnd_ok, lk_inl, lk_inr, Int.toNat_natCast]
      cases b.all entB <;> rfl

theorem refValid_eq (m : List (List Int)) : ref05_Valid m = some (validM m) := by
  unfold ref05_Valid validM
  by_cases h1 : (m.length : Int) < 1
  · have : ¬ 1 ≤ m.length := by omega
    simp (disch := omega) only [ckB_ix, ckB_inR, ckB_room, ckB_cut, ckB_mk, ckB_ne, bif_lt, bif_nlt, bif_le, bif_nle, bif_eq, bif_neq, bif_ne, bif_nne, bif_not, bif_true', bif_false', bnd_ok, lk_inl, lk_inr, Int.toNat_natCast]
    rw [decide_eq_false this]; rfl
  · have h1' : 1 ≤ m.length := by omega
    rw [decide_eq_true h1']
    by_cases h2 : 20 < (m.length : Int)
    · have : ¬ m.length ≤ 20 := by omega
      simp (disch := omega) only [ckB_ix, ckB_inR, ckB_room, ckB_cut, ckB_mk, ckB_ne, bif_lt, bif_nlt, bif_le, bif_nle, bif_eq, bif_neq, bif_ne, bif_nne, bif_not, bif_true', bif_false', bnd_ok, lk_inl, lk_inr, Int.toNat_natCast]
      rw [decide_eq_false this]; rfl
    · have h2' : m.length ≤ 20 := by omega
      rw [decide_eq_true h2']
      have hloop : ref05_ValidL0 m 0 = some (bif (List.range m.length).all (fun i => decide ((m.getD i []).length = (m.getD 0 []).length) && (decide (1 ≤ (m.getD i []).length) && decide ((m.getD i []).length ≤ 20) && (m.getD i []).all entB)) then .inl () else .inr false) := by
        refine loop_all (fun i : Nat => (i : Int)) m.length (many_of (by omega)) _ () false ?_ ?_ ?_
        · intro i hi hp
          rw [Bool.and_eq_true, decide_eq_true_eq] at hp
          have hc := Column_eq (m.getD i [])
          rw [hp.2] at hc
          have hp1 := hp.1
          simp (disch := omega) only [ref05_ValidL0K, hc, Bool.not_true, ckB_ix, ckB_inR, ckB_room, ckB_cut, ckB_mk, ckB_ne, bif_lt, bif_nlt, bif_le, bif_nle, bif_eq, bif_neq, bif_ne, bif_nne, bif_not, bif_true', bif_false', bnd_ok, lk_inl, lk_inr, Int.toNat_natCast]
          rw [cast_succ]
        · intro i hi hp
          by_cases h3 : (m.getD i []).length = (m.getD 0 []).length
          · rw [decide_eq_true h3, Bool.true_and] at hp
            have hc := Column_eq (m.getD i [])
            rw [hp] at hc
            simp (disch := omega) only [ref05_ValidL0K, hc, Bool.not_false, ckB_ix, ckB_inR, ckB_room, ckB_cut, ckB_mk, ckB_ne, bif_lt, bif_nlt, bif_le, bif_nle, bif_eq, bif_neq, bif_ne, bif_nne, bif_not, bif_true', bif_false', bnd_ok, lk_inl, lk_inr, Int.toNat_natCast]
          · simp (disch := omega) only [ref05_ValidL0K, ckB_ix, ckB_inR, ckB_room, ckB_cut, ckB_mk, ckB_ne, bif_lt, bif_nlt, bif_le, bif_nle, bif_eq, bif_neq, bif_ne, bif_nne, bif_not, bif_true', bif_false', bnd_ok, lk_inl, lk_inr, Int.toNat_natCast]
        · simp (disch := omega) only [ref05_ValidL0K, ckB_ix, ckB_inR, ckB_room, ckB_cut, ckB_mk, ckB_ne, bif_lt, bif_nlt, bif_le, bif_nle, bif_eq, bif_neq, bif_ne, bif_nne, bif_not, bif_true', bif_false', bnd_ok, lk_inl, lk_inr, Int.toNat_natCast]
      rw [all_getD m [] (fun r => decide (r.length = (m.getD 0 []).length) && (decide (1 ≤ r.length) && decide (r.length ≤ 20) && r.all entB))] at hloop
      simp (disch := omega) only [hloop, ckB_ix, ckB_inR, ckB_room, ckB_cut, ckB_mk, ckB_ne, bif_lt, bif_nlt, bif_le, bif_nle, bif_eq, bif_neq, bif_ne, bif_nne, bif_not, bif_true', bif_false', bnd_ok, lk_inl, lk_inr, Int.toNat_natCast]
      have key : (m.all fun r => decide (r.length = (m.getD 0 []).length) && (decide (1 ≤ r.length) && decide (r.length ≤ 20) && r.all entB)) = (decide (1 ≤ (m.getD 0 []).length) && decide ((m.getD 0 []).length ≤ 20) && m.all fun r => decide (r.length = (m.getD 0 []).length) && r.all entB) := by
        rw [Bool.eq_iff_iff]
        simp only [Bool.and_eq_true, List.all_eq_true, decide_eq_true_eq]
        constructor
        · intro h
          have h0 := h _ (getD_mem [] (show 0 < m.length by omega))
          exact ⟨⟨h0.2.1.1, h0.2.1.2⟩, fun r hr => ⟨(h r hr).1, (h r hr).2.2⟩⟩
        · rintro ⟨⟨h3, h4⟩, h5⟩ r hr
          have := h5 r hr
          exact ⟨this.1, ⟨by omega, by omega⟩, this.2⟩
      rw [key]
      simp only [Bool.true_and]
      cases (decide (1 ≤ (m.getD 0 []).length) && decide ((m.getD 0 []).length ≤ 20) && m.all fun r => decide (r.length = (m.getD 0 []).length) && r.all entB) <;> rfl

/-! What is not too great. -/
def okL (n : Nat) : Prop := n ≤ 12 ∨ (20 < n ∧ n ≤ 40)
def okM (m : List (List Int)) : Prop := okL m.length ∧ ∀ r ∈ m, okL r.length

theorem greatT1_eq (m : List (List Int)) (hm : m.length ≤ 40) (a : List (List (List Int))) (b c : Int) : ∃ o, law05_greatT1 m a b c = some o ∧ (o = .inr true ∨ (o = .inl () ∧ ∀ r ∈ m, okL r.length)) := by
  have main : ∃ o, law05_greatL0 a b c m (m.length : Int) 0 = some o ∧ (o = .inr true ∨ (o = .inl () ∧ ∀ r ∈ m, okL r.length)) := by
    refine loop_inv (fun s => ∃ i : Nat, s = (i : Int) ∧ i ≤ m.length ∧ ∀ j, j < i → okL (m.getD j []).length) (fun s => m.length + 1 - Int.toNat s) _ _ ⟨0, rfl, Nat.zero_le _, fun j hj => by omega⟩ (by show m.length + 1 - Int.toNat 0 < many; unfold many; omega) ?_
    rintro s ⟨i, rfl, hi, hall⟩
    by_cases hlt : i < m.length
    · have hgo : okL (m.getD i []).length → ∃ k : Nat, ((i : Int) + 1) = (k : Int) ∧ k ≤ m.length ∧ ∀ j, j < k → okL (m.getD j []).length := fun h => ⟨i + 1, by omega, hlt, fun j hj => by
        by_cases e : j = i
        · rw [e]; exact h
        · exact hall j (by omega)⟩
      have hμ : m.length + 1 - Int.toNat ((i : Int) + 1) < m.length + 1 - Int.toNat (i : Int) := by omega
      by_cases h1 : 12 < ((m.getD i []).length : Int)
      · by_cases h2 : ((m.getD i []).length : Int) ≤ 20
        · exact ⟨.ret true, by simp (disch := omega) only [law05_greatL0K, ckB_ix, ckB_inR, ckB_room, ckB_cut, ckB_mk, ckB_ne, bif_lt, bif_nlt, bif_le, bif_nle, bif_eq, bif_neq, bif_ne, bif_nne, bif_not, bif_true', bif_false', bnd_ok, lk_inl, lk_inr, Int.toNat_natCast], .inl rfl⟩
        · by_cases h3 : 40 < ((m.getD i []).length : Int)
          · exact ⟨.ret true, by simp (disch := omega) only [law05_greatL0K, ckB_ix, ckB_inR, ckB_room, ckB_cut, ckB_mk, ckB_ne, bif_lt, bif_nlt, bif_le, bif_nle, bif_eq, bif_neq, bif_ne, bif_nne, bif_not, bif_true', bif_false', bnd_ok, lk_inl, lk_inr, Int.toNat_natCast], .inl rfl⟩
          · exact ⟨.next ((i : Int) + 1), by simp (disch := omega) only [law05_greatL0K, ckB_ix, ckB_inR, ckB_room, ckB_cut, ckB_mk, ckB_ne, bif_lt, bif_nlt, bif_le, bif_nle, bif_eq, bif_neq, bif_ne, bif_nne, bif_not, bif_true', bif_false', bnd_ok, lk_inl, lk_inr, Int.toNat_natCast], hgo (.inr (by omega)), hμ⟩
      · exact ⟨.next ((i : Int) + 1), by simp (disch := omega) only [law05_greatL0K, ckB_ix, ckB_inR, ckB_room, ckB_cut, ckB_mk, ckB_ne, bif_lt, bif_nlt, bif_le, bif_nle, bif_eq, bif_neq, bif_ne, bif_nne, bif_not, bif_true', bif_false', bnd_ok, lk_inl, lk_inr, Int.toNat_natCast], hgo (.inl (by omega)), hμ⟩
    · refine ⟨.done (), by simp (disch := omega) only [law05_greatL0K, ckB_ix, ckB_inR, ckB_room, ckB_cut, ckB_mk, ckB_ne, bif_lt, bif_nlt, bif_le, bif_nle, bif_eq, bif_neq, bif_ne, bif_nne, bif_not, bif_true', bif_false', bnd_ok, lk_inl, lk_inr, Int.toNat_natCast], .inr ⟨rfl, fun r hr => ?_⟩⟩
      obtain ⟨j, hj, rfl⟩ := mem_getD [] hr
      exact hall j (by omega)
  obtain ⟨o, ho, hp⟩ := main
  unfold law05_greatT1 law05_greatT1K
  rw [ho, bnd_ok]
  rcases hp with rfl | ⟨rfl, hp⟩
  · exact ⟨_, rfl, .inl rfl⟩
  · exact ⟨_, rfl, .inr ⟨rfl, hp⟩⟩

theorem great_eq (l : List (List (List Int))) (hl : l.length ≤ 10) : ∃ b, law05_great l = some b ∧ (b = false → ∀ m ∈ l, okM m) := by
  have main : ∃ o, law05_greatL2 l (l.length : Int) 0 = some o ∧ (o = .inr true ∨ (o = .inl () ∧ ∀ m ∈ l, okM m)) := by
    refine loop_inv (fun s => ∃ i : Nat, s = (i : Int) ∧ i ≤ l.length ∧ ∀ j, j < i → okM (l.getD j [])) (fun s => l.length + 1 - Int.toNat s) _ _ ⟨0, rfl, Nat.zero_le _, fun j hj => by omega⟩ (by show l.length + 1 - Int.toNat 0 < many; unfold many; omega) ?_
    rintro s ⟨i, rfl, hi, hall⟩
    by_cases hlt : i < l.length
    · have hgo : okM (l.getD i []) → ∃ k : Nat, ((i : Int) + 1) = (k : Int) ∧ k ≤ l.length ∧ ∀ j, j < k → okM (l.getD j []) := fun h => ⟨i + 1, by omega, hlt, fun j hj => by
        by_cases e : j = i
        · rw [e]; exact h
        · exact hall j (by omega)⟩
      have hμ : l.length + 1 - Int.toNat ((i : Int) + 1) < l.length + 1 - Int.toNat (i : Int) := by omega
      by_cases h3 : 40 < ((l.getD i []).length : Int)
      · by_cases h2 : ((l.getD i []).length : Int) ≤ 20
        · omega
        · exact ⟨.ret true, by simp (disch := omega) only [law05_greatL2K, ckB_ix, ckB_inR, ckB_room, ckB_cut, ckB_mk, ckB_ne, bif_lt, bif_nlt, bif_le, bif_nle, bif_eq, bif_neq, bif_ne, bif_nne, bif_not, bif_true', bif_false', bnd_ok, lk_inl, lk_inr, Int.toNat_natCast], .inl rfl⟩
      · obtain ⟨o, ho, hp⟩ := greatT1_eq (l.getD i []) (by omega) l (l.length : Int) (i : Int)
        by_cases h1 : 12 < ((l.getD i []).length : Int)
        · by_cases h2 : ((l.getD i []).length : Int) ≤ 20
          · exact ⟨.ret true, by simp (disch := omega) only [law05_greatL2K, ckB_ix, ckB_inR, ckB_room, ckB_cut, ckB_mk, ckB_ne, bif_lt, bif_nlt, bif_le, bif_nle, bif_eq, bif_neq, bif_ne, bif_nne, bif_not, bif_true', bif_false', bnd_ok, lk_inl, lk_inr, Int.toNat_natCast], .inl rfl⟩
          · rcases hp with rfl | ⟨rfl, hp⟩
            · exact ⟨.ret true, by simp (disch := omega) only [law05_greatL2K, ho, ckB_ix, ckB_inR, ckB_room, ckB_cut, ckB_mk, ckB_ne, bif_lt, bif_nlt, bif_le, bif_nle, bif_eq, bif_neq, bif_ne, bif_nne, bif_not, bif_true', bif_false', bnd_ok, lk_inl, lk_inr, Int.toNat_natCast], .inl rfl⟩
            · exact ⟨.next ((i : Int) + 1), by simp (disch := omega) only [law05_greatL2K, ho, ckB_ix, ckB_inR, ckB_room, ckB_cut, ckB_mk, ckB_ne, bif_lt, bif_nlt, bif_le, bif_nle, bif_eq, bif_neq, bif_ne, bif_nne, bif_not, bif_true', bif_false', bnd_ok, lk_inl, lk_inr, Int.toNat_natCast], hgo ⟨.inr (by omega), hp⟩, hμ⟩
        · rcases hp with rfl | ⟨rfl, hp⟩
          · exact ⟨.ret true, by simp (disch := omega) only [law05_greatL2K, ho, ckB_ix, ckB_inR, ckB_room, ckB_cut, ckB_mk, ckB_ne, bif_lt, bif_nlt, bif_le, bif_nle, bif_eq, bif_neq, bif_ne, bif_nne, bif_not, bif_true', bif_false', bnd_ok, lk_inl, lk_inr, Int.toNat_natCast], .inl rfl⟩
          · exact ⟨.next ((i : Int) + 1), by simp (disch := omega) only [law05_greatL2K, ho, ckB_ix, ckB_inR, ckB_room, ckB_cut, ckB_mk, ckB_ne, bif_lt, bif_nlt, bif_le, bif_nle, bif_eq, bif_neq, bif_ne, bif_nne, bif_not, bif_true', bif_false', bnd_ok, lk_inl, lk_inr, Int.toNat_natCast], hgo ⟨.inl (by omega), hp⟩, hμ⟩
    · refine ⟨.done (), by simp (disch := omega) only [law05_greatL2K, ckB_ix, ckB_inR, ckB_room, ckB_cut, ckB_mk, ckB_ne, bif_lt, bif_nlt, bif_le, bif_nle, bif_eq, bif_neq, bif_ne, bif_nne, bif_not, bif_true', bif_false', bnd_ok, lk_inl, lk_inr, Int.toNat_natCast], .inr ⟨rfl, fun r hr => ?_⟩⟩
      obtain ⟨j, hj, rfl⟩ := mem_getD [] hr
      exact hall j (by omega)
  obtain ⟨o, ho, hp⟩ := main
  unfold law05_great
  rw [ho, bnd_ok]
  rcases hp with rfl | ⟨rfl, hp⟩
  · exact ⟨true, rfl, fun h => by cases h⟩
  · exact ⟨false, rfl, fun _ => hp⟩

theorem okM.row {m : List (List Int)} (h : okM m) : ∀ r ∈ m, r.length ≤ 9223372036854775806 := fun r hr => by
  have := h.2 r hr
  unfold okL at this
  omega

end Go.Proofs.Ytjjhanfglelldaa
