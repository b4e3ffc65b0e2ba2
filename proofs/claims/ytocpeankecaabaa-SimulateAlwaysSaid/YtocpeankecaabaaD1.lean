/-
  Histograms, random numbers, customers: program and reference agree; SimulateCustomers returns true.
-/
import Derived.Test.YtocpeankecaabaaC3
set_option linter.all false
namespace Go.Proofs.Ytocpeankecaabaa
open Go.Abs Go.T Go.M

def eAt (e : List Int) (i : Nat) : Bool := (decide (0 ≤ e.getD i 0) && decide (e.getD i 0 ≤ 1073741824)) && (decide (i = 0) || decide (e.getD (i - 1) 0 < e.getD i 0))
def cAt (c : List Int) (i : Nat) : Bool := decide (0 ≤ c.getD i 0) && decide (c.getD i 0 ≤ 1048576)
def hvB (h : Histogram) : Bool := (decide (2 ≤ h.1.length) && decide (h.1.length ≤ 20) && (List.range h.1.length).all (eAt h.1)) && (decide (h.2.1.length + 1 = h.1.length) && (List.range h.2.1.length).all (cAt h.2.1))

theorem eAt_true {e : List Int} {i : Nat} (h : eAt e i = true) : 0 ≤ e.getD i 0 ∧ e.getD i 0 ≤ 1073741824 ∧ (i = 0 ∨ e.getD (i - 1) 0 < e.getD i 0) := by
  simpa [eAt, and_assoc] using h
theorem eAt_false {e : List Int} {i : Nat} (h : eAt e i = false) : e.getD i 0 < 0 ∨ 1073741824 < e.getD i 0 ∨ (i ≠ 0 ∧ e.getD i 0 ≤ e.getD (i - 1) 0) := by
  refine Classical.byContradiction fun hn => ?_
  have : eAt e i = true := by
    simp only [eAt, Bool.and_eq_true, decide_eq_true_eq, Bool.or_eq_true]
    by_cases h0 : i = 0
    · refine ⟨⟨?_, ?_⟩, .inl h0⟩ <;> omega
    · refine ⟨⟨?_, ?_⟩, .inr ?_⟩ <;> omega
  rw [h] at this
  cases this
theorem cAt_true {c : List Int} {i : Nat} (h : cAt c i = true) : 0 ≤ c.getD i 0 ∧ c.getD i 0 ≤ 1048576 := by simpa [cAt] using h
theorem cAt_false {c : List Int} {i : Nat} (h : cAt c i = false) : c.getD i 0 < 0 ∨ 1048576 < c.getD i 0 := by
  refine Classical.byContradiction fun hn => ?_
  have : cAt c i = true := by simp only [cAt, Bool.and_eq_true, decide_eq_true_eq]; omega
  rw [h] at this
  cases this

theorem timing_proper_eq (e : List Int) (hl : e.length ≤ 9223372036854775807) : timing_proper e = some (decide (2 ≤ e.length) && decide (e.length ≤ 20) && (List.range e.length).all (eAt e)) := by
  unfold timing_proper
  by_cases h1 : e.length < 2
  · simp (disch := omega) only [ckB_ix, ckB_inR, ckB_room, ckB_cut, ckB_mk, ckB_ne, bif_lt, bif_nlt, bif_le, bif_nle, bif_eq, bif_neq, bif_ne, bif_nne, bif_not, bif_true', bif_false', bnd_ok, lk_inl, lk_inr, Int.toNat_natCast]
    simp [show ¬ 2 ≤ e.length by omega]
  by_cases h2 : 20 < e.length
  · simp (disch := omega) only [ckB_ix, ckB_inR, ckB_room, ckB_cut, ckB_mk, ckB_ne, bif_lt, bif_nlt, bif_le, bif_nle, bif_eq, bif_neq, bif_ne, bif_nne, bif_not, bif_true', bif_false', bnd_ok, lk_inl, lk_inr, Int.toNat_natCast]
    simp [show ¬ e.length ≤ 20 by omega]
  · have hloop : timing_properL0 e e (e.length : Int) 0 = some (bif (List.range e.length).all (eAt e) then .inl () else .inr false) := by
      refine loop_all (fun i : Nat => (i : Int)) e.length (many_of hl) (eAt e) () false ?_ ?_ ?_
      · intro i hi hp
        obtain ⟨a1, a2, a3⟩ := eAt_true hp
        by_cases h0 : i = 0
        · simp (disch := omega) only [timing_properL0K, toNat_pred, ckB_ix, ckB_inR, ckB_room, ckB_cut, ckB_mk, ckB_ne, bif_lt, bif_nlt, bif_le, bif_nle, bif_eq, bif_neq, bif_ne, bif_nne, bif_not, bif_true', bif_false', bnd_ok, lk_inl, lk_inr, Int.toNat_natCast]
          rw [cast_succ]
        · simp (disch := omega) only [timing_properL0K, toNat_pred, ckB_ix, ckB_inR, ckB_room, ckB_cut, ckB_mk, ckB_ne, bif_lt, bif_nlt, bif_le, bif_nle, bif_eq, bif_neq, bif_ne, bif_nne, bif_not, bif_true', bif_false', bnd_ok, lk_inl, lk_inr, Int.toNat_natCast]
          rw [cast_succ]
      · intro i hi hp
        have h := eAt_false hp
        by_cases a1 : e.getD i 0 < 0
        · simp (disch := omega) only [timing_properL0K, ckB_ix, ckB_inR, ckB_room, ckB_cut, ckB_mk, ckB_ne, bif_lt, bif_nlt, bif_le, bif_nle, bif_eq, bif_neq, bif_ne, bif_nne, bif_not, bif_true', bif_false', bnd_ok, lk_inl, lk_inr, Int.toNat_natCast]
        by_cases a2 : 1073741824 < e.getD i 0
        · simp (disch := omega) only [timing_properL0K, ckB_ix, ckB_inR, ckB_room, ckB_cut, ckB_mk, ckB_ne, bif_lt, bif_nlt, bif_le, bif_nle, bif_eq, bif_neq, bif_ne, bif_nne, bif_not, bif_true', bif_false', bnd_ok, lk_inl, lk_inr, Int.toNat_natCast]
        · simp (disch := omega) only [timing_properL0K, toNat_pred, ckB_ix, ckB_inR, ckB_room, ckB_cut, ckB_mk, ckB_ne, bif_lt, bif_nlt, bif_le, bif_nle, bif_eq, bif_neq, bif_ne, bif_nne, bif_not, bif_true', bif_false', bnd_ok, lk_inl, lk_inr, Int.toNat_natCast]
      · simp (disch := omega) only [timing_properL0K, ckB_ix, ckB_inR, ckB_room, ckB_cut, ckB_mk, ckB_ne, bif_lt, bif_nlt, bif_le, bif_nle, bif_eq, bif_neq, bif_ne, bif_nne, bif_not, bif_true', bif_false', bnd_ok, lk_inl, lk_inr, Int.toNat_natCast]
    simp (disch := omega) only [ckB_ix, ckB_inR, ckB_room, ckB_cut, ckB_mk, ckB_ne, bif_lt, bif_nlt, bif_le, bif_nle, bif_eq, bif_neq, bif_ne, bif_nne, bif_not, bif_true', bif_false', bnd_ok, lk_inl, lk_inr, Int.toNat_natCast]
    rw [hloop]
    cases (List.range e.length).all (eAt e) <;> simp [show 2 ≤ e.length by omega, show e.length ≤ 20 by omega]

theorem contains76_eq (c : List Int) (hl : c.length ≤ 9223372036854775807) : slices_ContainsFunc_int_int_76 c = some (!(List.range c.length).all (cAt c)) := by
  unfold slices_ContainsFunc_int_int_76 slices_IndexFunc_int_int_76
  have hv : ∀ n : Int, timing_Valid_1 n = some (!(decide (0 ≤ n) && decide (n ≤ 1048576))) := by
    intro n
    unfold timing_Valid_1
    by_cases h1 : n < 0
    · simp [h1] <;> (try omega)
    · have h2 : 0 ≤ n := by omega
      by_cases h3 : n ≤ 1048576 <;> simp [h1, h2, h3] <;> (try omega)
  by_cases hall : ∀ i, i < c.length → cAt c i = true
  · have hloop : slices_IndexFunc_int_int_76L0 c (c.length : Int) 0 = some (.inl ()) := by
      refine loop_to (fun i : Nat => (i : Int)) c.length (many_of hl) () ?_ ?_ _ rfl
      · intro i hi
        have := cAt_true (hall i hi)
        simp (disch := omega) only [slices_IndexFunc_int_int_76L0K, hv, decide_true, this.1, this.2, Bool.and_self, Bool.not_true, ckB_ix, ckB_inR, ckB_room, ckB_cut, ckB_mk, ckB_ne, bif_lt, bif_nlt, bif_le, bif_nle, bif_eq, bif_neq, bif_ne, bif_nne, bif_not, bif_true', bif_false', bnd_ok, lk_inl, lk_inr, Int.toNat_natCast]
        rw [cast_succ]
      · simp (disch := omega) only [slices_IndexFunc_int_int_76L0K, ckB_ix, ckB_inR, ckB_room, ckB_cut, ckB_mk, ckB_ne, bif_lt, bif_nlt, bif_le, bif_nle, bif_eq, bif_neq, bif_ne, bif_nne, bif_not, bif_true', bif_false', bnd_ok, lk_inl, lk_inr, Int.toNat_natCast]
    have ha : (List.range c.length).all (cAt c) = true := by simpa using hall
    rw [hloop, ha]
    rfl
  · obtain ⟨o, ho, k, rfl⟩ := loop_inv (step := fun a : Int => slices_IndexFunc_int_int_76L0K c c.length a (fun a' => some (.next a')) (fun e => some (.done e)) (fun r => some (.ret r)))
      (fun a => ∃ i : Nat, a = i ∧ i ≤ c.length ∧ ∀ j, j < i → cAt c j = true) (fun a => c.length - a.toNat) (fun o => ∃ k : Nat, o = .inr (k : Int)) 0 ⟨0, rfl, Nat.zero_le _, fun j hj => by omega⟩ (many_of (by simp; omega)) (by
        rintro _ ⟨i, rfl, h2, hlow⟩
        have hi : i < c.length := by
          rcases Nat.lt_or_ge i c.length with h | h
          · exact h
          · exact absurd (fun j hj => hlow j (by omega)) hall
        cases hc : cAt c i with
        | true =>
          have := cAt_true hc
          refine ⟨.next ((i : Int) + 1), by simp (disch := omega) only [slices_IndexFunc_int_int_76L0K, hv, decide_true, this.1, this.2, Bool.and_self, Bool.not_true, ckB_ix, ckB_inR, ckB_room, ckB_cut, ckB_mk, ckB_ne, bif_lt, bif_nlt, bif_le, bif_nle, bif_eq, bif_neq, bif_ne, bif_nne, bif_not, bif_true', bif_false', bnd_ok, lk_inl, lk_inr, Int.toNat_natCast], ⟨i + 1, by simp, hi, fun j hj => ?_⟩, by simp only [Int.toNat_natCast]; omega⟩
          rcases Nat.lt_or_eq_of_le (Nat.le_of_lt_succ hj) with h | h
          · exact hlow j h
          · subst h; exact hc
        | false =>
          have hc' : (decide (0 ≤ c.getD i 0) && decide (c.getD i 0 ≤ 1048576)) = false := hc
          exact ⟨.ret i, by simp (disch := omega) only [slices_IndexFunc_int_int_76L0K, hv, hc', Bool.not_false, ckB_ix, ckB_inR, ckB_room, ckB_cut, ckB_mk, ckB_ne, bif_lt, bif_nlt, bif_le, bif_nle, bif_eq, bif_neq, bif_ne, bif_nne, bif_not, bif_true', bif_false', bnd_ok, lk_inl, lk_inr, Int.toNat_natCast], i, rfl⟩)
    have ha : (List.range c.length).all (cAt c) = false := by
      cases h : (List.range c.length).all (cAt c) with
      | false => rfl
      | true => exact absurd (by simpa using h) hall
    have : slices_IndexFunc_int_int_76L0 c (c.length : Int) 0 = some (.inr (k : Int)) := ho
    rw [this, ha]
    simp

theorem timing_Valid_eq (h : Histogram) (hl : h.1.length ≤ 9223372036854775807) (hc : h.2.1.length ≤ 9223372036854775807) : timing_Valid h = some (hvB h) := by
  unfold timing_Valid hvB
  rw [timing_proper_eq h.1 hl]
  cases hp : (decide (2 ≤ h.1.length) && decide (h.1.length ≤ 20) && (List.range h.1.length).all (eAt h.1)) with
  | false => rfl
  | true =>
    simp only [Bool.and_eq_true, decide_eq_true_eq] at hp
    by_cases he : h.2.1.length + 1 = h.1.length
    · simp (disch := omega) only [contains76_eq h.2.1 hc, ckB_ix, ckB_inR, ckB_room, ckB_cut, ckB_mk, ckB_ne, bif_lt, bif_nlt, bif_le, bif_nle, bif_eq, bif_neq, bif_ne, bif_nne, bif_not, bif_true', bif_false', bnd_ok, lk_inl, lk_inr, Int.toNat_natCast]
      simp [he]
    · simp (disch := omega) only [ckB_ix, ckB_inR, ckB_room, ckB_cut, ckB_mk, ckB_ne, bif_lt, bif_nlt, bif_le, bif_nle, bif_eq, bif_neq, bif_ne, bif_nne, bif_not, bif_true', bif_false', bnd_ok, lk_inl, lk_inr, Int.toNat_natCast]
      simp [he]

theorem ref40_Valid_eq (h : Histogram) (hl : h.1.length ≤ 9223372036854775807) (hc : h.2.1.length ≤ 9223372036854775807) : ref40_Valid h = some (hvB h) := by
  obtain ⟨e, c, u⟩ := h
  simp only at hl hc ⊢
  unfold ref40_Valid hvB
  simp only
  by_cases h1 : e.length < 2
  · simp (disch := omega) only [ckB_ix, ckB_inR, ckB_room, ckB_cut, ckB_mk, ckB_ne, bif_lt, bif_nlt, bif_le, bif_nle, bif_eq, bif_neq, bif_ne, bif_nne, bif_not, bif_true', bif_false', bnd_ok, lk_inl, lk_inr, Int.toNat_natCast]
    simp [show ¬ 2 ≤ e.length by omega]
  by_cases h2 : 20 < e.length
  · simp (disch := omega) only [ckB_ix, ckB_inR, ckB_room, ckB_cut, ckB_mk, ckB_ne, bif_lt, bif_nlt, bif_le, bif_nle, bif_eq, bif_neq, bif_ne, bif_nne, bif_not, bif_true', bif_false', bnd_ok, lk_inl, lk_inr, Int.toNat_natCast]
    simp [show ¬ e.length ≤ 20 by omega]
  by_cases h3 : c.length + 1 = e.length
  · have hloop : ref40_ValidL0 e c 0 = some (bif (List.range e.length).all (eAt e) then .inl () else .inr false) := by
      refine loop_all (fun i : Nat => (i : Int)) e.length (many_of hl) (eAt e) () false ?_ ?_ ?_
      · intro i hi hp
        obtain ⟨a1, a2, a3⟩ := eAt_true hp
        by_cases h0 : i = 0
        · simp (disch := omega) only [ref40_ValidL0K, toNat_pred, ckB_ix, ckB_inR, ckB_room, ckB_cut, ckB_mk, ckB_ne, bif_lt, bif_nlt, bif_le, bif_nle, bif_eq, bif_neq, bif_ne, bif_nne, bif_not, bif_true', bif_false', bnd_ok, lk_inl, lk_inr, Int.toNat_natCast]
          rw [cast_succ]
        · simp (disch := omega) only [ref40_ValidL0K, toNat_pred, ckB_ix, ckB_inR, ckB_room, ckB_cut, ckB_mk, ckB_ne, bif_lt, bif_nlt, bif_le, bif_nle, bif_eq, bif_neq, bif_ne, bif_nne, bif_not, bif_true', bif_false', bnd_ok, lk_inl, lk_inr, Int.toNat_natCast]
          rw [cast_succ]
      · intro i hi hp
        have h := eAt_false hp
        by_cases a1 : e.getD i 0 < 0
        · simp (disch := omega) only [ref40_ValidL0K, ckB_ix, ckB_inR, ckB_room, ckB_cut, ckB_mk, ckB_ne, bif_lt, bif_nlt, bif_le, bif_nle, bif_eq, bif_neq, bif_ne, bif_nne, bif_not, bif_true', bif_false', bnd_ok, lk_inl, lk_inr, Int.toNat_natCast]
        by_cases a2 : 1073741824 < e.getD i 0
        · simp (disch := omega) only [ref40_ValidL0K, ckB_ix, ckB_inR, ckB_room, ckB_cut, ckB_mk, ckB_ne, bif_lt, bif_nlt, bif_le, bif_nle, bif_eq, bif_neq, bif_ne, bif_nne, bif_not, bif_true', bif_false', bnd_ok, lk_inl, lk_inr, Int.toNat_natCast]
        · simp (disch := omega) only [ref40_ValidL0K, toNat_pred, ckB_ix, ckB_inR, ckB_room, ckB_cut, ckB_mk, ckB_ne, bif_lt, bif_nlt, bif_le, bif_nle, bif_eq, bif_neq, bif_ne, bif_nne, bif_not, bif_true', bif_false', bnd_ok, lk_inl, lk_inr, Int.toNat_natCast]
      · simp (disch := omega) only [ref40_ValidL0K, ckB_ix, ckB_inR, ckB_room, ckB_cut, ckB_mk, ckB_ne, bif_lt, bif_nlt, bif_le, bif_nle, bif_eq, bif_neq, bif_ne, bif_nne, bif_not, bif_true', bif_false', bnd_ok, lk_inl, lk_inr, Int.toNat_natCast]
    have hloop2 : ref40_ValidL1 e c 0 = some (bif (List.range c.length).all (cAt c) then .inl () else .inr false) := by
      refine loop_all (fun i : Nat => (i : Int)) c.length (many_of hc) (cAt c) () false ?_ ?_ ?_
      · intro i hi hp
        obtain ⟨a1, a2⟩ := cAt_true hp
        simp (disch := omega) only [ref40_ValidL1K, ckB_ix, ckB_inR, ckB_room, ckB_cut, ckB_mk, ckB_ne, bif_lt, bif_nlt, bif_le, bif_nle, bif_eq, bif_neq, bif_ne, bif_nne, bif_not, bif_true', bif_false', bnd_ok, lk_inl, lk_inr, Int.toNat_natCast]
        rw [cast_succ]
      · intro i hi hp
        have h := cAt_false hp
        by_cases a1 : c.getD i 0 < 0
        · simp (disch := omega) only [ref40_ValidL1K, ckB_ix, ckB_inR, ckB_room, ckB_cut, ckB_mk, ckB_ne, bif_lt, bif_nlt, bif_le, bif_nle, bif_eq, bif_neq, bif_ne, bif_nne, bif_not, bif_true', bif_false', bnd_ok, lk_inl, lk_inr, Int.toNat_natCast]
        · simp (disch := omega) only [ref40_ValidL1K, ckB_ix, ckB_inR, ckB_room, ckB_cut, ckB_mk, ckB_ne, bif_lt, bif_nlt, bif_le, bif_nle, bif_eq, bif_neq, bif_ne, bif_nne, bif_not, bif_true', bif_false', bnd_ok, lk_inl, lk_inr, Int.toNat_natCast]
      · simp (disch := omega) only [ref40_ValidL1K, ckB_ix, ckB_inR, ckB_room, ckB_cut, ckB_mk, ckB_ne, bif_lt, bif_nlt, bif_le, bif_nle, bif_eq, bif_neq, bif_ne, bif_nne, bif_not, bif_true', bif_false', bnd_ok, lk_inl, lk_inr, Int.toNat_natCast]
    simp (disch := omega) only [ckB_ix, ckB_inR, ckB_room, ckB_cut, ckB_mk, ckB_ne, bif_lt, bif_nlt, bif_le, bif_nle, bif_eq, bif_neq, bif_ne, bif_nne, bif_not, bif_true', bif_false', bnd_ok, lk_inl, lk_inr, Int.toNat_natCast]
    rw [hloop, hloop2]
    cases (List.range e.length).all (eAt e) <;> cases (List.range c.length).all (cAt c) <;> simp [show 2 ≤ e.length by omega, show e.length ≤ 20 by omega, h3]
  · simp (disch := omega) only [ckB_ix, ckB_inR, ckB_room, ckB_cut, ckB_mk, ckB_ne, bif_lt, bif_nlt, bif_le, bif_nle, bif_eq, bif_neq, bif_ne, bif_nne, bif_not, bif_true', bif_false', bnd_ok, lk_inl, lk_inr, Int.toNat_natCast]
    simp [h3]

structure HV (h : Histogram) : Prop where
  len : 2 ≤ h.1.length ∧ h.1.length ≤ 20 ∧ h.2.1.length + 1 = h.1.length
  edge : ∀ i, i < h.1.length → 0 ≤ h.1.getD i 0 ∧ h.1.getD i 0 ≤ 1073741824
  asc : ∀ i, i + 1 < h.1.length → h.1.getD i 0 < h.1.getD (i + 1) 0
  cnt : ∀ x ∈ h.2.1, 0 ≤ x ∧ x ≤ 1048576

theorem hv_of {h : Histogram} (hb : hvB h = true) : HV h := by
  simp only [hvB, Bool.and_eq_true, decide_eq_true_eq, List.all_eq_true, List.mem_range] at hb
  obtain ⟨⟨⟨h1, h2⟩, h3⟩, h4, h5⟩ := hb
  refine ⟨⟨h1, h2, h4⟩, fun i hi => ?_, fun i hi => ?_, fun x hx => ?_⟩
  · have := eAt_true (h3 i hi); exact ⟨this.1, this.2.1⟩
  · have := eAt_true (h3 (i + 1) hi); simpa using this.2.2
  · obtain ⟨i, hi, rfl⟩ := mem_getD 0 hx
    exact cAt_true (h5 i hi)

def tot (c : List Int) : Int := sumL id c
theorem tot_bound {h : Histogram} (hv : HV h) (i : Nat) : 0 ≤ tot (h.2.1.take i) ∧ tot (h.2.1.take i) ≤ 20971520 := by
  have := sumL_bound (f := id) (b := 1048576) (l := h.2.1.take i) (fun x hx => hv.cnt x (List.mem_of_mem_take hx))
  have h2 : ((h.2.1.take i).length : Int) ≤ 20 := by have := hv.len; simp; omega
  unfold tot
  omega

theorem timing_total_eq {h : Histogram} (hv : HV h) : timing_total h = some (tot h.2.1) := by
  unfold timing_total
  have hloop : timing_totalL0 h.2.1 (h.2.1.length : Int) (0, 0) = some (.inl (tot h.2.1)) := by
    refine loop_to (fun i : Nat => (tot (h.2.1.take i), (i : Int))) h.2.1.length (many_of (by have := hv.len; omega)) _ ?_ ?_ _ rfl
    · intro i hi
      have h1 := tot_bound hv i
      have h2 := tot_bound hv (i + 1)
      have h3 : tot (h.2.1.take (i + 1)) = tot (h.2.1.take i) + h.2.1.getD i 0 := sumL_take _ _ _ _ hi
      have hl := hv.len
      simp (disch := omega) only [timing_totalL0K, ckB_ix, ckB_inR, ckB_room, ckB_cut, ckB_mk, ckB_ne, bif_lt, bif_nlt, bif_le, bif_nle, bif_eq, bif_neq, bif_ne, bif_nne, bif_not, bif_true', bif_false', bnd_ok, lk_inl, lk_inr, Int.toNat_natCast]
      rw [h3, cast_succ]
    · simp (disch := omega) only [timing_totalL0K, ckB_ix, ckB_inR, ckB_room, ckB_cut, ckB_mk, ckB_ne, bif_lt, bif_nlt, bif_le, bif_nle, bif_eq, bif_neq, bif_ne, bif_nne, bif_not, bif_true', bif_false', bnd_ok, lk_inl, lk_inr, Int.toNat_natCast]
      rw [List.take_length]
  rw [hloop]
  rfl
theorem ref40_Total_eq {h : Histogram} (hv : HV h) : ref40_Total h = some (tot h.2.1) := by
  unfold ref40_Total
  have hloop : ref40_TotalL0 h.1 h.2.1 (0, 0) = some (.inl (tot h.2.1)) := by
    refine loop_to (fun i : Nat => (tot (h.2.1.take i), (i : Int))) h.2.1.length (many_of (by have := hv.len; omega)) _ ?_ ?_ _ rfl
    · intro i hi
      have h1 := tot_bound hv i
      have h2 := tot_bound hv (i + 1)
      have h3 : tot (h.2.1.take (i + 1)) = tot (h.2.1.take i) + h.2.1.getD i 0 := sumL_take _ _ _ _ hi
      have hl := hv.len
      simp (disch := omega) only [ref40_TotalL0K, ckB_ix, ckB_inR, ckB_room, ckB_cut, ckB_mk, ckB_ne, bif_lt, bif_nlt, bif_le, bif_nle, bif_eq, bif_neq, bif_ne, bif_nne, bif_not, bif_true', bif_false', bnd_ok, lk_inl, lk_inr, Int.toNat_natCast]
      rw [h3, cast_succ]
    · simp (disch := omega) only [ref40_TotalL0K, ckB_ix, ckB_inR, ckB_room, ckB_cut, ckB_mk, ckB_ne, bif_lt, bif_nlt, bif_le, bif_nle, bif_eq, bif_neq, bif_ne, bif_nne, bif_not, bif_true', bif_false', bnd_ok, lk_inl, lk_inr, Int.toNat_natCast]
      rw [List.take_length]
  rw [hloop]
  rfl

/-- In which class an item is, and where in it. -/
def smp : List Int → Int → Nat → Int × Nat
  | [], n, i => (n, i)
  | x :: l, n, i => if x ≤ n then smp l (n - x) (i + 1) else (n, i)

theorem smp_at : ∀ (l : List Int) (n : Int) (i : Nat), (∀ x ∈ l, 0 ≤ x) → 0 ≤ n → n < tot l → ∃ j, j < l.length ∧ (smp l n i).2 = i + j ∧ 0 ≤ (smp l n i).1 ∧ (smp l n i).1 < l.getD j 0
  | [], n, i, _, h0, h1 => by simp [tot, sumL] at h1; omega
  | x :: l, n, i, hx, h0, h1 => by
    unfold smp
    split
    · rename_i hc
      obtain ⟨j, a1, a2, a3, a4⟩ := smp_at l (n - x) (i + 1) (fun y hy => hx y (List.mem_cons_of_mem _ hy)) (by omega) (by simp only [tot, sumL, id] at h1 ⊢; omega)
      exact ⟨j + 1, by simp; omega, by omega, a3, by simpa using a4⟩
    · rename_i hc
      exact ⟨0, by simp, by simp, h0, by simpa using hc⟩

theorem smp_loop {R : Type} {step : Int × Int → Option (LR (Int × Int) (Int × Int) R)} (c : List Int) (hl : c.length ≤ 20) (hc : ∀ x ∈ c, 0 ≤ x ∧ x ≤ 1048576) (n : Int) (h0 : 0 ≤ n) (h1 : n < tot c)
    (hs : ∀ (i : Nat) (m : Int), i < c.length → 0 ≤ m → m ≤ 20971520 → step (m, (i : Int)) = if c.getD i 0 ≤ m then some (.next (m - c.getD i 0, ((i + 1 : Nat) : Int))) else some (.done (m, (i : Int)))) (hb : n ≤ 20971520) :
    loopM step (n, 0) = some (.inl ((smp c n 0).1, ((smp c n 0).2 : Int))) := by
  have := loop_list (R := R) c 0 (many_of (by omega)) (fun i (m : Int × Nat) => (m.1, (i : Int))) (fun i m => m.2 = i ∧ 0 ≤ m.1 ∧ m.1 ≤ 20971520 ∧ m.1 < tot (c.drop i)) (fun l m => .inl ((smp l m.1 m.2).1, ((smp l m.1 m.2).2 : Int))) (step := step) ?_ ?_ (n, 0) ⟨rfl, h0, hb, by simpa using h1⟩ (n, 0) rfl
  · exact this
  · rintro m ⟨_, h2, _, h3⟩
    simp [tot, sumL] at h3
    omega
  · rintro i ⟨m, i'⟩ hi ⟨h2, h3, h4, h5⟩
    simp only at h2 h3 h4 h5
    subst h2
    have hci := hc _ (getD_mem 0 hi)
    rw [hs i' m hi h3 h4]
    have hd : tot (c.drop i') = c.getD i' 0 + tot (c.drop (i' + 1)) := by
      have : c.drop i' = c.getD i' 0 :: c.drop (i' + 1) := by rw [getD_at c i' 0 hi]; exact List.drop_eq_getElem_cons hi
      rw [this]
      rfl
    by_cases hcm : c.getD i' 0 ≤ m
    · left
      refine ⟨(m - c.getD i' 0, i' + 1), by rw [if_pos hcm], ⟨rfl, by simp only; omega, by simp only; omega, by simp only; omega⟩, ?_⟩
      simp only [smp]
      rw [if_pos hcm]
    · right
      rw [if_neg hcm]
      simp only [smp, outL]
      rw [if_neg hcm]

def smpV (h : Histogram) (n : Int) : Int :=
  h.1.getD (smp h.2.1 n 0).2 0 + Int.tdiv ((smp h.2.1 n 0).1 * (h.1.getD ((smp h.2.1 n 0).2 + 1) 0 - h.1.getD (smp h.2.1 n 0).2 0)) (h.2.1.getD (smp h.2.1 n 0).2 0)

/-- The place of an item, and its bounds. -/
theorem smp_facts {h : Histogram} (hv : HV h) {n : Int} (h0 : 0 ≤ n) (h1 : n < tot h.2.1) :
    (smp h.2.1 n 0).2 + 1 < h.1.length ∧ (smp h.2.1 n 0).2 < h.2.1.length ∧ 0 ≤ (smp h.2.1 n 0).1 ∧ (smp h.2.1 n 0).1 < h.2.1.getD (smp h.2.1 n 0).2 0 ∧ h.2.1.getD (smp h.2.1 n 0).2 0 ≤ 1048576 ∧
    0 ≤ h.1.getD (smp h.2.1 n 0).2 0 ∧ h.1.getD (smp h.2.1 n 0).2 0 < h.1.getD ((smp h.2.1 n 0).2 + 1) 0 ∧ h.1.getD ((smp h.2.1 n 0).2 + 1) 0 ≤ 1073741824 ∧
    0 ≤ (smp h.2.1 n 0).1 * (h.1.getD ((smp h.2.1 n 0).2 + 1) 0 - h.1.getD (smp h.2.1 n 0).2 0) ∧ (smp h.2.1 n 0).1 * (h.1.getD ((smp h.2.1 n 0).2 + 1) 0 - h.1.getD (smp h.2.1 n 0).2 0) ≤ 1125899906842624 ∧
    0 ≤ Int.tdiv ((smp h.2.1 n 0).1 * (h.1.getD ((smp h.2.1 n 0).2 + 1) 0 - h.1.getD (smp h.2.1 n 0).2 0)) (h.2.1.getD (smp h.2.1 n 0).2 0) ∧
    Int.tdiv ((smp h.2.1 n 0).1 * (h.1.getD ((smp h.2.1 n 0).2 + 1) 0 - h.1.getD (smp h.2.1 n 0).2 0)) (h.2.1.getD (smp h.2.1 n 0).2 0) ≤ h.1.getD ((smp h.2.1 n 0).2 + 1) 0 - h.1.getD (smp h.2.1 n 0).2 0 := by
  obtain ⟨j, a1, a2, a3, a4⟩ := smp_at h.2.1 n 0 (fun x hx => (hv.cnt x hx).1) h0 h1
  obtain ⟨l1, l2, l3⟩ := hv.len
  rw [Nat.zero_add] at a2
  rw [a2]
  have e1 := hv.edge j (by omega)
  have e2 := hv.edge (j + 1) (by omega)
  have e3 := hv.asc j (by omega)
  have c1 := hv.cnt _ (getD_mem 0 a1)
  generalize (smp h.2.1 n 0).1 = m at *
  have hd : 0 ≤ h.1.getD (j + 1) 0 - h.1.getD j 0 := by omega
  have m1 : 0 ≤ m * (h.1.getD (j + 1) 0 - h.1.getD j 0) := Int.mul_nonneg a3 hd
  have m2 : m * (h.1.getD (j + 1) 0 - h.1.getD j 0) ≤ 1048576 * 1073741824 := Int.mul_le_mul (by omega) (by omega) hd (by omega)
  have hcp : 0 < h.2.1.getD j 0 := by omega
  have m3 : m * (h.1.getD (j + 1) 0 - h.1.getD j 0) ≤ h.2.1.getD j 0 * (h.1.getD (j + 1) 0 - h.1.getD j 0) := Int.mul_le_mul_of_nonneg_right (by omega) hd
  refine ⟨by omega, a1, a3, a4, c1.2, e1.1, e3, e2.2, m1, by omega, ?_, ?_⟩
  · rw [Int.tdiv_eq_ediv_of_nonneg m1]; exact Int.ediv_nonneg m1 (by omega)
  · rw [Int.tdiv_eq_ediv_of_nonneg m1]
    have := Int.ediv_le_ediv hcp m3
    rwa [Int.mul_ediv_cancel_left _ (by omega)] at this

theorem smpV_bound {h : Histogram} (hv : HV h) {n : Int} (h0 : 0 ≤ n) (h1 : n < tot h.2.1) : 0 ≤ smpV h n ∧ smpV h n ≤ 1073741824 := by
  obtain ⟨a1, a2, a3, a4, a5, a6, a7, a8, a9, a10, a11, a12⟩ := smp_facts hv h0 h1
  unfold smpV
  omega

theorem timing_Sample_eq {h : Histogram} (hb : hvB h = true) {n : Int} (h0 : 0 ≤ n) (h1 : n < tot h.2.1) : timing_Sample h n = some (smpV h n, 0) := by
  have hv := hv_of hb
  obtain ⟨l1, l2, l3⟩ := hv.len
  obtain ⟨a1, a2, a3, a4, a5, a6, a7, a8, a9, a10, a11, a12⟩ := smp_facts hv h0 h1
  have hb2 := tot_bound hv h.2.1.length
  rw [List.take_length] at hb2
  unfold timing_Sample
  rw [timing_Valid_eq h (by omega) (by omega), hb, timing_total_eq hv]
  have hloop : timing_SampleL0 h.1 h.2.1 (n, 0) = some (.inl ((smp h.2.1 n 0).1, ((smp h.2.1 n 0).2 : Int))) := by
    refine smp_loop h.2.1 (by omega) hv.cnt n h0 h1 (fun i m hi hm hm2 => ?_) (by omega)
    have := hv.cnt _ (getD_mem 0 hi)
    by_cases hc : h.2.1.getD i 0 ≤ m
    · rw [if_pos hc]
      simp (disch := omega) only [timing_SampleL0K, ckB_ix, ckB_inR, ckB_room, ckB_cut, ckB_mk, ckB_ne, bif_lt, bif_nlt, bif_le, bif_nle, bif_eq, bif_neq, bif_ne, bif_nne, bif_not, bif_true', bif_false', bnd_ok, lk_inl, lk_inr, Int.toNat_natCast]
      rw [cast_succ]
    · rw [if_neg hc]
      simp (disch := omega) only [timing_SampleL0K, ckB_ix, ckB_inR, ckB_room, ckB_cut, ckB_mk, ckB_ne, bif_lt, bif_nlt, bif_le, bif_nle, bif_eq, bif_neq, bif_ne, bif_nne, bif_not, bif_true', bif_false', bnd_ok, lk_inl, lk_inr, Int.toNat_natCast]
  unfold smpV
  generalize hs : smp h.2.1 n 0 = s at *
  obtain ⟨m, i⟩ := s
  simp only at *
  have e1 : Int.toNat ((i : Int) + 1) = i + 1 := by omega
  simp (disch := omega) only [hloop, e1, ckB_ix, ckB_inR, ckB_room, ckB_cut, ckB_mk, ckB_ne, bif_lt, bif_nlt, bif_le, bif_nle, bif_eq, bif_neq, bif_ne, bif_nne, bif_not, bif_true', bif_false', bnd_ok, lk_inl, lk_inr, Int.toNat_natCast]
theorem ref40_Sample_eq {h : Histogram} (hv : HV h) {n : Int} (h0 : 0 ≤ n) (h1 : n < tot h.2.1) : ref40_Sample h n = some (smpV h n) := by
  obtain ⟨l1, l2, l3⟩ := hv.len
  obtain ⟨a1, a2, a3, a4, a5, a6, a7, a8, a9, a10, a11, a12⟩ := smp_facts hv h0 h1
  have hb2 := tot_bound hv h.2.1.length
  rw [List.take_length] at hb2
  unfold ref40_Sample
  have hloop : ref40_SampleL0 h.1 h.2.1 (n, 0) = some (.inl ((smp h.2.1 n 0).1, ((smp h.2.1 n 0).2 : Int))) := by
    refine smp_loop h.2.1 (by omega) hv.cnt n h0 h1 (fun i m hi hm hm2 => ?_) (by omega)
    have := hv.cnt _ (getD_mem 0 hi)
    by_cases hc : h.2.1.getD i 0 ≤ m
    · rw [if_pos hc]
      simp (disch := omega) only [ref40_SampleL0K, ckB_ix, ckB_inR, ckB_room, ckB_cut, ckB_mk, ckB_ne, bif_lt, bif_nlt, bif_le, bif_nle, bif_eq, bif_neq, bif_ne, bif_nne, bif_not, bif_true', bif_false', bnd_ok, lk_inl, lk_inr, Int.toNat_natCast]
      rw [cast_succ]
    · rw [if_neg hc]
      simp (disch := omega) only [ref40_SampleL0K, ckB_ix, ckB_inR, ckB_room, ckB_cut, ckB_mk, ckB_ne, bif_lt, bif_nlt, bif_le, bif_nle, bif_eq, bif_neq, bif_ne, bif_nne, bif_not, bif_true', bif_false', bnd_ok, lk_inl, lk_inr, Int.toNat_natCast]
  unfold smpV
  generalize hs : smp h.2.1 n 0 = s at *
  obtain ⟨m, i⟩ := s
  simp only at *
  have e1 : Int.toNat ((i : Int) + 1) = i + 1 := by omega
  simp (disch := omega) only [hloop, e1, ckB_ix, ckB_inR, ckB_room, ckB_cut, ckB_mk, ckB_ne, bif_lt, bif_nlt, bif_le, bif_nle, bif_eq, bif_neq, bif_ne, bif_nne, bif_not, bif_true', bif_false', bnd_ok, lk_inl, lk_inr, Int.toNat_natCast]

end Go.Proofs.Ytocpeankecaabaa
