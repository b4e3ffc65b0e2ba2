/-
  The end of a service in a calendar, the first of the least numbers, the service of customers in a calendar: program and reference agree. SimulateCalendars returns true.
-/
import Derived.Test.YtocpeankecaabaaC1
set_option linter.all false
namespace Go.Proofs.Ytocpeankecaabaa
open Go.Abs Go.T Go.M

def afterS (o : List Span) (t n : Int) : Int × Int :=
  if n = 0 then (t, 0) else if o = [] then (0, 10) else
  if 109078534 < Int.tdiv (untilS o t + n - 1) (bef o 10080) then (0, 6) else
  if 1099511627776 < pk (Int.tdiv (untilS o t + n - 1) (bef o 10080) * 10080) o (Int.tmod (untilS o t + n - 1) (bef o 10080)) then (0, 6) else (pk (Int.tdiv (untilS o t + n - 1) (bef o 10080) * 10080) o (Int.tmod (untilS o t + n - 1) (bef o 10080)), 0)

theorem bef_pos {o : List Span} (h : oks o) (hne : o ≠ []) : 0 < bef o 10080 := by
  cases o with
  | nil => exact absurd rfl hne
  | cons s o =>
    obtain ⟨h1, h2⟩ := oks_cons h
    have := bef_bound h2 10080 o.length
    rw [List.take_length] at this
    unfold bef at this ⊢
    simp only [sumL, befT] at this ⊢
    omega

theorem instant_eq (t : Int) : clock_instant t = some (decide (0 ≤ t) && decide (t ≤ 1099511627776)) := by
  unfold clock_instant
  by_cases h : 0 ≤ t <;> simp [h]
theorem rinstant_eq (t : Int) : ref03_instant t = some (decide (0 ≤ t) && decide (t ≤ 1099511627776)) := by
  unfold ref03_instant
  by_cases h : 0 ≤ t <;> simp [h]

/-- How the number of the last minute divides. -/
theorem number_at {o : List Span} (h : oks o) (hl : o.length ≤ 100) (hne : o ≠ []) {t n : Int} (ht : 0 ≤ t ∧ t ≤ 1099511627776) (hn : 0 < n ∧ n ≤ 1099511627776) :
    0 ≤ untilS o t + n - 1 ∧ untilS o t + n - 1 ≤ 120000000000000 ∧ 0 < bef o 10080 ∧ bef o 10080 ≤ 1008000 ∧ 0 ≤ Int.tdiv (untilS o t + n - 1) (bef o 10080) ∧ Int.tdiv (untilS o t + n - 1) (bef o 10080) ≤ 120000000000000 ∧
    0 ≤ Int.tmod (untilS o t + n - 1) (bef o 10080) ∧ Int.tmod (untilS o t + n - 1) (bef o 10080) < bef o 10080 ∧ Int.tdiv (untilS o t + n - 1) (bef o 10080) * bef o 10080 + Int.tmod (untilS o t + n - 1) (bef o 10080) = untilS o t + n - 1 ∧
    0 ≤ Int.tdiv (untilS o t + n - 1) (bef o 10080) * bef o 10080 := by
  obtain ⟨b1, b2, b3, b4⟩ := until_bound h hl ht
  have b5 := bef_pos h hne
  have b6 := bef_bound h 10080 o.length
  rw [List.take_length] at b6
  have hu : untilS o t = Int.tdiv t 10080 * bef o 10080 + bef o (Int.tmod t 10080) := rfl
  have hx : 0 ≤ untilS o t + n - 1 := by omega
  have hx2 : untilS o t + n - 1 ≤ 120000000000000 := by omega
  generalize untilS o t + n - 1 = x at *
  rw [Int.tdiv_eq_ediv_of_nonneg hx, Int.tmod_eq_emod_of_nonneg hx]
  have e1 := Int.emod_nonneg x (show bef o 10080 ≠ 0 by omega)
  have e2 := Int.emod_lt_of_pos x b5
  have e3 := Int.ediv_nonneg hx (show 0 ≤ bef o 10080 by omega)
  have e4 : x / bef o 10080 ≤ x := Int.ediv_le_self _ hx
  have e5 := Int.mul_ediv_add_emod x (bef o 10080)
  rw [Int.mul_comm] at e5
  exact ⟨hx, hx2, b5, by omega, e3, by omega, e1, e2, e5, Int.mul_nonneg e3 (by omega)⟩

theorem clock_After_eq (c : Calendar) (hv : validB c.1 = true) {t n : Int} (ht : 0 ≤ t ∧ t ≤ 1099511627776) (hn : 0 ≤ n ∧ n ≤ 1099511627776) : clock_After c t n = some (afterS c.1 t n) := by
  obtain ⟨hl, h⟩ := oks_of hv
  unfold clock_After afterS
  rw [clock_Valid_eq c (by omega), hv, instant_eq, instant_eq]
  simp only [bnd_ok, ht.1, ht.2, hn.1, hn.2, decide_true, Bool.and_self]
  by_cases h0 : n = 0
  · rw [if_pos h0]
    simp (disch := omega) only [ckB_ix, ckB_inR, ckB_room, ckB_cut, ckB_mk, ckB_ne, bif_lt, bif_nlt, bif_le, bif_nle, bif_eq, bif_neq, bif_ne, bif_nne, bif_not, bif_true', bif_false', bnd_ok, lk_inl, lk_inr, Int.toNat_natCast]
  · rw [if_neg h0]
    by_cases hne : c.1 = []
    · rw [if_pos hne]
      have : (c.1.length : Int) = 0 := by rw [hne]; rfl
      simp (disch := omega) only [ckB_ix, ckB_inR, ckB_room, ckB_cut, ckB_mk, ckB_ne, bif_lt, bif_nlt, bif_le, bif_nle, bif_eq, bif_neq, bif_ne, bif_nne, bif_not, bif_true', bif_false', bnd_ok, lk_inl, lk_inr, Int.toNat_natCast]
    · rw [if_neg hne]
      have hlen : (c.1.length : Int) ≠ 0 := by
        have : c.1.length ≠ 0 := fun e => hne (List.eq_nil_of_length_eq_zero e)
        omega
      obtain ⟨n1, n2, n3, n4, n5, n6, n7, n8, n9, n10⟩ := number_at (n := n) h hl hne ht (by omega)
      rw [clock_before_eq c _ hl h (by omega), clock_until_eq c hl h ht]
      simp only [bnd_ok]
      by_cases hw : 109078534 < Int.tdiv (untilS c.1 t + n - 1) (bef c.1 10080)
      · rw [if_pos hw]
        simp (disch := omega) only [ckB_ix, ckB_inR, ckB_room, ckB_cut, ckB_mk, ckB_ne, bif_lt, bif_nlt, bif_le, bif_nle, bif_eq, bif_neq, bif_ne, bif_nne, bif_not, bif_true', bif_false', bnd_ok, lk_inl, lk_inr, Int.toNat_natCast]
      · rw [if_neg hw]
        simp (disch := omega) only [ckB_ix, ckB_inR, ckB_room, ckB_cut, ckB_mk, ckB_ne, bif_lt, bif_nlt, bif_le, bif_nle, bif_eq, bif_neq, bif_ne, bif_nne, bif_not, bif_true', bif_false', bnd_ok, lk_inl, lk_inr, Int.toNat_natCast]
        rw [clock_AfterL0_eq c.1 h hl _ (by omega) _ (by omega)]
        simp only [bnd_ok, lk_inl]
        by_cases hu : 1099511627776 < pk (Int.tdiv (untilS c.1 t + n - 1) (bef c.1 10080) * 10080) c.1 (Int.tmod (untilS c.1 t + n - 1) (bef c.1 10080))
        · rw [if_pos hu, bif_lt hu]
        · rw [if_neg hu, bif_nlt (by omega)]

theorem ref03_After_eq (c : Calendar) (hv : validB c.1 = true) {t n : Int} (ht : 0 ≤ t ∧ t ≤ 1099511627776) (hn : 0 ≤ n ∧ n ≤ 1099511627776) : ref03_After c t n = some (afterS c.1 t n) := by
  obtain ⟨hl, h⟩ := oks_of hv
  unfold ref03_After afterS
  rw [ref03_Valid_eq c (by omega), hv, rinstant_eq, rinstant_eq]
  simp only [bnd_ok, ht.1, ht.2, hn.1, hn.2, decide_true, Bool.and_self]
  by_cases h0 : n = 0
  · rw [if_pos h0]
    simp (disch := omega) only [ckB_ix, ckB_inR, ckB_room, ckB_cut, ckB_mk, ckB_ne, bif_lt, bif_nlt, bif_le, bif_nle, bif_eq, bif_neq, bif_ne, bif_nne, bif_not, bif_true', bif_false', bnd_ok, lk_inl, lk_inr, Int.toNat_natCast]
  · rw [if_neg h0]
    by_cases hne : c.1 = []
    · rw [if_pos hne, ref03_before_eq c _ hl h (by omega)]
      have : bef c.1 10080 = 0 := by rw [hne]; rfl
      simp (disch := omega) only [ckB_ix, ckB_inR, ckB_room, ckB_cut, ckB_mk, ckB_ne, bif_lt, bif_nlt, bif_le, bif_nle, bif_eq, bif_neq, bif_ne, bif_nne, bif_not, bif_true', bif_false', bnd_ok, lk_inl, lk_inr, Int.toNat_natCast]
    · rw [if_neg hne]
      obtain ⟨n1, n2, n3, n4, n5, n6, n7, n8, n9, n10⟩ := number_at (n := n) h hl hne ht (by omega)
      rw [ref03_before_eq c _ hl h (by omega), ref03_Until_eq c hl h ht]
      simp only [bnd_ok]
      have hr : untilS c.1 t + n - Int.tdiv (untilS c.1 t + n - 1) (bef c.1 10080) * bef c.1 10080 = Int.tmod (untilS c.1 t + n - 1) (bef c.1 10080) + 1 := by omega
      simp (disch := omega) only [ckB_ix, ckB_inR, ckB_room, ckB_cut, ckB_mk, ckB_ne, bif_lt, bif_nlt, bif_le, bif_nle, bif_eq, bif_neq, bif_ne, bif_nne, bif_not, bif_true', bif_false', bnd_ok, lk_inl, lk_inr, Int.toNat_natCast]
      rw [hr, ref03_AfterL0_eq c.1 h hl _ (by omega) _ (by omega)]
      simp only [bnd_ok, lk_inl]
      obtain ⟨q1, q2, q3⟩ := pk_pkR (Int.tdiv (untilS c.1 t + n - 1) (bef c.1 10080) * 10080) c.1 h (Int.tmod (untilS c.1 t + n - 1) (bef c.1 10080)) 0 n7 (by rw [← bef_all h]; exact n8)
      rw [q1]
      by_cases hw : 109078534 < Int.tdiv (untilS c.1 t + n - 1) (bef c.1 10080)
      · rw [if_pos hw, bif_lt (by omega)]
      · rw [if_neg hw]
        by_cases hu : 1099511627776 < pk (Int.tdiv (untilS c.1 t + n - 1) (bef c.1 10080) * 10080) c.1 (Int.tmod (untilS c.1 t + n - 1) (bef c.1 10080))
        · rw [if_pos hu, bif_lt hu]
        · rw [if_neg hu, bif_nlt (by omega)]

theorem afterS_bound {o : List Span} (hv : validB o = true) {t n : Int} (ht : 0 ≤ t ∧ t ≤ 1099511627776) (hn : 0 ≤ n ∧ n ≤ 1099511627776) : 0 ≤ (afterS o t n).1 ∧ (afterS o t n).1 ≤ 1099511627776 := by
  obtain ⟨hl, h⟩ := oks_of hv
  unfold afterS
  split
  · exact ht
  · split
    · simp
    · rename_i h0 hne
      obtain ⟨n1, n2, n3, n4, n5, n6, n7, n8, n9, n10⟩ := number_at (n := n) h hl hne ht (by omega)
      obtain ⟨q1, q2, q3⟩ := pk_pkR (Int.tdiv (untilS o t + n - 1) (bef o 10080) * 10080) o h (Int.tmod (untilS o t + n - 1) (bef o 10080)) 0 n7 (by rw [← bef_all h]; exact n8)
      split
      · simp
      · split
        · simp
        · simp only
          omega

/-! ### The first of the least numbers -/

def isMin (xs : List Int) (k : Nat) : Prop := k < xs.length ∧ (∀ j, j < xs.length → xs.getD k 0 ≤ xs.getD j 0) ∧ ∀ j, j < k → xs.getD k 0 < xs.getD j 0
theorem isMin_uniq {xs : List Int} {k k' : Nat} (h : isMin xs k) (h' : isMin xs k') : k = k' := by
  obtain ⟨a1, a2, a3⟩ := h
  obtain ⟨b1, b2, b3⟩ := h'
  rcases Nat.lt_trichotomy k k' with hlt | heq | hgt
  · have := b3 k hlt; have := a2 k' b1; omega
  · exact heq
  · have := a3 k' hgt; have := b2 k a1; omega

theorem slices_Min_eq (xs : List Int) (h0 : 0 < xs.length) (hl : xs.length ≤ 9223372036854775807) : ∃ v, slices_Min_int_int xs = some v ∧ (∃ j, j < xs.length ∧ xs.getD j 0 = v) ∧ ∀ j, j < xs.length → v ≤ xs.getD j 0 := by
  unfold slices_Min_int_int
  obtain ⟨o, ho, hp⟩ := loop_inv (step := fun a : Int × Int => slices_Min_int_intL0K xs a.1 a.2 (fun a' => some (.next a')) (fun e => some (.done e)) (fun r => some (.ret r)))
    (fun a => ∃ i : Nat, a.2 = i ∧ 1 ≤ i ∧ i ≤ xs.length ∧ (∃ j, j < i ∧ xs.getD j 0 = a.1) ∧ ∀ j, j < i → a.1 ≤ xs.getD j 0) (fun a => xs.length - a.2.toNat)
    (fun o => ∃ v, o = .inl v ∧ (∃ j, j < xs.length ∧ xs.getD j 0 = v) ∧ ∀ j, j < xs.length → v ≤ xs.getD j 0) (xs.getD 0 0, 1)
    ⟨1, rfl, Nat.le_refl _, h0, ⟨0, by omega, rfl⟩, fun j hj => (show j = 0 by omega) ▸ Int.le_refl _⟩ (many_of (by omega)) (by
      rintro ⟨m, i'⟩ ⟨i, rfl, h1, h2, ⟨j, hj, hm⟩, hle⟩
      by_cases hi : i < xs.length
      · refine ⟨.next (min m (xs.getD i 0), (i : Int) + 1), by simp (disch := omega) only [slices_Min_int_intL0K, ckB_ix, ckB_inR, ckB_room, ckB_cut, ckB_mk, ckB_ne, bif_lt, bif_nlt, bif_le, bif_nle, bif_eq, bif_neq, bif_ne, bif_nne, bif_not, bif_true', bif_false', bnd_ok, lk_inl, lk_inr, Int.toNat_natCast], ⟨i + 1, by simp, by omega, hi, ?_, fun j' hj' => ?_⟩, by simp only [Int.toNat_natCast]; omega⟩
        · by_cases hc : m ≤ xs.getD i 0
          · exact ⟨j, by omega, by simp only; omega⟩
          · exact ⟨i, by omega, by simp only; omega⟩
        · simp only
          rcases Nat.lt_or_eq_of_le (Nat.le_of_lt_succ hj') with h | h
          · have := hle j' h; simp only at this; omega
          · subst h; omega
      · obtain rfl : i = xs.length := by omega
        exact ⟨.done m, by simp (disch := omega) only [slices_Min_int_intL0K, ckB_ix, ckB_inR, ckB_room, ckB_cut, ckB_mk, ckB_ne, bif_lt, bif_nlt, bif_le, bif_nle, bif_eq, bif_neq, bif_ne, bif_nne, bif_not, bif_true', bif_false', bnd_ok, lk_inl, lk_inr, Int.toNat_natCast], m, rfl, ⟨j, hj, hm⟩, hle⟩)
  obtain ⟨v, rfl, hv⟩ := hp
  refine ⟨v, ?_, hv⟩
  simp (disch := omega) only [ckB_ix, ckB_inR, ckB_room, ckB_cut, ckB_mk, ckB_ne, bif_lt, bif_nlt, bif_le, bif_nle, bif_eq, bif_neq, bif_ne, bif_nne, bif_not, bif_true', bif_false', bnd_ok, lk_inl, lk_inr, Int.toNat_natCast]
  have : slices_Min_int_intL0 xs (xs.getD 0 0, 1) = some (.inl v) := ho
  rw [this]
  rfl

theorem slices_Index_eq (xs : List Int) (v : Int) (hv : ∃ j, j < xs.length ∧ xs.getD j 0 = v) (hl : xs.length ≤ 9223372036854775807) : ∃ k : Nat, slices_Index_int_int xs v = some (k : Int) ∧ k < xs.length ∧ xs.getD k 0 = v ∧ ∀ j, j < k → xs.getD j 0 ≠ v := by
  unfold slices_Index_int_int
  obtain ⟨o, ho, hp⟩ := loop_inv (step := fun a : Int => slices_Index_int_intL0K xs v xs.length a (fun a' => some (.next a')) (fun e => some (.done e)) (fun r => some (.ret r)))
    (fun a => ∃ i : Nat, a = i ∧ i ≤ xs.length ∧ ∀ j, j < i → xs.getD j 0 ≠ v) (fun a => xs.length - a.toNat)
    (fun o => ∃ k : Nat, o = .inr (k : Int) ∧ k < xs.length ∧ xs.getD k 0 = v ∧ ∀ j, j < k → xs.getD j 0 ≠ v) 0
    ⟨0, rfl, Nat.zero_le _, fun j hj => by omega⟩ (many_of (by simp; omega)) (by
      rintro i' ⟨i, rfl, h2, hlow⟩
      have hi : i < xs.length := by
        obtain ⟨j, hj, e⟩ := hv
        rcases Nat.lt_or_ge i xs.length with h | h
        · exact h
        · exact absurd e (hlow j (by omega))
      by_cases hc : v = xs.getD i 0
      · exact ⟨.ret i, by simp (disch := omega) only [slices_Index_int_intL0K, ckB_ix, ckB_inR, ckB_room, ckB_cut, ckB_mk, ckB_ne, bif_lt, bif_nlt, bif_le, bif_nle, bif_eq, bif_neq, bif_ne, bif_nne, bif_not, bif_true', bif_false', bnd_ok, lk_inl, lk_inr, Int.toNat_natCast], i, rfl, hi, hc.symm, hlow⟩
      · refine ⟨.next ((i : Int) + 1), by simp (disch := omega) only [slices_Index_int_intL0K, ckB_ix, ckB_inR, ckB_room, ckB_cut, ckB_mk, ckB_ne, bif_lt, bif_nlt, bif_le, bif_nle, bif_eq, bif_neq, bif_ne, bif_nne, bif_not, bif_true', bif_false', bnd_ok, lk_inl, lk_inr, Int.toNat_natCast], ⟨i + 1, by simp, hi, fun j hj => ?_⟩, by simp only [Int.toNat_natCast]; omega⟩
        rcases Nat.lt_or_eq_of_le (Nat.le_of_lt_succ hj) with h | h
        · exact hlow j h
        · subst h; exact fun e => hc e.symm)
  obtain ⟨k, rfl, hk⟩ := hp
  refine ⟨k, ?_, hk⟩
  have : slices_Index_int_intL0 xs v xs.length 0 = some (.inr (k : Int)) := ho
  rw [this]
  rfl

theorem min_index (xs : List Int) (h0 : 0 < xs.length) (hl : xs.length ≤ 9223372036854775807) : ∃ k : Nat, (∃ v, slices_Min_int_int xs = some v ∧ slices_Index_int_int xs v = some (k : Int)) ∧ isMin xs k := by
  obtain ⟨v, h1, h2, h3⟩ := slices_Min_eq xs h0 hl
  obtain ⟨k, h4, h5, h6, h7⟩ := slices_Index_eq xs v h2 hl
  refine ⟨k, ⟨v, h1, h4⟩, h5, fun j hj => by rw [h6]; exact h3 j hj, fun j hj => ?_⟩
  have := h7 j hj
  have := h3 j (by omega)
  omega

theorem ref53_first_eq (xs : List Int) (h0 : 0 < xs.length) (hl : xs.length ≤ 9223372036854775807) : ∃ k : Nat, ref53_first xs = some (k : Int) ∧ isMin xs k := by
  unfold ref53_first
  obtain ⟨o, ho, hp⟩ := loop_inv (step := fun a : Int × Int => ref53_firstL0K xs a.1 a.2 (fun a' => some (.next a')) (fun e => some (.done e)) (fun r => some (.ret r)))
    (fun a => ∃ i k : Nat, a = ((k : Int), (i : Int)) ∧ 1 ≤ i ∧ i ≤ xs.length ∧ k < i ∧ (∀ j, j < i → xs.getD k 0 ≤ xs.getD j 0) ∧ ∀ j, j < k → xs.getD k 0 < xs.getD j 0) (fun a => xs.length - a.2.toNat)
    (fun o => ∃ k : Nat, o = .inl (k : Int) ∧ isMin xs k) (0, 1)
    ⟨1, 0, rfl, Nat.le_refl _, h0, by omega, fun j hj => (show j = 0 by omega) ▸ Int.le_refl _, fun j hj => by omega⟩ (many_of (by simp; omega)) (by
      rintro _ ⟨i, k, rfl, h1, h2, hk, hle, hlow⟩
      by_cases hi : i < xs.length
      · by_cases hc : xs.getD i 0 < xs.getD k 0
        · refine ⟨.next ((i : Int), (i : Int) + 1), by simp (disch := omega) only [ref53_firstL0K, ckB_ix, ckB_inR, ckB_room, ckB_cut, ckB_mk, ckB_ne, bif_lt, bif_nlt, bif_le, bif_nle, bif_eq, bif_neq, bif_ne, bif_nne, bif_not, bif_true', bif_false', bnd_ok, lk_inl, lk_inr, Int.toNat_natCast], ⟨i + 1, i, by simp, by omega, hi, by omega, fun j hj => ?_, fun j hj => ?_⟩, by simp only [Int.toNat_natCast]; omega⟩
          · rcases Nat.lt_or_eq_of_le (Nat.le_of_lt_succ hj) with h | h
            · have := hle j h; omega
            · subst h; exact Int.le_refl _
          · have := hle j hj; omega
        · refine ⟨.next ((k : Int), (i : Int) + 1), by simp (disch := omega) only [ref53_firstL0K, ckB_ix, ckB_inR, ckB_room, ckB_cut, ckB_mk, ckB_ne, bif_lt, bif_nlt, bif_le, bif_nle, bif_eq, bif_neq, bif_ne, bif_nne, bif_not, bif_true', bif_false', bnd_ok, lk_inl, lk_inr, Int.toNat_natCast], ⟨i + 1, k, by simp, by omega, hi, by omega, fun j hj => ?_, hlow⟩, by simp only [Int.toNat_natCast]; omega⟩
          rcases Nat.lt_or_eq_of_le (Nat.le_of_lt_succ hj) with h | h
          · exact hle j h
          · subst h; omega
      · obtain rfl : i = xs.length := by omega
        exact ⟨.done k, by simp (disch := omega) only [ref53_firstL0K, ckB_ix, ckB_inR, ckB_room, ckB_cut, ckB_mk, ckB_ne, bif_lt, bif_nlt, bif_le, bif_nle, bif_eq, bif_neq, bif_ne, bif_nne, bif_not, bif_true', bif_false', bnd_ok, lk_inl, lk_inr, Int.toNat_natCast], k, rfl, hk, hle, hlow⟩)
  obtain ⟨k, rfl, hk⟩ := hp
  refine ⟨k, ?_, hk⟩
  have : ref53_firstL0 xs (0, 1) = some (.inl (k : Int)) := ho
  rw [this]
  rfl

end Go.Proofs.Ytocpeankecaabaa
