/-
  Random numbers and customers: program and reference agree; SimulateCustomers returns true.
-/
import Derived.Test.YtocpeankecaabaaD1
set_option linter.all false
namespace Go.Proofs.Ytocpeankecaabaa
open Go.Abs Go.T Go.M

theorem random_same : simulate_random = ref53_Random := rfl
theorem entry_same : simulate_entry = ref53_seed := rfl
theorem safe_same : simulate_Random = ref53_SafeRandom := rfl

theorem tmod_bounds {a m : Int} (h0 : 0 ≤ a) (hm : 0 < m) : 0 ≤ Int.tmod a m ∧ Int.tmod a m < m := ⟨Int.tmod_nonneg m h0, Int.tmod_lt_of_pos a hm⟩

theorem random_def {s n : Int} (hs : 0 ≤ s ∧ s ≤ 1048576) (hn : 0 ≤ n ∧ n ≤ 1048576) : ∃ r, simulate_random s n = some r ∧ 0 ≤ r := by
  unfold simulate_random
  have h0 := tmod_bounds (a := 48271 * (s + 1) + 69621 * (n + 1)) (m := 2147483647) (by omega) (by omega)
  obtain ⟨o, ho, r, rfl, hr⟩ := loop_inv (step := fun a : Int × Int => simulate_randomL0K (R := LR (Int × Int) Int Int) a.1 a.2 (fun a' => some (.next a')) (fun e => some (.done e)) (fun r => some (.ret r)))
    (fun a => 0 ≤ a.1 ∧ a.1 < 2147483647 ∧ 0 ≤ a.2 ∧ a.2 ≤ 3) (fun a => 3 - a.2.toNat) (fun o => ∃ r, o = .inl r ∧ 0 ≤ r) (Int.tmod (48271 * (s + 1) + 69621 * (n + 1)) 2147483647, 0) ⟨h0.1, h0.2, by simp, by simp⟩ (many_of (by simp)) (by
      rintro ⟨r, i⟩ ⟨h1, h2, h3, h4⟩
      simp only at h1 h2 h3 h4
      by_cases hi : i < 3
      · have hb := tmod_bounds (a := 16807 * r + 12345) (m := 2147483647) (by omega) (by omega)
        refine ⟨.next (Int.tmod (16807 * r + 12345) 2147483647, i + 1), by simp (disch := omega) only [simulate_randomL0K, ckB_ix, ckB_inR, ckB_room, ckB_cut, ckB_mk, ckB_ne, bif_lt, bif_nlt, bif_le, bif_nle, bif_eq, bif_neq, bif_ne, bif_nne, bif_not, bif_true', bif_false', bnd_ok, lk_inl, lk_inr, Int.toNat_natCast], ⟨hb.1, hb.2, by simp only; omega, by simp only; omega⟩, by simp only; omega⟩
      · exact ⟨.done r, by simp (disch := omega) only [simulate_randomL0K, ckB_ix, ckB_inR, ckB_room, ckB_cut, ckB_mk, ckB_ne, bif_lt, bif_nlt, bif_le, bif_nle, bif_eq, bif_neq, bif_ne, bif_nne, bif_not, bif_true', bif_false', bnd_ok, lk_inl, lk_inr, Int.toNat_natCast], r, rfl, h1⟩)
  have : simulate_randomL0 (Int.tmod (48271 * (s + 1) + 69621 * (n + 1)) 2147483647, 0) = some (.inl r) := ho
  exact ⟨r, by simp (disch := omega) only [this, ckB_ix, ckB_inR, ckB_room, ckB_cut, ckB_mk, ckB_ne, bif_lt, bif_nlt, bif_le, bif_nle, bif_eq, bif_neq, bif_ne, bif_nne, bif_not, bif_true', bif_false', bnd_ok, lk_inl, lk_inr, Int.toNat_natCast], hr⟩

def rnd (s n : Int) : Int := (simulate_random s n).getD 0
theorem rnd_eq {s n : Int} (hs : 0 ≤ s ∧ s ≤ 1048576) (hn : 0 ≤ n ∧ n ≤ 1048576) : simulate_random s n = some (rnd s n) ∧ 0 ≤ rnd s n := by
  obtain ⟨r, h1, h2⟩ := random_def hs hn
  unfold rnd
  rw [h1]
  exact ⟨rfl, h2⟩

/-- The customers: the last arrival, and the list. -/
def cust (a b : Histogram) (s : Int) : Nat → Int × List Customer
  | 0 => (0, [])
  | k + 1 => ((cust a b s k).1 + smpV a (Int.tmod (rnd s (2 * k)) (tot a.2.1)), (cust a b s k).2 ++ [((cust a b s k).1 + smpV a (Int.tmod (rnd s (2 * k)) (tot a.2.1)), smpV b (Int.tmod (rnd s (2 * k + 1)) (tot b.2.1)), 0, 0, ())])

theorem cust_len (a b : Histogram) (s : Int) : ∀ k, (cust a b s k).2.length = k
  | 0 => rfl
  | k + 1 => by simp [cust, cust_len a b s k]

structure Fair (a b : Histogram) (s : Int) : Prop where
  va : hvB a = true
  vb : hvB b = true
  ta : tot a.2.1 ≠ 0
  tb : tot b.2.1 ≠ 0
  se : 0 ≤ s ∧ s ≤ 1048576

theorem tot_le {h : Histogram} (hv : HV h) : 0 ≤ tot h.2.1 ∧ tot h.2.1 ≤ 20971520 := by
  have := tot_bound hv h.2.1.length
  rwa [List.take_length] at this

theorem draw {h : Histogram} (hb : hvB h = true) (ht : tot h.2.1 ≠ 0) {s n : Int} (hs : 0 ≤ s ∧ s ≤ 1048576) (hn : 0 ≤ n ∧ n ≤ 1048576) :
    simulate_random s n = some (rnd s n) ∧ timing_Sample h (Int.tmod (rnd s n) (tot h.2.1)) = some (smpV h (Int.tmod (rnd s n) (tot h.2.1)), 0) ∧ ref53_sample h (rnd s n) = some (smpV h (Int.tmod (rnd s n) (tot h.2.1))) ∧
    0 ≤ smpV h (Int.tmod (rnd s n) (tot h.2.1)) ∧ smpV h (Int.tmod (rnd s n) (tot h.2.1)) ≤ 1073741824 := by
  obtain ⟨h1, h2⟩ := rnd_eq hs hn
  have hv := hv_of hb
  have htl := tot_le hv
  have hm := tmod_bounds (a := rnd s n) (m := tot h.2.1) h2 (by omega)
  refine ⟨h1, timing_Sample_eq hb hm.1 hm.2, ?_, smpV_bound hv hm.1 hm.2⟩
  unfold ref53_sample
  rw [ref40_Total_eq hv]
  simp (disch := omega) only [ref40_Sample_eq hv hm.1 hm.2, ckB_ix, ckB_inR, ckB_room, ckB_cut, ckB_mk, ckB_ne, bif_lt, bif_nlt, bif_le, bif_nle, bif_eq, bif_neq, bif_ne, bif_nne, bif_not, bif_true', bif_false', bnd_ok, lk_inl, lk_inr, Int.toNat_natCast]

theorem cust_now {a b : Histogram} {s : Int} (hf : Fair a b s) : ∀ k, k ≤ 1000 → 0 ≤ (cust a b s k).1 ∧ (cust a b s k).1 ≤ k * 1073741824
  | 0, _ => by simp [cust]
  | k + 1, hk => by
    have ih := cust_now hf k (by omega)
    have hd := draw hf.va hf.ta (s := s) (n := 2 * (k : Int)) hf.se (by omega)
    simp only [cust]
    omega

theorem simLoop_eq {a b : Histogram} {s : Int} (hf : Fair a b s) (n : Nat) (hn : n ≤ 1000) : simulate_CustomersL0 s (tot a.2.1) (tot b.2.1) n a.1 a.2.1 b.1 b.2.1 (0, 0, []) = some (.inl (cust a b s n).2) := by
  refine loop_to (fun k : Nat => ((cust a b s k).1, (k : Int), (cust a b s k).2)) n (many_of (by omega)) _ ?_ ?_ _ rfl
  · intro k hk
    obtain ⟨r1, s1, _, b1⟩ := draw hf.va hf.ta (s := s) (n := 2 * (k : Int)) hf.se (by omega)
    obtain ⟨r2, s2, _, b2⟩ := draw hf.vb hf.tb (s := s) (n := 2 * (k : Int) + 1) hf.se (by omega)
    have s1' : timing_Sample (a.1, a.2.1, ()) _ = _ := s1
    have s2' : timing_Sample (b.1, b.2.1, ()) _ = _ := s2
    have hnow := cust_now hf k (by omega)
    have ta := hf.ta
    have tb := hf.tb
    have hroom : ((cust a b s k).2.length + 1) * 32 ≤ 140737488355328 := by rw [cust_len]; omega
    have hroom2 : (cust a b s k).2.length + 1 ≤ 9223372036854775807 := by rw [cust_len]; omega
    simp (disch := omega) only [simulate_CustomersL0K, r1, s1', r2, s2', cust, ckB_ix, ckB_inR, ckB_room, ckB_cut, ckB_mk, ckB_ne, bif_lt, bif_nlt, bif_le, bif_nle, bif_eq, bif_neq, bif_ne, bif_nne, bif_not, bif_true', bif_false', bnd_ok, lk_inl, lk_inr, Int.toNat_natCast]
    rw [cast_succ]
  · simp (disch := omega) only [simulate_CustomersL0K, ckB_ix, ckB_inR, ckB_room, ckB_cut, ckB_mk, ckB_ne, bif_lt, bif_nlt, bif_le, bif_nle, bif_eq, bif_neq, bif_ne, bif_nne, bif_not, bif_true', bif_false', bnd_ok, lk_inl, lk_inr, Int.toNat_natCast]

theorem refLoop_eq {a b : Histogram} {s : Int} (hf : Fair a b s) (n : Nat) (hn : n ≤ 1000) : ref53_CustomersL0 s n a.1 a.2.1 b.1 b.2.1 (0, 0, []) = some (.inl (cust a b s n).2) := by
  refine loop_to (fun k : Nat => ((cust a b s k).1, (k : Int), (cust a b s k).2)) n (many_of (by omega)) _ ?_ ?_ _ rfl
  · intro k hk
    obtain ⟨r1, _, s1, b1⟩ := draw hf.va hf.ta (s := s) (n := 2 * (k : Int)) hf.se (by omega)
    obtain ⟨r2, _, s2, b2⟩ := draw hf.vb hf.tb (s := s) (n := 2 * (k : Int) + 1) hf.se (by omega)
    have s1' : ref53_sample (a.1, a.2.1, ()) _ = _ := s1
    have s2' : ref53_sample (b.1, b.2.1, ()) _ = _ := s2
    rw [random_same] at r1 r2
    have hnow := cust_now hf k (by omega)
    have hroom : ((cust a b s k).2.length + 1) * 32 ≤ 140737488355328 := by rw [cust_len]; omega
    have hroom2 : (cust a b s k).2.length + 1 ≤ 9223372036854775807 := by rw [cust_len]; omega
    simp (disch := omega) only [ref53_CustomersL0K, r1, s1', r2, s2', cust, ckB_ix, ckB_inR, ckB_room, ckB_cut, ckB_mk, ckB_ne, bif_lt, bif_nlt, bif_le, bif_nle, bif_eq, bif_neq, bif_ne, bif_nne, bif_not, bif_true', bif_false', bnd_ok, lk_inl, lk_inr, Int.toNat_natCast]
    rw [cast_succ]
  · simp (disch := omega) only [ref53_CustomersL0K, ckB_ix, ckB_inR, ckB_room, ckB_cut, ckB_mk, ckB_ne, bif_lt, bif_nlt, bif_le, bif_nle, bif_eq, bif_neq, bif_ne, bif_nne, bif_not, bif_true', bif_false', bnd_ok, lk_inl, lk_inr, Int.toNat_natCast]

theorem timing_Total_eq (h : Histogram) (hl : h.1.length ≤ 9223372036854775807) (hc : h.2.1.length ≤ 9223372036854775807) : timing_Total h = some (bif hvB h then (tot h.2.1, 0) else (0, 1)) := by
  unfold timing_Total
  rw [timing_Valid_eq h hl hc]
  cases hb : hvB h with
  | false => rfl
  | true =>
    rw [timing_total_eq (hv_of hb)]
    rfl

theorem entry_eq (n : Int) : simulate_entry n = some (decide (0 ≤ n ∧ n ≤ 1048576)) := by
  unfold simulate_entry
  by_cases h1 : 0 ≤ n <;> by_cases h2 : n ≤ 1048576 <;> simp [h1, h2]

/-- What Customers answers. -/
def custAns (a b : Histogram) (s n : Int) : List Customer × Int :=
  if hvB a = false ∨ hvB b = false then ([], 1) else if ¬ (0 ≤ s ∧ s ≤ 1048576) ∨ n < 0 ∨ 1000 < n then ([], 2) else if tot a.2.1 = 0 ∨ tot b.2.1 = 0 then ([], 10) else ((cust a b s n.toNat).2, 0)

theorem customers_eq (a b : Histogram) (s n : Int) (ha : a.1.length ≤ 9223372036854775807) (ha' : a.2.1.length ≤ 9223372036854775807) (hb : b.1.length ≤ 9223372036854775807) (hb' : b.2.1.length ≤ 9223372036854775807) :
    simulate_Customers a b s n = some (custAns a b s n) ∧ ref53_Customers a b s n = some (custAns a b s n) := by
  unfold simulate_Customers ref53_Customers
  rw [timing_Total_eq a ha ha', timing_Total_eq b hb hb', ref40_Valid_eq a ha ha', ref40_Valid_eq b hb hb', ← entry_same, entry_eq]
  unfold custAns
  cases h1 : hvB a with
  | false => exact ⟨rfl, rfl⟩
  | true =>
    cases h2 : hvB b with
    | false => exact ⟨rfl, rfl⟩
    | true =>
      rw [if_neg (by simp)]
      simp only [bnd_ok, cond_true]
      rw [ref40_Total_eq (hv_of h1), ref40_Total_eq (hv_of h2)]
      by_cases h3 : 0 ≤ s ∧ s ≤ 1048576
      · simp only [h3, and_self, decide_true, not_true, false_or]
        by_cases h4 : n < 0
        · rw [if_pos (by omega)]
          constructor
          · simp (disch := omega) only [ckB_ix, ckB_inR, ckB_room, ckB_cut, ckB_mk, ckB_ne, bif_lt, bif_nlt, bif_le, bif_nle, bif_eq, bif_neq, bif_ne, bif_nne, bif_not, bif_true', bif_false', bnd_ok, lk_inl, lk_inr, Int.toNat_natCast]
          · simp (disch := omega) only [ckB_ix, ckB_inR, ckB_room, ckB_cut, ckB_mk, ckB_ne, bif_lt, bif_nlt, bif_le, bif_nle, bif_eq, bif_neq, bif_ne, bif_nne, bif_not, bif_true', bif_false', bnd_ok, lk_inl, lk_inr, Int.toNat_natCast]
        by_cases h5 : 1000 < n
        · rw [if_pos (by omega)]
          constructor
          · simp (disch := omega) only [ckB_ix, ckB_inR, ckB_room, ckB_cut, ckB_mk, ckB_ne, bif_lt, bif_nlt, bif_le, bif_nle, bif_eq, bif_neq, bif_ne, bif_nne, bif_not, bif_true', bif_false', bnd_ok, lk_inl, lk_inr, Int.toNat_natCast]
          · simp (disch := omega) only [ckB_ix, ckB_inR, ckB_room, ckB_cut, ckB_mk, ckB_ne, bif_lt, bif_nlt, bif_le, bif_nle, bif_eq, bif_neq, bif_ne, bif_nne, bif_not, bif_true', bif_false', bnd_ok, lk_inl, lk_inr, Int.toNat_natCast]
        rw [if_neg (by omega)]
        by_cases h6 : tot a.2.1 = 0
        · rw [if_pos (.inl h6)]
          constructor
          · simp (disch := omega) only [ckB_ix, ckB_inR, ckB_room, ckB_cut, ckB_mk, ckB_ne, bif_lt, bif_nlt, bif_le, bif_nle, bif_eq, bif_neq, bif_ne, bif_nne, bif_not, bif_true', bif_false', bnd_ok, lk_inl, lk_inr, Int.toNat_natCast]
          · simp (disch := omega) only [ckB_ix, ckB_inR, ckB_room, ckB_cut, ckB_mk, ckB_ne, bif_lt, bif_nlt, bif_le, bif_nle, bif_eq, bif_neq, bif_ne, bif_nne, bif_not, bif_true', bif_false', bnd_ok, lk_inl, lk_inr, Int.toNat_natCast]
        by_cases h7 : tot b.2.1 = 0
        · rw [if_pos (.inr h7)]
          constructor
          · simp (disch := omega) only [ckB_ix, ckB_inR, ckB_room, ckB_cut, ckB_mk, ckB_ne, bif_lt, bif_nlt, bif_le, bif_nle, bif_eq, bif_neq, bif_ne, bif_nne, bif_not, bif_true', bif_false', bnd_ok, lk_inl, lk_inr, Int.toNat_natCast]
          · simp (disch := omega) only [ckB_ix, ckB_inR, ckB_room, ckB_cut, ckB_mk, ckB_ne, bif_lt, bif_nlt, bif_le, bif_nle, bif_eq, bif_neq, bif_ne, bif_nne, bif_not, bif_true', bif_false', bnd_ok, lk_inl, lk_inr, Int.toNat_natCast]
        rw [if_neg (by omega)]
        have hf : Fair a b s := ⟨h1, h2, h6, h7, h3⟩
        obtain ⟨m, rfl⟩ : ∃ m : Nat, n = m := ⟨n.toNat, by omega⟩
        have l1 := simLoop_eq hf m (by omega)
        have l2 := refLoop_eq hf m (by omega)
        constructor
        · simp (disch := omega) only [l1, ckB_ix, ckB_inR, ckB_room, ckB_cut, ckB_mk, ckB_ne, bif_lt, bif_nlt, bif_le, bif_nle, bif_eq, bif_neq, bif_ne, bif_nne, bif_not, bif_true', bif_false', bnd_ok, lk_inl, lk_inr, Int.toNat_natCast]
        · simp (disch := omega) only [l2, ckB_ix, ckB_inR, ckB_room, ckB_cut, ckB_mk, ckB_ne, bif_lt, bif_nlt, bif_le, bif_nle, bif_eq, bif_neq, bif_ne, bif_nne, bif_not, bif_true', bif_false', bnd_ok, lk_inl, lk_inr, Int.toNat_natCast]
      · simp only [h3, decide_false, not_false_iff, true_or, if_true]
        exact ⟨rfl, rfl⟩

theorem custAns_len (a b : Histogram) (s n : Int) : (custAns a b s n).1.length ≤ 1000 := by
  unfold custAns
  split
  · simp
  · split
    · simp
    · split
      · simp
      · simp only [cust_len]; omega

theorem wide_def (h : Histogram) : ∃ w, law53_wide h = some w := by
  unfold law53_wide
  cases decide ((60 : Int) < (h.1.length : Int)) <;> exact ⟨_, rfl⟩

theorem safe_def (s n : Int) : ∃ w, simulate_Random s n = some w := by
  unfold simulate_Random
  rw [entry_eq, entry_eq]
  by_cases h1 : 0 ≤ s ∧ s ≤ 1048576
  · by_cases h2 : 0 ≤ n ∧ n ≤ 1048576
    · obtain ⟨r, hr, _⟩ := random_def h1 h2
      exact ⟨(r, 0), by simp [h1, h2, hr]⟩
    · exact ⟨(0, 2), by simp [h1, h2]⟩
  · exact ⟨(0, 2), by simp [h1]⟩

theorem customers_true (a b : Histogram) (s n : Int) (ha : a.1.length ≤ 9223372036854775807) (ha' : a.2.1.length ≤ 9223372036854775807) (hb : b.1.length ≤ 9223372036854775807) (hb' : b.2.1.length ≤ 9223372036854775807) : law53_SimulateCustomers a b s n = some true := by
  unfold law53_SimulateCustomers
  rw [awake_true, ← safe_same]
  obtain ⟨w, hw⟩ := safe_def s n
  obtain ⟨w1, hw1⟩ := wide_def a
  obtain ⟨w2, hw2⟩ := wide_def b
  obtain ⟨h1, h2⟩ := customers_eq a b s n ha ha' hb hb'
  have h4 := ref53_Same_self (custAns a b s n).1 (by have := custAns_len a b s n; omega)
  simp only [bnd_ok, hw, hw1, hw2, h1, h2, h4, decide_true, bif_true', bif_not]
  cases w1 <;> cases w2 <;> cases decide ((60 : Int) < n) <;> cases decide (n ≤ 1000) <;> rfl

end Go.Proofs.Ytocpeankecaabaa
