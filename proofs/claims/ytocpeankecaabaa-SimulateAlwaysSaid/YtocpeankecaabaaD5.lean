/-
  More servers delay nobody: SimulateMore returns true.
-/
import Derived.Test.YtocpeankecaabaaD4
set_option linter.all false
namespace Go.Proofs.Ytocpeankecaabaa
open Go.Abs Go.T Go.M

theorem cust_take (a b : Histogram) (s : Int) (m : Nat) : ∀ n, m ≤ n → (cust a b s n).2.take m = (cust a b s m).2
  | 0, h => by
    obtain rfl : m = 0 := by omega
    simp [cust]
  | n + 1, h => by
    rcases Nat.lt_or_eq_of_le h with h' | h'
    · simp only [cust]
      rw [List.take_append_of_le_length (by rw [cust_len]; omega)]
      exact cust_take a b s m n (by omega)
    · subst h'
      exact List.take_of_length_le (by rw [cust_len]; exact Nat.le_refl _)

theorem cust_at (a b : Histogram) (s : Int) : ∀ n i, i < n → (cust a b s n).2.getD i Customer.z = ((cust a b s (i + 1)).1, smpV b (Int.tmod (rnd s (2 * i + 1)) (tot b.2.1)), 0, 0, ())
  | n + 1, i, h => by
    have hunf : (cust a b s (n + 1)).2 = (cust a b s n).2 ++ [((cust a b s (n + 1)).1, smpV b (Int.tmod (rnd s (2 * n + 1)) (tot b.2.1)), 0, 0, ())] := rfl
    rw [hunf, List.getD_eq_getElem?_getD]
    rcases Nat.lt_or_eq_of_le (Nat.le_of_lt_succ h) with h' | h'
    · rw [List.getElem?_append_left (by rw [cust_len]; exact h'), ← List.getD_eq_getElem?_getD]
      exact cust_at a b s n i h'
    · subst h'
      rw [List.getElem?_append_right (by rw [cust_len]; exact Nat.le_refl _), cust_len]
      simp

theorem cust_proper {a b : Histogram} {s : Int} (hf : Fair a b s) {n : Nat} (hn : n ≤ 1000) : properB (cust a b s n).2 = true := by
  simp only [properB, Bool.and_eq_true, decide_eq_true_eq, List.all_eq_true, List.mem_range, cust_len]
  refine ⟨hn, fun i hi => ?_⟩
  have h1 := cust_now hf (i + 1) (by omega)
  obtain ⟨_, _, _, b2⟩ := draw hf.vb hf.tb (s := s) (n := 2 * (i : Int) + 1) hf.se (by omega)
  obtain ⟨_, _, _, b1⟩ := draw hf.va hf.ta (s := s) (n := 2 * (i : Int)) hf.se (by omega)
  have hstep : (cust a b s (i + 1)).1 = (cust a b s i).1 + smpV a (Int.tmod (rnd s (2 * i)) (tot a.2.1)) := rfl
  have hat := cust_at a b s n i hi
  simp only [pAt, Bool.and_eq_true, decide_eq_true_eq, Bool.or_eq_true, hat]
  refine ⟨⟨⟨⟨h1.1, by omega⟩, b2.1⟩, by omega⟩, ?_⟩
  by_cases h0 : i = 0
  · exact .inl h0
  · right
    rw [cust_at a b s n (i - 1) (by omega), show i - 1 + 1 = i by omega]
    simp only
    omega

theorem diffs_nonneg {l : List Customer} (hp : properB l = true) {a b : Nat} (hab : a ≤ b) (ha : 0 < a) (hb : b ≤ 20) : ∀ x ∈ diffs (srvG plainF l a l.length).2 (srvG plainF l b l.length).2 l.length, 0 ≤ x := by
  intro x hx
  simp only [diffs, List.mem_map, List.mem_range] at hx
  obtain ⟨i, hi, rfl⟩ := hx
  rw [srvG_at _ _ _ _ _ hi, srvG_at _ _ _ _ _ hi]
  have hd : ∀ i, i ≤ l.length → dom (srvG plainF l a i).1 (srvG plainF l b i).1 := by
    intro i hi
    refine srv_dom hab ha hb i (fun j hj => ?_)
    by_cases hdj : dom (srvG plainF l a j).1 (srvG plainF l b j).1
    · left
      have hs := stp_dom (l := l) (i := j) (by rw [srvG_len1]; omega) (by rw [srvG_len1]; omega) (by rw [srvG_len1]; omega) (by rw [srvG_len1]; omega) hdj
      obtain ⟨h1, h2, h3, h4, _⟩ := pAt_true ((properB_at hp).2 j (by omega))
      simp only [plainF]
      omega
    · exact .inr hdj
  have hs := stp_dom (l := l) (i := i) (by rw [srvG_len1]; omega) (by rw [srvG_len1]; omega) (by rw [srvG_len1]; omega) (by rw [srvG_len1]; omega) (hd i (by omega))
  simp only
  omega

theorem contains32_eq (c : List Int) (hl : c.length ≤ 9223372036854775807) (hc : ∀ x ∈ c, 0 ≤ x) : slices_ContainsFunc_int_int_32 c = some false := by
  unfold slices_ContainsFunc_int_int_32 slices_IndexFunc_int_int_32
  have hloop : slices_IndexFunc_int_int_32L0 c (c.length : Int) 0 = some (.inl ()) := by
    refine loop_to (fun i : Nat => (i : Int)) c.length (many_of hl) () (fun i hi => ?_) ?_ _ rfl
    · have := hc _ (getD_mem 0 hi)
      simp (disch := omega) only [slices_IndexFunc_int_int_32L0K, law53_SimulateMore_1, ckB_ix, ckB_inR, ckB_room, ckB_cut, ckB_mk, ckB_ne, bif_lt, bif_nlt, bif_le, bif_nle, bif_eq, bif_neq, bif_ne, bif_nne, bif_not, bif_true', bif_false', bnd_ok, lk_inl, lk_inr, Int.toNat_natCast]
      rw [cast_succ]
    · simp (disch := omega) only [slices_IndexFunc_int_int_32L0K, ckB_ix, ckB_inR, ckB_room, ckB_cut, ckB_mk, ckB_ne, bif_lt, bif_nlt, bif_le, bif_nle, bif_eq, bif_neq, bif_ne, bif_nne, bif_not, bif_true', bif_false', bnd_ok, lk_inl, lk_inr, Int.toNat_natCast]
  rw [hloop]
  rfl

theorem more_true (a b : Histogram) (s n m p q : Int) (ha : a.1.length ≤ 9223372036854775807) (ha' : a.2.1.length ≤ 9223372036854775807) (hb : b.1.length ≤ 9223372036854775807) (hb' : b.2.1.length ≤ 9223372036854775807)
    (hn : 0 ≤ n ∧ n ≤ 255) (hm : 0 ≤ m ∧ m ≤ 255) (hp : 0 ≤ p ∧ p ≤ 255) (hq : 0 ≤ q ∧ q ≤ 255) : law53_SimulateMore a b s n m p q = some true := by
  unfold law53_SimulateMore
  rw [awake_true]
  obtain ⟨w1, hw1⟩ := wide_def a
  obtain ⟨w2, hw2⟩ := wide_def b
  rw [hw1, hw2]
  cases w1 with
  | true => rfl
  | false =>
  cases w2 with
  | true => rfl
  | false =>
  have c1 := (customers_eq a b s (Int.tmod n 61) ha ha' hb hb').1
  have t1 := tmod_bounds (a := n) (m := 61) hn.1 (by omega)
  have c2 := (customers_eq a b s (Int.tmod m (Int.tmod n 61 + 1)) ha ha' hb hb').1
  have t2 := tmod_bounds (a := m) (m := Int.tmod n 61 + 1) hm.1 (by omega)
  have t3 := tmod_bounds (a := p) (m := 20) hp.1 (by omega)
  have t4 := tmod_bounds (a := q) (m := 21 - (1 + Int.tmod p 20)) hq.1 (by omega)
  generalize Int.tmod n 61 = n1 at *
  generalize hm1 : Int.tmod m (n1 + 1) = m1 at *
  generalize Int.tmod p 20 = p1 at *
  generalize hq1 : Int.tmod q (21 - (1 + p1)) = q1 at *
  by_cases hok : (custAns a b s n1).2 = 0
  · have hf : Fair a b s := by
      unfold custAns at hok
      split at hok
      · simp at hok
      · split at hok
        · simp at hok
        · split at hok
          · simp at hok
          · rename_i g1 g2 g3
            simp only [not_or, Bool.not_eq_false, Decidable.not_not] at g1 g2 g3
            exact ⟨g1.1, g1.2, g3.1, g3.2, g2.1⟩
    have hans : ∀ k : Int, 0 ≤ k → k ≤ 1000 → custAns a b s k = ((cust a b s k.toNat).2, 0) := by
      intro k h0 h1
      unfold custAns
      rw [if_neg (by simp [hf.va, hf.vb]), if_neg (by have := hf.se; omega), if_neg (by have := hf.ta; have := hf.tb; omega)]
    rw [hans n1 (by omega) (by omega)] at c1
    rw [hans m1 (by omega) (by omega)] at c2
    have l1 := cust_len a b s n1.toNat
    have l2 := cust_len a b s m1.toNat
    have htk : (cust a b s n1.toNat).2.take (cust a b s m1.toNat).2.length = (cust a b s m1.toNat).2 := by
      rw [l2]
      exact cust_take a b s _ _ (by omega)
    have heq := equalC_self (cust a b s m1.toNat).2 (by omega)
    have hpr := cust_proper hf (n := n1.toNat) (by omega)
    have cmp := (compare_eq (cust a b s n1.toNat).2 (1 + p1) (1 + p1 + q1) (by omega)).1
    have hcmp : cmpAns (cust a b s n1.toNat).2 (1 + p1) (1 + p1 + q1) = (diffs (srvG plainF (cust a b s n1.toNat).2 (1 + p1).toNat (cust a b s n1.toNat).2.length).2 (srvG plainF (cust a b s n1.toNat).2 (1 + p1 + q1).toNat (cust a b s n1.toNat).2.length).2 (cust a b s n1.toNat).2.length, 0) := by
      unfold cmpAns serveAns
      rw [hpr, if_neg (show ¬ (true = false) by decide), if_neg (show ¬ (true = false) by decide), if_pos (show 1 ≤ 1 + p1 ∧ 1 + p1 ≤ 20 by omega), if_pos (show 1 ≤ 1 + p1 + q1 ∧ 1 + p1 + q1 ≤ 20 by omega)]
      rfl
    have hnn := diffs_nonneg hpr (a := (1 + p1).toNat) (b := (1 + p1 + q1).toNat) (by omega) (by omega) (by omega)
    have hdl := diffs_len (srvG plainF (cust a b s n1.toNat).2 (1 + p1).toNat (cust a b s n1.toNat).2.length).2 (srvG plainF (cust a b s n1.toNat).2 (1 + p1 + q1).toNat (cust a b s n1.toNat).2.length).2 (cust a b s n1.toNat).2.length
    rw [hcmp] at cmp
    generalize diffs (srvG plainF (cust a b s n1.toNat).2 (1 + p1).toNat (cust a b s n1.toNat).2.length).2 (srvG plainF (cust a b s n1.toNat).2 (1 + p1 + q1).toNat (cust a b s n1.toNat).2.length).2 (cust a b s n1.toNat).2.length = df at *
    have hct := contains32_eq df (by omega) hnn
    have e1 : ((cust a b s n1.toNat).2.length : Int) = n1 := by omega
    have e2 : ((cust a b s m1.toNat).2.length : Int) = m1 := by omega
    have e3 : (df.length : Int) = n1 := by omega
    have hcut : 0 ≤ m1 ∧ m1 ≤ ((cust a b s n1.toNat).2.length : Int) := by omega
    simp (disch := omega) only [c1, c2, hm1, hq1, e1, e2, htk, heq, cmp, e3, hct, Bool.not_true, Bool.not_false, decide_true, bif_true', ckB_ix, ckB_inR, ckB_room, ckB_cut, ckB_mk, ckB_ne, bif_lt, bif_nlt, bif_le, bif_nle, bif_eq, bif_neq, bif_ne, bif_nne, bif_not, bif_true', bif_false', bnd_ok, lk_inl, lk_inr, Int.toNat_natCast]
  · have hl0 : (custAns a b s n1).1.length = 0 := by
      unfold custAns at hok ⊢
      split
      · rfl
      · split
        · rfl
        · split
          · rfl
          · rename_i g1 g2 g3
            rw [if_neg g1, if_neg g2, if_neg g3] at hok
            exact absurd rfl hok
    have hl0' : ((custAns a b s n1).1.length : Int) = 0 := by omega
    simp (disch := omega) only [c1, hl0', ckB_ix, ckB_inR, ckB_room, ckB_cut, ckB_mk, ckB_ne, bif_lt, bif_nlt, bif_le, bif_nle, bif_eq, bif_neq, bif_ne, bif_nne, bif_not, bif_true', bif_false', bnd_ok, lk_inl, lk_inr, Int.toNat_natCast]
    simp

end Go.Proofs.Ytocpeankecaabaa
