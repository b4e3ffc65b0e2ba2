/-
  Fractions: Make, by the program and by the reference; what Mul and Add return.
-/
import Derived.Test.YtjjhanfglelldaaQ9
set_option linter.all false
namespace Go.Proofs.Ytjjhanfglelldaa
open Go.K Go.M

theorem gF_abs : ∀ (n : Nat) (a b : Int), b.natAbs < n → (gF n a b).natAbs = Nat.gcd a.natAbs b.natAbs
  | 0, a, b, h => by omega
  | n + 1, a, b, h => by
    unfold gF
    split
    · rename_i e
      subst e
      simp
    · rename_i h0
      have hlt : (Int.tmod a b).natAbs < b.natAbs := by
        rw [Int.natAbs_tmod]
        exact Nat.mod_lt _ (by omega)
      rw [gF_abs n b (Int.tmod a b) (by omega), Int.natAbs_tmod, Nat.gcd_comm a.natAbs, Nat.gcd_rec b.natAbs a.natAbs, Nat.gcd_comm]
theorem gF_nn : ∀ (n : Nat) (a b : Int), 0 ≤ a → 0 ≤ b → 0 ≤ gF n a b
  | 0, a, b, ha, _ => ha
  | n + 1, a, b, ha, hb => by
    unfold gF
    split
    · exact ha
    · exact gF_nn n b _ hb (Int.tmod_nonneg _ ha)
theorem gF_neg : ∀ (n : Nat) (a b : Int), gF n (-a) (-b) = -gF n a b
  | 0, a, b => rfl
  | n + 1, a, b => by
    unfold gF
    by_cases h : b = 0
    · rw [if_pos h, if_pos (by omega)]
    · rw [if_neg h, if_neg (by omega), Int.neg_tmod, Int.tmod_neg, gF_neg n b]

/-- Two numbers by their greatest common divisor. -/
theorem gcd_split (num den : Int) (hd : den ≠ 0) : ∃ (G u v : Int), 0 < G ∧ num = G * u ∧ den = G * v ∧ Nat.gcd u.natAbs v.natAbs = 1 ∧ v ≠ 0 ∧ gI (num.natAbs : Int) (den.natAbs : Int) = G ∧ gI (-(num.natAbs : Int)) (-(den.natAbs : Int)) = -G := by
  have hG : 0 < Nat.gcd num.natAbs den.natAbs := Nat.gcd_pos_of_pos_right _ (by omega)
  have h1 : ((Nat.gcd num.natAbs den.natAbs : Nat) : Int) ∣ num := Int.natAbs_dvd_natAbs.1 (by rw [Int.natAbs_natCast]; exact Nat.gcd_dvd_left _ _)
  have h2 : ((Nat.gcd num.natAbs den.natAbs : Nat) : Int) ∣ den := Int.natAbs_dvd_natAbs.1 (by rw [Int.natAbs_natCast]; exact Nat.gcd_dvd_right _ _)
  have h3 : gI (num.natAbs : Int) (den.natAbs : Int) = ((Nat.gcd num.natAbs den.natAbs : Nat) : Int) := by
    have e1 := gF_abs (((den.natAbs : Int)).natAbs + 1) (num.natAbs : Int) (den.natAbs : Int) (by omega)
    have e2 := gF_nn (((den.natAbs : Int)).natAbs + 1) (num.natAbs : Int) (den.natAbs : Int) (by omega) (by omega)
    simp only [Int.natAbs_natCast] at e1 e2
    unfold gI
    simp only [Int.natAbs_natCast]
    omega
  have h4 : gI (-(num.natAbs : Int)) (-(den.natAbs : Int)) = -((Nat.gcd num.natAbs den.natAbs : Nat) : Int) := by
    rw [← h3]
    unfold gI
    rw [gF_neg, Int.natAbs_neg]
  obtain ⟨u, hu⟩ := h1
  obtain ⟨v, hv⟩ := h2
  refine ⟨_, u, v, by omega, hu, hv, ?_, ?_, h3, h4⟩
  · have e1 : num.natAbs = Nat.gcd num.natAbs den.natAbs * u.natAbs := by
      have := congrArg Int.natAbs hu
      rw [Int.natAbs_mul, Int.natAbs_natCast] at this
      exact this
    have e2 : den.natAbs = Nat.gcd num.natAbs den.natAbs * v.natAbs := by
      have := congrArg Int.natAbs hv
      rw [Int.natAbs_mul, Int.natAbs_natCast] at this
      exact this
    generalize hg : Nat.gcd num.natAbs den.natAbs = g at e1 e2 hG
    rw [e1, e2, Nat.gcd_mul_left] at hg
    exact Nat.eq_of_mul_eq_mul_left hG (by omega)
  · intro e
    subst e
    exact hd (by rw [hv]; simp)

def mkV (n d : Int) : Frac × Int := if n < -1073741824 ∨ 1073741824 < n ∨ 1073741824 < d then ((0, 0, ()), 6) else ((n, d, ()), 0)
def mkS (u v : Int) : Frac × Int := if 0 < v then mkV u v else mkV (-u) (-v)

theorem wrap_u64 {x : Int} (h0 : 0 ≤ x) (h1 : x ≤ 18446744073709551615) : IntKind.wrap .u64 x = x := by
  simp [IntKind.wrap, IntKind.bits, IntKind.signed]
  omega
theorem fabs_eq {x : Int} (h0 : -9223372036854775807 ≤ x) (h1 : x ≤ 9223372036854775807) : frac_abs x = some (x.natAbs : Int) := by
  unfold frac_abs
  by_cases h : x < 0
  · rw [bif_lt h]
    refine congrArg some ?_
    simp [IntKind.wrap, IntKind.bits, IntKind.signed]
    omega
  · rw [bif_nlt (by omega), wrap_u64 (by omega) (by omega)]
    refine congrArg some ?_
    omega

theorem fit_eq (neg : Bool) {a b G u v : Int} (hG : 0 < G) (ha : a = G * u) (hb : b = G * v) (hu : 0 ≤ u) (hv : 0 < v) (ha2 : a ≤ 9223372036854775807) (hb2 : b ≤ 9223372036854775807) (hg : gI a b = G) : frac_fit neg a b = some (mkV (if neg = true then -u else u) v) := by
  have hL : frac_fitL0 neg a b 0 0 (a, b) = some (.inl (gI a b)) :=
    gcd_loop (step := fun s : Int × Int => frac_fitL0K (R := LR (Int × Int) Int (Frac × Int)) neg a b 0 0 s.1 s.2 (fun a' => some (.next a')) (fun e => some (.done e)) (fun r => some (.ret r))) (fun x y => by
      by_cases h : y = 0
      · simp (disch := omega) only [frac_fitL0K, ckB_ix, ckB_inR, ckB_room, ckB_cut, ckB_mk, ckB_ne, bif_lt, bif_nlt, bif_le, bif_nle, bif_eq, bif_neq, bif_ne, bif_nne, bif_not, bif_true', bif_false', bnd_ok, lk_inl, lk_inr, Int.toNat_natCast, decide_true]
        rw [if_pos h]
      · simp (disch := omega) only [frac_fitL0K, ckB_ne, ckB_ix, ckB_inR, ckB_room, ckB_cut, ckB_mk, ckB_ne, bif_lt, bif_nlt, bif_le, bif_nle, bif_eq, bif_neq, bif_ne, bif_nne, bif_not, bif_true', bif_false', bnd_ok, lk_inl, lk_inr, Int.toNat_natCast, decide_true]
        rw [if_neg h]) _ a b many (by omega) (by
          have : 0 ≤ b := by rw [hb]; exact Int.mul_nonneg (by omega) (by omega)
          unfold many; omega)
  rw [hg] at hL
  have e1 : Int.tdiv a G = u := by rw [ha, Int.mul_tdiv_cancel_left _ (by omega)]
  have e2 : Int.tdiv b G = v := by rw [hb, Int.mul_tdiv_cancel_left _ (by omega)]
  have hua : u ≤ a := by
    rw [ha]
    have : 1 * u ≤ G * u := Int.mul_le_mul_of_nonneg_right (by omega) hu
    omega
  have hvb : v ≤ b := by
    rw [hb]
    have : 1 * v ≤ G * v := Int.mul_le_mul_of_nonneg_right (by omega) (by omega)
    omega
  have hG0 : G ≠ 0 := by omega
  have e1' : IntKind.wrap .u64 (Int.tdiv a G) = u := by rw [e1, wrap_u64 hu (by omega)]
  have e2' : IntKind.wrap .u64 (Int.tdiv b G) = v := by rw [e2, wrap_u64 (by omega) (by omega)]
  unfold frac_fit mkV
  rw [hL, bnd_ok]
  simp only [lk_inl, e1', e2']
  rw [ckB_ne hG0, ckB_ne hG0]
  by_cases h1 : 1073741824 < u
  · have h2 : (if neg = true then -u else u) < -1073741824 ∨ 1073741824 < (if neg = true then -u else u) ∨ 1073741824 < v := by split <;> omega
    rw [if_pos h2]
    simp (disch := omega) only [ckB_ix, ckB_inR, ckB_room, ckB_cut, ckB_mk, ckB_ne, bif_lt, bif_nlt, bif_le, bif_nle, bif_eq, bif_neq, bif_ne, bif_nne, bif_not, bif_true', bif_false', bnd_ok, lk_inl, lk_inr, Int.toNat_natCast, decide_true]
  · by_cases h3 : 1073741824 < v
    · rw [if_pos (.inr (.inr h3))]
      simp (disch := omega) only [ckB_ix, ckB_inR, ckB_room, ckB_cut, ckB_mk, ckB_ne, bif_lt, bif_nlt, bif_le, bif_nle, bif_eq, bif_neq, bif_ne, bif_nne, bif_not, bif_true', bif_false', bnd_ok, lk_inl, lk_inr, Int.toNat_natCast, decide_true]
    · have h2 : ¬ ((if neg = true then -u else u) < -1073741824 ∨ 1073741824 < (if neg = true then -u else u) ∨ 1073741824 < v) := by split <;> omega
      rw [if_neg h2]
      cases neg with
      | true =>
        simp (disch := omega) only [if_true, ckB_ix, ckB_inR, ckB_room, ckB_cut, ckB_mk, ckB_ne, bif_lt, bif_nlt, bif_le, bif_nle, bif_eq, bif_neq, bif_ne, bif_nne, bif_not, bif_true', bif_false', bnd_ok, lk_inl, lk_inr, Int.toNat_natCast, decide_true]
        rw [Int.zero_sub]
      | false =>
        simp (disch := omega) only [ckB_ix, ckB_inR, ckB_room, ckB_cut, ckB_mk, ckB_ne, bif_lt, bif_nlt, bif_le, bif_nle, bif_eq, bif_neq, bif_ne, bif_nne, bif_not, bif_true', bif_false', bnd_ok, lk_inl, lk_inr, Int.toNat_natCast, decide_true]
        simp

theorem mkS_make {num den G u v : Int} (hG : 0 < G) (hn : num = G * u) (hd : den = G * v) (hv : v ≠ 0) (hn0 : -9223372036854775807 ≤ num) (hn1 : num ≤ 9223372036854775807) (hd0 : -9223372036854775807 ≤ den) (hd1 : den ≤ 9223372036854775807) (hg : gI (num.natAbs : Int) (den.natAbs : Int) = G) : frac_Make num den = some (mkS u v) := by
  have hden : den ≠ 0 := by
    intro e
    rw [hd] at e
    rcases Int.mul_eq_zero.1 e with e | e <;> omega
  have hGn : ∀ x : Int, (G * x < 0 ↔ x < 0) ∧ ((G * x).natAbs : Int) = G * x.natAbs := fun x => by
    constructor
    · constructor
      · intro h
        refine Classical.byContradiction fun hx => ?_
        have := Int.mul_nonneg (show 0 ≤ G by omega) (show 0 ≤ x by omega)
        omega
      · intro h
        exact Int.mul_neg_of_pos_of_neg hG h
    · rw [Int.natAbs_mul, Int.natCast_mul]
      congr 1
      omega
  have hf := fit_eq (!(decide (num < 0) == decide (den < 0))) hG (a := (num.natAbs : Int)) (b := (den.natAbs : Int)) (u := (u.natAbs : Int)) (v := (v.natAbs : Int)) (by rw [hn, (hGn u).2]) (by rw [hd, (hGn v).2]) (by omega) (by omega) (by omega) (by omega) hg
  unfold frac_Make
  rw [bif_neq hden, fabs_eq hn0 hn1, fabs_eq hd0 hd1, bnd_ok, bnd_ok, hf, bnd_ok]
  have h1 : decide (num < 0) = decide (u < 0) := by rw [hn]; exact decide_eq_decide.2 (hGn u).1
  have h2 : decide (den < 0) = decide (v < 0) := by rw [hd]; exact decide_eq_decide.2 (hGn v).1
  rw [h1, h2]
  show some (mkV _ _) = some (mkS u v)
  refine congrArg some ?_
  unfold mkS
  by_cases hu0 : u < 0
  · by_cases hv0 : v < 0
    · rw [decide_eq_true hu0, decide_eq_true hv0, if_neg (show ¬ 0 < v by omega)]
      simp only [beq_self_eq_true, Bool.not_true]
      congr 1
      · simp; omega
      · omega
    · rw [decide_eq_true hu0, decide_eq_false hv0, if_pos (show 0 < v by omega)]
      congr 1
      · simp; omega
      · omega
  · by_cases hv0 : v < 0
    · rw [decide_eq_false hu0, decide_eq_true hv0, if_neg (show ¬ 0 < v by omega)]
      congr 1
      · simp; omega
      · omega
    · rw [decide_eq_false hu0, decide_eq_false hv0, if_pos (show 0 < v by omega)]
      congr 1
      · simp; omega
      · omega

theorem refT3_eq {num den G u v : Int} (hG : 0 < G) (hn : num = G * u) (hd : den = G * v) (hv : v ≠ 0) (hn0 : -9223372036854775807 ≤ num) (hn1 : num ≤ 9223372036854775807) (hd0 : -9223372036854775807 ≤ den) (hd1 : den ≤ 9223372036854775807) (hg : gI (-(num.natAbs : Int)) (-(den.natAbs : Int)) = -G) : ref01_MakeT3 num den (-(num.natAbs : Int)) (-(den.natAbs : Int)) 0 0 = some (.inr (mkS u v)) := by
  have hL : ref01_MakeL0 num den 0 0 (-(num.natAbs : Int), -(den.natAbs : Int)) = some (.inl (gI (-(num.natAbs : Int)) (-(den.natAbs : Int)))) :=
    gcd_loop (step := fun s : Int × Int => ref01_MakeL0K (R := LR (Int × Int) Int (Frac × Int)) num den 0 0 s.1 s.2 (fun a' => some (.next a')) (fun e => some (.done e)) (fun r => some (.ret r))) (fun x y => by
      by_cases h : y = 0
      · simp (disch := omega) only [ref01_MakeL0K, ckB_ix, ckB_inR, ckB_room, ckB_cut, ckB_mk, ckB_ne, bif_lt, bif_nlt, bif_le, bif_nle, bif_eq, bif_neq, bif_ne, bif_nne, bif_not, bif_true', bif_false', bnd_ok, lk_inl, lk_inr, Int.toNat_natCast, decide_true]
        rw [if_pos h]
      · simp (disch := omega) only [ref01_MakeL0K, ckB_ne, ckB_ix, ckB_inR, ckB_room, ckB_cut, ckB_mk, ckB_ne, bif_lt, bif_nlt, bif_le, bif_nle, bif_eq, bif_neq, bif_ne, bif_nne, bif_not, bif_true', bif_false', bnd_ok, lk_inl, lk_inr, Int.toNat_natCast, decide_true]
        rw [if_neg h]) _ _ _ many (by omega) (by unfold many; omega)
  rw [hg] at hL
  have hG0 : -G ≠ 0 := by omega
  have e1 : Int.tdiv num (-G) = -u := by rw [hn, Int.tdiv_neg, Int.mul_tdiv_cancel_left _ (by omega)]
  have e2 : Int.tdiv den (-G) = -v := by rw [hd, Int.tdiv_neg, Int.mul_tdiv_cancel_left _ (by omega)]
  have hlt : ∀ x : Int, x.natAbs ≤ (G * x).natAbs := fun x => by
    rw [Int.natAbs_mul]
    exact Nat.le_mul_of_pos_left _ (by omega)
  have hu1 := hlt u
  have hv1 := hlt v
  rw [← hn] at hu1
  rw [← hd] at hv1
  unfold ref01_MakeT3 ref01_MakeT3K mkS mkV
  rw [hL, bnd_ok]
  simp only [lk_inl, e1, e2]
  rw [ckB_ne hG0, ckB_ne hG0]
  by_cases h0 : 0 < v
  · have e3 : 0 - -u = u := by omega
    have e4 : 0 - -v = v := by omega
    rw [if_pos h0]
    by_cases h1 : u < -1073741824
    · rw [if_pos (.inl h1)]
      simp (disch := omega) only [e3, e4, ref01_MakeT1, ref01_MakeT1K, ckB_ix, ckB_inR, ckB_room, ckB_cut, ckB_mk, ckB_ne, bif_lt, bif_nlt, bif_le, bif_nle, bif_eq, bif_neq, bif_ne, bif_nne, bif_not, bif_true', bif_false', bnd_ok, lk_inl, lk_inr, Int.toNat_natCast, decide_true]
    · by_cases h2 : 1073741824 < u
      · rw [if_pos (.inr (.inl h2))]
        simp (disch := omega) only [e3, e4, ref01_MakeT1, ref01_MakeT1K, ckB_ix, ckB_inR, ckB_room, ckB_cut, ckB_mk, ckB_ne, bif_lt, bif_nlt, bif_le, bif_nle, bif_eq, bif_neq, bif_ne, bif_nne, bif_not, bif_true', bif_false', bnd_ok, lk_inl, lk_inr, Int.toNat_natCast, decide_true]
      · by_cases h3 : 1073741824 < v
        · rw [if_pos (.inr (.inr h3))]
          simp (disch := omega) only [e3, e4, ref01_MakeT1, ref01_MakeT1K, ckB_ix, ckB_inR, ckB_room, ckB_cut, ckB_mk, ckB_ne, bif_lt, bif_nlt, bif_le, bif_nle, bif_eq, bif_neq, bif_ne, bif_nne, bif_not, bif_true', bif_false', bnd_ok, lk_inl, lk_inr, Int.toNat_natCast, decide_true]
        · rw [if_neg (by omega)]
          simp (disch := omega) only [e3, e4, ref01_MakeT1, ref01_MakeT1K, ref01_MakeT2, ref01_MakeT2K, ckB_ix, ckB_inR, ckB_room, ckB_cut, ckB_mk, ckB_ne, bif_lt, bif_nlt, bif_le, bif_nle, bif_eq, bif_neq, bif_ne, bif_nne, bif_not, bif_true', bif_false', bnd_ok, lk_inl, lk_inr, Int.toNat_natCast, decide_true]
  · rw [if_neg h0]
    by_cases h1 : -u < -1073741824
    · rw [if_pos (.inl h1)]
      simp (disch := omega) only [ref01_MakeT1, ref01_MakeT1K, ckB_ix, ckB_inR, ckB_room, ckB_cut, ckB_mk, ckB_ne, bif_lt, bif_nlt, bif_le, bif_nle, bif_eq, bif_neq, bif_ne, bif_nne, bif_not, bif_true', bif_false', bnd_ok, lk_inl, lk_inr, Int.toNat_natCast, decide_true]
    · by_cases h2 : 1073741824 < -u
      · rw [if_pos (.inr (.inl h2))]
        simp (disch := omega) only [ref01_MakeT1, ref01_MakeT1K, ckB_ix, ckB_inR, ckB_room, ckB_cut, ckB_mk, ckB_ne, bif_lt, bif_nlt, bif_le, bif_nle, bif_eq, bif_neq, bif_ne, bif_nne, bif_not, bif_true', bif_false', bnd_ok, lk_inl, lk_inr, Int.toNat_natCast, decide_true]
      · by_cases h3 : 1073741824 < -v
        · rw [if_pos (.inr (.inr h3))]
          simp (disch := omega) only [ref01_MakeT1, ref01_MakeT1K, ckB_ix, ckB_inR, ckB_room, ckB_cut, ckB_mk, ckB_ne, bif_lt, bif_nlt, bif_le, bif_nle, bif_eq, bif_neq, bif_ne, bif_nne, bif_not, bif_true', bif_false', bnd_ok, lk_inl, lk_inr, Int.toNat_natCast, decide_true]
        · rw [if_neg (by omega)]
          simp (disch := omega) only [ref01_MakeT1, ref01_MakeT1K, ref01_MakeT2, ref01_MakeT2K, ckB_ix, ckB_inR, ckB_room, ckB_cut, ckB_mk, ckB_ne, bif_lt, bif_nlt, bif_le, bif_nle, bif_eq, bif_neq, bif_ne, bif_nne, bif_not, bif_true', bif_false', bnd_ok, lk_inl, lk_inr, Int.toNat_natCast, decide_true]

theorem refMk_eq {num den G u v : Int} (hG : 0 < G) (hn : num = G * u) (hd : den = G * v) (hv : v ≠ 0) (hn0 : -9223372036854775807 ≤ num) (hn1 : num ≤ 9223372036854775807) (hd0 : -9223372036854775807 ≤ den) (hd1 : den ≤ 9223372036854775807) (hg : gI (-(num.natAbs : Int)) (-(den.natAbs : Int)) = -G) : ref01_Make num den = some (mkS u v) := by
  have hden : den ≠ 0 := by
    intro e
    rw [hd] at e
    rcases Int.mul_eq_zero.1 e with e | e <;> omega
  have h3 := refT3_eq hG hn hd hv hn0 hn1 hd0 hd1 hg
  have h4 : ref01_MakeT4 num den (-(num.natAbs : Int)) 0 0 = some (.inr (mkS u v)) := by
    unfold ref01_MakeT4 ref01_MakeT4K
    by_cases h : 0 < den
    · have e : 0 - den = -(den.natAbs : Int) := by omega
      rw [← e] at h3
      simp (disch := omega) only [h3, ckB_ix, ckB_inR, ckB_room, ckB_cut, ckB_mk, ckB_ne, bif_lt, bif_nlt, bif_le, bif_nle, bif_eq, bif_neq, bif_ne, bif_nne, bif_not, bif_true', bif_false', bnd_ok, lk_inl, lk_inr, Int.toNat_natCast, decide_true]
    · have e : den = -(den.natAbs : Int) := by omega
      rw [← e] at h3
      simp (disch := omega) only [h3, ckB_ix, ckB_inR, ckB_room, ckB_cut, ckB_mk, ckB_ne, bif_lt, bif_nlt, bif_le, bif_nle, bif_eq, bif_neq, bif_ne, bif_nne, bif_not, bif_true', bif_false', bnd_ok, lk_inl, lk_inr, Int.toNat_natCast, decide_true]
  unfold ref01_Make
  by_cases h : 0 < num
  · have e : 0 - num = -(num.natAbs : Int) := by omega
    rw [← e] at h4
    simp (disch := omega) only [h4, ckB_ix, ckB_inR, ckB_room, ckB_cut, ckB_mk, ckB_ne, bif_lt, bif_nlt, bif_le, bif_nle, bif_eq, bif_neq, bif_ne, bif_nne, bif_not, bif_true', bif_false', bnd_ok, lk_inl, lk_inr, Int.toNat_natCast, decide_true]
  · have e : num = -(num.natAbs : Int) := by omega
    rw [← e] at h4
    simp (disch := omega) only [h4, ckB_ix, ckB_inR, ckB_room, ckB_cut, ckB_mk, ckB_ne, bif_lt, bif_nlt, bif_le, bif_nle, bif_eq, bif_neq, bif_ne, bif_nne, bif_not, bif_true', bif_false', bnd_ok, lk_inl, lk_inr, Int.toNat_natCast, decide_true]

/-- Fractions in lowest terms. -/
structure NF (f : Frac) : Prop where
  n0 : -1073741824 ≤ f.1
  n1 : f.1 ≤ 1073741824
  d0 : 1 ≤ f.2.1
  d1 : f.2.1 ≤ 1073741824
  co : Nat.gcd f.1.natAbs f.2.1.natAbs = 1

theorem mkV_nf {n d : Int} (hd : 0 < d) (hc : Nat.gcd n.natAbs d.natAbs = 1) : (mkV n d = ((0, 0, ()), 6) ∧ (n < -1073741824 ∨ 1073741824 < n ∨ 1073741824 < d)) ∨ (mkV n d = ((n, d, ()), 0) ∧ NF (n, d, ())) := by
  unfold mkV
  by_cases h : n < -1073741824 ∨ 1073741824 < n ∨ 1073741824 < d
  · rw [if_pos h]
    exact .inl ⟨rfl, h⟩
  · rw [if_neg h]
    exact .inr ⟨rfl, by show -1073741824 ≤ n; omega, by show n ≤ 1073741824; omega, by show 1 ≤ d; omega, by show d ≤ 1073741824; omega, hc⟩

theorem make_both {num den : Int} (hn0 : -9223372036854775807 ≤ num) (hn1 : num ≤ 9223372036854775807) (hd0 : -9223372036854775807 ≤ den) (hd1 : den ≤ 9223372036854775807) (hd : den ≠ 0) :
    ∃ r, frac_Make num den = some r ∧ ref01_Make num den = some r ∧ ((r.2 = 6 ∧ ¬ (-1073741824 ≤ num ∧ num ≤ 1073741824 ∧ -1073741824 ≤ den ∧ den ≤ 1073741824)) ∨ (r.2 = 0 ∧ NF r.1 ∧ r.1.1 * den = num * r.1.2.1)) := by
  obtain ⟨G, u, v, hG, hu, hv, hc, hv0, hg1, hg2⟩ := gcd_split num den hd
  refine ⟨mkS u v, mkS_make hG hu hv hv0 hn0 hn1 hd0 hd1 hg1, refMk_eq hG hu hv hv0 hn0 hn1 hd0 hd1 hg2, ?_⟩
  have hlt : ∀ x : Int, x.natAbs ≤ (G * x).natAbs := fun x => by
    rw [Int.natAbs_mul]
    exact Nat.le_mul_of_pos_left _ (by omega)
  have hu1 := hlt u
  have hv1 := hlt v
  rw [← hu] at hu1
  rw [← hv] at hv1
  unfold mkS
  split
  · rcases mkV_nf (n := u) (d := v) (by omega) hc with ⟨e, h⟩ | ⟨e, h⟩
    · rw [e]
      exact .inl ⟨rfl, by omega⟩
    · rw [e]
      refine .inr ⟨rfl, h, ?_⟩
      show u * den = num * v
      rw [hu, hv, Int.mul_left_comm, Int.mul_assoc]
  · rcases mkV_nf (n := -u) (d := -v) (by omega) (by rw [Int.natAbs_neg, Int.natAbs_neg]; exact hc) with ⟨e, h⟩ | ⟨e, h⟩
    · rw [e]
      exact .inl ⟨rfl, by omega⟩
    · rw [e]
      refine .inr ⟨rfl, h, ?_⟩
      show -u * den = num * -v
      rw [hu, hv, Int.neg_mul, Int.mul_neg, Int.mul_left_comm, Int.mul_assoc]

theorem nf_eq {a b : Frac} (ha : NF a) (hb : NF b) (h : a.1 * b.2.1 = b.1 * a.2.1) : a.1 = b.1 ∧ a.2.1 = b.2.1 := by
  have h1 : a.2.1.natAbs ∣ b.2.1.natAbs := by
    have h2 : a.2.1.natAbs ∣ a.1.natAbs * b.2.1.natAbs := by
      have := congrArg Int.natAbs h
      rw [Int.natAbs_mul, Int.natAbs_mul] at this
      rw [this]
      exact Nat.dvd_mul_left _ _
    exact Nat.Coprime.dvd_of_dvd_mul_left (Nat.coprime_comm.1 ha.co) h2
  have h3 : b.2.1.natAbs ∣ a.2.1.natAbs := by
    have h2 : b.2.1.natAbs ∣ b.1.natAbs * a.2.1.natAbs := by
      have := congrArg Int.natAbs h
      rw [Int.natAbs_mul, Int.natAbs_mul] at this
      rw [← this]
      exact Nat.dvd_mul_left _ _
    exact Nat.Coprime.dvd_of_dvd_mul_left (Nat.coprime_comm.1 hb.co) h2
  have h4 := Nat.dvd_antisymm h1 h3
  have ha0 := ha.d0
  have hb0 := hb.d0
  have h5 : a.2.1 = b.2.1 := by omega
  refine ⟨?_, h5⟩
  rw [h5] at h
  exact Int.eq_of_mul_eq_mul_right (by omega) h

theorem valid_nf {f : Frac} (h : NF f) : ref01_Valid f = some true := by
  have h0 := h.n0
  have h1 := h.n1
  have h2 := h.d0
  have h3 := h.d1
  obtain ⟨r, _, hr, hp⟩ := make_both (num := f.1) (den := f.2.1) (by omega) (by omega) (by omega) (by omega) (by omega)
  rcases hp with ⟨_, hp⟩ | ⟨_, hp, he⟩
  · exact absurd ⟨h0, h1, by omega, h3⟩ hp
  · obtain ⟨e1, e2⟩ := nf_eq hp h he
    unfold ref01_Valid
    simp (disch := omega) only [hr, e1, e2, ckB_ix, ckB_inR, ckB_room, ckB_cut, ckB_mk, ckB_ne, bif_lt, bif_nlt, bif_le, bif_nle, bif_eq, bif_neq, bif_ne, bif_nne, bif_not, bif_true', bif_false', bnd_ok, lk_inl, lk_inr, Int.toNat_natCast, decide_true]
    rfl
theorem nf_of {n : Int} (h0 : -1073741824 ≤ n) (h1 : n ≤ 1073741824) : NF (n, 1, ()) := ⟨h0, h1, by show (1 : Int) ≤ 1; omega, by show (1 : Int) ≤ 1073741824; omega, by show Nat.gcd _ 1 = 1; simp⟩

/-- A product and a sum. -/
theorem mul_nf {a b : Frac} (ha : NF a) (hb : NF b) : ∃ r, ref01_Mul a b = some r ∧ (r.2 = 6 ∨ (r.2 = 0 ∧ NF r.1 ∧ r.1.1 * (a.2.1 * b.2.1) = a.1 * b.1 * r.1.2.1)) := by
  have h1 := mul_bound (a := 1073741824) (b := 1073741824) ⟨ha.n0, ha.n1⟩ ⟨hb.n0, hb.n1⟩
  have a0 := ha.d0
  have a1 := ha.d1
  have b0 := hb.d0
  have b1 := hb.d1
  have h2 := mul_bound (a := 1073741824) (b := 1073741824) (x := a.2.1) (y := b.2.1) ⟨by omega, a1⟩ ⟨by omega, b1⟩
  have h3 : 0 < a.2.1 * b.2.1 := Int.mul_pos (by omega) (by omega)
  obtain ⟨r, _, hr, hp⟩ := make_both (num := a.1 * b.1) (den := a.2.1 * b.2.1) (by omega) (by omega) (by omega) (by omega) (by omega)
  refine ⟨r, ?_, ?_⟩
  · unfold ref01_Mul
    simp (disch := omega) only [valid_nf ha, valid_nf hb, Bool.not_true, hr, ckB_ix, ckB_inR, ckB_room, ckB_cut, ckB_mk, ckB_ne, bif_lt, bif_nlt, bif_le, bif_nle, bif_eq, bif_neq, bif_ne, bif_nne, bif_not, bif_true', bif_false', bnd_ok, lk_inl, lk_inr, Int.toNat_natCast, decide_true]
  · rcases hp with ⟨h, _⟩ | h
    · exact .inl h
    · exact .inr h
theorem add_nf {a b : Frac} (ha : NF a) (hb : NF b) : ∃ r, ref01_Add a b = some r ∧ (r.2 = 6 ∨ (r.2 = 0 ∧ NF r.1 ∧ r.1.1 * (a.2.1 * b.2.1) = (a.1 * b.2.1 + b.1 * a.2.1) * r.1.2.1)) := by
  have a0 := ha.d0
  have a1 := ha.d1
  have b0 := hb.d0
  have b1 := hb.d1
  have h1 := mul_bound (a := 1073741824) (b := 1073741824) (x := a.1) (y := b.2.1) ⟨ha.n0, ha.n1⟩ ⟨by omega, b1⟩
  have h1' := mul_bound (a := 1073741824) (b := 1073741824) (x := b.1) (y := a.2.1) ⟨hb.n0, hb.n1⟩ ⟨by omega, a1⟩
  have h2 := mul_bound (a := 1073741824) (b := 1073741824) (x := a.2.1) (y := b.2.1) ⟨by omega, a1⟩ ⟨by omega, b1⟩
  have h3 : 0 < a.2.1 * b.2.1 := Int.mul_pos (by omega) (by omega)
  obtain ⟨r, _, hr, hp⟩ := make_both (num := a.1 * b.2.1 + b.1 * a.2.1) (den := a.2.1 * b.2.1) (by omega) (by omega) (by omega) (by omega) (by omega)
  refine ⟨r, ?_, ?_⟩
  · unfold ref01_Add
    simp (disch := omega) only [valid_nf ha, valid_nf hb, Bool.not_true, hr, ckB_ix, ckB_inR, ckB_room, ckB_cut, ckB_mk, ckB_ne, bif_lt, bif_nlt, bif_le, bif_nle, bif_eq, bif_neq, bif_ne, bif_nne, bif_not, bif_true', bif_false', bnd_ok, lk_inl, lk_inr, Int.toNat_natCast, decide_true]
  · rcases hp with ⟨h, _⟩ | h
    · exact .inl h
    · exact .inr h
end Go.Proofs.Ytjjhanfglelldaa
