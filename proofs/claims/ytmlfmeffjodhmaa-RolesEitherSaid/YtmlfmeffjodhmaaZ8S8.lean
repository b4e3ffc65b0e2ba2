/-
  Roles: the program's blocking set.
-/
import Derived.Test.YtmlfmeffjodhmaaZ8S7
set_option linter.all false
namespace Go.Proofs.Ytmlfmeffjodhmaa
open Go.K Go.M
theorem bit_or (a b : Nat) (ha : a < 4096) (hb : b < 4096) : bitI .or .u64 (a : Int) (b : Int) = ((a ||| b : Nat) : Int) := by
  have e : ∀ m : Nat, BitVec.ofInt 64 (m : Int) = BitVec.ofNat 64 m := by
    intro m
    apply BitVec.eq_of_toNat_eq
    simp [BitVec.toNat_ofInt]
  have hlt : a ||| b < 2 ^ 12 := Nat.or_lt_two_pow ha hb
  unfold bitI
  simp only []
  rw [show IntKind.u64.bits = 64 from rfl, e, e, BitVec.toNat_or, BitVec.toNat_ofNat, BitVec.toNat_ofNat, Nat.mod_eq_of_lt (by omega), Nat.mod_eq_of_lt (by omega)]
  generalize a ||| b = q at hlt
  simp [IntKind.wrap, IntKind.bits, IntKind.signed]
  omega
def orN (bs : List Nat) (s : Nat) : Nat → Nat
  | 0 => 0
  | i + 1 => if elB s i = true then orN bs s i ||| bs.getD i 0 else orN bs s i
theorem orN_lt (bs : List Nat) (hbs : ∀ i, bs.getD i 0 < 4096) (s : Nat) : ∀ i, orN bs s i < 4096
  | 0 => by simp [orN]
  | i + 1 => by
    have ih := orN_lt bs hbs s i
    rw [orN]
    split
    · exact Nat.or_lt_two_pow (n := 12) ih (hbs i)
    · exact ih
theorem ints_at (bs : List Nat) (i : Nat) : (ints bs).getD i 0 = ((bs.getD i 0 : Nat) : Int) := by
  simp only [ints, List.getD_eq_getElem?_getD, List.getElem?_map]
  cases bs[i]? <;> rfl
theorem blockL0_eq (bs : List Nat) (hbs : ∀ i, bs.getD i 0 < 4096) (hn : bs.length ≤ 12) (s : Nat) (best : List Int) : roles_BlockingL0 (ints bs) (s : Int) ((ints bs).length : Int) best (0, 0, []) = some (.inl ((orN bs s bs.length : Int), ints (elems s bs.length))) := by
  have hl : (ints bs).length = bs.length := List.length_map _
  rw [hl]
  have hloop : ∃ o, roles_BlockingL0 (ints bs) (s : Int) (bs.length : Int) best (0, 0, []) = some o ∧ o = .inl ((orN bs s bs.length : Int), ints (elems s bs.length)) := by
    refine loop_inv (fun (st : Int × Int × List Int) => ∃ i : Nat, i ≤ bs.length ∧ st = ((orN bs s i : Int), (i : Int), ints (elems s i))) (fun st => ((bs.length : Int) - st.2.1).toNat) (fun (o : (Int × List Int) ⊕ (Int × List Int)) => o = .inl ((orN bs s bs.length : Int), ints (elems s bs.length))) _ ⟨0, by omega, rfl⟩ (by show ((bs.length : Int) - 0).toNat < many; unfold many; omega) ?_
    rintro _ ⟨i, hi, rfl⟩
    by_cases h : i < bs.length
    · have hb := bitI_one s i (by omega)
      have hlen : (ints (elems s i)).length ≤ 12 := by
        simp only [ints, List.length_map, elems]
        have := List.length_filter_le (elB s) (List.range i)
        simp only [List.length_range] at this
        omega
      refine ⟨.next ((orN bs s (i + 1) : Int), ((i + 1 : Nat) : Int), ints (elems s (i + 1))), ?_, ⟨i + 1, by omega, rfl⟩, by show ((bs.length : Int) - ((i + 1 : Nat) : Int)).toNat < ((bs.length : Int) - (i : Int)).toNat; omega⟩
      rw [elems_succ, orN]
      cases he : elB s i with
      | true =>
        rw [he] at hb
        have ho := bit_or _ _ (orN_lt bs hbs s i) (hbs i)
        rw [← ints_at] at ho
        simp only [roles_BlockingL0K, hb, Int.toNat_natCast, ho, hl]
        simp (disch := omega) only [ckB_ix, ckB_inR, ckB_room, ckB_cut, ckB_mk, ckB_ne, bif_lt, bif_nlt, bif_le, bif_nle, bif_eq, bif_neq, bif_ne, bif_nne, bif_not, bif_true', bif_false', bnd_ok, lk_inl, lk_inr, Int.toNat_natCast, decide_true]
        simp [ints, ckB]
      | false =>
        rw [he] at hb
        simp only [roles_BlockingL0K, hb]
        simp (disch := omega) only [ckB_ix, ckB_inR, ckB_room, ckB_cut, ckB_mk, ckB_ne, bif_lt, bif_nlt, bif_le, bif_nle, bif_eq, bif_neq, bif_ne, bif_nne, bif_not, bif_true', bif_false', bnd_ok, lk_inl, lk_inr, Int.toNat_natCast, decide_true]
        simp [ckB]
    · have e : i = bs.length := by omega
      subst e
      refine ⟨.done ((orN bs s bs.length : Int), ints (elems s bs.length)), ?_, rfl⟩
      simp only [roles_BlockingL0K]
      simp (disch := omega) only [ckB_ix, ckB_inR, ckB_room, ckB_cut, ckB_mk, ckB_ne, bif_lt, bif_nlt, bif_le, bif_nle, bif_eq, bif_neq, bif_ne, bif_nne, bif_not, bif_true', bif_false', bnd_ok, lk_inl, lk_inr, Int.toNat_natCast, decide_true]
  obtain ⟨o, ho, rfl⟩ := hloop
  exact ho
theorem elems_cut {s n : Nat} (h : s < 2 ^ n) : ∀ d, elems s (n + d) = elems s n
  | 0 => rfl
  | d + 1 => by
    rw [show n + (d + 1) = n + d + 1 from rfl, elems_succ, elems_cut h d]
    have : elB s (n + d) = false := by
      unfold elB
      have h1 : s < 2 ^ (n + d) := Nat.lt_of_lt_of_le h (Nat.pow_le_pow_right (by omega) (by omega))
      rw [Nat.div_eq_of_lt h1]
      rfl
    rw [this]
    simp
theorem elems_12 {s n : Nat} (h : s < 2 ^ n) (hn : n ≤ 12) : elems s 12 = elems s n := by
  have := elems_cut h (12 - n)
  rwa [show n + (12 - n) = 12 by omega] at this
def badS (bs : List Nat) (s : Nat) : Bool := decide (pc (orN bs s bs.length) < (elems s 12).length)
theorem blockL1_eq (bs : List Nat) (hbs : ∀ i, bs.getD i 0 < 4096) (hn : bs.length ≤ 12) : roles_BlockingL1 (ints bs) (1, []) = some (.inl (bestN (badS bs) (2 ^ bs.length - 1))) := by
  have hp := pow12 hn
  have hpos : 0 < 2 ^ bs.length := Nat.two_pow_pos _
  have hl : (ints bs).length = bs.length := List.length_map _
  have hloop : ∃ o, roles_BlockingL1 (ints bs) (1, []) = some o ∧ o = .inl (bestN (badS bs) (2 ^ bs.length - 1)) := by
    refine loop_inv (fun (st : Int × List Int) => ∃ m : Nat, m < 2 ^ bs.length ∧ st = (((m + 1 : Nat) : Int), bestN (badS bs) m)) (fun st => ((2 ^ bs.length : Nat) - st.1).toNat) (fun (o : (List Int) ⊕ (Int × List Int)) => o = .inl (bestN (badS bs) (2 ^ bs.length - 1))) _ ⟨0, hpos, rfl⟩ (by show (((2 ^ bs.length : Nat) : Int) - 1).toNat < many; unfold many; omega) ?_
    rintro _ ⟨m, hm, rfl⟩
    by_cases h : m + 1 < 2 ^ bs.length
    · refine ⟨.next (((m + 1 + 1 : Nat) : Int), bestN (badS bs) (m + 1)), ?_, ⟨m + 1, h, rfl⟩, by show (((2 ^ bs.length : Nat) : Int) - ((m + 1 + 1 : Nat) : Int)).toNat < (((2 ^ bs.length : Nat) : Int) - ((m + 1 : Nat) : Int)).toNat; omega⟩
      have h1 := blockL0_eq bs hbs hn (m + 1) (bestN (badS bs) m)
      rw [← elems_12 h hn, hl] at h1
      have h2 := ones_eq _ (orN_lt bs hbs (m + 1) bs.length)
      have hlen : (ints (elems (m + 1) 12)).length ≤ 12 := by
        simp only [ints, List.length_map, elems]
        have := List.length_filter_le (elB (m + 1)) (List.range 12)
        simpa using this
      have hll : (ints (elems (m + 1) 12)).length = (elems (m + 1) 12).length := List.length_map _
      have hd1 : decide ((((m + 1 : Nat)) : Int) < ((2 ^ bs.length : Nat) : Int)) = true := decide_eq_true (by omega)
      simp only [roles_BlockingL1K, hl, shl_one hn, hd1, h1, h2, bnd_ok, lk_inl]
      generalize hq : 2 ^ bs.length = q at *
      have hb : decide (((ints (elems (m + 1) 12)).length : Int) ≤ (pc (orN bs (m + 1) bs.length) : Int)) = !badS bs (m + 1) := by
        unfold badS
        rw [hll]
        by_cases hc : pc (orN bs (m + 1) bs.length) < (elems (m + 1) 12).length
        · rw [decide_eq_true hc, decide_eq_false (by omega)]; rfl
        · rw [decide_eq_false hc, decide_eq_true (by omega)]; rfl
      rw [hb, bestN]
      cases hbad : badS bs (m + 1) with
      | false => simp (disch := omega) only [ckB_ix, ckB_inR, ckB_room, ckB_cut, ckB_mk, ckB_ne, bif_lt, bif_nlt, bif_le, bif_nle, bif_eq, bif_neq, bif_ne, bif_nne, bif_not, bif_true', bif_false', bnd_ok, lk_inl, lk_inr, Int.toNat_natCast, decide_true]; simp [ckB]
      | true =>
        by_cases he : bestN (badS bs) m = []
        · rw [if_pos ⟨rfl, .inl he⟩, he]
          simp (disch := omega) only [ckB_ix, ckB_inR, ckB_room, ckB_cut, ckB_mk, ckB_ne, bif_lt, bif_nlt, bif_le, bif_nle, bif_eq, bif_neq, bif_ne, bif_nne, bif_not, bif_true', bif_false', bnd_ok, lk_inl, lk_inr, Int.toNat_natCast, decide_true]
          simp [ckB]
        · have he0 : ¬ ((bestN (badS bs) m).length : Int) = 0 := by
            have := List.length_pos_iff.2 he
            omega
          rw [decide_eq_false he0]
          by_cases hlt : (ints (elems (m + 1) 12)).length < (bestN (badS bs) m).length
          · have hfb : firstB (ints (elems (m + 1) 12)) (bestN (badS bs) m) = true := by
              unfold firstB
              rw [if_neg (by omega)]
              exact decide_eq_true hlt
            have d1 : decide (((ints (elems (m + 1) 12)).length : Int) < ((bestN (badS bs) m).length : Int)) = true := decide_eq_true (by omega)
            rw [if_pos ⟨rfl, .inr hfb⟩, d1]
            simp (disch := omega) only [ckB_ix, ckB_inR, ckB_room, ckB_cut, ckB_mk, ckB_ne, bif_lt, bif_nlt, bif_le, bif_nle, bif_eq, bif_neq, bif_ne, bif_nne, bif_not, bif_true', bif_false', bnd_ok, lk_inl, lk_inr, Int.toNat_natCast, decide_true]
            simp [ckB]
          · by_cases heq : (ints (elems (m + 1) 12)).length = (bestN (badS bs) m).length
            · obtain ⟨r, hr, hrb⟩ := compare_eq _ _ heq (by omega)
              have hfb : firstB (ints (elems (m + 1) 12)) (bestN (badS bs) m) = decide (r < 0) := by
                unfold firstB
                rw [if_pos heq, hrb]
              have d1 : decide (((ints (elems (m + 1) 12)).length : Int) < ((bestN (badS bs) m).length : Int)) = false := decide_eq_false (by omega)
              have d2 : decide (((ints (elems (m + 1) 12)).length : Int) = ((bestN (badS bs) m).length : Int)) = true := decide_eq_true (by omega)
              rw [d1, d2, hr, bnd_ok, hfb]
              cases hd : decide (r < 0) with
              | true =>
                rw [if_pos ⟨rfl, .inr rfl⟩]
                simp (disch := omega) only [ckB_ix, ckB_inR, ckB_room, ckB_cut, ckB_mk, ckB_ne, bif_lt, bif_nlt, bif_le, bif_nle, bif_eq, bif_neq, bif_ne, bif_nne, bif_not, bif_true', bif_false', bnd_ok, lk_inl, lk_inr, Int.toNat_natCast, decide_true]
                simp [ckB]
              | false =>
                rw [if_neg (by simp [he])]
                simp (disch := omega) only [ckB_ix, ckB_inR, ckB_room, ckB_cut, ckB_mk, ckB_ne, bif_lt, bif_nlt, bif_le, bif_nle, bif_eq, bif_neq, bif_ne, bif_nne, bif_not, bif_true', bif_false', bnd_ok, lk_inl, lk_inr, Int.toNat_natCast, decide_true]
                simp [ckB]
            · have hfb : firstB (ints (elems (m + 1) 12)) (bestN (badS bs) m) = false := by
                unfold firstB
                rw [if_neg heq]
                exact decide_eq_false hlt
              have d1 : decide (((ints (elems (m + 1) 12)).length : Int) < ((bestN (badS bs) m).length : Int)) = false := decide_eq_false (by omega)
              have d2 : decide (((ints (elems (m + 1) 12)).length : Int) = ((bestN (badS bs) m).length : Int)) = false := decide_eq_false (by omega)
              rw [d1, d2, if_neg (by simp [he, hfb])]
              simp (disch := omega) only [ckB_ix, ckB_inR, ckB_room, ckB_cut, ckB_mk, ckB_ne, bif_lt, bif_nlt, bif_le, bif_nle, bif_eq, bif_neq, bif_ne, bif_nne, bif_not, bif_true', bif_false', bnd_ok, lk_inl, lk_inr, Int.toNat_natCast, decide_true]
              simp [ckB]
    · have e : m = 2 ^ bs.length - 1 := by omega
      subst e
      refine ⟨.done (bestN (badS bs) (2 ^ bs.length - 1)), ?_, rfl⟩
      have hd1 : decide ((((2 ^ bs.length - 1 + 1 : Nat)) : Int) < ((2 ^ bs.length : Nat) : Int)) = false := decide_eq_false (by omega)
      simp only [roles_BlockingL1K, hl, shl_one hn, hd1]
      simp (disch := omega) only [ckB_ix, ckB_inR, ckB_room, ckB_cut, ckB_mk, ckB_ne, bif_lt, bif_nlt, bif_le, bif_nle, bif_eq, bif_neq, bif_ne, bif_nne, bif_not, bif_true', bif_false', bnd_ok, lk_inl, lk_inr, Int.toNat_natCast, decide_true]
      rw [decide_eq_true (by omega)]
      rfl
  obtain ⟨o, ho, rfl⟩ := hloop
  exact ho
end Go.Proofs.Ytmlfmeffjodhmaa
