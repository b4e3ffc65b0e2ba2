/-
  Proper lists, equal lists, the service in a calendar: program and reference agree; SimulateCalendars returns true.
-/
import Derived.Test.YtocpeankecaabaaC2
set_option linter.all false
namespace Go.Proofs.Ytocpeankecaabaa
open Go.Abs Go.T Go.M

def pAt (l : List Customer) (i : Nat) : Bool :=
  (decide (0 ≤ (l.getD i Customer.z).1) && decide ((l.getD i Customer.z).1 ≤ 1099511627776) && decide (0 ≤ (l.getD i Customer.z).2.1) && decide ((l.getD i Customer.z).2.1 ≤ 1099511627776)) && (decide (i = 0) || decide ((l.getD (i - 1) Customer.z).1 ≤ (l.getD i Customer.z).1))
def properB (l : List Customer) : Bool := decide (l.length ≤ 1000) && (List.range l.length).all (pAt l)

theorem pAt_true {l : List Customer} {i : Nat} (h : pAt l i = true) : 0 ≤ (l.getD i Customer.z).1 ∧ (l.getD i Customer.z).1 ≤ 1099511627776 ∧ 0 ≤ (l.getD i Customer.z).2.1 ∧ (l.getD i Customer.z).2.1 ≤ 1099511627776 ∧ (i = 0 ∨ (l.getD (i - 1) Customer.z).1 ≤ (l.getD i Customer.z).1) := by
  simpa [pAt, and_assoc] using h
theorem pAt_false {l : List Customer} {i : Nat} (h : pAt l i = false) : (l.getD i Customer.z).1 < 0 ∨ 1099511627776 < (l.getD i Customer.z).1 ∨ (l.getD i Customer.z).2.1 < 0 ∨ 1099511627776 < (l.getD i Customer.z).2.1 ∨ (i ≠ 0 ∧ (l.getD i Customer.z).1 < (l.getD (i - 1) Customer.z).1) := by
  refine Classical.byContradiction fun hn => ?_
  have : pAt l i = true := by
    simp only [pAt, Bool.and_eq_true, decide_eq_true_eq, Bool.or_eq_true]
    by_cases h0 : i = 0
    · refine ⟨⟨⟨⟨?_, ?_⟩, ?_⟩, ?_⟩, .inl h0⟩ <;> omega
    · refine ⟨⟨⟨⟨?_, ?_⟩, ?_⟩, ?_⟩, .inr ?_⟩ <;> omega
  rw [h] at this
  cases this

theorem simulate_proper_eq (l : List Customer) (hl : l.length ≤ 9223372036854775807) : simulate_proper l = some (properB l) := by
  unfold simulate_proper properB
  have hloop : simulate_properL0 l l (l.length : Int) 0 = some (bif (List.range l.length).all (pAt l) then .inl () else .inr false) := by
    refine loop_all (fun i : Nat => (i : Int)) l.length (many_of hl) (pAt l) () false ?_ ?_ ?_
    · intro i hi hp
      obtain ⟨h1, h2, h3, h4, h5⟩ := pAt_true hp
      by_cases h0 : i = 0
      · simp (disch := omega) only [simulate_properL0K, toNat_pred, ckB_ix, ckB_inR, ckB_room, ckB_cut, ckB_mk, ckB_ne, bif_lt, bif_nlt, bif_le, bif_nle, bif_eq, bif_neq, bif_ne, bif_nne, bif_not, bif_true', bif_false', bnd_ok, lk_inl, lk_inr, Int.toNat_natCast]
        rw [cast_succ]
      · simp (disch := omega) only [simulate_properL0K, toNat_pred, ckB_ix, ckB_inR, ckB_room, ckB_cut, ckB_mk, ckB_ne, bif_lt, bif_nlt, bif_le, bif_nle, bif_eq, bif_neq, bif_ne, bif_nne, bif_not, bif_true', bif_false', bnd_ok, lk_inl, lk_inr, Int.toNat_natCast]
        rw [cast_succ]
    · intro i hi hp
      have h := pAt_false hp
      by_cases h1 : (l.getD i Customer.z).1 < 0
      · simp (disch := omega) only [simulate_properL0K, ckB_ix, ckB_inR, ckB_room, ckB_cut, ckB_mk, ckB_ne, bif_lt, bif_nlt, bif_le, bif_nle, bif_eq, bif_neq, bif_ne, bif_nne, bif_not, bif_true', bif_false', bnd_ok, lk_inl, lk_inr, Int.toNat_natCast]
      by_cases h2 : 1099511627776 < (l.getD i Customer.z).1
      · simp (disch := omega) only [simulate_properL0K, ckB_ix, ckB_inR, ckB_room, ckB_cut, ckB_mk, ckB_ne, bif_lt, bif_nlt, bif_le, bif_nle, bif_eq, bif_neq, bif_ne, bif_nne, bif_not, bif_true', bif_false', bnd_ok, lk_inl, lk_inr, Int.toNat_natCast]
      by_cases h3 : (l.getD i Customer.z).2.1 < 0
      · simp (disch := omega) only [simulate_properL0K, ckB_ix, ckB_inR, ckB_room, ckB_cut, ckB_mk, ckB_ne, bif_lt, bif_nlt, bif_le, bif_nle, bif_eq, bif_neq, bif_ne, bif_nne, bif_not, bif_true', bif_false', bnd_ok, lk_inl, lk_inr, Int.toNat_natCast]
      by_cases h4 : 1099511627776 < (l.getD i Customer.z).2.1
      · simp (disch := omega) only [simulate_properL0K, ckB_ix, ckB_inR, ckB_room, ckB_cut, ckB_mk, ckB_ne, bif_lt, bif_nlt, bif_le, bif_nle, bif_eq, bif_neq, bif_ne, bif_nne, bif_not, bif_true', bif_false', bnd_ok, lk_inl, lk_inr, Int.toNat_natCast]
      · simp (disch := omega) only [simulate_properL0K, toNat_pred, ckB_ix, ckB_inR, ckB_room, ckB_cut, ckB_mk, ckB_ne, bif_lt, bif_nlt, bif_le, bif_nle, bif_eq, bif_neq, bif_ne, bif_nne, bif_not, bif_true', bif_false', bnd_ok, lk_inl, lk_inr, Int.toNat_natCast]
    · simp (disch := omega) only [simulate_properL0K, ckB_ix, ckB_inR, ckB_room, ckB_cut, ckB_mk, ckB_ne, bif_lt, bif_nlt, bif_le, bif_nle, bif_eq, bif_neq, bif_ne, bif_nne, bif_not, bif_true', bif_false', bnd_ok, lk_inl, lk_inr, Int.toNat_natCast]
  rw [hloop]
  cases (List.range l.length).all (pAt l)
  · simp
  · simp
    omega

theorem ref53_Proper_eq (l : List Customer) (hl : l.length ≤ 9223372036854775807) : ref53_Proper l = some (properB l) := by
  unfold ref53_Proper properB
  by_cases hlen : l.length ≤ 1000
  · have hloop : ref53_ProperL0 l 0 = some (bif (List.range l.length).all (pAt l) then .inl () else .inr false) := by
      refine loop_all (fun i : Nat => (i : Int)) l.length (many_of hl) (pAt l) () false ?_ ?_ ?_
      · intro i hi hp
        obtain ⟨h1, h2, h3, h4, h5⟩ := pAt_true hp
        by_cases h0 : i = 0
        · simp (disch := omega) only [ref53_ProperL0K, toNat_pred, ckB_ix, ckB_inR, ckB_room, ckB_cut, ckB_mk, ckB_ne, bif_lt, bif_nlt, bif_le, bif_nle, bif_eq, bif_neq, bif_ne, bif_nne, bif_not, bif_true', bif_false', bnd_ok, lk_inl, lk_inr, Int.toNat_natCast]
          rw [cast_succ]
        · simp (disch := omega) only [ref53_ProperL0K, toNat_pred, ckB_ix, ckB_inR, ckB_room, ckB_cut, ckB_mk, ckB_ne, bif_lt, bif_nlt, bif_le, bif_nle, bif_eq, bif_neq, bif_ne, bif_nne, bif_not, bif_true', bif_false', bnd_ok, lk_inl, lk_inr, Int.toNat_natCast]
          rw [cast_succ]
      · intro i hi hp
        have h := pAt_false hp
        by_cases h1 : (l.getD i Customer.z).1 < 0
        · simp (disch := omega) only [ref53_ProperL0K, ckB_ix, ckB_inR, ckB_room, ckB_cut, ckB_mk, ckB_ne, bif_lt, bif_nlt, bif_le, bif_nle, bif_eq, bif_neq, bif_ne, bif_nne, bif_not, bif_true', bif_false', bnd_ok, lk_inl, lk_inr, Int.toNat_natCast]
        by_cases h2 : 1099511627776 < (l.getD i Customer.z).1
        · simp (disch := omega) only [ref53_ProperL0K, ckB_ix, ckB_inR, ckB_room, ckB_cut, ckB_mk, ckB_ne, bif_lt, bif_nlt, bif_le, bif_nle, bif_eq, bif_neq, bif_ne, bif_nne, bif_not, bif_true', bif_false', bnd_ok, lk_inl, lk_inr, Int.toNat_natCast]
        by_cases h3 : (l.getD i Customer.z).2.1 < 0
        · simp (disch := omega) only [ref53_ProperL0K, ckB_ix, ckB_inR, ckB_room, ckB_cut, ckB_mk, ckB_ne, bif_lt, bif_nlt, bif_le, bif_nle, bif_eq, bif_neq, bif_ne, bif_nne, bif_not, bif_true', bif_false', bnd_ok, lk_inl, lk_inr, Int.toNat_natCast]
        by_cases h4 : 1099511627776 < (l.getD i Customer.z).2.1
        · simp (disch := omega) only [ref53_ProperL0K, ckB_ix, ckB_inR, ckB_room, ckB_cut, ckB_mk, ckB_ne, bif_lt, bif_nlt, bif_le, bif_nle, bif_eq, bif_neq, bif_ne, bif_nne, bif_not, bif_true', bif_false', bnd_ok, lk_inl, lk_inr, Int.toNat_natCast]
        · simp (disch := omega) only [ref53_ProperL0K, toNat_pred, ckB_ix, ckB_inR, ckB_room, ckB_cut, ckB_mk, ckB_ne, bif_lt, bif_nlt, bif_le, bif_nle, bif_eq, bif_neq, bif_ne, bif_nne, bif_not, bif_true', bif_false', bnd_ok, lk_inl, lk_inr, Int.toNat_natCast]
      · simp (disch := omega) only [ref53_ProperL0K, ckB_ix, ckB_inR, ckB_room, ckB_cut, ckB_mk, ckB_ne, bif_lt, bif_nlt, bif_le, bif_nle, bif_eq, bif_neq, bif_ne, bif_nne, bif_not, bif_true', bif_false', bnd_ok, lk_inl, lk_inr, Int.toNat_natCast]
    simp (disch := omega) only [ckB_ix, ckB_inR, ckB_room, ckB_cut, ckB_mk, ckB_ne, bif_lt, bif_nlt, bif_le, bif_nle, bif_eq, bif_neq, bif_ne, bif_nne, bif_not, bif_true', bif_false', bnd_ok, lk_inl, lk_inr, Int.toNat_natCast]
    rw [hloop]
    cases (List.range l.length).all (pAt l) <;> simp [hlen]
  · simp (disch := omega) only [ckB_ix, ckB_inR, ckB_room, ckB_cut, ckB_mk, ckB_ne, bif_lt, bif_nlt, bif_le, bif_nle, bif_eq, bif_neq, bif_ne, bif_nne, bif_not, bif_true', bif_false', bnd_ok, lk_inl, lk_inr, Int.toNat_natCast]
    simp [hlen]

theorem ref53_Same_self (l : List Customer) (hl : l.length ≤ 9223372036854775807) : ref53_Same l l = some true := by
  unfold ref53_Same
  have hloop : ref53_SameL0 l l 0 = some (.inl ()) := by
    refine loop_to (fun i : Nat => (i : Int)) l.length (many_of hl) () ?_ ?_ _ rfl
    · intro i hi
      simp only [ref53_SameL0K, decide_true, Bool.and_self]
      simp (disch := omega) only [Bool.not_true, ckB_ix, ckB_inR, ckB_room, ckB_cut, ckB_mk, ckB_ne, bif_lt, bif_nlt, bif_le, bif_nle, bif_eq, bif_neq, bif_ne, bif_nne, bif_not, bif_true', bif_false', bnd_ok, lk_inl, lk_inr, Int.toNat_natCast]
      rw [cast_succ]
    · simp (disch := omega) only [ref53_SameL0K, ckB_ix, ckB_inR, ckB_room, ckB_cut, ckB_mk, ckB_ne, bif_lt, bif_nlt, bif_le, bif_nle, bif_eq, bif_neq, bif_ne, bif_nne, bif_not, bif_true', bif_false', bnd_ok, lk_inl, lk_inr, Int.toNat_natCast]
  simp (disch := omega) only [ckB_ix, ckB_inR, ckB_room, ckB_cut, ckB_mk, ckB_ne, bif_lt, bif_nlt, bif_le, bif_nle, bif_eq, bif_neq, bif_ne, bif_nne, bif_not, bif_true', bif_false', bnd_ok, lk_inl, lk_inr, Int.toNat_natCast]
  rw [hloop]
  rfl

theorem simulate_given_eq (l : List Customer) (s : Int) (hl : l.length ≤ 9223372036854775807) (hp : properB l = true) : simulate_given l s = some (if 1 ≤ s ∧ s ≤ 20 then 0 else 2) := by
  unfold simulate_given
  rw [simulate_proper_eq l hl, hp]
  by_cases h1 : s < 1
  · rw [if_neg (by omega)]
    simp (disch := omega) only [ckB_ix, ckB_inR, ckB_room, ckB_cut, ckB_mk, ckB_ne, bif_lt, bif_nlt, bif_le, bif_nle, bif_eq, bif_neq, bif_ne, bif_nne, bif_not, bif_true', bif_false', bnd_ok, lk_inl, lk_inr, Int.toNat_natCast]
  · by_cases h2 : 20 < s
    · rw [if_neg (by omega)]
      simp (disch := omega) only [ckB_ix, ckB_inR, ckB_room, ckB_cut, ckB_mk, ckB_ne, bif_lt, bif_nlt, bif_le, bif_nle, bif_eq, bif_neq, bif_ne, bif_nne, bif_not, bif_true', bif_false', bnd_ok, lk_inl, lk_inr, Int.toNat_natCast]
    · rw [if_pos (by omega)]
      simp (disch := omega) only [ckB_ix, ckB_inR, ckB_room, ckB_cut, ckB_mk, ckB_ne, bif_lt, bif_nlt, bif_le, bif_nle, bif_eq, bif_neq, bif_ne, bif_nne, bif_not, bif_true', bif_false', bnd_ok, lk_inl, lk_inr, Int.toNat_natCast]
theorem ref53_Number_eq (s : Int) : ref53_Number s = some (decide (1 ≤ s ∧ s ≤ 20)) := by
  unfold ref53_Number
  by_cases h1 : 1 ≤ s <;> by_cases h2 : s ≤ 20 <;> simp [h1, h2]

/-- The states of the service: so many are served. -/
def srvInv (l : List Customer) (s : Int × List Int × List Customer) : Prop := ∃ i : Nat, s.1 = i ∧ i ≤ l.length ∧ 0 < s.2.1.length ∧ s.2.1.length ≤ 20 ∧ (∀ j, j < s.2.1.length → 0 ≤ s.2.1.getD j 0 ∧ s.2.1.getD j 0 ≤ 1099511627776) ∧ s.2.2.length = i

theorem properB_at {l : List Customer} (h : properB l = true) : l.length ≤ 1000 ∧ ∀ i, i < l.length → pAt l i = true := by
  simpa [properB] using h

theorem getD_set_int (xs : List Int) (k : Nat) (v : Int) (j : Nat) (hj : j < xs.length) : (xs.set k v).getD j 0 = if k = j then v else xs.getD j 0 := by
  simp only [List.getD_eq_getElem?_getD]
  by_cases h : k = j
  · subst h; rw [List.getElem?_set_self hj, if_pos rfl]; rfl
  · rw [List.getElem?_set_ne h, if_neg h]

theorem serveIn_two (l : List Customer) (c : Calendar) (hp : properB l = true) (hv : validB c.1 = true) (s : Int × List Int × List Customer) (hs : srvInv l s) :
    ∃ o, simulate_serve_45L0 c l (l.length : Int) s = some o ∧ ref53_ServeInL0 l c.1 s = some o ∧ (match o with | .inl x => x.length ≤ 1000 | .inr r => r.1 = []) := by
  obtain ⟨hl, hpi⟩ := properB_at hp
  refine loop_two (step := fun a => simulate_serve_45L0K c l l.length a.1 a.2.1 a.2.2 (fun a' => some (.next a')) (fun e => some (.done e)) (fun r => some (.ret r)))
    (step' := fun a => ref53_ServeInL0K l c.1 a.1 a.2.1 a.2.2 (fun a' => some (.next a')) (fun e => some (.done e)) (fun r => some (.ret r))) (srvInv l) (fun s => l.length - s.1.toNat) (fun o => match o with | .inl x => x.length ≤ 1000 | .inr r => r.1 = []) s hs (many_of (by omega)) ?_
  rintro ⟨_, free, out⟩ ⟨i, rfl, hi, hf0, hf1, hfb, hout⟩
  simp only at hf0 hf1 hfb hout
  by_cases hlt : i < l.length
  · obtain ⟨h1, h2, h3, h4, _⟩ := pAt_true (hpi i hlt)
    obtain ⟨k, ⟨v, hm, hx⟩, hk⟩ := min_index free hf0 (by omega)
    obtain ⟨k', hx', hk'⟩ := ref53_first_eq free hf0 (by omega)
    have hkk := isMin_uniq hk' hk
    subst hkk
    have hkl := hk.1
    have hfk := hfb k' hkl
    have hst : 0 ≤ max (l.getD i Customer.z).1 (free.getD k' 0) ∧ max (l.getD i Customer.z).1 (free.getD k' 0) ≤ 1099511627776 := by omega
    have ha := clock_After_eq c hv hst ⟨h3, h4⟩
    have hab := afterS_bound hv hst ⟨h3, h4⟩
    have hsv : simulate_ServeIn_1 (max (l.getD i Customer.z).1 (free.getD k' 0)) (l.getD i Customer.z).2.1 c = some (afterS c.1 (max (l.getD i Customer.z).1 (free.getD k' 0)) (l.getD i Customer.z).2.1) := by
      unfold simulate_ServeIn_1
      rw [ha]
      rfl
    have hra : ∀ t, t = max (l.getD i Customer.z).1 (free.getD k' 0) → ref03_After (c.1, ()) t (l.getD i Customer.z).2.1 = some (afterS c.1 (max (l.getD i Customer.z).1 (free.getD k' 0)) (l.getD i Customer.z).2.1) := by
      intro t ht
      subst ht
      exact ref03_After_eq (c.1, ()) hv hst ⟨h3, h4⟩
    have hroom : (out.length + 1) * 32 ≤ 140737488355328 := by omega
    generalize hres : afterS c.1 (max (l.getD i Customer.z).1 (free.getD k' 0)) (l.getD i Customer.z).2.1 = res at *
    by_cases he : res.2 = 0
    · refine ⟨.next ((i : Int) + 1, free.set k' res.1, out ++ [((l.getD i Customer.z).1, (l.getD i Customer.z).2.1, max (l.getD i Customer.z).1 (free.getD k' 0), res.1, ())]), ?_, ?_, ⟨i + 1, by simp, hlt, by simpa using hf0, by simpa using hf1, ?_, by simp [hout]⟩, by simp only [Int.toNat_natCast]; omega⟩
      · simp (disch := omega) only [simulate_serve_45L0K, hm, hx, hsv, ckB_ix, ckB_inR, ckB_room, ckB_cut, ckB_mk, ckB_ne, bif_lt, bif_nlt, bif_le, bif_nle, bif_eq, bif_neq, bif_ne, bif_nne, bif_not, bif_true', bif_false', bnd_ok, lk_inl, lk_inr, Int.toNat_natCast]
      · by_cases hc : (l.getD i Customer.z).1 < free.getD k' 0
        · have e1 := hra _ (show free.getD k' 0 = max (l.getD i Customer.z).1 (free.getD k' 0) by omega)
          have e2 : max (l.getD i Customer.z).1 (free.getD k' 0) = free.getD k' 0 := by omega
          rw [e2]
          simp (disch := omega) only [ref53_ServeInL0K, hx', e1, ckB_ix, ckB_inR, ckB_room, ckB_cut, ckB_mk, ckB_ne, bif_lt, bif_nlt, bif_le, bif_nle, bif_eq, bif_neq, bif_ne, bif_nne, bif_not, bif_true', bif_false', bnd_ok, lk_inl, lk_inr, Int.toNat_natCast]
        · have e1 := hra _ (show (l.getD i Customer.z).1 = max (l.getD i Customer.z).1 (free.getD k' 0) by omega)
          have e2 : max (l.getD i Customer.z).1 (free.getD k' 0) = (l.getD i Customer.z).1 := by omega
          rw [e2]
          simp (disch := omega) only [ref53_ServeInL0K, hx', e1, ckB_ix, ckB_inR, ckB_room, ckB_cut, ckB_mk, ckB_ne, bif_lt, bif_nlt, bif_le, bif_nle, bif_eq, bif_neq, bif_ne, bif_nne, bif_not, bif_true', bif_false', bnd_ok, lk_inl, lk_inr, Int.toNat_natCast]
      · intro j hj
        simp only [List.length_set] at hj
        rw [getD_set_int free k' res.1 j hj]
        split
        · exact hab
        · exact hfb j hj
    · refine ⟨.ret ([], res.2), ?_, ?_, rfl⟩
      · simp (disch := omega) only [simulate_serve_45L0K, hm, hx, hsv, ckB_ix, ckB_inR, ckB_room, ckB_cut, ckB_mk, ckB_ne, bif_lt, bif_nlt, bif_le, bif_nle, bif_eq, bif_neq, bif_ne, bif_nne, bif_not, bif_true', bif_false', bnd_ok, lk_inl, lk_inr, Int.toNat_natCast]
      · by_cases hc : (l.getD i Customer.z).1 < free.getD k' 0
        · have e1 := hra _ (show free.getD k' 0 = max (l.getD i Customer.z).1 (free.getD k' 0) by omega)
          simp (disch := omega) only [ref53_ServeInL0K, hx', e1, ckB_ix, ckB_inR, ckB_room, ckB_cut, ckB_mk, ckB_ne, bif_lt, bif_nlt, bif_le, bif_nle, bif_eq, bif_neq, bif_ne, bif_nne, bif_not, bif_true', bif_false', bnd_ok, lk_inl, lk_inr, Int.toNat_natCast]
        · have e1 := hra _ (show (l.getD i Customer.z).1 = max (l.getD i Customer.z).1 (free.getD k' 0) by omega)
          simp (disch := omega) only [ref53_ServeInL0K, hx', e1, ckB_ix, ckB_inR, ckB_room, ckB_cut, ckB_mk, ckB_ne, bif_lt, bif_nlt, bif_le, bif_nle, bif_eq, bif_neq, bif_ne, bif_nne, bif_not, bif_true', bif_false', bnd_ok, lk_inl, lk_inr, Int.toNat_natCast]
  · obtain rfl : i = l.length := by omega
    refine ⟨.done out, ?_, ?_, by simp only; omega⟩
    · simp (disch := omega) only [simulate_serve_45L0K, ckB_ix, ckB_inR, ckB_room, ckB_cut, ckB_mk, ckB_ne, bif_lt, bif_nlt, bif_le, bif_nle, bif_eq, bif_neq, bif_ne, bif_nne, bif_not, bif_true', bif_false', bnd_ok, lk_inl, lk_inr, Int.toNat_natCast]
    · simp (disch := omega) only [ref53_ServeInL0K, ckB_ix, ckB_inR, ckB_room, ckB_cut, ckB_mk, ckB_ne, bif_lt, bif_nlt, bif_le, bif_nle, bif_eq, bif_neq, bif_ne, bif_nne, bif_not, bif_true', bif_false', bnd_ok, lk_inl, lk_inr, Int.toNat_natCast]

theorem serveIn_same (l : List Customer) (s : Int) (c : Calendar) (hl : l.length ≤ 9223372036854775807) (hc : c.1.length ≤ 9223372036854775807) :
    ∃ x, simulate_ServeIn l s c = some x ∧ ref53_ServeIn l s c = some x ∧ x.1.length ≤ 1000 := by
  unfold simulate_ServeIn ref53_ServeIn
  rw [simulate_proper_eq l hl, ref53_Proper_eq l hl]
  cases hp : properB l with
  | false => exact ⟨([], 1), by simp (disch := omega) only [ckB_ix, ckB_inR, ckB_room, ckB_cut, ckB_mk, ckB_ne, bif_lt, bif_nlt, bif_le, bif_nle, bif_eq, bif_neq, bif_ne, bif_nne, bif_not, bif_true', bif_false', bnd_ok, lk_inl, lk_inr, Int.toNat_natCast], by simp (disch := omega) only [ckB_ix, ckB_inR, ckB_room, ckB_cut, ckB_mk, ckB_ne, bif_lt, bif_nlt, bif_le, bif_nle, bif_eq, bif_neq, bif_ne, bif_nne, bif_not, bif_true', bif_false', bnd_ok, lk_inl, lk_inr, Int.toNat_natCast], by simp⟩
  | true =>
    rw [clock_Valid_eq c hc, ref03_Valid_eq c hc]
    cases hv : validB c.1 with
    | false => exact ⟨([], 1), by simp (disch := omega) only [ckB_ix, ckB_inR, ckB_room, ckB_cut, ckB_mk, ckB_ne, bif_lt, bif_nlt, bif_le, bif_nle, bif_eq, bif_neq, bif_ne, bif_nne, bif_not, bif_true', bif_false', bnd_ok, lk_inl, lk_inr, Int.toNat_natCast], by simp (disch := omega) only [ckB_ix, ckB_inR, ckB_room, ckB_cut, ckB_mk, ckB_ne, bif_lt, bif_nlt, bif_le, bif_nle, bif_eq, bif_neq, bif_ne, bif_nne, bif_not, bif_true', bif_false', bnd_ok, lk_inl, lk_inr, Int.toNat_natCast], by simp⟩
    | true =>
      rw [simulate_given_eq l s hl hp, ref53_Number_eq]
      by_cases hs : 1 ≤ s ∧ s ≤ 20
      · have hinv : srvInv l (0, List.replicate (Int.toNat s) 0, []) := by
          refine ⟨0, rfl, Nat.zero_le _, by simp; omega, by simp; omega, fun j hj => ?_, rfl⟩
          simp only [List.length_replicate] at hj
          simp only [List.getD_eq_getElem?_getD, List.getElem?_replicate, if_pos hj, Option.getD_some]
          omega
        obtain ⟨o, h1, h2, h3⟩ := serveIn_two l c hp hv _ hinv
        rw [if_pos hs]
        simp only [hs, decide_true]
        unfold simulate_serve_45
        simp (disch := omega) only [h1, h2, ckB_ix, ckB_inR, ckB_room, ckB_cut, ckB_mk, ckB_ne, bif_lt, bif_nlt, bif_le, bif_nle, bif_eq, bif_neq, bif_ne, bif_nne, bif_not, bif_true', bif_false', bnd_ok, lk_inl, lk_inr, Int.toNat_natCast]
        cases o with
        | inl x => exact ⟨(x, 0), rfl, rfl, h3⟩
        | inr r => exact ⟨r, rfl, rfl, by simp only at h3; rw [h3]; simp⟩
      · rw [if_neg hs]
        simp only [hs, decide_false]
        exact ⟨([], 2), by simp (disch := omega) only [ckB_ix, ckB_inR, ckB_room, ckB_cut, ckB_mk, ckB_ne, bif_lt, bif_nlt, bif_le, bif_nle, bif_eq, bif_neq, bif_ne, bif_nne, bif_not, bif_true', bif_false', bnd_ok, lk_inl, lk_inr, Int.toNat_natCast], by simp (disch := omega) only [ckB_ix, ckB_inR, ckB_room, ckB_cut, ckB_mk, ckB_ne, bif_lt, bif_nlt, bif_le, bif_nle, bif_eq, bif_neq, bif_ne, bif_nne, bif_not, bif_true', bif_false', bnd_ok, lk_inl, lk_inr, Int.toNat_natCast], by simp⟩

theorem awake_true : law53_awake = some true := by kernel_rfl

theorem calendars_true (l : List Customer) (s : Int) (c : Calendar) (hl : l.length ≤ 9223372036854775807) (hc : c.1.length ≤ 9223372036854775807) : law53_SimulateCalendars l s c = some true := by
  unfold law53_SimulateCalendars
  rw [awake_true]
  obtain ⟨x, h1, h2, h3⟩ := serveIn_same l s c hl hc
  have h4 := ref53_Same_self x.1 (by omega)
  simp only [bnd_ok, h1, h2, h4, decide_true, bif_true', bif_not]
  cases decide ((30 : Int) < l.length) <;> cases decide ((l.length : Int) ≤ 1000) <;> cases decide ((1100 : Int) < l.length) <;> cases decide ((200 : Int) < c.1.length) <;> rfl

end Go.Proofs.Ytocpeankecaabaa
