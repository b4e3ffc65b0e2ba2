/-
  Siphon: the law SiphonGreatest.
-/
import Derived.Test.YtjhojmninmipcaaZ7U2
set_option linter.all false
namespace Go.Proofs.Ytjhojmninmipcaa
open Go.K Go.M
def subB (a b : List Int) : Bool := a.any fun p => !memB b p
theorem subB_f {a b : List Int} (h : ∀ x ∈ a, x ∈ b) : subB a b = false := by
  unfold subB
  rw [List.any_eq_false]
  intro x hx hc
  rw [memB_iff.2 (h x hx)] at hc
  cases hc
theorem subB_of {a b : List Int} (h : subB a b = false) : ∀ x ∈ a, x ∈ b := by
  intro x hx
  have := List.any_eq_false.1 h x hx
  exact memB_iff.1 (by simpa using this)
theorem sub33_eq (a b : List Int) (ha : a.length ≤ 1000000) (hb : b.length ≤ 1000000) : slices_ContainsFunc_int_int_33 a b = some (subB a b) := by
  have hL : slices_IndexFunc_int_int_33L0 a b (a.length : Int) 0 = some (fOut (fun i => (i : Int)) (fidx (fun p => !memB b p) a)) := by
    refine loop_find a 0 (fun p => !memB b p) (fun i => (i : Int)) (by omega) (fun i hi => ?_) ?_
    · simp (disch := omega) only [slices_IndexFunc_int_int_33L0K, law25_SiphonGreatest_1, Contains_eq b hb, ckB_ix, ckB_inR, ckB_room, ckB_cut, ckB_mk, ckB_ne, bif_lt, bif_nlt, bif_le, bif_nle, bif_eq, bif_neq, bif_ne, bif_nne, bif_not, bif_true', bif_false', bnd_ok, lk_inl, lk_inr, Int.toNat_natCast, decide_true]
      rw [cast_succ]
      cases memB b (a.getD i 0) <;> rfl
    · simp (disch := omega) only [slices_IndexFunc_int_int_33L0K, ckB_ix, ckB_inR, ckB_room, ckB_cut, ckB_mk, ckB_ne, bif_lt, bif_nlt, bif_le, bif_nle, bif_eq, bif_neq, bif_ne, bif_nne, bif_not, bif_true', bif_false', bnd_ok, lk_inl, lk_inr, Int.toNat_natCast, decide_true]
  unfold slices_ContainsFunc_int_int_33 slices_IndexFunc_int_int_33
  rw [hL, bnd_ok, idx_out, bnd_ok, idxI_nn]
  rfl
theorem sub35_eq (a b : List Int) (ha : a.length ≤ 1000000) (hb : b.length ≤ 1000000) : slices_ContainsFunc_int_int_35 a b = some (subB a b) := by
  have hL : slices_IndexFunc_int_int_35L0 a b (a.length : Int) 0 = some (fOut (fun i => (i : Int)) (fidx (fun p => !memB b p) a)) := by
    refine loop_find a 0 (fun p => !memB b p) (fun i => (i : Int)) (by omega) (fun i hi => ?_) ?_
    · simp (disch := omega) only [slices_IndexFunc_int_int_35L0K, law25_SiphonGreatest_2, Contains_eq b hb, ckB_ix, ckB_inR, ckB_room, ckB_cut, ckB_mk, ckB_ne, bif_lt, bif_nlt, bif_le, bif_nle, bif_eq, bif_neq, bif_ne, bif_nne, bif_not, bif_true', bif_false', bnd_ok, lk_inl, lk_inr, Int.toNat_natCast, decide_true]
      rw [cast_succ]
      cases memB b (a.getD i 0) <;> rfl
    · simp (disch := omega) only [slices_IndexFunc_int_int_35L0K, ckB_ix, ckB_inR, ckB_room, ckB_cut, ckB_mk, ckB_ne, bif_lt, bif_nlt, bif_le, bif_nle, bif_eq, bif_neq, bif_ne, bif_nne, bif_not, bif_true', bif_false', bnd_ok, lk_inl, lk_inr, Int.toNat_natCast, decide_true]
  unfold slices_ContainsFunc_int_int_35 slices_IndexFunc_int_int_35
  rw [hL, bnd_ok, idx_out, bnd_ok, idxI_nn]
  rfl
theorem sub36_eq (a b : List Int) (ha : a.length ≤ 1000000) (hb : b.length ≤ 1000000) : slices_ContainsFunc_int_int_36 a b = some (subB a b) := by
  have hL : slices_IndexFunc_int_int_36L0 a b (a.length : Int) 0 = some (fOut (fun i => (i : Int)) (fidx (fun p => !memB b p) a)) := by
    refine loop_find a 0 (fun p => !memB b p) (fun i => (i : Int)) (by omega) (fun i hi => ?_) ?_
    · simp (disch := omega) only [slices_IndexFunc_int_int_36L0K, law25_SiphonGreatest_3, Contains_eq b hb, ckB_ix, ckB_inR, ckB_room, ckB_cut, ckB_mk, ckB_ne, bif_lt, bif_nlt, bif_le, bif_nle, bif_eq, bif_neq, bif_ne, bif_nne, bif_not, bif_true', bif_false', bnd_ok, lk_inl, lk_inr, Int.toNat_natCast, decide_true]
      rw [cast_succ]
      cases memB b (a.getD i 0) <;> rfl
    · simp (disch := omega) only [slices_IndexFunc_int_int_36L0K, ckB_ix, ckB_inR, ckB_room, ckB_cut, ckB_mk, ckB_ne, bif_lt, bif_nlt, bif_le, bif_nle, bif_eq, bif_neq, bif_ne, bif_nne, bif_not, bif_true', bif_false', bnd_ok, lk_inl, lk_inr, Int.toNat_natCast, decide_true]
  unfold slices_ContainsFunc_int_int_36 slices_IndexFunc_int_int_36
  rw [hL, bnd_ok, idx_out, bnd_ok, idxI_nn]
  rfl
theorem setB_iff {N : Int} {l : List Int} : setB N l = true ↔ (∀ x ∈ l, 0 ≤ x ∧ x < N) ∧ l.Pairwise (· < ·) := by
  unfold setB
  rw [List.all_eq_true]
  constructor
  · intro h
    have hq : ∀ i, i < l.length → (0 ≤ l.getD i 0 ∧ l.getD i 0 < N) ∧ (0 < i → l.getD (i - 1) 0 < l.getD i 0) := fun i hi => by
      have := h i (List.mem_range.2 hi)
      unfold badQ at this
      simp only [Bool.not_eq_true', Bool.or_eq_false_iff, Bool.and_eq_false_iff, decide_eq_false_iff_not] at this
      refine ⟨by omega, fun h0 => ?_⟩
      rcases this.2 with h1 | h1
      · exact absurd h0 h1
      · omega
    refine ⟨fun x hx => ?_, List.pairwise_iff_getElem.2 fun i j hi hj hij => ?_⟩
    · obtain ⟨i, hi, rfl⟩ := mem_getD 0 hx
      exact (hq i hi).1
    · have key : ∀ d, ∀ j, j = i + 1 + d → j < l.length → l.getD i 0 < l.getD j 0 := by
        intro d
        induction d with
        | zero => intro j hj hl; subst hj; exact (hq (i + 1) hl).2 (by omega)
        | succ d ih =>
          intro j hj hl
          have h1 := ih (i + 1 + d) rfl (by omega)
          have h2 := (hq j hl).2 (by omega)
          rw [show j - 1 = i + 1 + d by omega] at h2
          omega
      have := key (j - i - 1) j (by omega) hj
      rwa [getD_at l i 0 hi, getD_at l j 0 hj] at this
  · rintro ⟨h1, h2⟩ i hi
    have hi := List.mem_range.1 hi
    have hb := h1 _ (getD_mem 0 hi)
    unfold badQ
    simp only [Bool.not_eq_true', Bool.or_eq_false_iff, Bool.and_eq_false_iff, decide_eq_false_iff_not]
    refine ⟨by omega, ?_⟩
    by_cases h0 : 0 < i
    · right
      have := List.pairwise_iff_getElem.1 h2 (i - 1) i (by omega) hi (by omega)
      rw [getD_at l i 0 hi, getD_at l (i - 1) 0 (by omega)]
      omega
    · exact .inl h0
theorem setB_filter {N : Int} {l : List Int} (h : setB N l = true) (p : Int → Bool) : setB N (l.filter p) = true := by
  rw [setB_iff] at h ⊢
  exact ⟨fun x hx => h.1 x (List.mem_filter.1 hx).1, h.2.sublist List.filter_sublist⟩
theorem great_len {ts : List Trans} {trap : Bool} {l G : List Int} (h : Great ts trap l G) : G.length ≤ l.length := by
  obtain ⟨⟨⟨p, rfl⟩, _⟩, _⟩ := h
  exact List.length_filter_le _ _
theorem great_sub {ts : List Trans} {trap : Bool} {l G : List Int} (h : Great ts trap l G) : ∀ x ∈ G, x ∈ l := by
  obtain ⟨⟨⟨p, rfl⟩, _⟩, _⟩ := h
  exact fun x hx => (List.mem_filter.1 hx).1
theorem great_set {ts : List Trans} {trap : Bool} {N : Int} {l G : List Int} (h : Great ts trap l G) (hs : setB N l = true) : setB N G = true := by
  obtain ⟨⟨⟨p, rfl⟩, _⟩, _⟩ := h
  exact setB_filter hs p
theorem rev_closed2 (ts : List Trans) (l : List Int) : closedB (ts.map revT) true l = closedB ts false l := by
  unfold closedB
  rw [List.any_map]
  rfl
theorem great_rev {ts : List Trans} {l G : List Int} (h : Great (ts.map revT) true l G) : Great ts false l G :=
  ⟨⟨h.1.1, fun W hW => h.1.2 W ((rev_closed2 ts W).trans hW)⟩, (rev_closed2 ts G).symm.trans h.2⟩
theorem rev_valid {n : Net} (h : validN n = true) : validN (revN n) = true := by
  unfold validN at h ⊢
  have e : (revN n).2.1.any (badT (revN n).1) = n.2.1.any (badT n.1) := by
    show (n.2.1.map revT).any (badT n.1) = _
    rw [List.any_map]
    congr 1
    funext t
    show badT n.1 (revT t) = badT n.1 t
    unfold badT revT
    cases eqS t.1 ⟨#[]⟩ <;> cases nameB t.1 <;> cases setB n.1 t.2.1 <;> cases setB n.1 t.2.2.1 <;> rfl
  have el : (revN n).2.1.length = n.2.1.length := List.length_map _
  rw [e, el]
  show (decide (1 ≤ n.1) && decide (n.1 ≤ 40) && decide (n.2.1.length ≤ 60) && !n.2.1.any (badT n.1) && (decide (0 ≤ n.2.2.2.1) && decide (n.2.2.2.1 < n.1)) && (decide (0 ≤ n.2.2.1) && decide (n.2.2.1 < n.1))) = true
  revert h
  cases (decide (1 ≤ n.1) && decide (n.1 ≤ 40) && decide (n.2.1.length ≤ 60) && !n.2.1.any (badT n.1)) <;> cases (decide (0 ≤ n.2.2.2.1) && decide (n.2.2.2.1 < n.1)) <;> cases (decide (0 ≤ n.2.2.1) && decide (n.2.2.1 < n.1)) <;> simp
theorem Clone_eq (l : List Int) (h : l.length ≤ 1000000) : slices_Clone_int_int l = some l := by
  unfold slices_Clone_int_int slices_Clone_int_int_t
  simp (disch := omega) only [List.nil_append, ckB_ix, ckB_inR, ckB_room, ckB_cut, ckB_mk, ckB_ne, bif_lt, bif_nlt, bif_le, bif_nle, bif_eq, bif_neq, bif_ne, bif_nne, bif_not, bif_true', bif_false', bnd_ok, lk_inl, lk_inr, Int.toNat_natCast, decide_true]
theorem petriReverse_eq {n : Net} (h : Small n) (hv : validN n = true) : petri_Reverse n = some (revN n, 0) := by
  have hL : petri_ReverseL0 n.2.1 (n.2.1.length : Int) 0 [] 0 0 n.1 n.2.2.2.1 n.2.2.1 (0, []) = some (.inl (n.2.1.map revT)) := by
    have := h.trans
    refine loop_to (fun i : Nat => ((i : Int), (n.2.1.take i).map revT)) n.2.1.length (many_of (by omega)) _ (fun i hi => ?_) ?_ _ rfl
    · have h1 := h.ins _ (getD_mem Trans.z hi)
      have h2 := h.outs _ (getD_mem Trans.z hi)
      have hl : ((n.2.1.take i).map revT).length = i := by rw [List.length_map, List.length_take]; omega
      have e1 := Clone_eq (n.2.1.getD i Trans.z).2.2.1 (by omega)
      have e2 := Clone_eq (n.2.1.getD i Trans.z).2.1 (by omega)
      simp only [petri_ReverseL0K, Int.toNat_natCast, e1, e2, bnd_ok, hl]
      simp (disch := omega) only [ckB_ix, ckB_inR, ckB_room, ckB_cut, ckB_mk, ckB_ne, bif_lt, bif_nlt, bif_le, bif_nle, bif_eq, bif_neq, bif_ne, bif_nne, bif_not, bif_true', bif_false', bnd_ok, lk_inl, lk_inr, Int.toNat_natCast, decide_true]
      rw [cast_succ, take_succ_getD n.2.1 i Trans.z hi, List.map_append]
      rfl
    · simp only [petri_ReverseL0K, List.take_length]
      simp (disch := omega) only [ckB_ix, ckB_inR, ckB_room, ckB_cut, ckB_mk, ckB_ne, bif_lt, bif_nlt, bif_le, bif_nle, bif_eq, bif_neq, bif_ne, bif_nne, bif_not, bif_true', bif_false', bnd_ok, lk_inl, lk_inr, Int.toNat_natCast, decide_true]
  unfold petri_Reverse
  rw [Valid_eq h, hv, hL]
  rfl
theorem SiphonGreatest_true (n : Net) (l part : List Int) : law25_SiphonGreatest n l part = some true := by
  obtain ⟨b, hb, hF⟩ := great_eq n
  unfold law25_SiphonGreatest
  rw [awake_true, hb]
  simp only [bnd_ok]
  cases b with
  | true => rfl
  | false =>
    obtain ⟨h, _, _⟩ := hF rfl
    have hlt := h.T
    by_cases hl : (60 : Int) < (l.length : Int)
    · simp (disch := omega) only [ckB_ix, ckB_inR, ckB_room, ckB_cut, ckB_mk, ckB_ne, bif_lt, bif_nlt, bif_le, bif_nle, bif_eq, bif_neq, bif_ne, bif_nne, bif_not, bif_true', bif_false', bnd_ok, lk_inl, lk_inr, Int.toNat_natCast, decide_true]
    · by_cases hp : (60 : Int) < (part.length : Int)
      · simp (disch := omega) only [ckB_ix, ckB_inR, ckB_room, ckB_cut, ckB_mk, ckB_ne, bif_lt, bif_nlt, bif_le, bif_nle, bif_eq, bif_neq, bif_ne, bif_nne, bif_not, bif_true', bif_false', bnd_ok, lk_inl, lk_inr, Int.toNat_natCast, decide_true]
      · have hl' : l.length ≤ 1000000 := by omega
        have hp' : part.length ≤ 1000000 := by omega
        rw [decide_eq_false hl, decide_eq_false hp, refValid_eq h, ref25_Set_eq n l hl', ref25_Set_eq n part hp']
        simp only [bnd_ok]
        cases hv : validN n with
        | false => rfl
        | true =>
          cases hs : setB n.1 l with
          | false => rfl
          | true =>
            cases hs2 : setB n.1 part with
            | false => rfl
            | true =>
              have hR : Small (revN n) := ⟨(rev_small hlt).trans, (rev_small hlt).ins, (rev_small hlt).outs⟩
              obtain ⟨G1, g1, G1'⟩ := greatest_eq hlt l hl' false
              obtain ⟨G2, g2, G2'⟩ := greatest_eq (n := revN n) (rev_small hlt) l hl' true
              obtain rfl := great_unique G1' (great_rev G2')
              have hG := great_len G1'
              have hGl : G1.length ≤ 1000000 := by omega
              have q0 := given_eq h l hl'
              have q1 := given_eq h part hp'
              have q2 := given_eq h G1 hGl
              have q3 := given_eq hR l hl'
              have e3 : (revN n).1 = n.1 := rfl
              rw [hv, hs] at q0
              rw [hv, hs2] at q1
              rw [hv, great_set G1' hs] at q2
              rw [rev_valid hv, e3, hs] at q3
              have r0 : siphon_Siphon n l = some (0, G1) := by unfold siphon_Siphon; rw [q0, bnd_ok, g1]; rfl
              have r1 : siphon_Trap (revN n) l = some (0, G1) := by unfold siphon_Trap; rw [q3, bnd_ok, g2]; rfl
              have r2 : siphon_IsSiphon' n G1 = some (true, 0) := by
                unfold siphon_IsSiphon'
                rw [q2, bnd_ok, closed_eq hlt G1 hGl, show closedB n.2.1 false G1 = true from G1'.2]
                rfl
              have r3 : siphon_IsSiphon' n part = some (closedB n.2.1 false part, 0) := by
                unfold siphon_IsSiphon'
                rw [q1, bnd_ok, closed_eq hlt part hp']
                rfl
              have e4 := ref25_Set_eq n G1 hGl
              rw [great_set G1' hs] at e4
              have e5 := sub33_eq G1 l hGl hl'
              rw [subB_f (great_sub G1')] at e5
              have e6 := sub35_eq part l hp' hl'
              have e7 := sub36_eq part G1 hp' hGl
              have e8 := Equal_self G1 hGl
              have e9 := petriReverse_eq h hv
              simp only [r0, e9, bnd_ok, r1, e8, e4, r2, e5, r3, e6, e7]
              cases hc : closedB n.2.1 false part with
              | false => rfl
              | true =>
                cases hsb : subB part l with
                | true => rfl
                | false =>
                  rw [subB_f (G1'.1.2 part hc (subB_of hsb))]
                  rfl
end Go.Proofs.Ytjhojmninmipcaa
