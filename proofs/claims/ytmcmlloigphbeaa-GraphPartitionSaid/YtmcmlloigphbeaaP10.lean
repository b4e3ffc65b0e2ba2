/-
  Graphs: GraphShortest, the law.
-/
import Derived.Test.YtmcmlloigphbeaaP9
set_option linter.all false
namespace Go.Proofs.Ytmcmlloigphbeaa
open Go.K Go.M

theorem GP.edge {E : List St4} {fr : Nat → Int} : ∀ {k v : Nat} {l : List Nat}, GP E fr k v l → ∀ i, i < k → ∃ e ∈ E, src e = (v :: l).getD i 0 ∧ dst e = (v :: l).getD (i + 1) 0
  | 0, _, _, _, i, hi => by omega
  | k + 1, v, _, ⟨w, t, rfl, hw, h⟩, 0, _ => by
    obtain ⟨e, he, h1, h2, _⟩ := hw.1
    exact ⟨e, he, by simpa using h1, by simpa using h2⟩
  | k + 1, v, _, ⟨w, t, rfl, hw, h⟩, i + 1, hi => by
    obtain ⟨e, he, h1, h2⟩ := GP.edge h i (by omega)
    exact ⟨e, he, by simpa using h1, by simpa using h2⟩
theorem GP.end_ {N : Nat} {E : List St4} {c : Nat} {fr : Nat → Int} (hD : DF N E c fr) : ∀ {k v : Nat} {l : List Nat}, fr v = (k : Int) → GP E fr k v l → (v :: l).getD k 0 = c
  | 0, v, l, hf, h => by
    have h1 : l = [] := h
    subst h1
    have h2 : v = c := (hD.at_ hf).2.1
    simpa using h2
  | k + 1, v, _, hf, ⟨w, t, rfl, hw, h⟩ => by
    obtain ⟨e, he, h1, h2, h3⟩ := hw.1
    simpa using GP.end_ hD h3 h

theorem GraphShortest_main {g : Graph} {N : Nat} (hg : g.1 = (N : Int)) (hN : N ≤ 1000) (hE : g.2.1.length ≤ 20000) (hv : VE N g.2.1) (hval : validB g = true) {a b : Int} (ha0 : 0 ≤ a) (ha : a < (N : Int)) (hb0 : 0 ≤ b) (hb : b < (N : Int)) :
    law04_GraphShortestT3 a b g.1 g.2.1 = some (.inr true) := by
  obtain ⟨fr, hD, hP⟩ := graph_Path_gp hg hN hE hv hval ha0 ha hb0 hb
  obtain ⟨p, hR, hpi⟩ := graph_Reach_eq hg hN hE hv hval (l := [a]) (by simp) (fun x hx => by rw [List.mem_singleton] at hx; rw [hg]; omega)
  have hlenp := casts_filter_len (N := N) p
  obtain ⟨r, hC, hr⟩ := containsI (casts ((List.range N).filter p)) (by omega) b
  have hbc : (b : Int) = ((Int.toNat b : Nat) : Int) := (Int.toNat_of_nonneg hb0).symm
  have hmem : r = true ↔ p (Int.toNat b) = true := by
    rw [hr]
    simp only [casts, List.mem_map, List.mem_filter, List.mem_range]
    constructor
    · rintro ⟨v, ⟨_, h2⟩, h3⟩
      have : v = Int.toNat b := by omega
      rw [← this]
      exact h2
    · intro h
      exact ⟨Int.toNat b, ⟨by omega, h⟩, hbc.symm⟩
  have hreach : p (Int.toNat b) = true ↔ ∃ k, W (g.2.1.map swapE) (fun x => x = Int.toNat b) k (Int.toNat a) := by
    rw [hpi]
    constructor
    · rintro ⟨k, hk⟩
      exact ⟨k, W_turn' ((W_congr (fun w => SF_one) k _).1 hk)⟩
    · rintro ⟨k, hk⟩
      exact ⟨k, (W_congr (fun w => SF_one) k _).2 (W_turn hk)⟩
  have hge : (g.1, g.2.1, ()) = g := rfl
  unfold law04_GraphShortestT3 law04_GraphShortestT3K
  rw [hge, hR]
  rcases hP with ⟨hneg, hP⟩ | ⟨k, tail, hk, hG, hP⟩
  · have hr0 : r = false := by
      cases r with
      | false => rfl
      | true =>
        obtain ⟨k, hk⟩ := hreach.1 (hmem.1 rfl)
        obtain ⟨j, _, hj⟩ := hD.of_walk hk
        omega
    subst hr0
    rw [hP]
    simp only [bnd_ok, hC]
    rfl
  · have hr1 : r = true := hmem.2 (hreach.2 ⟨k, (hD.at_ hk).2.1⟩)
    subst hr1
    have hkN := (hD.at_ hk).1
    have hlt := hG.len
    have hpl : (casts (Int.toNat a :: tail)).length = k + 1 := by rw [casts_len, List.length_cons, hlt]
    have hpg : ∀ i, (casts (Int.toNat a :: tail)).getD i 0 = (((Int.toNat a :: tail).getD i 0 : Nat) : Int) := casts_getD _
    have hend := GP.end_ hD hk hG
    have hlst : (casts (Int.toNat a :: tail)).getD (Int.toNat ((k : Int) + 1 - 1)) 0 = b := by
      rw [hpg, show Int.toNat ((k : Int) + 1 - 1) = k by omega, hend]
      exact hbc.symm
    have h0 : (casts (Int.toNat a :: tail)).getD 0 0 = a := by
      rw [hpg]
      show ((Int.toNat a : Nat) : Int) = a
      omega
    have hL1 : law04_GraphShortestL1 a b (casts (Int.toNat a :: tail)) g.1 g.2.1 1 = some (.inl ()) := by
      refine loop_to (fun j : Nat => ((j + 1 : Nat) : Int)) k (many_of (by omega)) _ ?_ ?_ _ rfl
      · intro j hj
        obtain ⟨e, he, h1, h2⟩ := hG.edge j hj
        obtain ⟨q1, q2, q3, q4⟩ := hv.mem he
        have e1 : (casts (Int.toNat a :: tail)).getD (Int.toNat (((j + 1 : Nat) : Int) - 1)) 0 = e.1 := by
          rw [hpg, show Int.toNat (((j + 1 : Nat) : Int) - 1) = j by omega, ← h1]
          simp only [src]
          omega
        have e2 : (casts (Int.toNat a :: tail)).getD (j + 1) 0 = e.2.1 := by
          rw [hpg, ← h2]
          simp only [dst]
          omega
        have hcon : slices_Contains_2_int_2_int g.2.1 (e.1, e.2.1, ()) = some true := containsE g.2.1 (by omega) he
        obtain ⟨fc, hDc, hPc⟩ := graph_Path_gp hg hN hE hv hval ha0 ha q3 q4
        obtain ⟨hfc, hGc⟩ := GP.take hD hDc (j + 1) k (Int.toNat a) tail hk hG (by omega) (by rw [← h2])
        have hPath : graph_Path g a e.2.1 = some (0, (casts (Int.toNat a :: tail)).take (j + 1 + 1)) := by
          rcases hPc with ⟨hneg, _⟩ | ⟨k', tail', hk', hG', hP'⟩
          · omega
          · have : k' = j + 1 := by omega
            subst this
            rw [hP', hG'.uniq hGc]
            simp only [casts, ← List.map_take, List.take_succ_cons]
        have hself : slices_Equal_int_int ((casts (Int.toNat a :: tail)).take (j + 1 + 1)) ((casts (Int.toNat a :: tail)).take (j + 1 + 1)) = some true := equal_self _ (by simp only [List.length_take]; omega)
        have hcast : Int.toNat (((j + 1 : Nat) : Int) + 1) = j + 1 + 1 := by omega
        simp (disch := omega) only [law04_GraphShortestL1K, e1, e2, hcon, hge, hPath, hcast, hself, Bool.not_true, hpl, ckB_ix, ckB_inR, ckB_room, ckB_cut, ckB_mk, ckB_ne, bif_lt, bif_nlt, bif_le, bif_nle, bif_eq, bif_neq, bif_ne, bif_nne, bif_not, bif_true', bif_false', bnd_ok, lk_inl, lk_inr, Int.toNat_natCast]
        rw [cast_succ]
        try rfl
      · simp (disch := omega) only [law04_GraphShortestL1K, hpl, ckB_ix, ckB_inR, ckB_room, ckB_cut, ckB_mk, ckB_ne, bif_lt, bif_nlt, bif_le, bif_nle, bif_eq, bif_neq, bif_ne, bif_nne, bif_not, bif_true', bif_false', bnd_ok, lk_inl, lk_inr, Int.toNat_natCast]
    have hL2 : law04_GraphShortestL2 a b (casts (Int.toNat a :: tail)) g.2.1 (g.2.1.length : Int) g.1 g.2.1 0 = some (.inl ()) := by
      refine loop_to (fun j : Nat => (j : Int)) g.2.1.length (many_of (by omega)) _ ?_ ?_ _ rfl
      · intro j hj
        obtain ⟨q1, q2, q3, q4⟩ := hv j hj
        by_cases hs : (g.2.1.getD j St4.z).1 = b
        · obtain ⟨fc, hDc, hPc⟩ := graph_Path_gp hg hN hE hv hval ha0 ha q3 q4
          have hW1 : W (g.2.1.map swapE) (fun x => x = Int.toNat (g.2.1.getD j St4.z).2.1) 1 (Int.toNat b) := by
            have := W_edge (c := Int.toNat (g.2.1.getD j St4.z).2.1) (k := 0) (getD_mem St4.z hj) rfl
            simp only [src, hs] at this
            exact this
          obtain ⟨k', hk', hf'⟩ := hDc.of_walk (W_comp hW1 (hD.at_ hk).2.1)
          obtain ⟨l', hPath, hl'⟩ : ∃ l', graph_Path g a (g.2.1.getD j St4.z).2.1 = some (0, l') ∧ l'.length ≤ k + 2 := by
            rcases hPc with ⟨hneg, _⟩ | ⟨k2, tail', hk2, hG', hP'⟩
            · omega
            · exact ⟨_, hP', by rw [casts_len, List.length_cons, hG'.len]; omega⟩
          simp (disch := omega) only [law04_GraphShortestL2K, hge, hPath, hpl, ckB_ix, ckB_inR, ckB_room, ckB_cut, ckB_mk, ckB_ne, bif_lt, bif_nlt, bif_le, bif_nle, bif_eq, bif_neq, bif_ne, bif_nne, bif_not, bif_true', bif_false', bnd_ok, lk_inl, lk_inr, Int.toNat_natCast]
          rw [cast_succ]
          try rfl
        · simp (disch := omega) only [law04_GraphShortestL2K, ckB_ix, ckB_inR, ckB_room, ckB_cut, ckB_mk, ckB_ne, bif_lt, bif_nlt, bif_le, bif_nle, bif_eq, bif_neq, bif_ne, bif_nne, bif_not, bif_true', bif_false', bnd_ok, lk_inl, lk_inr, Int.toNat_natCast]
          rw [cast_succ]
      · simp (disch := omega) only [law04_GraphShortestL2K, ckB_ix, ckB_inR, ckB_room, ckB_cut, ckB_mk, ckB_ne, bif_lt, bif_nlt, bif_le, bif_nle, bif_eq, bif_neq, bif_ne, bif_nne, bif_not, bif_true', bif_false', bnd_ok, lk_inl, lk_inr, Int.toNat_natCast]
    rw [hP]
    have hlst' : (casts (Int.toNat a :: tail)).getD (Int.toNat (((k + 1 : Nat) : Int) - 1)) 0 = b := by
      rw [show Int.toNat (((k + 1 : Nat) : Int) - 1) = Int.toNat ((k : Int) + 1 - 1) by omega]
      exact hlst
    have hd0 : decide ((0 : Int) = 0) = true := rfl
    simp only [bnd_ok, hC, hpl, h0, hlst', hL1, hL2, lk_inl]
    rw [bif_neg (by rfl), bif_neg (by rfl), bif_neg (by rfl), bif_neg (by simp; omega), ckB_ix (by omega) (by omega), ckB_ix (by omega) (by omega), bif_neg (by simp), ckB_inR (by omega) (by omega), ckB_ix (by omega) (by omega), ckB_ix (by omega) (by omega), bif_neg (by simp)]

theorem GraphShortest_true (g : Graph) (a b : Int) : law04_GraphShortest g a b = some true := by
  have hT0 : ∀ x y, law04_GraphShortestT0 x y true g.1 g.2.1 = some (.inr true) := fun x y => by
    unfold law04_GraphShortestT0 law04_GraphShortestT0K
    rw [awake_true]
    rfl
  unfold law04_GraphShortest
  simp only [awake_true, bnd_ok, hT0, lk_inr, graph_Valid_eq]
  rw [bif_neg (c := !true) rfl]
  by_cases c1 : g.1 < 1
  · rw [bif_pos (by simpa using c1)]
  rw [bif_neg (by simpa using c1)]
  by_cases c2 : 20 < g.1
  · rw [bif_pos (by simpa using c2)]
  rw [bif_neg (by simpa using c2)]
  by_cases c3 : 60 < g.2.1.length
  · rw [bif_pos (by simp; omega)]
  rw [bif_neg (by simp; omega)]
  cases hval : validB g with
  | false => rfl
  | true =>
    rw [bif_neg (c := !true) rfl]
    by_cases c4 : a < 0
    · rw [bif_pos (by simpa using c4)]
    rw [bif_neg (by simpa using c4)]
    by_cases c5 : g.1 ≤ a
    · rw [bif_pos (by simpa using c5)]
    rw [bif_neg (by simpa using c5)]
    by_cases c6 : b < 0
    · rw [bif_pos (by simpa using c6)]
    rw [bif_neg (by simpa using c6)]
    by_cases c7 : g.1 ≤ b
    · have : decide (g.1 ≤ b) = true := by simpa using c7
      rw [this, hT0]
      rfl
    · have : decide (g.1 ≤ b) = false := by simpa using c7
      obtain ⟨N, hg, hN, hE, hv⟩ := valid_at hval
      rw [this, GraphShortest_main hg hN hE hv hval (by omega) (by omega) (by omega) (by omega)]
      rfl

end Go.Proofs.Ytmcmlloigphbeaa
