/-
  Graphs: GraphShortest.
-/
import Derived.Test.YtmcmlloigphbeaaP8
set_option linter.all false
namespace Go.Proofs.Ytmcmlloigphbeaa
open Go.K Go.M

theorem path_gp {N : Nat} {E : List St4} (hN : N ≤ 1000) (hE : E.length ≤ 20000) (hv : VE N E) {c : Nat} {fr : Nat → Int} (h : DF N E c fr) : ∀ (k v : Nat) (out : List Nat), v < N → fr v = (k : Int) → out.length + k ≤ 2000 →
    ∃ tail : List Nat, GP E fr k v tail ∧ ∀ m, k < m → iter (pgStep N E fr) m ((v : Int), casts out) = some (.inl (casts (out ++ tail))) := by
  intro k
  induction k with
  | zero =>
    intro v out hvN hf hl
    refine ⟨[], rfl, fun m hm => ?_⟩
    obtain ⟨m, rfl⟩ : ∃ q, m = q + 1 := ⟨m - 1, by omega⟩
    have hs : pgStep N E fr ((v : Int), casts out) = some (.done (casts out)) := by
      simp (disch := omega) only [pgStep, graph_PathL1K, tab_len, tab_getD hvN, hf, ckB_ix, ckB_inR, ckB_room, ckB_cut, ckB_mk, ckB_ne, bif_lt, bif_nlt, bif_le, bif_nle, bif_eq, bif_neq, bif_ne, bif_nne, bif_not, bif_true', bif_false', bnd_ok, lk_inl, lk_inr, Int.toNat_natCast]
    rw [iter_succ, hs, bnd_ok, List.append_nil]
    rfl
  | succ k ih =>
    intro v out hvN hf hl
    have hf' : fr v = (k : Int) + 1 := by rw [hf]; omega
    have hkN : k + 1 < N := (h.at_ hf).1
    obtain ⟨w, hw, hL0⟩ := PathL0_eq hN hE hv hvN (show k < N by omega) hf' (Cand.step h hf') (tab N (nxt false E)) (casts out)
    have hwN : w < N := by
      obtain ⟨e, he, h1, h2, h3⟩ := hw.1
      obtain ⟨q1, q2, q3, q4⟩ := hv.mem he
      simp only [dst] at h2
      omega
    have hwf : fr w = (k : Int) := by
      obtain ⟨e, he, h1, h2, h3⟩ := hw.1
      exact h3
    obtain ⟨tail, ht, hp⟩ := ih w (out ++ [w]) hwN hwf (by simp; omega)
    have hclen := casts_len out
    have happ : casts out ++ [(w : Int)] = casts (out ++ [w]) := by simp
    refine ⟨w :: tail, ⟨w, tail, rfl, hw, ht⟩, fun m hm => ?_⟩
    obtain ⟨m, rfl⟩ : ∃ q, m = q + 1 := ⟨m - 1, by omega⟩
    have hs : pgStep N E fr ((v : Int), casts out) = some (.next ((w : Int), casts (out ++ [w]))) := by
      rw [← happ]
      simp (disch := omega) only [pgStep, graph_PathL1K, tab_len, tab_getD hvN, hf', hL0, hclen, ckB_ix, ckB_inR, ckB_room, ckB_cut, ckB_mk, ckB_ne, bif_lt, bif_nlt, bif_le, bif_nle, bif_eq, bif_neq, bif_ne, bif_nne, bif_not, bif_true', bif_false', bnd_ok, lk_inl, lk_inr, Int.toNat_natCast]
    rw [iter_succ, hs, bnd_ok]
    have := hp m (by omega)
    rw [List.append_assoc] at this
    exact this

theorem graph_Path_gp {g : Graph} {N : Nat} (hg : g.1 = (N : Int)) (hN : N ≤ 1000) (hE : g.2.1.length ≤ 20000) (hv : VE N g.2.1) (hval : validB g = true) {a b : Int} (ha0 : 0 ≤ a) (ha : a < (N : Int)) (hb0 : 0 ≤ b) (hb : b < (N : Int)) :
    ∃ fr, DF N g.2.1 (Int.toNat b) fr ∧ ((fr (Int.toNat a) = -1 ∧ graph_Path g a b = some (10, [])) ∨ ∃ (k : Nat) (tail : List Nat), fr (Int.toNat a) = (k : Int) ∧ GP g.2.1 fr k (Int.toNat a) tail ∧ graph_Path g a b = some (0, casts (Int.toNat a :: tail))) := by
  have hga := gathered_eq g hg hN hE hv false
  have hgr := gathered_eq (g.1, g.2.1.map swapE, ()) hg hN (by simpa using hE) hv.swap false
  obtain ⟨fr, h2, s2⟩ := reached_eq hN (E := g.2.1.map swapE) (by simpa using hE) hv.swap (l := [b]) (by simp) (fun x hx => by rw [List.mem_singleton] at hx; omega)
  have va : (decide (0 ≤ a) && decide (a < g.1)) = true := by rw [hg]; simp [ha0, ha]
  have vb : (decide (0 ≤ b) && decide (b < g.1)) = true := by rw [hg]; simp [hb0, hb]
  have hD : DF N g.2.1 (Int.toNat b) fr := by
    intro v
    have hc : ∀ k, W (g.2.1.map swapE) (SF [b]) k v ↔ W (g.2.1.map swapE) (fun x => x = Int.toNat b) k v := fun k => W_congr (fun w => SF_one) k v
    rcases s2 v with ⟨q1, q2⟩ | ⟨k, q0, q1, q2, q3⟩
    · exact .inl ⟨q1, fun k hk => q2 k ((hc k).2 hk)⟩
    · exact .inr ⟨k, q0, q1, (hc k).1 q2, fun j hj => q3 j ((hc j).2 hj)⟩
  have hav : (a : Int) = ((Int.toNat a : Nat) : Int) := (Int.toNat_of_nonneg ha0).symm
  have haN : Int.toNat a < N := by omega
  refine ⟨fr, hD, ?_⟩
  by_cases hneg : fr (Int.toNat a) < 0
  · refine .inl ⟨?_, ?_⟩
    · rcases hD (Int.toNat a) with ⟨e, _⟩ | ⟨k, _, e, _⟩
      · exact e
      · omega
    · unfold graph_Path
      rw [graph_Valid_eq, hval, bnd_ok, bif_neg (c := !true) rfl, graph_vertex_eq, va, bnd_ok, bif_neg (c := !true) rfl, graph_vertex_eq, vb, bnd_ok, bif_neg (c := !true) rfl, graph_reversed_eq g hE, bnd_ok, hgr, bnd_ok]
      simp only
      rw [h2, bnd_ok]
      simp (disch := omega) only [tab_len, tab_getD haN, ckB_ix, ckB_inR, ckB_room, ckB_cut, ckB_mk, ckB_ne, bif_lt, bif_nlt, bif_le, bif_nle, bif_eq, bif_neq, bif_ne, bif_nne, bif_not, bif_true', bif_false', bnd_ok, lk_inl, lk_inr, Int.toNat_natCast]
  · obtain ⟨k, hk⟩ : ∃ k : Nat, fr (Int.toNat a) = (k : Int) := ⟨Int.toNat (fr (Int.toNat a)), by omega⟩
    have hkN : k < N := (hD.at_ hk).1
    obtain ⟨tail, ht, hp⟩ := path_gp hN hE hv hD k (Int.toNat a) [Int.toNat a] haN hk (by simp; omega)
    have hp := hp many (by unfold many; omega)
    have hca : casts [Int.toNat a] = [a] := by simp only [casts, List.map_cons, List.map_nil]; rw [← hav]
    rw [hca, ← hav] at hp
    refine .inr ⟨k, tail, hk, ht, ?_⟩
    unfold graph_Path
    rw [graph_Valid_eq, hval, bnd_ok, bif_neg (c := !true) rfl, graph_vertex_eq, va, bnd_ok, bif_neg (c := !true) rfl, graph_vertex_eq, vb, bnd_ok, bif_neg (c := !true) rfl, graph_reversed_eq g hE, bnd_ok, hgr, bnd_ok]
    simp only
    rw [h2, bnd_ok]
    simp (disch := omega) only [tab_len, tab_getD haN, hga, ckB_ix, ckB_inR, ckB_room, ckB_cut, ckB_mk, ckB_ne, bif_lt, bif_nlt, bif_le, bif_nle, bif_eq, bif_neq, bif_ne, bif_nne, bif_not, bif_true', bif_false', bnd_ok, lk_inl, lk_inr, Int.toNat_natCast]
    show bnd (iter (pgStep N g.2.1 fr) many (a, [a])) _ = _
    rw [hp]
    rfl

/-! Walks, turned. -/
theorem W_front {E : List St4} {e : St4} (he : e ∈ E) : ∀ {k v : Nat}, W E (fun x => x = dst e) k v → W E (fun x => x = src e) (k + 1) v
  | 0, v, h => ⟨e, he, rfl, (show v = dst e from h).symm⟩
  | k + 1, v, ⟨e', he', hW, hd⟩ => ⟨e', he', W_front he hW, hd⟩
theorem W_turn {E : List St4} {b : Nat} : ∀ {k a : Nat}, W (E.map swapE) (fun x => x = b) k a → W E (fun x => x = a) k b
  | 0, a, h => (show a = b from h).symm
  | k + 1, a, ⟨e', he', hW, hd⟩ => by
    obtain ⟨e, he, rfl⟩ := List.mem_map.1 he'
    have h1 := W_front he (W_turn hW)
    have h2 : src e = a := hd
    rw [h2] at h1
    exact h1
theorem swap_swap (E : List St4) : (E.map swapE).map swapE = E := by
  rw [List.map_map]
  conv => rhs; rw [← List.map_id E]
  exact List.map_congr_left fun e _ => rfl
theorem W_turn' {E : List St4} {a b k : Nat} (h : W E (fun x => x = a) k b) : W (E.map swapE) (fun x => x = b) k a := by
  have : W ((E.map swapE).map swapE) (fun x => x = a) k b := by rw [swap_swap]; exact h
  exact W_turn this

theorem containsI (l : List Int) (hl : l.length ≤ 9223372036854775806) (x : Int) : ∃ r, slices_Contains_int_int l x = some r ∧ (r = true ↔ x ∈ l) := by
  unfold slices_Contains_int_int
  by_cases hx : x ∈ l
  · have hmin : ∃ k, k < l.length ∧ l.getD k 0 = x ∧ ∀ i, i < k → l.getD i 0 ≠ x := by
      obtain ⟨i, hi, hix⟩ := mem_getD 0 hx
      induction i using Nat.strongRecOn with
      | _ i ih =>
        by_cases hlow : ∀ j, j < i → l.getD j 0 ≠ x
        · exact ⟨i, hi, hix, hlow⟩
        · obtain ⟨j, hj⟩ := Classical.not_forall.1 hlow
          obtain ⟨hj1, hj2⟩ := Classical.not_imp.1 hj
          exact ih j hj1 (by omega) (Classical.not_not.1 hj2)
    obtain ⟨k, h1, h2, h3⟩ := hmin
    rw [index_first l x hl h1 h2 h3]
    exact ⟨true, by simp, by simp [hx]⟩
  · rw [index_none l x hl (fun i hi h => hx (h ▸ getD_mem 0 hi))]
    exact ⟨false, by simp, by simp [hx]⟩
theorem containsE (l : List St4) (hl : l.length ≤ 9223372036854775806) {e : St4} (he : e ∈ l) : slices_Contains_2_int_2_int l e = some true := by
  have main : ∃ o, slices_Index_2_int_2_intL0 l (l.length : Int) e.1 e.2.1 0 = some o ∧ (match o with | .inl _ => False | .inr k => 0 ≤ k) := by
    refine loop_inv (fun s => ∃ i : Nat, s = (i : Int) ∧ i ≤ l.length ∧ ∀ j, j < i → ¬ (e.1 = (l.getD j St4.z).1 ∧ e.2.1 = (l.getD j St4.z).2.1)) (fun s => l.length + 1 - Int.toNat s) _ _ ⟨0, rfl, Nat.zero_le _, fun j hj => by omega⟩ (by show l.length + 1 - Int.toNat 0 < many; unfold many; omega) ?_
    rintro s ⟨i, rfl, hi, hall⟩
    by_cases hlt : i < l.length
    · have hx := ix_pos hlt
      by_cases hok : e.1 = (l.getD i St4.z).1 ∧ e.2.1 = (l.getD i St4.z).2.1
      · refine ⟨.ret (i : Int), ?_, by simp⟩
        simp only [slices_Index_2_int_2_intL0K, Int.toNat_natCast, hx, ckB_pos]
        rw [bif_pos (by simpa using hlt), bif_pos (by simp only [Bool.and_true, Bool.and_eq_true, decide_eq_true_eq]; exact hok)]
      · refine ⟨.next ((i : Int) + 1), ?_, ⟨i + 1, by rw [cast_succ], hlt, fun j hj => ?_⟩, by simp only [Int.toNat_natCast]; omega⟩
        · have hb : (decide (e.1 = (l.getD i St4.z).1) && (decide (e.2.1 = (l.getD i St4.z).2.1) && true)) = false := by
            cases hq : (decide (e.1 = (l.getD i St4.z).1) && (decide (e.2.1 = (l.getD i St4.z).2.1) && true)) with
            | false => rfl
            | true =>
              simp only [Bool.and_eq_true, decide_eq_true_eq] at hq
              exact absurd ⟨hq.1, hq.2.1⟩ hok
          simp only [slices_Index_2_int_2_intL0K, Int.toNat_natCast, hx, ckB_pos]
          rw [bif_pos (by simpa using hlt), bif_neg hb, ckB_pos (inR_i64 (by omega) (by omega))]
        · by_cases hji : j < i
          · exact hall j hji
          · obtain rfl : j = i := by omega
            exact hok
    · exfalso
      obtain ⟨j, hj, hje⟩ := mem_getD St4.z he
      exact hall j (by omega) (by rw [hje]; exact ⟨rfl, rfl⟩)
  obtain ⟨o, ho, hp⟩ := main
  unfold slices_Contains_2_int_2_int slices_Index_2_int_2_int
  rw [ho, bnd_ok]
  cases o with
  | inl _ => exact hp.elim
  | inr k => simp [hp]

end Go.Proofs.Ytmcmlloigphbeaa
