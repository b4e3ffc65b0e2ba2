/-
  Graphs: Between and Path.
-/
import Derived.Test.YtmcmlloigphbeaaP5
set_option linter.all false
namespace Go.Proofs.Ytmcmlloigphbeaa
open Go.K Go.M

theorem SF_one {a : Int} {v : Nat} : SF [a] v ↔ v = Int.toNat a := by
  simp only [SF, List.mem_singleton, exists_eq_left]
  exact eq_comm
theorem one_eq {g : Graph} {N : Nat} (hg : g.1 = (N : Int)) (hN : N ≤ 1000) {a : Int} (h0 : 0 ≤ a) (h1 : a < (N : Int)) : ref04_one g a = some (tab N fun v => decide (v = Int.toNat a)) := by
  unfold ref04_one
  rw [hg, Int.toNat_natCast, tab_rep]
  simp (disch := omega) only [tab_len, tab_set, ckB_ix, ckB_inR, ckB_room, ckB_cut, ckB_mk, ckB_ne, bif_lt, bif_nlt, bif_le, bif_nle, bif_eq, bif_neq, bif_ne, bif_nne, bif_not, bif_true', bif_false', bnd_ok, lk_inl, lk_inr, Int.toNat_natCast]
  refine congrArg some (tab_congr fun v _ => ?_)
  by_cases e : v = Int.toNat a <;> simp [e]

theorem BetweenL0_eq {N : Nat} (hN : N ≤ 1000) (f1 f2 : Nat → Int) : graph_BetweenL0 (tab N f1) (tab N f2) (N : Int) (0, []) = some (.inl (casts ((List.range N).filter fun v => decide (0 ≤ f1 v) && decide (0 ≤ f2 v)))) := by
  refine loop_to (fun i : Nat => ((i : Int), casts ((List.range i).filter fun v => decide (0 ≤ f1 v) && decide (0 ≤ f2 v)))) N (many_of (by omega)) _ ?_ ?_ _ (by simp)
  · intro i hi
    have hl := casts_filter_len (N := i) (fun v => decide (0 ≤ f1 v) && decide (0 ≤ f2 v))
    by_cases hm : 0 ≤ f1 i
    · by_cases hm2 : 0 ≤ f2 i
      · simp (disch := omega) only [graph_BetweenL0K, tab_len, tab_getD hi, ckB_ix, ckB_inR, ckB_room, ckB_cut, ckB_mk, ckB_ne, bif_lt, bif_nlt, bif_le, bif_nle, bif_eq, bif_neq, bif_ne, bif_nne, bif_not, bif_true', bif_false', bnd_ok, lk_inl, lk_inr, Int.toNat_natCast]
        rw [cast_succ, List.range_succ, List.filter_append]
        simp [hm, hm2]
      · simp (disch := omega) only [graph_BetweenL0K, tab_len, tab_getD hi, ckB_ix, ckB_inR, ckB_room, ckB_cut, ckB_mk, ckB_ne, bif_lt, bif_nlt, bif_le, bif_nle, bif_eq, bif_neq, bif_ne, bif_nne, bif_not, bif_true', bif_false', bnd_ok, lk_inl, lk_inr, Int.toNat_natCast]
        rw [cast_succ, List.range_succ, List.filter_append]
        simp [hm, hm2]
    · simp (disch := omega) only [graph_BetweenL0K, tab_len, tab_getD hi, ckB_ix, ckB_inR, ckB_room, ckB_cut, ckB_mk, ckB_ne, bif_lt, bif_nlt, bif_le, bif_nle, bif_eq, bif_neq, bif_ne, bif_nne, bif_not, bif_true', bif_false', bnd_ok, lk_inl, lk_inr, Int.toNat_natCast]
      rw [cast_succ, List.range_succ, List.filter_append]
      simp [hm]
  · simp (disch := omega) only [graph_BetweenL0K, ckB_ix, ckB_inR, ckB_room, ckB_cut, ckB_mk, ckB_ne, bif_lt, bif_nlt, bif_le, bif_nle, bif_eq, bif_neq, bif_ne, bif_nne, bif_not, bif_true', bif_false', bnd_ok, lk_inl, lk_inr, Int.toNat_natCast]
theorem refBetweenL0_eq {N : Nat} (hN : N ≤ 1000) (m1 m2 : Nat → Bool) (E : List St4) : ref04_BetweenL0 (tab N m2) (N : Int) E (0, tab N m1) = some (.inl (tab N fun v => m1 v && m2 v)) := by
  refine loop_to (fun i : Nat => ((i : Int), tab N fun v => if v < i then m1 v && m2 v else m1 v)) N (many_of (by omega)) _ ?_ ?_ _ (by simp)
  · intro i hi
    have hii : ¬ i < i := Nat.lt_irrefl i
    cases hm : m1 i with
    | true =>
      simp (disch := omega) only [ref04_BetweenL0K, tab_len, tab_getD hi, if_neg hii, hm, tab_set, ckB_ix, ckB_inR, ckB_room, ckB_cut, ckB_mk, ckB_ne, bif_lt, bif_nlt, bif_le, bif_nle, bif_eq, bif_neq, bif_ne, bif_nne, bif_not, bif_true', bif_false', bnd_ok, lk_inl, lk_inr, Int.toNat_natCast]
      simp only [Option.some.injEq, LR.next.injEq, Prod.mk.injEq]
      refine ⟨by omega, tab_congr fun v _ => ?_⟩
      by_cases e : v = i
      · subst e; simp [hm]
      · by_cases e2 : v < i
        · rw [if_neg e, if_pos e2, if_pos (by omega)]
        · rw [if_neg e, if_neg e2, if_neg (by omega)]
    | false =>
      simp (disch := omega) only [ref04_BetweenL0K, tab_len, tab_getD hi, if_neg hii, hm, tab_set, ckB_ix, ckB_inR, ckB_room, ckB_cut, ckB_mk, ckB_ne, bif_lt, bif_nlt, bif_le, bif_nle, bif_eq, bif_neq, bif_ne, bif_nne, bif_not, bif_true', bif_false', bnd_ok, lk_inl, lk_inr, Int.toNat_natCast]
      simp only [Option.some.injEq, LR.next.injEq, Prod.mk.injEq]
      refine ⟨by omega, tab_congr fun v _ => ?_⟩
      by_cases e : v = i
      · subst e; simp [hm]
      · by_cases e2 : v < i
        · rw [if_neg e, if_pos e2, if_pos (by omega)]
        · rw [if_neg e, if_neg e2, if_neg (by omega)]
  · simp (disch := omega) only [ref04_BetweenL0K, ckB_ix, ckB_inR, ckB_room, ckB_cut, ckB_mk, ckB_ne, bif_lt, bif_nlt, bif_le, bif_nle, bif_eq, bif_neq, bif_ne, bif_nne, bif_not, bif_true', bif_false', bnd_ok, lk_inl, lk_inr, Int.toNat_natCast]
    congr 2
    exact tab_congr fun v hv => if_pos hv

theorem graph_Between_eq {g : Graph} {N : Nat} (hg : g.1 = (N : Int)) (hN : N ≤ 1000) (hE : g.2.1.length ≤ 20000) (hv : VE N g.2.1) (hval : validB g = true) {a b : Int} (ha0 : 0 ≤ a) (ha : a < (N : Int)) (hb0 : 0 ≤ b) (hb : b < (N : Int)) :
    ∃ p : Nat → Bool, graph_Between g a b = some (0, casts ((List.range N).filter p)) ∧ ∀ v, p v = true ↔ (∃ k, W g.2.1 (SF [a]) k v) ∧ ∃ k, W (g.2.1.map swapE) (SF [b]) k v := by
  have hga := gathered_eq g hg hN hE hv false
  have hgr := gathered_eq (g.1, g.2.1.map swapE, ()) hg hN (by simpa using hE) hv.swap false
  obtain ⟨f1, h1, s1⟩ := reached_eq hN hE hv (l := [a]) (by simp) (fun x hx => by rw [List.mem_singleton] at hx; omega)
  obtain ⟨f2, h2, s2⟩ := reached_eq hN (E := g.2.1.map swapE) (by simpa using hE) hv.swap (l := [b]) (by simp) (fun x hx => by rw [List.mem_singleton] at hx; omega)
  have va : (decide (0 ≤ a) && decide (a < g.1)) = true := by rw [hg]; simp [ha0, ha]
  have vb : (decide (0 ≤ b) && decide (b < g.1)) = true := by rw [hg]; simp [hb0, hb]
  refine ⟨fun v => decide (0 ≤ f1 v) && decide (0 ≤ f2 v), ?_, fun v => ?_⟩
  · unfold graph_Between
    rw [graph_Valid_eq, hval, bnd_ok, bif_neg (c := !true) rfl, graph_vertex_eq, va, bnd_ok, bif_neg (c := !true) rfl, graph_vertex_eq, vb, bnd_ok, bif_neg (c := !true) rfl, hga, bnd_ok, h1, bnd_ok, graph_reversed_eq g hE, bnd_ok, hgr, bnd_ok]
    simp only
    rw [h2, bnd_ok, hg, BetweenL0_eq hN]
    rfl
  · simp only [Bool.and_eq_true, decide_eq_true_eq]
    have e1 : 0 ≤ f1 v ↔ ∃ k, W g.2.1 (SF [a]) k v := by
      rcases s1 v with ⟨q1, q2⟩ | ⟨k, _, q1, q2, _⟩
      · exact ⟨fun h => by omega, fun ⟨k, hk⟩ => absurd hk (q2 k)⟩
      · exact ⟨fun _ => ⟨k, q2⟩, fun _ => by omega⟩
    have e2 : 0 ≤ f2 v ↔ ∃ k, W (g.2.1.map swapE) (SF [b]) k v := by
      rcases s2 v with ⟨q1, q2⟩ | ⟨k, _, q1, q2, _⟩
      · exact ⟨fun h => by omega, fun ⟨k, hk⟩ => absurd hk (q2 k)⟩
      · exact ⟨fun _ => ⟨k, q2⟩, fun _ => by omega⟩
    rw [e1, e2]
theorem ref_Between_eq {g : Graph} {N : Nat} (hg : g.1 = (N : Int)) (hN : N ≤ 1000) (hE : g.2.1.length ≤ 20000) (hv : VE N g.2.1) {a b : Int} (ha0 : 0 ≤ a) (ha : a < (N : Int)) (hb0 : 0 ≤ b) (hb : b < (N : Int)) :
    ∃ p : Nat → Bool, ref04_Between g a b = some (casts ((List.range N).filter p)) ∧ ∀ v, v < N → (p v = true ↔ (∃ k, W g.2.1 (SF [a]) k v) ∧ ∃ k, W (g.2.1.map swapE) (SF [b]) k v) := by
  obtain ⟨m1, h1, s1⟩ := Marks_eq hN hE hv (fun v => decide (v = Int.toNat a))
  obtain ⟨m2, h2, s2⟩ := Marks_eq (g := (g.1, g.2.1.map swapE, ())) hN (by simpa using hE) hv.swap (fun v => decide (v = Int.toNat b))
  refine ⟨fun v => m1 v && m2 v, ?_, fun v hv' => ?_⟩
  · unfold ref04_Between
    rw [one_eq hg hN ha0 ha, bnd_ok, h1, bnd_ok, ref04_Reverse_eq g hE, bnd_ok, one_eq hg hN hb0 hb, bnd_ok, h2, bnd_ok, hg, refBetweenL0_eq hN, bnd_ok, lk_inl, list_eq hN]
    rfl
  · simp only [Bool.and_eq_true]
    rw [s1 v hv', s2 v hv']
    have c1 : ∀ k, W g.2.1 (fun v => v < N ∧ decide (v = Int.toNat a) = true) k v ↔ W g.2.1 (SF [a]) k v := fun k => W_congr (fun w => by
      rw [SF_one]
      simp only [decide_eq_true_eq]
      exact ⟨fun h => h.2, fun h => ⟨by omega, h⟩⟩) k v
    have c2 : ∀ k, W (g.2.1.map swapE) (fun v => v < N ∧ decide (v = Int.toNat b) = true) k v ↔ W (g.2.1.map swapE) (SF [b]) k v := fun k => W_congr (fun w => by
      rw [SF_one]
      simp only [decide_eq_true_eq]
      exact ⟨fun h => h.2, fun h => ⟨by omega, h⟩⟩) k v
    simp only [c1, c2]

/-! How far it is to b, by the reference. -/
def sumT (f : Nat → Int) (l : List Nat) : Nat := (l.map fun v => Int.toNat (f v)).sum
theorem sumT_le {f f' : Nat → Int} : ∀ (l : List Nat), (∀ v ∈ l, f' v ≤ f v) → sumT f' l ≤ sumT f l
  | [], _ => by simp [sumT]
  | v :: l, h => by
    have ih := sumT_le l (fun w hw => h w (List.mem_cons_of_mem _ hw))
    have hv := h v List.mem_cons_self
    unfold sumT at ih ⊢
    simp only [List.map_cons, List.sum_cons]
    omega
theorem sumT_lt {f f' : Nat → Int} : ∀ (l : List Nat), (∀ v ∈ l, f' v ≤ f v) → (∃ v ∈ l, 0 ≤ f' v ∧ f' v < f v) → sumT f' l < sumT f l
  | [], _, h => by obtain ⟨v, hv, _⟩ := h; simp at hv
  | v :: l, h, hx => by
    have h0 := sumT_le l (fun w hw => h w (List.mem_cons_of_mem _ hw))
    have hv := h v List.mem_cons_self
    obtain ⟨w, hw, h1, h2⟩ := hx
    rcases List.mem_cons.1 hw with rfl | hw
    · unfold sumT at h0 ⊢
      simp only [List.map_cons, List.sum_cons]
      omega
    · have ih := sumT_lt l (fun w hw => h w (List.mem_cons_of_mem _ hw)) ⟨w, hw, h1, h2⟩
      unfold sumT at ih ⊢
      simp only [List.map_cons, List.sum_cons]
      omega
theorem sumT_bd {f : Nat → Int} {b : Nat} : ∀ (l : List Nat), (∀ v ∈ l, f v ≤ (b : Int)) → sumT f l ≤ l.length * b
  | [], _ => by simp [sumT]
  | v :: l, h => by
    have ih := sumT_bd l (fun w hw => h w (List.mem_cons_of_mem _ hw))
    have hv := h v List.mem_cons_self
    unfold sumT at ih ⊢
    simp only [List.map_cons, List.sum_cons, List.length_cons, Nat.add_mul]
    omega

/-- Each number is the length of a walk, or N. -/
def Sd (N : Nat) (R : List St4) (S : Nat → Prop) (f : Nat → Int) : Prop := ∀ v, f v = (N : Int) ∨ ∃ k : Nat, k < N ∧ f v = (k : Int) ∧ W R S k v
theorem Sd.bd {N : Nat} {R : List St4} {S : Nat → Prop} {f : Nat → Int} (h : Sd N R S f) (v : Nat) : 0 ≤ f v ∧ f v ≤ (N : Int) := by
  rcases h v with e | ⟨k, h1, h2, _⟩ <;> omega

theorem PathL1_eq {N : Nat} {E : List St4} {S : Nat → Prop} (hN : N ≤ 1000) (hE : E.length ≤ 20000) (hv : VE N E) {f : Nat → Int} (hf : Sd N (E.map swapE) S f) (a b c : Int) :
    ∃ bb f', ref04_PathL1 a b c E (false, 0, tab N f) = some (.inl (bb, tab N f')) ∧ Sd N (E.map swapE) S f' ∧ (∀ v, f' v ≤ f v) ∧ (bb = false → (∀ v, f' v = f v) ∧ ∀ e ∈ E, f (src e) ≤ f (dst e) + 1) ∧ (bb = true → ∃ v, v < N ∧ f' v < f v) := by
  have main : ∃ o, loopM (fun s : Bool × Int × List Int => ref04_PathL1K a b c E s.1 s.2.1 s.2.2 (fun a' => some (LR.next a')) (fun e => some (LR.done e)) (fun r => some (LR.ret r))) (false, 0, tab N f) = some o ∧
      ∃ bb f', o = .inl (bb, tab N f') ∧ Sd N (E.map swapE) S f' ∧ (∀ v, f' v ≤ f v) ∧ (bb = false → (∀ v, f' v = f v) ∧ ∀ e ∈ E, f (src e) ≤ f (dst e) + 1) ∧ (bb = true → ∃ v, v < N ∧ f' v < f v) := by
    refine loop_inv (fun s => ∃ (bb : Bool) (i : Nat) (f' : Nat → Int), s = (bb, (i : Int), tab N f') ∧ i ≤ E.length ∧ Sd N (E.map swapE) S f' ∧ (∀ v, f' v ≤ f v) ∧ (bb = false → (∀ v, f' v = f v) ∧ ∀ x, x < i → f (src (E.getD x St4.z)) ≤ f (dst (E.getD x St4.z)) + 1) ∧ (bb = true → ∃ v, v < N ∧ f' v < f v))
      (fun s => E.length + 1 - Int.toNat s.2.1) _ _ ⟨false, 0, f, rfl, Nat.zero_le _, hf, fun v => Int.le_refl _, fun _ => ⟨fun _ => rfl, fun x hx => by omega⟩, fun h => by cases h⟩ (by show E.length + 1 - Int.toNat 0 < many; unfold many; omega) ?_
    rintro s ⟨bb, i, f', rfl, hi, hS, hle, hff, ht⟩
    by_cases hlt : i < E.length
    · obtain ⟨h1, h2, h3, h4⟩ := hv i hlt
      have k1 : Int.toNat (E.getD i St4.z).1 < N := by omega
      have k2 : Int.toNat (E.getD i St4.z).2.1 < N := by omega
      have hem : E.getD i St4.z ∈ E := getD_mem _ hlt
      have b1 := hS.bd (Int.toNat (E.getD i St4.z).1)
      have b2 := hS.bd (Int.toNat (E.getD i St4.z).2.1)
      have hμ : E.length + 1 - Int.toNat ((i : Int) + 1) < E.length + 1 - Int.toNat (i : Int) := by omega
      by_cases hr : f' (Int.toNat (E.getD i St4.z).2.1) + 1 < f' (Int.toNat (E.getD i St4.z).1)
      · refine ⟨.next (true, (i : Int) + 1, tab N (fun v => if v = Int.toNat (E.getD i St4.z).1 then f' (Int.toNat (E.getD i St4.z).2.1) + 1 else f' v)), ?_, ⟨true, i + 1, _, by rw [cast_succ], hlt, fun v => ?_, fun v => ?_, (fun hb => by cases hb), fun _ => ⟨_, k1, ?_⟩⟩, hμ⟩
        · simp (disch := omega) only [ref04_PathL1K, tab_len, tab_getD k1, tab_getD k2, tab_set, ckB_ix, ckB_inR, ckB_room, ckB_cut, ckB_mk, ckB_ne, bif_lt, bif_nlt, bif_le, bif_nle, bif_eq, bif_neq, bif_ne, bif_nne, bif_not, bif_true', bif_false', bnd_ok, lk_inl, lk_inr, Int.toNat_natCast]
        · by_cases e : v = Int.toNat (E.getD i St4.z).1
          · rcases hS (Int.toNat (E.getD i St4.z).2.1) with q | ⟨k, q1, q2, q3⟩
            · omega
            · refine .inr ⟨k + 1, by omega, by rw [if_pos e, q2]; omega, swapE (E.getD i St4.z), List.mem_map.2 ⟨_, hem, rfl⟩, q3, e.symm⟩
          · rw [if_neg e]
            exact hS v
        · by_cases e : v = Int.toNat (E.getD i St4.z).1
          · rw [if_pos e]
            have := hle v
            rw [e] at this ⊢
            omega
          · rw [if_neg e]
            exact hle v
        · rw [if_pos rfl]
          have := hle (Int.toNat (E.getD i St4.z).1)
          omega
      · refine ⟨.next (bb, (i : Int) + 1, tab N f'), ?_, ⟨bb, i + 1, f', by rw [cast_succ], hlt, hS, hle, fun hb => ⟨(hff hb).1, fun x hx => ?_⟩, ht⟩, hμ⟩
        · simp (disch := omega) only [ref04_PathL1K, tab_len, tab_getD k1, tab_getD k2, ckB_ix, ckB_inR, ckB_room, ckB_cut, ckB_mk, ckB_ne, bif_lt, bif_nlt, bif_le, bif_nle, bif_eq, bif_neq, bif_ne, bif_nne, bif_not, bif_true', bif_false', bnd_ok, lk_inl, lk_inr, Int.toNat_natCast]
        · by_cases hxi : x < i
          · exact (hff hb).2 x hxi
          · obtain rfl : x = i := by omega
            rw [← (hff hb).1, ← (hff hb).1]
            simp only [src, dst]
            omega
    · refine ⟨.done (bb, tab N f'), ?_, bb, f', rfl, hS, hle, fun hb => ⟨(hff hb).1, fun e he => ?_⟩, ht⟩
      · simp (disch := omega) only [ref04_PathL1K, ckB_ix, ckB_inR, ckB_room, ckB_cut, ckB_mk, ckB_ne, bif_lt, bif_nlt, bif_le, bif_nle, bif_eq, bif_neq, bif_ne, bif_nne, bif_not, bif_true', bif_false', bnd_ok, lk_inl, lk_inr, Int.toNat_natCast]
      · obtain ⟨x, hx, rfl⟩ := mem_getD St4.z he
        exact (hff hb).2 x (by omega)
  obtain ⟨o, ho, bb, f', rfl, rest⟩ := main
  exact ⟨bb, f', ho, rest⟩

theorem PathL2_eq {N : Nat} {E : List St4} {S : Nat → Prop} (hN : N ≤ 1000) (hE : E.length ≤ 20000) (hv : VE N E) {f : Nat → Int} (hf : Sd N (E.map swapE) S f) (h0 : ∀ v, S v → f v = 0) (a b c : Int) :
    ∃ f', ref04_PathL2 a b c E (true, tab N f) = some (.inl (tab N f')) ∧ Sd N (E.map swapE) S f' ∧ ∀ k v, W (E.map swapE) S k v → f' v ≤ (k : Int) := by
  have hcl : ∀ f : Nat → Int, ((tab N f).map Int.toNat).sum = sumT f (List.range N) := fun f => by
    unfold sumT
    rw [List.map_map]
    rfl
  have main : ∃ o, loopM (fun s : Bool × List Int => ref04_PathL2K a b c E s.1 s.2 (fun a' => some (LR.next a')) (fun e => some (LR.done e)) (fun r => some (LR.ret r))) (true, tab N f) = some o ∧
      ∃ f', o = .inl (tab N f') ∧ Sd N (E.map swapE) S f' ∧ (∀ v, S v → f' v = 0) ∧ ∀ e ∈ E, f' (src e) ≤ f' (dst e) + 1 := by
    refine loop_inv (fun s => ∃ (bb : Bool) (f' : Nat → Int), s = (bb, tab N f') ∧ Sd N (E.map swapE) S f' ∧ (∀ v, S v → f' v = 0) ∧ (bb = false → ∀ e ∈ E, f' (src e) ≤ f' (dst e) + 1))
      (fun s => (bif s.1 then 1 else 0) + 2 * (s.2.map Int.toNat).sum) _ _ ⟨true, f, rfl, hf, h0, fun h => by cases h⟩ ?_ ?_
    · show 1 + 2 * ((tab N f).map Int.toNat).sum < many
      rw [hcl]
      have := sumT_bd (f := f) (b := N) (List.range N) (fun v _ => (hf.bd v).2)
      have h2 : (List.range N).length * N ≤ 1000 * 1000 := by simp only [List.length_range]; exact Nat.mul_le_mul hN hN
      unfold many
      omega
    · rintro s ⟨bb, f1, rfl, hS, hz, hcl1⟩
      cases bb with
      | false => exact ⟨.done (tab N f1), by simp (disch := omega) only [ref04_PathL2K, ckB_ix, ckB_inR, ckB_room, ckB_cut, ckB_mk, ckB_ne, bif_lt, bif_nlt, bif_le, bif_nle, bif_eq, bif_neq, bif_ne, bif_nne, bif_not, bif_true', bif_false', bnd_ok, lk_inl, lk_inr, Int.toNat_natCast], f1, rfl, hS, hz, hcl1 rfl⟩
      | true =>
        obtain ⟨bb, f2, hL, hS2, hle, hb1, hb2⟩ := PathL1_eq hN hE hv hS a b c
        refine ⟨.next (bb, tab N f2), by simp (disch := omega) only [ref04_PathL2K, hL, ckB_ix, ckB_inR, ckB_room, ckB_cut, ckB_mk, ckB_ne, bif_lt, bif_nlt, bif_le, bif_nle, bif_eq, bif_neq, bif_ne, bif_nne, bif_not, bif_true', bif_false', bnd_ok, lk_inl, lk_inr, Int.toNat_natCast], ⟨bb, f2, rfl, hS2, fun v hsv => ?_, fun hb e he => ?_⟩, ?_⟩
        · have h1 := hle v
          have h2 := hz v hsv
          have h3 := hS2.bd v
          omega
        · obtain ⟨q1, q2⟩ := hb1 hb
          rw [q1, q1]
          exact q2 e he
        · show (bif bb then 1 else 0) + 2 * ((tab N f2).map Int.toNat).sum < 1 + 2 * ((tab N f1).map Int.toNat).sum
          rw [hcl, hcl]
          cases bb with
          | false =>
            have := sumT_le (f := f1) (f' := f2) (List.range N) (fun v _ => hle v)
            show 0 + _ < _
            omega
          | true =>
            obtain ⟨v, q1, q2⟩ := hb2 rfl
            have := sumT_lt (f := f1) (f' := f2) (List.range N) (fun v _ => hle v) ⟨v, List.mem_range.2 q1, (hS2.bd v).1, q2⟩
            show 1 + _ < _
            omega
  obtain ⟨o, ho, f', rfl, hS, hz, hc⟩ := main
  refine ⟨f', ho, hS, fun k => ?_⟩
  induction k with
  | zero => intro v h; have := hz v h; omega
  | succ k ih =>
    rintro v ⟨e', he', hW, rfl⟩
    obtain ⟨e, he, rfl⟩ := List.mem_map.1 he'
    have h1 := ih _ hW
    have h2 := hc e he
    simp only [src, dst, swapE] at h1 h2 ⊢
    omega

/-! The next vertex of a path. -/
def Cand (E : List St4) (fr : Nat → Int) (v : Nat) (k : Int) (w : Nat) : Prop := ∃ e ∈ E, src e = v ∧ dst e = w ∧ fr w = k
def Least (P : Nat → Prop) (w : Nat) : Prop := P w ∧ ∀ w', P w' → w ≤ w'
theorem Least.uniq {P : Nat → Prop} {w w' : Nat} (h : Least P w) (h' : Least P w') : w = w' := Nat.le_antisymm (h.2 _ h'.1) (h'.2 _ h.1)

theorem PathL0_eq {N : Nat} {E : List St4} (hN : N ≤ 1000) (hE : E.length ≤ 20000) (hv : VE N E) {fr : Nat → Int} {v : Nat} (hvN : v < N) {k : Nat} (hk : k < N) (hfv : fr v = (k : Int) + 1) (hex : ∃ w, Cand E fr v (k : Int) w) (nx0 : List (List Int)) (o0 : List Int) :
    ∃ w : Nat, Least (Cand E fr v (k : Int)) w ∧ graph_PathL0 (tab N fr) nx0 (v : Int) (nxt false E v) ((nxt false E v).length : Int) o0 (-1, 0) = some (.inl (w : Int)) := by
  have hwl := nxt_len false E v
  have main : ∃ o, loopM (fun s : Int × Int => graph_PathL0K (tab N fr) nx0 (v : Int) (nxt false E v) ((nxt false E v).length : Int) o0 s.1 s.2 (fun a' => some (LR.next a')) (fun e => some (LR.done e)) (fun r => some (LR.ret r))) (-1, 0) = some o ∧
      ∃ w : Nat, Least (Cand E fr v (k : Int)) w ∧ o = .inl (w : Int) := by
    refine loop_inv (fun s => ∃ i : Nat, s.2 = (i : Int) ∧ i ≤ (nxt false E v).length ∧ ((s.1 = -1 ∧ ∀ x, x < i → fr (Int.toNat ((nxt false E v).getD x 0)) ≠ (k : Int)) ∨ ∃ w : Nat, s.1 = (w : Int) ∧ Cand E fr v (k : Int) w ∧ ∀ x, x < i → fr (Int.toNat ((nxt false E v).getD x 0)) = (k : Int) → w ≤ Int.toNat ((nxt false E v).getD x 0)))
      (fun s => (nxt false E v).length + 1 - Int.toNat s.2) _ _ ⟨0, rfl, Nat.zero_le _, .inl ⟨rfl, fun x hx => by omega⟩⟩ (by show (nxt false E v).length + 1 - Int.toNat 0 < many; unfold many; omega) ?_
    rintro ⟨best, i'⟩ ⟨i, hi', hi, hst⟩
    simp only at hi' hst
    subst hi'
    by_cases hlt : i < (nxt false E v).length
    · obtain ⟨w1, w2⟩ := nxt_in hv false v (getD_mem 0 hlt)
      obtain ⟨e, he, he1, he2⟩ := nxt_mem (getD_mem 0 hlt)
      have kw : Int.toNat ((nxt false E v).getD i 0) < N := by omega
      have hμ : (nxt false E v).length + 1 - Int.toNat ((i : Int) + 1) < (nxt false E v).length + 1 - Int.toNat (i : Int) := by omega
      by_cases hc : fr (Int.toNat ((nxt false E v).getD i 0)) = (k : Int)
      · have hcand : Cand E fr v (k : Int) (Int.toNat ((nxt false E v).getD i 0)) := ⟨e, he, he1, by simp only [dst, he2], hc⟩
        have take : ∀ (hmin : ∀ x, x < i → fr (Int.toNat ((nxt false E v).getD x 0)) = (k : Int) → Int.toNat ((nxt false E v).getD i 0) ≤ Int.toNat ((nxt false E v).getD x 0)), ∃ j : Nat, ((nxt false E v).getD i 0, (i : Int) + 1).2 = (j : Int) ∧ j ≤ (nxt false E v).length ∧ ((((nxt false E v).getD i 0, (i : Int) + 1) : Int × Int).1 = -1 ∧ (∀ x, x < j → fr (Int.toNat ((nxt false E v).getD x 0)) ≠ (k : Int)) ∨ ∃ w : Nat, (((nxt false E v).getD i 0, (i : Int) + 1) : Int × Int).1 = (w : Int) ∧ Cand E fr v (k : Int) w ∧ ∀ x, x < j → fr (Int.toNat ((nxt false E v).getD x 0)) = (k : Int) → w ≤ Int.toNat ((nxt false E v).getD x 0)) := by
          intro hmin
          refine ⟨i + 1, by simp only; omega, hlt, .inr ⟨_, (Int.toNat_of_nonneg w1).symm, hcand, fun x hx hxc => ?_⟩⟩
          by_cases hxi : x < i
          · exact hmin x hxi hxc
          · obtain rfl : x = i := by omega
            exact Nat.le_refl _
        rcases hst with ⟨hb, hno⟩ | ⟨w, hb, hcw, hmin⟩
        · refine ⟨.next ((nxt false E v).getD i 0, (i : Int) + 1), ?_, take (fun x hx hxc => absurd hxc (hno x hx)), hμ⟩
          rw [hb]
          simp (disch := omega) only [graph_PathL0K, tab_len, tab_getD kw, tab_getD hvN, hfv, ckB_ix, ckB_inR, ckB_room, ckB_cut, ckB_mk, ckB_ne, bif_lt, bif_nlt, bif_le, bif_nle, bif_eq, bif_neq, bif_ne, bif_nne, bif_not, bif_true', bif_false', bnd_ok, lk_inl, lk_inr, Int.toNat_natCast]
        · by_cases hlw : (nxt false E v).getD i 0 < (w : Int)
          · refine ⟨.next ((nxt false E v).getD i 0, (i : Int) + 1), ?_, take (fun x hx hxc => by have := hmin x hx hxc; omega), hμ⟩
            rw [hb]
            simp (disch := omega) only [graph_PathL0K, tab_len, tab_getD kw, tab_getD hvN, hfv, ckB_ix, ckB_inR, ckB_room, ckB_cut, ckB_mk, ckB_ne, bif_lt, bif_nlt, bif_le, bif_nle, bif_eq, bif_neq, bif_ne, bif_nne, bif_not, bif_true', bif_false', bnd_ok, lk_inl, lk_inr, Int.toNat_natCast]
          · refine ⟨.next ((w : Int), (i : Int) + 1), ?_, ⟨i + 1, by simp only; omega, hlt, .inr ⟨w, rfl, hcw, fun x hx hxc => ?_⟩⟩, hμ⟩
            · rw [hb]
              simp (disch := omega) only [graph_PathL0K, tab_len, tab_getD kw, tab_getD hvN, hfv, ckB_ix, ckB_inR, ckB_room, ckB_cut, ckB_mk, ckB_ne, bif_lt, bif_nlt, bif_le, bif_nle, bif_eq, bif_neq, bif_ne, bif_nne, bif_not, bif_true', bif_false', bnd_ok, lk_inl, lk_inr, Int.toNat_natCast]
            · by_cases hxi : x < i
              · exact hmin x hxi hxc
              · obtain rfl : x = i := by omega
                omega
      · refine ⟨.next (best, (i : Int) + 1), ?_, ⟨i + 1, by simp only; omega, hlt, ?_⟩, hμ⟩
        · simp (disch := omega) only [graph_PathL0K, tab_len, tab_getD kw, tab_getD hvN, hfv, ckB_ix, ckB_inR, ckB_room, ckB_cut, ckB_mk, ckB_ne, bif_lt, bif_nlt, bif_le, bif_nle, bif_eq, bif_neq, bif_ne, bif_nne, bif_not, bif_true', bif_false', bnd_ok, lk_inl, lk_inr, Int.toNat_natCast]
        · rcases hst with ⟨hb, hno⟩ | ⟨w, hb, hcw, hmin⟩
          · refine .inl ⟨hb, fun x hx => ?_⟩
            by_cases hxi : x < i
            · exact hno x hxi
            · obtain rfl : x = i := by omega
              exact hc
          · refine .inr ⟨w, hb, hcw, fun x hx hxc => ?_⟩
            by_cases hxi : x < i
            · exact hmin x hxi hxc
            · obtain rfl : x = i := by omega
              exact absurd hxc hc
    · rcases hst with ⟨hb, hno⟩ | ⟨w, hb, hcw, hmin⟩
      · exfalso
        obtain ⟨w, e, he, h1, h2, h3⟩ := hex
        obtain ⟨x, hx, hxe⟩ := mem_getD 0 (mem_nxt he h1)
        refine hno x (by omega) ?_
        rw [hxe]
        have : Int.toNat e.2.1 = w := h2
        rw [this]
        exact h3
      · refine ⟨.done (w : Int), ?_, w, ⟨hcw, fun w' hw' => ?_⟩, rfl⟩
        · rw [hb]
          simp (disch := omega) only [graph_PathL0K, ckB_ix, ckB_inR, ckB_room, ckB_cut, ckB_mk, ckB_ne, bif_lt, bif_nlt, bif_le, bif_nle, bif_eq, bif_neq, bif_ne, bif_nne, bif_not, bif_true', bif_false', bnd_ok, lk_inl, lk_inr, Int.toNat_natCast]
        · obtain ⟨e, he, h1, h2, h3⟩ := hw'
          obtain ⟨x, hx, hxe⟩ := mem_getD 0 (mem_nxt he h1)
          have h4 : Int.toNat e.2.1 = w' := h2
          have := hmin x (by omega) (by rw [hxe, h4]; exact h3)
          rw [hxe, h4] at this
          exact this
  obtain ⟨o, ho, w, hw, rfl⟩ := main
  exact ⟨w, hw, ho⟩

end Go.Proofs.Ytmcmlloigphbeaa
