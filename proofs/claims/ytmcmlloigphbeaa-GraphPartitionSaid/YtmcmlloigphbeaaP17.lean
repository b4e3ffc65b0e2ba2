/-
  Graphs: components; GraphParts in plain words.
-/
import Derived.Test.YtmcmlloigphbeaaP16
set_option linter.all false
namespace Go.Proofs.Ytmcmlloigphbeaa
open Go.K Go.M

def dbl (E : List St4) : List St4 := E.flatMap fun e => [e, swapE e]
theorem nxt_dbl (v : Nat) : ∀ E : List St4, nxt true E v = nxt false (dbl E) v
  | [] => rfl
  | e :: E => by
    have ih := nxt_dbl v E
    unfold nxt dbl at ih ⊢
    simp only [List.flatMap_cons, List.flatMap_append, ih, List.flatMap_nil, List.append_nil]
    congr 1
    by_cases h : Int.toNat e.1 = v <;> by_cases h' : Int.toNat e.2.1 = v <;> simp [ng, h, h']
theorem dbl_len : ∀ E : List St4, (dbl E).length = 2 * E.length
  | [] => rfl
  | e :: E => by
    have ih := dbl_len E
    unfold dbl at ih ⊢
    simp only [List.flatMap_cons, List.length_append, ih, List.length_cons, List.length_nil]
    omega
theorem dbl_mem {E : List St4} {e : St4} : e ∈ dbl E ↔ e ∈ E ∨ e ∈ E.map swapE := by
  simp only [dbl, List.mem_flatMap, List.mem_cons, List.not_mem_nil, or_false, List.mem_map]
  constructor
  · rintro ⟨x, hx, rfl | rfl⟩
    · exact .inl hx
    · exact .inr ⟨x, hx, rfl⟩
  · rintro (h | ⟨x, hx, rfl⟩)
    · exact ⟨e, h, .inl rfl⟩
    · exact ⟨x, hx, .inr rfl⟩
theorem VE.dbl {N : Nat} {E : List St4} (h : VE N E) : VE N (dbl E) := VE.of fun e he => by
  rcases dbl_mem.1 he with he | he
  · exact h.mem he
  · exact h.swap.mem he
theorem Rch.mono {E E' : List St4} (h : ∀ e ∈ E, e ∈ E') {u v : Nat} (hr : Rch E u v) : Rch E' u v := by
  induction hr with
  | refl => exact .refl _
  | step _ ha ih =>
    obtain ⟨e, he, h1, h2⟩ := ha
    exact .step ih ⟨e, h e he, h1, h2⟩
theorem Con.symm {E : List St4} {u v : Nat} (hr : Rch (dbl E) u v) : Rch (dbl E) v u := by
  induction hr with
  | refl => exact .refl _
  | step _ ha ih =>
    obtain ⟨e, he, h1, h2⟩ := ha
    refine (Rch.one ⟨swapE e, ?_, h2, h1⟩).trans ih
    rcases dbl_mem.1 he with he | he
    · exact dbl_mem.2 (.inr (List.mem_map_of_mem he))
    · obtain ⟨x, hx, rfl⟩ := List.mem_map.1 he
      exact dbl_mem.2 (.inl hx)

/-- The first vertex of a vertex's component. -/
noncomputable def kl (E : List St4) (v : Nat) : Nat := ((List.range (v + 1)).find? fun w => @decide (Rch (dbl E) w v) (Classical.propDecidable _)).getD v
theorem kl_spec (E : List St4) (v : Nat) : kl E v ≤ v ∧ Rch (dbl E) (kl E v) v ∧ ∀ w, Rch (dbl E) w v → kl E v ≤ w := by
  unfold kl
  cases h : (List.range (v + 1)).find? fun w => @decide (Rch (dbl E) w v) (Classical.propDecidable _) with
  | none =>
    have := range_none h v (by omega)
    simp only [decide_eq_false_iff_not] at this
    exact absurd (Rch.refl v) this
  | some w =>
    obtain ⟨h1, h2, h3⟩ := range_find h
    simp only [decide_eq_true_eq] at h2
    refine ⟨by show w ≤ v; omega, h2, fun x hx => ?_⟩
    show w ≤ x
    refine Classical.byContradiction fun hn => ?_
    have := h3 x (by omega)
    simp only [decide_eq_false_iff_not] at this
    exact this hx
theorem kl_eq {E : List St4} {u v : Nat} : kl E u = kl E v ↔ Rch (dbl E) u v := by
  obtain ⟨h1, h2, h3⟩ := kl_spec E u
  obtain ⟨h4, h5, h6⟩ := kl_spec E v
  constructor
  · intro h
    rw [h] at h2
    exact (Con.symm h2).trans h5
  · intro h
    exact Nat.le_antisymm (h3 _ (h5.trans (Con.symm h))) (h6 _ (h2.trans h))
theorem kl_kl {E : List St4} {v : Nat} : kl E (kl E v) = kl E v := kl_eq.2 (kl_spec E v).2.1

section
variable {N : Nat} {E : List St4}

noncomputable abbrev compO (N : Nat) (E : List St4) (v : Nat) : List Int := casts ((List.range N).filter fun w => decide (kl E w = v))
noncomputable abbrev compL (N : Nat) (E : List St4) (i : Nat) : List (List Int) := ((List.range i).filter fun v => decide (kl E v = v)).map (compO N E)

theorem compL_len (N : Nat) (E : List St4) (i : Nat) : (compL N E i).length ≤ i := by
  rw [List.length_map]
  have := List.length_filter_le (fun v => decide (kl E v = v)) (List.range i)
  simpa using this
theorem compL_no {i : Nat} (h : kl E i ≠ i) : compL N E (i + 1) = compL N E i := by
  simp [compL, List.range_succ, h]
theorem compL_yes {i : Nat} (h : kl E i = i) : compL N E (i + 1) = compL N E i ++ [compO N E i] := by
  simp [compL, List.range_succ, h]

theorem CompL0_eq (hN : N ≤ 1000) (nx : List (List Int)) (a b : Int) (out : List (List Int)) (fr : Nat → Int) (t : Nat → Bool) :
    graph_ComponentsL0 nx a b (tab N fr) (N : Int) out (0, tab N t, []) = some (.inl (tab N (fun w => t w || decide (0 ≤ fr w)), casts ((List.range N).filter fun w => decide (0 ≤ fr w)))) := by
  refine loop_to (fun i : Nat => ((i : Int), tab N (fun w => t w || (decide (w < i) && decide (0 ≤ fr w))), casts ((List.range i).filter fun w => decide (0 ≤ fr w)))) N (many_of (by omega)) _ ?_ ?_ _ (by simp)
  · intro i hi
    have hl := casts_filter_len (N := i) (fun w => decide (0 ≤ fr w))
    by_cases h : 0 ≤ fr i
    · simp (disch := omega) only [graph_ComponentsL0K, tab_len, tab_getD hi, tab_set, ckB_ix, ckB_inR, ckB_room, ckB_cut, ckB_mk, ckB_ne, bif_lt, bif_nlt, bif_le, bif_nle, bif_eq, bif_neq, bif_ne, bif_nne, bif_not, bif_true', bif_false', bnd_ok, lk_inl, lk_inr, Int.toNat_natCast]
      refine congrArg some (congrArg LR.next (Prod.ext (by simp) (Prod.ext (tab_congr fun w _ => ?_) ?_)))
      · by_cases e : w = i
        · subst e; simp [h]
        · have : (w < i + 1) ↔ w < i := by omega
          simp [e, this]
      · simp [List.range_succ, h]
    · simp (disch := omega) only [graph_ComponentsL0K, tab_len, tab_getD hi, tab_set, ckB_ix, ckB_inR, ckB_room, ckB_cut, ckB_mk, ckB_ne, bif_lt, bif_nlt, bif_le, bif_nle, bif_eq, bif_neq, bif_ne, bif_nne, bif_not, bif_true', bif_false', bnd_ok, lk_inl, lk_inr, Int.toNat_natCast]
      refine congrArg some (congrArg LR.next (Prod.ext (by simp) (Prod.ext (tab_congr fun w _ => ?_) ?_)))
      · by_cases e : w = i
        · subst e; simp [h]
        · have : (w < i + 1) ↔ w < i := by omega
          simp [this]
      · simp [List.range_succ, h]
  · simp (disch := omega) only [graph_ComponentsL0K, ckB_ix, ckB_inR, ckB_room, ckB_cut, ckB_mk, ckB_ne, bif_lt, bif_nlt, bif_le, bif_nle, bif_eq, bif_neq, bif_ne, bif_nne, bif_not, bif_true', bif_false', bnd_ok, lk_inl, lk_inr, Int.toNat_natCast]
    refine congrArg some (congrArg LR.done (Prod.ext (tab_congr fun w hw => ?_) rfl))
    simp [hw]

theorem Comp_taken (hi : kl E N ≤ N) (w : Nat) (h : kl E N = N) : (decide (kl E w < N) || decide (kl E w = N)) = decide (kl E w < N + 1) := by
  rw [Bool.eq_iff_iff]
  simp only [Bool.or_eq_true, decide_eq_true_eq]
  omega

theorem graph_Components_eq {g : Graph} (hg : g.1 = (N : Int)) (hN : N ≤ 1000) (hE : g.2.1.length ≤ 10000) (hv : VE N g.2.1) (hval : validB g = true) :
    graph_Components g = some (0, compL N g.2.1 N) := by
  obtain ⟨n, E, u⟩ := g
  simp only at hg hE hv
  subst hg
  have hga := gathered_eq ((N : Int), E, u) rfl hN (by show E.length ≤ 20000; omega) hv true
  have hnx : tab N (nxt true E) = tab N (nxt false (dbl E)) := tab_congr fun v _ => nxt_dbl v E
  have hdl := dbl_len E
  have hL1 : graph_ComponentsL1 (tab N (nxt false (dbl E))) (N : Int) (0, List.replicate N false, []) = some (.inl (compL N E N)) := by
    refine loop_to (fun i : Nat => ((i : Int), tab N (fun w => decide (kl E w < i)), compL N E i)) N (many_of (by omega)) _ ?_ ?_ _ ?_
    · intro i hi
      have hk := (kl_spec E i).1
      have hol := compL_len N E i
      by_cases h : kl E i = i
      · have hd : decide (kl E i < i) = false := by simp; omega
        obtain ⟨fr, hfr, hf⟩ := reached_eq (E := dbl E) hN (by omega) hv.dbl (l := [(i : Int)]) (by simp) (fun x hx => by simp at hx; omega)
        have hfi : ∀ w, decide (0 ≤ fr w) = decide (kl E w = i) := fun w => by
          rw [Bool.eq_iff_iff, decide_eq_true_iff, decide_eq_true_iff]
          have h1 : kl E w = i ↔ Rch (dbl E) i w := by rw [← kl_eq, h]; exact eq_comm
          have h2 : (∃ k, W (dbl E) (SF [(i : Int)]) k w) ↔ Rch (dbl E) i w := by
            rw [← W_rch]
            exact exists_congr fun k => W_congr (fun x => SF_one) k w
          rw [h1, ← h2]
          rcases hf w with ⟨e, hn⟩ | ⟨k, _, e, hW, _⟩
          · rw [e]
            exact ⟨fun h => absurd h (by omega), fun ⟨k, hk⟩ => absurd hk (hn k)⟩
          · exact ⟨fun _ => ⟨k, hW⟩, fun _ => by omega⟩
        have hL0 := CompL0_eq (N := N) hN (tab N (nxt false (dbl E))) (N : Int) (i : Int) (compL N E i) fr (fun w => decide (kl E w < i))
        simp (disch := omega) only [graph_ComponentsL1K, tab_len, tab_getD hi, hd, hfr, hL0, ckB_ix, ckB_inR, ckB_room, ckB_cut, ckB_mk, ckB_ne, bif_lt, bif_nlt, bif_le, bif_nle, bif_eq, bif_neq, bif_ne, bif_nne, bif_not, bif_true', bif_false', bnd_ok, lk_inl, lk_inr, Int.toNat_natCast]
        refine congrArg some (congrArg LR.next (Prod.ext (by simp) (Prod.ext (tab_congr fun w _ => ?_) ?_)))
        · rw [hfi]
          exact Comp_taken hk w h
        · rw [compL_yes h]
          simp only [hfi]
      · have hd : decide (kl E i < i) = true := by simp; omega
        simp (disch := omega) only [graph_ComponentsL1K, tab_len, tab_getD hi, hd, ckB_ix, ckB_inR, ckB_room, ckB_cut, ckB_mk, ckB_ne, bif_lt, bif_nlt, bif_le, bif_nle, bif_eq, bif_neq, bif_ne, bif_nne, bif_not, bif_true', bif_false', bnd_ok, lk_inl, lk_inr, Int.toNat_natCast]
        rw [compL_no h]
        refine congrArg some (congrArg LR.next (Prod.ext (by simp) (Prod.ext (tab_congr fun w _ => ?_) rfl)))
        rw [decide_eq_decide]
        have : kl E w ≠ i := fun e => h (by rw [← e]; exact kl_kl)
        omega
    · simp (disch := omega) only [graph_ComponentsL1K, ckB_ix, ckB_inR, ckB_room, ckB_cut, ckB_mk, ckB_ne, bif_lt, bif_nlt, bif_le, bif_nle, bif_eq, bif_neq, bif_ne, bif_nne, bif_not, bif_true', bif_false', bnd_ok, lk_inl, lk_inr, Int.toNat_natCast]
    · rw [tab_rep]
      refine Prod.ext rfl (Prod.ext (tab_congr fun w _ => ?_) ?_)
      · simp
      · simp [compL]
  unfold graph_Components
  rw [hnx] at hga
  simp (disch := omega) only [graph_Valid_eq, hval, Bool.not_true, hga, hL1, ckB_ix, ckB_inR, ckB_room, ckB_cut, ckB_mk, ckB_ne, bif_lt, bif_nlt, bif_le, bif_nle, bif_eq, bif_neq, bif_ne, bif_nne, bif_not, bif_true', bif_false', bnd_ok, lk_inl, lk_inr, Int.toNat_natCast]

theorem refCompL0_eq (hN : N ≤ 1000) (L : List Nat) (hL : ∀ v ∈ L, v < N) (hl : L.length ≤ 1000) (i : Int) (a : Int) (b : List St4) (out : List (List Int)) (t : Nat → Bool) :
    ref04_ComponentsL0 i (casts L) a b out (0, tab N t) = some (.inl (tab N fun w => t w || decide (w ∈ L))) := by
  have hcl : (casts L).length = L.length := by simp
  refine loop_to (fun k : Nat => ((k : Int), tab N (fun w => t w || decide (w ∈ L.take k)))) L.length (many_of (by omega)) _ ?_ ?_ _ (by simp)
  · intro k hk
    have hg : (casts L).getD k 0 = ((L.getD k 0 : Nat) : Int) := casts_getD L k
    have hvN := hL _ (getD_mem 0 hk)
    simp (disch := omega) only [ref04_ComponentsL0K, hg, hcl, tab_len, tab_set, ckB_ix, ckB_inR, ckB_room, ckB_cut, ckB_mk, ckB_ne, bif_lt, bif_nlt, bif_le, bif_nle, bif_eq, bif_neq, bif_ne, bif_nne, bif_not, bif_true', bif_false', bnd_ok, lk_inl, lk_inr, Int.toNat_natCast]
    refine congrArg some (congrArg LR.next (Prod.ext (by simp) (tab_congr fun w _ => ?_)))
    rw [take_succ_getD L k 0 hk]
    by_cases e : w = L.getD k 0
    · rw [if_pos e, decide_eq_true (List.mem_append.2 (.inr (List.mem_singleton.2 e))), Bool.or_true]
    · rw [if_neg e]
      have : w ∈ L.take k ++ [L.getD k 0] ↔ w ∈ L.take k := by rw [List.mem_append, List.mem_singleton]; exact ⟨fun h => h.resolve_right e, .inl⟩
      rw [decide_eq_decide.2 this]
  · simp (disch := omega) only [ref04_ComponentsL0K, hcl, ckB_ix, ckB_inR, ckB_room, ckB_cut, ckB_mk, ckB_ne, bif_lt, bif_nlt, bif_le, bif_nle, bif_eq, bif_neq, bif_ne, bif_nne, bif_not, bif_true', bif_false', bnd_ok, lk_inl, lk_inr, Int.toNat_natCast]
    rw [List.take_length]

theorem both_eq {E : List St4} (hE : E.length ≤ 10000) (n : Int) : ref04_both (n, E, ()) = some (n, E ++ E.map swapE, ()) := by
  unfold ref04_both
  rw [ref04_Reverse_eq _ (by show E.length ≤ 20000; omega), bnd_ok]
  have h1 : ([] ++ E : List St4) = E := List.nil_append E
  have h2 : (E.map swapE).length = E.length := by simp
  simp only [h1]
  simp (disch := omega) only [h2, ckB_ix, ckB_inR, ckB_room, ckB_cut, ckB_mk, ckB_ne, bif_lt, bif_nlt, bif_le, bif_nle, bif_eq, bif_neq, bif_ne, bif_nne, bif_not, bif_true', bif_false', bnd_ok, lk_inl, lk_inr, Int.toNat_natCast]

theorem ref_Components_eq {g : Graph} (hg : g.1 = (N : Int)) (hN : N ≤ 1000) (hE : g.2.1.length ≤ 10000) (hv : VE N g.2.1) :
    ref04_Components g = some (compL N g.2.1 N) := by
  obtain ⟨n, E, u⟩ := g
  simp only at hg hE hv
  subst hg
  have hL1 : ref04_ComponentsL1 (N : Int) E (0, [], List.replicate N false) = some (.inl (compL N E N)) := by
    refine loop_to (fun i : Nat => ((i : Int), compL N E i, tab N (fun w => decide (kl E w < i)))) N (many_of (by omega)) _ ?_ ?_ _ ?_
    · intro i hi
      have hk := (kl_spec E i).1
      have hol := compL_len N E i
      by_cases h : kl E i = i
      · have hd : decide (kl E i < i) = false := by simp; omega
        have hb := both_eq hE (N : Int)
        have hvb : VE N (E ++ E.map swapE) := VE.of fun e he => by
          rcases List.mem_append.1 he with he | he
          · exact hv.mem he
          · exact hv.swap.mem he
        obtain ⟨p, hp, hpi⟩ := ref_Reach_eq (g := ((N : Int), E ++ E.map swapE, ())) rfl hN (by simp; omega) hvb (l := [(i : Int)]) (by simp) (fun x hx => by simp at hx; omega)
        have hfi : (List.range N).filter p = (List.range N).filter fun w => decide (kl E w = i) := filter_same fun w hw => by
          rw [decide_eq_true_iff, hpi w hw]
          have h1 : kl E w = i ↔ Rch (dbl E) i w := by rw [← kl_eq, h]; exact eq_comm
          have h2 : (∃ k, W (E ++ E.map swapE) (SF [(i : Int)]) k w) ↔ Rch (E ++ E.map swapE) i w := by
            rw [← W_rch]
            exact exists_congr fun k => W_congr (fun x => SF_one) k w
          have h3 : Rch (E ++ E.map swapE) i w ↔ Rch (dbl E) i w := ⟨Rch.mono fun e he => dbl_mem.2 (List.mem_append.1 he), Rch.mono fun e he => List.mem_append.2 (dbl_mem.1 he)⟩
          show (∃ k, W (E ++ E.map swapE) (SF [(i : Int)]) k w) ↔ _
          rw [h1, h2, h3]
        rw [hfi] at hp
        have hflen : ((List.range N).filter fun w => decide (kl E w = i)).length ≤ 1000 := by
          have := List.length_filter_le (fun w => decide (kl E w = i)) (List.range N)
          simp at this
          omega
        have hL0 := refCompL0_eq hN ((List.range N).filter fun w => decide (kl E w = i)) (fun v hv' => List.mem_range.1 (List.mem_filter.1 hv').1) hflen (i : Int) (N : Int) E (compL N E i) (fun w => decide (kl E w < i))
        simp (disch := omega) only [ref04_ComponentsL1K, tab_len, tab_getD hi, hd, hb, hp, hL0, ckB_ix, ckB_inR, ckB_room, ckB_cut, ckB_mk, ckB_ne, bif_lt, bif_nlt, bif_le, bif_nle, bif_eq, bif_neq, bif_ne, bif_nne, bif_not, bif_true', bif_false', bnd_ok, lk_inl, lk_inr, Int.toNat_natCast]
        rw [compL_yes h]
        refine congrArg some (congrArg LR.next (Prod.ext (by simp) (Prod.ext rfl (tab_congr fun w hw => ?_))))
        rw [← Comp_taken hk w h]
        congr 1
        rw [decide_eq_decide, List.mem_filter]
        simp [hw]
      · have hd : decide (kl E i < i) = true := by simp; omega
        simp (disch := omega) only [ref04_ComponentsL1K, tab_len, tab_getD hi, hd, ckB_ix, ckB_inR, ckB_room, ckB_cut, ckB_mk, ckB_ne, bif_lt, bif_nlt, bif_le, bif_nle, bif_eq, bif_neq, bif_ne, bif_nne, bif_not, bif_true', bif_false', bnd_ok, lk_inl, lk_inr, Int.toNat_natCast]
        rw [compL_no h]
        refine congrArg some (congrArg LR.next (Prod.ext (by simp) (Prod.ext rfl (tab_congr fun w _ => ?_))))
        rw [decide_eq_decide]
        have : kl E w ≠ i := fun e => h (by rw [← e]; exact kl_kl)
        omega
    · simp (disch := omega) only [ref04_ComponentsL1K, ckB_ix, ckB_inR, ckB_room, ckB_cut, ckB_mk, ckB_ne, bif_lt, bif_nlt, bif_le, bif_nle, bif_eq, bif_neq, bif_ne, bif_nne, bif_not, bif_true', bif_false', bnd_ok, lk_inl, lk_inr, Int.toNat_natCast]
    · rw [tab_rep]
      refine Prod.ext rfl (Prod.ext (by simp [compL]) (tab_congr fun w _ => by simp))
  unfold ref04_Components
  simp (disch := omega) only [hL1, ckB_ix, ckB_inR, ckB_room, ckB_cut, ckB_mk, ckB_ne, bif_lt, bif_nlt, bif_le, bif_nle, bif_eq, bif_neq, bif_ne, bif_nne, bif_not, bif_true', bif_false', bnd_ok, lk_inl, lk_inr, Int.toNat_natCast]

/-- A list is the same as itself. -/
theorem same_self (l : List (List Int)) (hl : l.length ≤ 1000) (h : ∀ x ∈ l, x.length ≤ 1000) : ref04_Same l l = some true := by
  have hL0 : ∀ i : Nat, i < l.length → ref04_SameL0 l l (i : Int) 0 = some (.inl ()) := by
    intro i hi
    have h1 := h _ (getD_mem [] hi)
    refine loop_to (fun k : Nat => (k : Int)) (l.getD i []).length (many_of (by omega)) _ ?_ ?_ _ rfl
    · intro k hk
      simp (disch := omega) only [ref04_SameL0K, ckB_ix, ckB_inR, ckB_room, ckB_cut, ckB_mk, ckB_ne, bif_lt, bif_nlt, bif_le, bif_nle, bif_eq, bif_neq, bif_ne, bif_nne, bif_not, bif_true', bif_false', bnd_ok, lk_inl, lk_inr, Int.toNat_natCast]
      rfl
    · simp (disch := omega) only [ref04_SameL0K, ckB_ix, ckB_inR, ckB_room, ckB_cut, ckB_mk, ckB_ne, bif_lt, bif_nlt, bif_le, bif_nle, bif_eq, bif_neq, bif_ne, bif_nne, bif_not, bif_true', bif_false', bnd_ok, lk_inl, lk_inr, Int.toNat_natCast]
  have hL1 : ref04_SameL1 l l 0 = some (.inl ()) := by
    refine loop_to (fun k : Nat => (k : Int)) l.length (many_of (by omega)) _ ?_ ?_ _ rfl
    · intro k hk
      simp (disch := omega) only [ref04_SameL1K, hL0 k hk, ckB_ix, ckB_inR, ckB_room, ckB_cut, ckB_mk, ckB_ne, bif_lt, bif_nlt, bif_le, bif_nle, bif_eq, bif_neq, bif_ne, bif_nne, bif_not, bif_true', bif_false', bnd_ok, lk_inl, lk_inr, Int.toNat_natCast]
      rfl
    · simp (disch := omega) only [ref04_SameL1K, ckB_ix, ckB_inR, ckB_room, ckB_cut, ckB_mk, ckB_ne, bif_lt, bif_nlt, bif_le, bif_nle, bif_eq, bif_neq, bif_ne, bif_nne, bif_not, bif_true', bif_false', bnd_ok, lk_inl, lk_inr, Int.toNat_natCast]
  unfold ref04_Same
  rw [bif_neg (by simp), hL1]
  rfl

theorem compL_short (hN : N ≤ 1000) : ∀ x ∈ compL N E N, x.length ≤ 1000 := by
  intro x hx
  obtain ⟨v, _, rfl⟩ := List.mem_map.1 hx
  have := casts_filter_len (N := N) (fun w => decide (kl E w = v))
  exact Nat.le_trans this hN
theorem outS_short {cl : Nat → Int} {T : List Nat} (hN : N ≤ 1000) : ∀ x ∈ outS N cl T, x.length ≤ 1000 := by
  intro x hx
  obtain ⟨v, _, rfl⟩ := List.mem_map.1 hx
  have := casts_filter_len (N := N) (fun w => decide (cl w = cl v))
  exact Nat.le_trans this hN
end

theorem GraphParts_true (g : Graph) : law04_GraphParts g = some true := by
  unfold law04_GraphParts
  simp only [awake_true, bnd_ok]
  rw [bif_neg (c := !true) rfl]
  by_cases hsm : law04_small g = some true
  · rw [hsm, bnd_ok, bif_neg (c := !true) rfl, ref04_Valid_eq]
    cases hval : validB g with
    | false =>
      have h1 : graph_Components g = some (1, []) := by unfold graph_Components; rw [graph_Valid_eq, hval]; rfl
      have h2 : graph_Strong g = some (1, []) := by unfold graph_Strong; rw [graph_Valid_eq, hval]; rfl
      rw [h1, h2]
      rfl
    | true =>
      obtain ⟨N, hg, hN, hE0, hv⟩ := valid_at hval
      have hE : g.2.1.length ≤ 10000 := by
        unfold law04_small at hsm
        revert hsm
        have : ¬ (g.2.1.length : Int) ≤ 40 → law04_small g ≠ some true := by
          intro hn
          unfold law04_small
          by_cases c1 : g.1 ≤ 12 <;> by_cases c2 : (1000 : Int) < g.1 <;> simp [c1, c2, hn]
        intro hsm
        have : (g.2.1.length : Int) ≤ 40 := Classical.byContradiction fun hn => this hn (by unfold law04_small; exact hsm)
        omega
      obtain ⟨n, cl, hC, hS⟩ := graph_Strong_eq hg hN hE0 hv hval
      have hS2 := refStrong_eq hg hN hE0 hv hC
      have hlen : (finS N g.2.1 cl n []).length ≤ 1000 := by
        have := (finS_inv hC hv n [] InvS.nil (by simp)).1.len
        omega
      have hs1 := same_self (compL N g.2.1 N) (Nat.le_trans (compL_len N g.2.1 N) hN) (compL_short hN)
      have hs2 := same_self (outS N cl (finS N g.2.1 cl n [])) (by simpa using hlen) (outS_short hN)
      simp (disch := omega) only [graph_Components_eq hg hN hE hv hval, hS, Bool.not_true, ref_Components_eq hg hN hE hv, hS2, hs1, hs2, ckB_ix, ckB_inR, ckB_room, ckB_cut, ckB_mk, ckB_ne, bif_lt, bif_nlt, bif_le, bif_nle, bif_eq, bif_neq, bif_ne, bif_nne, bif_not, bif_true', bif_false', bnd_ok, lk_inl, lk_inr, Int.toNat_natCast]
      rfl
  · obtain ⟨b, hb⟩ := small_some g
    cases b with
    | true => exact absurd hb hsm
    | false => rw [hb]; rfl

end Go.Proofs.Ytmcmlloigphbeaa
