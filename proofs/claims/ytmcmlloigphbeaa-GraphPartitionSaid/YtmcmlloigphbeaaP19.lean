/-
  Graphs: the reversed graph has the same components and strong components.
-/
import Derived.Test.YtmcmlloigphbeaaP18
set_option linter.all false
namespace Go.Proofs.Ytmcmlloigphbeaa
open Go.K Go.M

theorem equal_dec (x y : List Int) (hx : x.length ≤ 9223372036854775806) : slices_Equal_int_int x y = some (decide (x = y)) := by
  unfold slices_Equal_int_int
  by_cases hl : x.length = y.length
  · rw [bif_neg (by simp [hl])]
    have hloop : slices_Equal_int_intL0 x y (x.length : Int) 0 = some (bif (List.range x.length).all (fun i => decide (x.getD i 0 = y.getD i 0)) then .inl () else .inr false) := by
      refine loop_all (fun i : Nat => (i : Int)) x.length (many_of (by omega)) _ () false ?_ ?_ ?_
      · intro i hi hp
        have hp' : x.getD i 0 = y.getD i 0 := of_decide_eq_true hp
        simp (disch := omega) only [slices_Equal_int_intL0K, ckB_ix, ckB_inR, ckB_room, ckB_cut, ckB_mk, ckB_ne, bif_lt, bif_nlt, bif_le, bif_nle, bif_eq, bif_neq, bif_ne, bif_nne, bif_not, bif_true', bif_false', bnd_ok, lk_inl, lk_inr, Int.toNat_natCast]
        rw [cast_succ]
      · intro i hi hp
        have hp' : x.getD i 0 ≠ y.getD i 0 := of_decide_eq_false hp
        simp (disch := omega) only [slices_Equal_int_intL0K, ckB_ix, ckB_inR, ckB_room, ckB_cut, ckB_mk, ckB_ne, bif_lt, bif_nlt, bif_le, bif_nle, bif_eq, bif_neq, bif_ne, bif_nne, bif_not, bif_true', bif_false', bnd_ok, lk_inl, lk_inr, Int.toNat_natCast]
      · simp (disch := omega) only [slices_Equal_int_intL0K, ckB_ix, ckB_inR, ckB_room, ckB_cut, ckB_mk, ckB_ne, bif_lt, bif_nlt, bif_le, bif_nle, bif_eq, bif_neq, bif_ne, bif_nne, bif_not, bif_true', bif_false', bnd_ok, lk_inl, lk_inr, Int.toNat_natCast]
    rw [hloop, bnd_ok]
    have hall : (List.range x.length).all (fun i => decide (x.getD i 0 = y.getD i 0)) = decide (x = y) := by
      rw [Bool.eq_iff_iff, List.all_eq_true, decide_eq_true_iff]
      constructor
      · intro h
        refine List.ext_getElem hl fun i h1 h2 => ?_
        have := of_decide_eq_true (h i (List.mem_range.2 h1))
        rw [getD_at x i 0 h1, getD_at y i 0 h2] at this
        exact this
      · rintro rfl i _
        simp
    rw [hall]
    cases decide (x = y) <;> rfl
  · have : ¬ x = y := fun h => hl (by rw [h])
    rw [bif_pos (by simp; omega), decide_eq_false this]

theorem partIn_eq (t : List (List Int)) (p : List Int) (ht : t.length ≤ 9223372036854775806) (hx : ∀ x ∈ t, x.length ≤ 9223372036854775806) : slices_ContainsFunc_int_int_43 t p = some (t.any fun x => decide (x = p)) := by
  obtain ⟨o, ho, hq⟩ := loop_any (step := fun a => slices_IndexFunc_int_int_43L0K t p (t.length : Int) a (fun a' => some (.next a')) (fun e => some (.done e)) (fun r => some (.ret r))) t [] (fun x => decide (x = p)) ht (fun i hi => by
    have he := equal_dec (t.getD i []) p (hx _ (getD_mem [] hi))
    by_cases e : t.getD i [] = p
    · rw [decide_eq_true e] at he ⊢
      simp (disch := omega) only [slices_IndexFunc_int_int_43L0K, law04_GraphTurned_1, he, ckB_ix, ckB_inR, ckB_room, ckB_cut, ckB_mk, ckB_ne, bif_lt, bif_nlt, bif_le, bif_nle, bif_eq, bif_neq, bif_ne, bif_nne, bif_not, bif_true', bif_false', bnd_ok, lk_inl, lk_inr, Int.toNat_natCast]
    · rw [decide_eq_false e] at he ⊢
      simp (disch := omega) only [slices_IndexFunc_int_int_43L0K, law04_GraphTurned_1, he, ckB_ix, ckB_inR, ckB_room, ckB_cut, ckB_mk, ckB_ne, bif_lt, bif_nlt, bif_le, bif_nle, bif_eq, bif_neq, bif_ne, bif_nne, bif_not, bif_true', bif_false', bnd_ok, lk_inl, lk_inr, Int.toNat_natCast]
      rw [cast_succ]) (by simp (disch := omega) only [slices_IndexFunc_int_int_43L0K, ckB_ix, ckB_inR, ckB_room, ckB_cut, ckB_mk, ckB_ne, bif_lt, bif_nlt, bif_le, bif_nle, bif_eq, bif_neq, bif_ne, bif_nne, bif_not, bif_true', bif_false', bnd_ok, lk_inl, lk_inr, Int.toNat_natCast])
  have ho' : slices_IndexFunc_int_int_43L0 t p (t.length : Int) 0 = some o := ho
  unfold slices_ContainsFunc_int_int_43 slices_IndexFunc_int_int_43
  rw [ho', bnd_ok, ← hq]
  cases o <;> rfl

theorem notIn_eq (l p : List Int) (hl : l.length ≤ 9223372036854775806) (hp : p.length ≤ 9223372036854775806) : slices_ContainsFunc_int_int_44 l p = some (l.any fun x => !decide (x ∈ p)) := by
  obtain ⟨o, ho, hq⟩ := loop_any (step := fun a => slices_IndexFunc_int_int_44L0K l p (l.length : Int) a (fun a' => some (.next a')) (fun e => some (.done e)) (fun r => some (.ret r))) l 0 (fun x => !decide (x ∈ p)) hl (fun i hi => by
    obtain ⟨r, hr, hri⟩ := containsI p hp (l.getD i 0)
    have hrd : r = decide (l.getD i 0 ∈ p) := by rw [Bool.eq_iff_iff, hri, decide_eq_true_iff]
    rw [← hrd]
    cases r with
    | true =>
      simp (disch := omega) only [slices_IndexFunc_int_int_44L0K, law04_GraphTurned_2, hr, Bool.not_true, ckB_ix, ckB_inR, ckB_room, ckB_cut, ckB_mk, ckB_ne, bif_lt, bif_nlt, bif_le, bif_nle, bif_eq, bif_neq, bif_ne, bif_nne, bif_not, bif_true', bif_false', bnd_ok, lk_inl, lk_inr, Int.toNat_natCast]
      rw [cast_succ]
    | false => simp (disch := omega) only [slices_IndexFunc_int_int_44L0K, law04_GraphTurned_2, hr, Bool.not_false, ckB_ix, ckB_inR, ckB_room, ckB_cut, ckB_mk, ckB_ne, bif_lt, bif_nlt, bif_le, bif_nle, bif_eq, bif_neq, bif_ne, bif_nne, bif_not, bif_true', bif_false', bnd_ok, lk_inl, lk_inr, Int.toNat_natCast]) (by simp (disch := omega) only [slices_IndexFunc_int_int_44L0K, ckB_ix, ckB_inR, ckB_room, ckB_cut, ckB_mk, ckB_ne, bif_lt, bif_nlt, bif_le, bif_nle, bif_eq, bif_neq, bif_ne, bif_nne, bif_not, bif_true', bif_false', bnd_ok, lk_inl, lk_inr, Int.toNat_natCast])
  have ho' : slices_IndexFunc_int_int_44L0 l p (l.length : Int) 0 = some o := ho
  unfold slices_ContainsFunc_int_int_44 slices_IndexFunc_int_int_44
  rw [ho', bnd_ok, ← hq]
  cases o <;> rfl

theorem vOK_swap (n : Int) (e : St4) : vOK n (swapE e) = vOK n e := by simp only [vOK, swapE, Bool.and_comm]
theorem validB_swap {g : Graph} (h : validB g = true) : validB (g.1, g.2.1.map swapE, ()) = true := by
  unfold validB at h ⊢
  simp only [Bool.and_eq_true, List.all_eq_true, List.length_map] at h ⊢
  refine ⟨h.1, fun i hi => ?_⟩
  have hi' := List.mem_range.1 hi
  have h1 : (g.2.1.map swapE).getD i St4.z = swapE (g.2.1.getD i St4.z) := by
    rw [getD_at _ i _ (by simpa using hi'), List.getElem_map, getD_at _ i _ hi']
  rw [h1, vOK_swap]
  exact h.2 i hi

section
variable {N n n' : Nat} {E E' : List St4} {cl cl' : Nat → Int}

theorem kl_swap (E : List St4) (v : Nat) : kl (E.map swapE) v = kl E v := by
  have hm : ∀ e, e ∈ dbl (E.map swapE) ↔ e ∈ dbl E := fun e => by
    rw [dbl_mem, dbl_mem, swap_swap]
    exact or_comm
  obtain ⟨_, h2, h3⟩ := kl_spec E v
  obtain ⟨_, h5, h6⟩ := kl_spec (E.map swapE) v
  exact Nat.le_antisymm (h6 _ (h2.mono fun e he => (hm e).2 he)) (h3 _ (h5.mono fun e he => (hm e).1 he))
theorem compL_swap (i : Nat) : compL N (E.map swapE) i = compL N E i := by
  have h1 : kl (E.map swapE) = kl E := funext fun v => kl_swap E v
  unfold compL
  have h2 : compO N (E.map swapE) = compO N E := by unfold compO; rw [h1]
  rw [h1, h2]

theorem Rch.swap {u w : Nat} (h : Rch E u w) : Rch (E.map swapE) w u := by
  induction h with
  | refl => exact .refl _
  | step _ ha ih =>
    obtain ⟨e, he, h1, h2⟩ := ha
    exact (Rch.one ⟨swapE e, List.mem_map_of_mem he, h2, h1⟩).trans ih
theorem Rch.swap_iff {u w : Nat} : Rch (E.map swapE) u w ↔ Rch E w u := by
  constructor
  · intro h
    have := h.swap
    rw [swap_swap] at this
    exact this
  · exact Rch.swap

/-- As many were taken as there are: all were. -/
theorem all_taken (hC : CL N E (n : Int) cl) {T : List Nat} (h : InvS N E cl T) (hl : (T.length : Int) = (n : Int)) (c : Int) (h0 : 0 ≤ c) (h1 : c < (n : Int)) : tkB cl T c = true := by
  refine Classical.byContradiction fun hno => ?_
  have hnd := h.nd
  have hnd' := nodup_le n ((T.map fun r => Int.toNat (cl r)) ++ [Int.toNat c]) (by
    rw [List.nodup_append]
    refine ⟨?_, by simp, fun a ha b hb => ?_⟩
    · unfold List.Nodup at hnd ⊢
      rw [List.pairwise_map] at hnd ⊢
      refine hnd.imp_of_mem fun {a b} ha hb hab => fun he => ?_
      have r1 := hC.rng a (h.lt a ha)
      have r2 := hC.rng b (h.lt b hb)
      exact hab (by omega)
    · simp only [List.mem_singleton] at hb
      subst hb
      obtain ⟨q, hq, rfl⟩ := List.mem_map.1 ha
      have r1 := hC.rng q (h.lt q hq)
      exact fun he => hno (tkB_iff.2 ⟨q, hq, by omega⟩)) (fun x hx => by
      rcases List.mem_append.1 hx with hx | hx
      · obtain ⟨q, hq, rfl⟩ := List.mem_map.1 hx
        have r1 := hC.rng q (h.lt q hq)
        omega
      · simp only [List.mem_singleton] at hx
        omega)
  rw [List.length_append, List.length_map, List.length_singleton] at hnd'
  omega

/-- Two graphs with the same classes. -/
theorem same_classes (hC : CL N E (n : Int) cl) (hC' : CL N E' (n' : Int) cl') (hv : VE N E) (hsame : ∀ u w, u < N → w < N → (cl u = cl w ↔ cl' u = cl' w)) : n ≤ n' := by
  obtain ⟨h1, h2⟩ := finS_inv hC hv n [] InvS.nil (by simp)
  have h3 := nodup_le n' ((finS N E cl n []).map fun r => Int.toNat (cl' r)) (by
    have h4 := h1.nd
    unfold List.Nodup at h4 ⊢
    rw [List.pairwise_map] at h4 ⊢
    refine h4.imp_of_mem fun {a b} ha hb hab => fun h => ?_
    have r1 := hC'.rng a (h1.lt a ha)
    have r2 := hC'.rng b (h1.lt b hb)
    exact hab ((hsame a b (h1.lt a ha) (h1.lt b hb)).2 (by omega))) (fun x hx => by
      obtain ⟨r, hr, rfl⟩ := List.mem_map.1 hx
      have := hC'.rng r (h1.lt r hr)
      omega)
  rw [List.length_map] at h3
  omega
theorem part_in (hC : CL N E (n : Int) cl) (hC' : CL N E' (n' : Int) cl') (hv : VE N E) (hv' : VE N E') (hsame : ∀ u w, u < N → w < N → (cl u = cl w ↔ cl' u = cl' w)) :
    ∀ x ∈ outS N cl (finS N E cl n []), x ∈ outS N cl' (finS N E' cl' n' []) := by
  intro x hx
  obtain ⟨h1, h2⟩ := finS_inv hC hv n [] InvS.nil (by simp)
  obtain ⟨h1', h2'⟩ := finS_inv hC' hv' n' [] InvS.nil (by simp)
  obtain ⟨r, hr, rfl⟩ := List.mem_map.1 hx
  have hrN := h1.lt r hr
  have hrng := hC'.rng r hrN
  have htk := all_taken hC' h1' h2' (cl' r) hrng.1 hrng.2
  obtain ⟨q, hq, hqr⟩ := tkB_iff.1 htk
  refine List.mem_map.2 ⟨q, hq, congrArg casts (filter_same fun v hvN => ?_)⟩
  simp only [decide_eq_true_eq]
  rw [hqr, hsame v r hvN hrN]

theorem TurnedL1_eq (s t : List (List Int)) (hs : s.length ≤ 1000) (ht : t.length ≤ 1000) (hx : ∀ x ∈ t, x.length ≤ 1000) (hst : ∀ x ∈ s, x ∈ t) (a b c d : Int) (e f : List St4) :
    law04_GraphTurnedL1 a b t s (s.length : Int) c e d f 0 = some (.inl ()) := by
  refine loop_to (fun i : Nat => (i : Int)) s.length (many_of (by omega)) _ ?_ ?_ _ rfl
  · intro i hi
    have h1 := partIn_eq t (s.getD i []) (by omega) (fun x h => by have := hx x h; omega)
    have h2 : (t.any fun x => decide (x = s.getD i [])) = true := List.any_eq_true.2 ⟨_, hst _ (getD_mem [] hi), by simp⟩
    rw [h2] at h1
    simp (disch := omega) only [law04_GraphTurnedL1K, h1, Bool.not_true, ckB_ix, ckB_inR, ckB_room, ckB_cut, ckB_mk, ckB_ne, bif_lt, bif_nlt, bif_le, bif_nle, bif_eq, bif_neq, bif_ne, bif_nne, bif_not, bif_true', bif_false', bnd_ok, lk_inl, lk_inr, Int.toNat_natCast]
    rw [cast_succ]
  · simp (disch := omega) only [law04_GraphTurnedL1K, ckB_ix, ckB_inR, ckB_room, ckB_cut, ckB_mk, ckB_ne, bif_lt, bif_nlt, bif_le, bif_nle, bif_eq, bif_neq, bif_ne, bif_nne, bif_not, bif_true', bif_false', bnd_ok, lk_inl, lk_inr, Int.toNat_natCast]

theorem W_mono {S S' : Nat → Prop} (h : ∀ v, S v → S' v) : ∀ k v, W E S k v → W E S' k v
  | 0, v, hw => h v hw
  | k + 1, v, ⟨e, he, hw, hd⟩ => ⟨e, he, W_mono h k _ hw, hd⟩
end

theorem graph_Reverse_fine {g : Graph} (hval : validB g = true) (hE : g.2.1.length ≤ 20000) : graph_Reverse g = some ((g.1, g.2.1.map swapE, ()), 0) := by
  unfold graph_Reverse
  rw [graph_Valid_eq, hval, bnd_ok, bif_neg (c := !true) rfl, graph_reversed_eq g hE]
  rfl

theorem GraphTurned_main {g : Graph} {N : Nat} (hg : g.1 = (N : Int)) (hN : N ≤ 1000) (hE : g.2.1.length ≤ 10000) (hv : VE N g.2.1) (hval : validB g = true) {a b : Int} (ha0 : 0 ≤ a) (ha : a < (N : Int)) (hb0 : 0 ≤ b) (hb : b < (N : Int)) :
    law04_GraphTurnedT2 a b g.1 g.2.1 = some (.inr true) := by
  obtain ⟨gn, E, u⟩ := g
  simp only at hg hE hv
  subst hg
  have hE2 : E.length ≤ 20000 := by omega
  have hR : graph_Reverse ((N : Int), E, ()) = some (((N : Int), E.map swapE, ()), 0) := graph_Reverse_fine (g := ((N : Int), E, ())) hval hE2
  have hval' : validB ((N : Int), E.map swapE, ()) = true := validB_swap (g := ((N : Int), E, ())) hval
  have hEs : (E.map swapE).length ≤ 10000 := by simpa using hE
  have hEs2 : (E.map swapE).length ≤ 20000 := by omega
  have hR2 : graph_Reverse ((N : Int), E.map swapE, ()) = some (((N : Int), E, ()), 0) := by
    have := graph_Reverse_fine (g := ((N : Int), E.map swapE, ())) hval' hEs2
    simp only [swap_swap] at this
    exact this
  have hEE := equalE_self E (by omega)
  have hK := graph_Components_eq (g := ((N : Int), E, ())) rfl hN hE hv hval
  have hK2 := graph_Components_eq (g := ((N : Int), E.map swapE, ())) rfl hN hEs hv.swap hval'
  simp only [compL_swap] at hK2
  simp only at hK
  have hSa := same_self (compL N E N) (Nat.le_trans (compL_len N E N) hN) (compL_short hN)
  obtain ⟨n, cl, hC, hS⟩ := graph_Strong_eq (g := ((N : Int), E, ())) rfl hN hE2 hv hval
  obtain ⟨n', cl', hC', hS'⟩ := graph_Strong_eq (g := ((N : Int), E.map swapE, ())) rfl hN hEs2 hv.swap hval'
  simp only at hC hS hC' hS'
  have hsame : ∀ u w, u < N → w < N → (cl u = cl w ↔ cl' u = cl' w) := fun u w hu hw => by
    rw [hC.scc u w hu hw, hC'.scc u w hu hw, Rch.swap_iff, Rch.swap_iff, and_comm]
  have hn1 := same_classes hC hC' hv hsame
  have hn2 := same_classes hC' hC hv.swap (fun u w hu hw => (hsame u w hu hw).symm)
  have hf := finS_inv hC hv n [] InvS.nil (by simp)
  have hf' := finS_inv hC' hv.swap n' [] InvS.nil (by simp)
  have hl : (outS N cl (finS N E cl n [])).length = n := by rw [List.length_map]; have := hf.2; omega
  have hl' : (outS N cl' (finS N (E.map swapE) cl' n' [])).length = n := by rw [List.length_map]; have := hf'.2; omega
  have hnN : n ≤ 1000 := by have := hC.ccN; omega
  have hL1 := TurnedL1_eq (outS N cl (finS N E cl n [])) (outS N cl' (finS N (E.map swapE) cl' n' [])) (by omega) (by omega) (outS_short hN) (part_in hC hC' hv hv.swap hsame) a b (N : Int) (N : Int) E (E.map swapE)
  rw [hl] at hL1
  obtain ⟨p, hp, hpi⟩ := graph_Between_eq (g := ((N : Int), E, ())) rfl hN hE2 hv hval ha0 ha hb0 hb
  obtain ⟨q, hq, hqi⟩ := graph_Between_eq (g := ((N : Int), E.map swapE, ())) rfl hN hEs2 hv.swap hval' hb0 hb ha0 ha
  simp only [swap_swap] at hpi hqi
  have hpq : (List.range N).filter q = (List.range N).filter p := filter_same fun v _ => by rw [hpi v, hqi v, and_comm]
  rw [hpq] at hq
  obtain ⟨r1, hr1, hri1⟩ := graph_Reach_eq (g := ((N : Int), E, ())) rfl hN hE2 hv hval (l := [a]) (by simp) (fun x hx => by simp at hx; subst hx; exact ⟨ha0, ha⟩)
  obtain ⟨r2, hr2, hri2⟩ := graph_Reach_eq (g := ((N : Int), E, ())) rfl hN hE2 hv hval (l := [a, b]) (by simp) (fun x hx => by
    simp at hx
    rcases hx with rfl | rfl
    · exact ⟨ha0, ha⟩
    · exact ⟨hb0, hb⟩)
  simp only at hri1 hri2
  have hpl := casts_filter_len (N := N) p
  have hrl1 := casts_filter_len (N := N) r1
  have hrl2 := casts_filter_len (N := N) r2
  have hEq := equal_self (casts ((List.range N).filter p)) (by omega)
  obtain ⟨x, hx, hxi⟩ := containsI (casts ((List.range N).filter r1)) (by omega) b
  have hab : (∃ k, W E (SF [a]) k (Int.toNat b)) ↔ Rch E (Int.toNat a) (Int.toNat b) := by
    rw [← W_rch]
    exact exists_congr fun k => W_congr (fun x => SF_one) k _
  have hx1 : x = true ↔ Rch E (Int.toNat a) (Int.toNat b) := by
    rw [hxi, ← hab, ← hri1]
    constructor
    · intro h
      obtain ⟨v, hv1, hv2⟩ := List.mem_map.1 h
      have hvb : v = Int.toNat b := by omega
      rw [← hvb]
      exact (List.mem_filter.1 hv1).2
    · intro h
      exact List.mem_map.2 ⟨Int.toNat b, List.mem_filter.2 ⟨List.mem_range.2 (by omega), h⟩, by omega⟩
  have hx2 : x = decide ((0 : Int) < ((casts ((List.range N).filter p)).length : Int)) := by
    rw [Bool.eq_iff_iff, hx1, decide_eq_true_iff]
    have hpv : ∀ v, p v = true ↔ Rch E (Int.toNat a) v ∧ Rch E v (Int.toNat b) := fun v => by
      rw [hpi v, ← W_rch, ← W_rch_turn]
      exact and_congr (exists_congr fun k => W_congr (fun x => SF_one) k _) (exists_congr fun k => W_congr (fun x => SF_one) k _)
    constructor
    · intro h
      have : Int.toNat b ∈ (List.range N).filter p := List.mem_filter.2 ⟨List.mem_range.2 (by omega), (hpv _).2 ⟨h, .refl _⟩⟩
      have := List.length_pos_of_mem this
      simp only [List.length_map]
      omega
    · intro h
      have hpos : 0 < ((List.range N).filter p).length := by simp only [List.length_map] at h; omega
      obtain ⟨v, hv⟩ := List.exists_mem_of_length_pos hpos
      have := (hpv v).1 (List.mem_filter.1 hv).2
      exact this.1.trans this.2
  have hni := notIn_eq (casts ((List.range N).filter r1)) (casts ((List.range N).filter r2)) (by omega) (by omega)
  have hno : ((casts ((List.range N).filter r1)).any fun x => !decide (x ∈ casts ((List.range N).filter r2))) = false := by
    rw [List.any_eq_false]
    intro x hx
    obtain ⟨v, hv1, rfl⟩ := List.mem_map.1 hx
    obtain ⟨hv2, hv3⟩ := List.mem_filter.1 hv1
    have : r2 v = true := by
      rw [hri2]
      obtain ⟨k, hk⟩ := (hri1 v).1 hv3
      refine ⟨k, W_mono (fun w hw => ?_) k v hk⟩
      obtain ⟨y, hy, rfl⟩ := hw
      exact ⟨y, by simp at hy; simp [hy], rfl⟩
    have hm : (v : Int) ∈ casts ((List.range N).filter r2) := List.mem_map_of_mem (List.mem_filter.2 ⟨hv2, this⟩)
    simp [hm]
  rw [hno] at hni
  unfold law04_GraphTurnedT2 law04_GraphTurnedT2K
  simp only [hR, hR2, hK, hK2, hS, hS', bnd_ok]
  rw [bif_neg (by simp), bif_neg (by simp), bif_neg (by simp), hEE, bnd_ok, bif_neg (by simp), bif_neg (by simp), bif_neg (by simp), bif_neg (by simp), bif_neg (by simp), hSa, bnd_ok, bif_neg (by simp), hl, hl', bif_neg (by simp), hL1, bnd_ok, lk_inl]
  simp only [hp, hq, hr1, hr2, bnd_ok]
  rw [bif_neg (by simp), bif_neg (by simp), bif_neg (by simp), bif_neg (by simp), hEq, bnd_ok, bif_neg (by simp), hx, bnd_ok, hx2, bif_neg (by simp), hni]
  rfl

theorem GraphTurned_true (g : Graph) (a b : Int) : law04_GraphTurned g a b = some true := by
  have hT : law04_GraphTurnedT0 a b true g.1 g.2.1 = some (.inr true) := by
    unfold law04_GraphTurnedT0 law04_GraphTurnedT0K
    rw [awake_true]
    rfl
  have hF : law04_GraphTurnedT0 a b false g.1 g.2.1 = some (.inl ()) := rfl
  unfold law04_GraphTurned
  simp only [awake_true, bnd_ok, hT, lk_inr]
  rw [bif_neg (c := !true) rfl]
  by_cases h1 : g.1 < 1
  · rw [bif_pos (by simpa using h1)]
  rw [bif_neg (by simpa using h1)]
  by_cases h2 : (20 : Int) < g.1
  · rw [bif_pos (by simpa using h2)]
  rw [bif_neg (by simpa using h2)]
  by_cases h3 : (60 : Int) < (g.2.1.length : Int)
  · rw [bif_pos (by simpa using h3)]
  rw [bif_neg (by simpa using h3), graph_Valid_eq, bnd_ok]
  cases hval : validB g with
  | false => rfl
  | true =>
    obtain ⟨N, hg, hN, hE, hv⟩ := valid_at hval
    rw [bif_neg (c := !true) rfl]
    by_cases h4 : a < 0
    · rw [bif_pos (by simpa using h4)]
    rw [bif_neg (by simpa using h4)]
    by_cases h5 : g.1 ≤ a
    · rw [bif_pos (by simpa using h5)]
    rw [bif_neg (by simpa using h5)]
    by_cases h6 : b < 0
    · rw [bif_pos (by simpa using h6)]
    rw [bif_neg (by simpa using h6)]
    by_cases h7 : g.1 ≤ b
    · rw [decide_eq_true h7, hT]; rfl
    rw [decide_eq_false h7, hF, bnd_ok, lk_inl, GraphTurned_main hg hN (by omega) hv hval (by omega) (by omega) (by omega) (by omega)]
    rfl

end Go.Proofs.Ytmcmlloigphbeaa
