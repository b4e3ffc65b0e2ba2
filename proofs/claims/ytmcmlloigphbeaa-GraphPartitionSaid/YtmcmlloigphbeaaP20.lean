/-
  Graphs: components and strong components have every vertex once; edges stay in components, and never lead back.
-/
import Derived.Test.YtmcmlloigphbeaaP19
set_option linter.all false
namespace Go.Proofs.Ytmcmlloigphbeaa
open Go.K Go.M

theorem less_eq (x y : Int) : cmp_Less_int x y = some (decide (x < y)) := by
  unfold cmp_Less_int cmp_isNaN_int
  simp

theorem sorted_eq (l : List Int) (hl : l.length ≤ 9223372036854775806) (h0 : 0 < l.length) (hs : ∀ i, i + 1 < l.length → l.getD i 0 ≤ l.getD (i + 1) 0) : slices_IsSorted_int_int l = some true := by
  have hloop : slices_IsSorted_int_intL0 l ((l.length : Int) - 1) = some (.inl ()) := by
    refine loop_to (fun k : Nat => ((l.length : Int) - 1 - (k : Int))) (l.length - 1) (many_of (by omega)) _ ?_ ?_ _ (by simp)
    · intro k hk
      have e1 : Int.toNat ((l.length : Int) - 1 - (k : Int)) = (l.length - 2 - k) + 1 := by omega
      have e2 : Int.toNat ((l.length : Int) - 1 - (k : Int) - 1) = l.length - 2 - k := by omega
      have h1 := hs (l.length - 2 - k) (by omega)
      have h2 : ¬ l.getD (l.length - 2 - k + 1) 0 < l.getD (l.length - 2 - k) 0 := by omega
      simp (disch := omega) only [slices_IsSorted_int_intL0K, less_eq, e1, e2, ckB_ix, ckB_inR, ckB_room, ckB_cut, ckB_mk, ckB_ne, bif_lt, bif_nlt, bif_le, bif_nle, bif_eq, bif_neq, bif_ne, bif_nne, bif_not, bif_true', bif_false', bnd_ok, lk_inl, lk_inr, Int.toNat_natCast]
      refine congrArg some (congrArg LR.next (by omega))
    · simp (disch := omega) only [slices_IsSorted_int_intL0K, ckB_ix, ckB_inR, ckB_room, ckB_cut, ckB_mk, ckB_ne, bif_lt, bif_nlt, bif_le, bif_nle, bif_eq, bif_neq, bif_ne, bif_nne, bif_not, bif_true', bif_false', bnd_ok, lk_inl, lk_inr, Int.toNat_natCast]
  unfold slices_IsSorted_int_int
  simp (disch := omega) only [hloop, ckB_ix, ckB_inR, ckB_room, ckB_cut, ckB_mk, ckB_ne, bif_lt, bif_nlt, bif_le, bif_nle, bif_eq, bif_neq, bif_ne, bif_nne, bif_not, bif_true', bif_false', bnd_ok, lk_inl, lk_inr, Int.toNat_natCast]

section
variable {N : Nat} {E : List St4} {c : Nat → Int} {R : List Nat}

/-- Classes, in the order of representatives. -/
structure Cs (N : Nat) (c : Nat → Int) (R : List Nat) : Prop where
  nd : (R.map c).Nodup
  lt : ∀ r ∈ R, r < N
  all : ∀ v, v < N → ∃ r ∈ R, c r = c v
def ixc (c : Nat → Int) (R : List Nat) (v : Nat) : Nat := (R.map c).idxOf (c v)

theorem ixc_lt (h : Cs N c R) {v : Nat} (hv : v < N) : ixc c R v < R.length := by
  obtain ⟨r, hr, he⟩ := h.all v hv
  have := List.idxOf_lt_length_of_mem (show c v ∈ R.map c from List.mem_map.2 ⟨r, hr, he⟩)
  simpa [ixc] using this
theorem ixc_iff (h : Cs N c R) {i : Nat} (hi : i < R.length) {v : Nat} (hv : v < N) : ixc c R v = i ↔ c v = c (R.getD i 0) := by
  have hil : i < (R.map c).length := by simpa using hi
  have hg : (R.map c)[i] = c (R.getD i 0) := by rw [List.getElem_map, getD_at R i 0 hi]
  constructor
  · intro e
    have h1 := ixc_lt h hv
    have h2 : (R.map c).idxOf (c v) < (R.map c).length := by simpa [ixc] using h1
    have h3 := List.getElem_idxOf h2
    unfold ixc at e
    simp only [e] at h3
    rw [← h3, hg]
  · intro e
    unfold ixc
    have hm : c v ∈ R.map c := by rw [e, ← hg]; exact List.getElem_mem hil
    have h2 := List.idxOf_lt_length_of_mem hm
    have h3 := List.getElem_idxOf h2
    refine Classical.byContradiction fun hne => ?_
    have hp := List.pairwise_iff_getElem.1 h.nd
    rcases Nat.lt_or_gt_of_ne hne with hlt | hlt
    · exact hp _ _ h2 hil hlt (by rw [h3, hg, e])
    · exact hp _ _ hil h2 hlt (by rw [h3, hg, e])
theorem ixc_same (h : Cs N c R) {u v : Nat} (hu : u < N) (hv : v < N) : ixc c R u = ixc c R v ↔ c u = c v := by
  constructor
  · intro e
    have h1 := ixc_lt h hv
    rw [ixc_iff h h1 hu] at e
    have := (ixc_iff h h1 hv).1 rfl
    rw [e, ← this]
  · intro e
    unfold ixc
    rw [e]

def pt (N : Nat) (c : Nat → Int) (r : Nat) : List Nat := (List.range N).filter fun v => decide (c v = c r)

theorem pt_sorted (N : Nat) (p : Nat → Bool) (i : Nat) (hi : i + 1 < (casts ((List.range N).filter p)).length) : (casts ((List.range N).filter p)).getD i 0 ≤ (casts ((List.range N).filter p)).getD (i + 1) 0 := by
  rw [casts_getD, casts_getD]
  have hi' : i + 1 < ((List.range N).filter p).length := by simpa using hi
  have hs : ((List.range N).filter p).Pairwise (· < ·) := List.pairwise_lt_range.filter _
  rw [getD_at _ _ _ (by omega), getD_at _ _ _ hi']
  have := List.pairwise_iff_getElem.1 hs i (i + 1) (by omega) hi' (by omega)
  omega

theorem placesL1_eq (hN : N ≤ 1000) (h : Cs N c R) {i : Nat} (hi : i < R.length) (hR : R.length ≤ 1000) (l : List (List Int)) (a b : Int) :
    law04_placesL1 (N : Int) (i : Int) l a b (casts (pt N c (R.getD i 0))) ((casts (pt N c (R.getD i 0))).length : Int) (0, tab N (fun v => if ixc c R v < i then (ixc c R v : Int) else -1)) = some (.inl (tab N fun v => if ixc c R v < i + 1 then (ixc c R v : Int) else -1)) := by
  have hcl : (casts (pt N c (R.getD i 0))).length = (pt N c (R.getD i 0)).length := by simp
  have hpl : (pt N c (R.getD i 0)).length ≤ N := by
    have := List.length_filter_le (fun v => decide (c v = c (R.getD i 0))) (List.range N)
    simpa [pt] using this
  rw [hcl]
  refine loop_to (fun j : Nat => ((j : Int), tab N (fun v => if ixc c R v < i then (ixc c R v : Int) else if v ∈ (pt N c (R.getD i 0)).take j then (i : Int) else -1))) (pt N c (R.getD i 0)).length (many_of (by omega)) _ ?_ ?_ _ ?_
  · intro j hj
    have hg := casts_getD (pt N c (R.getD i 0)) j
    have hm := getD_mem 0 hj
    have hvN : (pt N c (R.getD i 0)).getD j 0 < N := List.mem_range.1 (List.mem_filter.1 hm).1
    have hc : c ((pt N c (R.getD i 0)).getD j 0) = c (R.getD i 0) := of_decide_eq_true (List.mem_filter.1 hm).2
    have hx := (ixc_iff h hi hvN).2 hc
    have hnd : (pt N c (R.getD i 0)).getD j 0 ∉ (pt N c (R.getD i 0)).take j := by
      have h1 := take_succ_getD (pt N c (R.getD i 0)) j 0 hj
      have h2 : ((pt N c (R.getD i 0)).take (j + 1)).Nodup := (List.take_sublist _ _).nodup (List.nodup_range.filter _)
      rw [h1, List.nodup_append] at h2
      intro hm
      exact h2.2.2 _ hm _ (by simp) rfl
    have hval : (if ixc c R ((pt N c (R.getD i 0)).getD j 0) < i then (ixc c R ((pt N c (R.getD i 0)).getD j 0) : Int) else if (pt N c (R.getD i 0)).getD j 0 ∈ (pt N c (R.getD i 0)).take j then (i : Int) else -1) = -1 := by
      rw [if_neg (by omega), if_neg hnd]
    simp (disch := omega) only [law04_placesL1K, hg, hcl, tab_len, tab_getD hvN, hval, tab_set, ckB_ix, ckB_inR, ckB_room, ckB_cut, ckB_mk, ckB_ne, bif_lt, bif_nlt, bif_le, bif_nle, bif_eq, bif_neq, bif_ne, bif_nne, bif_not, bif_true', bif_false', bnd_ok, lk_inl, lk_inr, Int.toNat_natCast]
    refine congrArg some (congrArg LR.next (Prod.ext (by simp) (tab_congr fun w _ => ?_)))
    rw [take_succ_getD _ j 0 hj]
    by_cases e : w = (pt N c (R.getD i 0)).getD j 0
    · rw [if_pos e, if_neg (by rw [e]; omega), if_pos (List.mem_append.2 (.inr (List.mem_singleton.2 e)))]
    · rw [if_neg e]
      have : w ∈ (pt N c (R.getD i 0)).take j ++ [(pt N c (R.getD i 0)).getD j 0] ↔ w ∈ (pt N c (R.getD i 0)).take j := by rw [List.mem_append, List.mem_singleton]; exact ⟨fun h => h.resolve_right e, .inl⟩
      simp only [this]
  · simp (disch := omega) only [law04_placesL1K, hcl, ckB_ix, ckB_inR, ckB_room, ckB_cut, ckB_mk, ckB_ne, bif_lt, bif_nlt, bif_le, bif_nle, bif_eq, bif_neq, bif_ne, bif_nne, bif_not, bif_true', bif_false', bnd_ok, lk_inl, lk_inr, Int.toNat_natCast]
    rw [List.take_length]
    refine congrArg some (congrArg LR.done (tab_congr fun w hw => ?_))
    have hx := ixc_iff h hi hw
    have hmem : w ∈ pt N c (R.getD i 0) ↔ ixc c R w = i := by rw [hx]; simp [pt, hw]
    by_cases h1 : ixc c R w < i
    · rw [if_pos h1, if_pos (by omega)]
    · rw [if_neg h1]
      by_cases h2 : ixc c R w = i
      · rw [if_pos (hmem.2 h2), if_pos (by omega), h2]
      · rw [if_neg (fun h => h2 (hmem.1 h)), if_neg (by omega)]
  · simp

theorem places_eq (hN : N ≤ 1000) (h : Cs N c R) (hR : R.length ≤ 1000) (l : List (List Int)) (hl : l = R.map fun r => casts (pt N c r)) :
    law04_places l (N : Int) = some (tab N fun v => (ixc c R v : Int)) := by
  have hll : l.length = R.length := by rw [hl]; simp
  have hL0 : law04_placesL0 l (N : Int) (N : Int) (0, List.replicate N (0 : Int)) = some (.inl (tab N fun _ => -1)) := by
    refine loop_to (fun i : Nat => ((i : Int), tab N fun v => if v < i then (-1 : Int) else 0)) N (many_of (by omega)) _ ?_ ?_ _ ?_
    · intro i hi
      simp (disch := omega) only [law04_placesL0K, tab_len, tab_set, ckB_ix, ckB_inR, ckB_room, ckB_cut, ckB_mk, ckB_ne, bif_lt, bif_nlt, bif_le, bif_nle, bif_eq, bif_neq, bif_ne, bif_nne, bif_not, bif_true', bif_false', bnd_ok, lk_inl, lk_inr, Int.toNat_natCast]
      refine congrArg some (congrArg LR.next (Prod.ext (by simp) (tab_congr fun v _ => ?_)))
      by_cases e : v = i
      · subst e; simp
      · by_cases e' : v < i
        · have : v < i + 1 := by omega
          simp [e, e', this]
        · have : ¬ v < i + 1 := by omega
          simp [e, e', this]
    · simp (disch := omega) only [law04_placesL0K, ckB_ix, ckB_inR, ckB_room, ckB_cut, ckB_mk, ckB_ne, bif_lt, bif_nlt, bif_le, bif_nle, bif_eq, bif_neq, bif_ne, bif_nne, bif_not, bif_true', bif_false', bnd_ok, lk_inl, lk_inr, Int.toNat_natCast]
      refine congrArg some (congrArg LR.done (tab_congr fun v hv => ?_))
      simp [hv]
    · rw [tab_rep]; simp
  have hL2 : law04_placesL2 (N : Int) l (l.length : Int) (0, tab N fun _ => -1) = some (.inl (tab N fun v => (ixc c R v : Int))) := by
    rw [hll]
    refine loop_to (fun i : Nat => ((i : Int), tab N (fun v => if ixc c R v < i then (ixc c R v : Int) else -1))) R.length (many_of (by omega)) _ ?_ ?_ _ ?_
    · intro i hi
      have hg : l.getD i [] = casts (pt N c (R.getD i 0)) := by rw [hl, getD_at _ i [] (by simpa using hi), List.getElem_map, getD_at R i 0 hi]
      have hrN : R.getD i 0 < N := h.lt _ (getD_mem 0 hi)
      have hpos : 0 < (casts (pt N c (R.getD i 0))).length := by
        have : R.getD i 0 ∈ pt N c (R.getD i 0) := List.mem_filter.2 ⟨List.mem_range.2 hrN, by simp⟩
        simpa using List.length_pos_of_mem this
      have hpl := casts_filter_len (N := N) (fun v => decide (c v = c (R.getD i 0)))
      have hpl' : (casts (pt N c (R.getD i 0))).length ≤ N := hpl
      have hso := sorted_eq (casts (pt N c (R.getD i 0))) (by omega) hpos (pt_sorted N _)
      have hL1 := placesL1_eq hN h hi hR l (R.length : Int) (i : Int)
      simp (disch := omega) only [law04_placesL2K, hg, hll, hso, Bool.not_true, hL1, ckB_ix, ckB_inR, ckB_room, ckB_cut, ckB_mk, ckB_ne, bif_lt, bif_nlt, bif_le, bif_nle, bif_eq, bif_neq, bif_ne, bif_nne, bif_not, bif_true', bif_false', bnd_ok, lk_inl, lk_inr, Int.toNat_natCast]
      rw [cast_succ]
    · simp (disch := omega) only [law04_placesL2K, hll, ckB_ix, ckB_inR, ckB_room, ckB_cut, ckB_mk, ckB_ne, bif_lt, bif_nlt, bif_le, bif_nle, bif_eq, bif_neq, bif_ne, bif_nne, bif_not, bif_true', bif_false', bnd_ok, lk_inl, lk_inr, Int.toNat_natCast]
      refine congrArg some (congrArg LR.done (tab_congr fun v hv => ?_))
      rw [if_pos (ixc_lt h hv)]
    · simp
  obtain ⟨r, hr, hri⟩ := containsI (tab N fun v => (ixc c R v : Int)) (by rw [tab_len]; omega) (-1)
  have hrf : r = false := by
    cases r with
    | false => rfl
    | true =>
      obtain ⟨v, _, hv⟩ := List.mem_map.1 (hri.1 rfl)
      omega
  subst hrf
  unfold law04_places
  simp (disch := omega) only [List.length_replicate, hL0, hL2, hr, ckB_ix, ckB_inR, ckB_room, ckB_cut, ckB_mk, ckB_ne, bif_lt, bif_nlt, bif_le, bif_nle, bif_eq, bif_neq, bif_ne, bif_nne, bif_not, bif_true', bif_false', bnd_ok, lk_inl, lk_inr, Int.toNat_natCast]

theorem compCs (E : List St4) : Cs N (fun v => (kl E v : Int)) ((List.range N).filter fun v => decide (kl E v = v)) := by
  refine ⟨?_, fun r hr => List.mem_range.1 (List.mem_filter.1 hr).1, fun v hv => ⟨kl E v, ?_, ?_⟩⟩
  · unfold List.Nodup
    rw [List.pairwise_map]
    refine ((List.filter_sublist (p := fun v => decide (kl E v = v)) (l := List.range N)).nodup (List.nodup_range (n := N))).imp_of_mem fun {a b} ha hb hab => fun he => ?_
    have h1 : kl E a = a := of_decide_eq_true (List.mem_filter.1 ha).2
    have h2 : kl E b = b := of_decide_eq_true (List.mem_filter.1 hb).2
    rw [h1, h2] at he
    exact hab (by omega)
  · exact List.mem_filter.2 ⟨List.mem_range.2 (by have := (kl_spec E v).1; omega), by simp [kl_kl]⟩
  · simp [kl_kl]
theorem comp_pt (E : List St4) : compL N E N = ((List.range N).filter fun v => decide (kl E v = v)).map fun r => casts (pt N (fun v => (kl E v : Int)) r) := by
  refine List.map_congr_left fun r hr => ?_
  have h1 : kl E r = r := of_decide_eq_true (List.mem_filter.1 hr).2
  refine congrArg casts (filter_same fun v _ => ?_)
  simp only [decide_eq_true_eq, h1]
  omega

theorem strongCs {n : Nat} {cl : Nat → Int} (hC : CL N E (n : Int) cl) {T : List Nat} (hT : InvS N E cl T) (hl : (T.length : Int) = (n : Int)) : Cs N cl T := by
  refine ⟨hT.nd, hT.lt, fun v hv => ?_⟩
  have h1 := hC.rng v hv
  exact tkB_iff.1 (all_taken hC hT hl (cl v) h1.1 h1.2)

theorem strong_fwd (hv : VE N E) {cl : Nat → Int} {T : List Nat} (hT : InvS N E cl T) (hc : Cs N cl T) {e : St4} (he : e ∈ E) : ixc cl T (src e) ≤ ixc cl T (dst e) := by
  obtain ⟨v1, v2, v3, v4⟩ := hv.mem he
  have hs : src e < N := by show Int.toNat e.1 < N; omega
  have hd : dst e < N := by show Int.toNat e.2.1 < N; omega
  obtain ⟨r, hr, hre⟩ := hc.all (dst e) hd
  obtain ⟨T1, T2, hTT⟩ := List.append_of_mem hr
  have hnd := hT.nd
  have hdx : ixc cl T (dst e) = T1.length := by
    have : T1.length < T.length := by rw [hTT]; simp
    rw [ixc_iff hc this hd]
    have : T.getD T1.length 0 = r := by rw [hTT, getD_at _ _ _ (by simp)]; simp
    rw [this, hre]
  rcases hT.ord T1 r T2 hTT e he hre.symm with h | h
  · have : ixc cl T (src e) = ixc cl T (dst e) := (ixc_same hc hs hd).2 (h.trans hre)
    omega
  · obtain ⟨q, hq, hqe⟩ := tkB_iff.1 h
    have hm : cl (src e) ∈ T1.map cl := List.mem_map.2 ⟨q, hq, hqe⟩
    have h1 := List.idxOf_lt_length_of_mem hm
    have : ixc cl T (src e) = (T1.map cl).idxOf (cl (src e)) := by
      unfold ixc
      rw [hTT, List.map_append, List.idxOf_append, if_pos hm]
    rw [List.length_map] at h1
    omega

theorem in_eq41 (l p : List Int) (hl : l.length ≤ 9223372036854775806) (hp : p.length ≤ 9223372036854775806) : slices_ContainsFunc_int_int_41 l p = some (l.any fun x => !decide (x ∈ p)) := by
  obtain ⟨o, ho, hq⟩ := loop_any (step := fun a => slices_IndexFunc_int_int_41L0K l p (l.length : Int) a (fun a' => some (.next a')) (fun e => some (.done e)) (fun r => some (.ret r))) l 0 (fun x => !decide (x ∈ p)) hl (fun i hi => by
    obtain ⟨r, hr, hri⟩ := containsI p hp (l.getD i 0)
    have hrd : r = decide (l.getD i 0 ∈ p) := by rw [Bool.eq_iff_iff, hri, decide_eq_true_iff]
    rw [← hrd]
    cases r with
    | true =>
      simp (disch := omega) only [slices_IndexFunc_int_int_41L0K, law04_GraphPartition_1, hr, Bool.not_true, ckB_ix, ckB_inR, ckB_room, ckB_cut, ckB_mk, ckB_ne, bif_lt, bif_nlt, bif_le, bif_nle, bif_eq, bif_neq, bif_ne, bif_nne, bif_not, bif_true', bif_false', bnd_ok, lk_inl, lk_inr, Int.toNat_natCast]
      rw [cast_succ]
    | false => simp (disch := omega) only [slices_IndexFunc_int_int_41L0K, law04_GraphPartition_1, hr, Bool.not_false, ckB_ix, ckB_inR, ckB_room, ckB_cut, ckB_mk, ckB_ne, bif_lt, bif_nlt, bif_le, bif_nle, bif_eq, bif_neq, bif_ne, bif_nne, bif_not, bif_true', bif_false', bnd_ok, lk_inl, lk_inr, Int.toNat_natCast]) (by simp (disch := omega) only [slices_IndexFunc_int_int_41L0K, ckB_ix, ckB_inR, ckB_room, ckB_cut, ckB_mk, ckB_ne, bif_lt, bif_nlt, bif_le, bif_nle, bif_eq, bif_neq, bif_ne, bif_nne, bif_not, bif_true', bif_false', bnd_ok, lk_inl, lk_inr, Int.toNat_natCast])
  have ho' : slices_IndexFunc_int_int_41L0 l p (l.length : Int) 0 = some o := ho
  unfold slices_ContainsFunc_int_int_41 slices_IndexFunc_int_int_41
  rw [ho', bnd_ok, ← hq]
  cases o <;> rfl

theorem ckB_blt {α : Type} {n : Nat} {m : Option α} (h : 0 < n) : ckB (Nat.blt 0 n) m = m := ckB_pos (Nat.ble_eq_true_of_le h) m
end

theorem GraphPartition_true (g : Graph) : law04_GraphPartition g = some true := by
  unfold law04_GraphPartition
  simp only [awake_true, bnd_ok]
  rw [bif_neg (c := !true) rfl]
  by_cases h1 : g.1 < 1
  · rw [bif_pos (by simpa using h1)]
  rw [bif_neg (by simpa using h1)]
  by_cases h2 : (30 : Int) < g.1
  · rw [bif_pos (by simpa using h2)]
  rw [bif_neg (by simpa using h2)]
  by_cases h3 : (90 : Int) < (g.2.1.length : Int)
  · rw [bif_pos (by simpa using h3)]
  rw [bif_neg (by simpa using h3), graph_Valid_eq, bnd_ok]
  cases hval : validB g with
  | false => rfl
  | true =>
    obtain ⟨N, hg, hN, hE, hv⟩ := valid_at hval
    obtain ⟨n, cl, hC, hS⟩ := graph_Strong_eq hg hN hE hv hval
    have hf := finS_inv hC hv n [] InvS.nil (by simp)
    generalize hT : finS N g.2.1 cl n [] = T at hf hS
    have hCs := strongCs hC hf.1 hf.2
    have hTl := hf.1.len
    have hK := graph_Components_eq hg hN (by omega) hv hval
    have hp1 := places_eq (N := N) hN (compCs g.2.1) (by
      have := List.length_filter_le (fun v => decide (kl g.2.1 v = v)) (List.range N)
      simp at this
      omega) (compL N g.2.1 N) (comp_pt g.2.1)
    have hp2 := places_eq (N := N) hN hCs (by omega) (outS N cl T) rfl
    have hN1 : 1 ≤ N := by omega
    have hlo : (outS N cl T).length = T.length := by simp
    have hL0 : law04_GraphPartitionL0 (outS N cl T) (tab N fun v => (ixc (fun v => (kl g.2.1 v : Int)) ((List.range N).filter fun v => decide (kl g.2.1 v = v)) v : Int)) (tab N fun v => (ixc cl T v : Int)) g.2.1 (g.2.1.length : Int) g.1 g.2.1 0 = some (.inl ()) := by
      refine loop_to (fun i : Nat => (i : Int)) g.2.1.length (many_of (by omega)) _ ?_ ?_ _ rfl
      · intro i hi
        obtain ⟨v1, v2, v3, v4⟩ := hv i hi
        have k1 : Int.toNat (g.2.1.getD i St4.z).1 < N := by omega
        have k2 : Int.toNat (g.2.1.getD i St4.z).2.1 < N := by omega
        have hm := getD_mem St4.z hi
        have f1 := strong_fwd hv hf.1 hCs hm
        have f2 : ixc (fun v => (kl g.2.1 v : Int)) ((List.range N).filter fun v => decide (kl g.2.1 v = v)) (Int.toNat (g.2.1.getD i St4.z).1) = ixc (fun v => (kl g.2.1 v : Int)) ((List.range N).filter fun v => decide (kl g.2.1 v = v)) (Int.toNat (g.2.1.getD i St4.z).2.1) := by
          rw [ixc_same (compCs g.2.1) k1 k2]
          have : kl g.2.1 (Int.toNat (g.2.1.getD i St4.z).1) = kl g.2.1 (Int.toNat (g.2.1.getD i St4.z).2.1) := kl_eq.2 (.one ⟨_, dbl_mem.2 (.inl hm), rfl, rfl⟩)
          simp only [this]
        have f1' : ixc cl T (Int.toNat (g.2.1.getD i St4.z).1) ≤ ixc cl T (Int.toNat (g.2.1.getD i St4.z).2.1) := f1
        simp (disch := omega) only [law04_GraphPartitionL0K, tab_len, tab_getD k1, tab_getD k2, hg, ckB_ix, ckB_inR, ckB_room, ckB_cut, ckB_mk, ckB_ne, bif_lt, bif_nlt, bif_le, bif_nle, bif_eq, bif_neq, bif_ne, bif_nne, bif_not, bif_true', bif_false', bnd_ok, lk_inl, lk_inr, Int.toNat_natCast]
        rw [cast_succ]
      · simp (disch := omega) only [law04_GraphPartitionL0K, ckB_ix, ckB_inR, ckB_room, ckB_cut, ckB_mk, ckB_ne, bif_lt, bif_nlt, bif_le, bif_nle, bif_eq, bif_neq, bif_ne, bif_nne, bif_not, bif_true', bif_false', bnd_ok, lk_inl, lk_inr, Int.toNat_natCast]
    have hL1 : ∀ r ∈ T, ∀ (a : List (List Int)) (b d : Int), law04_GraphPartitionL1 (mems N cl (cl r)) a b d (mems N cl (cl r)) ((mems N cl (cl r)).length : Int) g.1 g.2.1 0 = some (.inl ()) := by
      intro r hr a b d
      have hml := mem_len (N := N) (cl := cl) (c := cl r)
      have hcl : (mems N cl (cl r)).length = (mem N cl (cl r)).length := by simp
      refine loop_to (fun i : Nat => (i : Int)) (mems N cl (cl r)).length (many_of (by omega)) _ ?_ ?_ _ rfl
      · intro i hi
        have hi' : i < (mem N cl (cl r)).length := by omega
        have hgd := casts_getD (mem N cl (cl r)) i
        have hm := mem_mem.1 (getD_mem 0 hi')
        obtain ⟨p, hp, hpi⟩ := graph_Reach_eq (g := (g.1, g.2.1, ())) hg hN hE hv hval (l := [(((mem N cl (cl r)).getD i 0 : Nat) : Int)]) (by simp) (fun x hx => by
          simp at hx
          subst hx
          have := hm.1
          simp at this
          show 0 ≤ _ ∧ _ < g.1
          rw [hg]
          omega)
        have hpl := casts_filter_len (N := N) p
        have hin := in_eq41 (mems N cl (cl r)) (casts ((List.range N).filter p)) (by omega) (by omega)
        have hno : ((mems N cl (cl r)).any fun x => !decide (x ∈ casts ((List.range N).filter p))) = false := by
          rw [List.any_eq_false]
          intro x hx
          obtain ⟨w, hw, rfl⟩ := List.mem_map.1 hx
          have hw' := mem_mem.1 hw
          have hr1 : Rch g.2.1 ((mem N cl (cl r)).getD i 0) w := ((hC.scc _ _ hm.1 hw'.1).1 (hm.2.trans hw'.2.symm)).1
          have hpw : p w = true := by
            rw [hpi]
            obtain ⟨k, hk⟩ := W_rch.2 hr1
            refine ⟨k, (W_congr (fun x => ?_) k w).1 hk⟩
            rw [SF_one, Int.toNat_natCast]
          have : (w : Int) ∈ casts ((List.range N).filter p) := List.mem_map_of_mem (List.mem_filter.2 ⟨List.mem_range.2 hw'.1, hpw⟩)
          simp [this]
        rw [hno] at hin
        simp (disch := omega) only [law04_GraphPartitionL1K, hgd, hp, hin, decide_true, ckB_ix, ckB_inR, ckB_room, ckB_cut, ckB_mk, ckB_ne, bif_lt, bif_nlt, bif_le, bif_nle, bif_eq, bif_neq, bif_ne, bif_nne, bif_not, bif_true', bif_false', bnd_ok, lk_inl, lk_inr, Int.toNat_natCast]
        rw [cast_succ]
      · simp (disch := omega) only [law04_GraphPartitionL1K, ckB_ix, ckB_inR, ckB_room, ckB_cut, ckB_mk, ckB_ne, bif_lt, bif_nlt, bif_le, bif_nle, bif_eq, bif_neq, bif_ne, bif_nne, bif_not, bif_true', bif_false', bnd_ok, lk_inl, lk_inr, Int.toNat_natCast]
    have hL2 : law04_GraphPartitionL2 (outS N cl T) (T.length : Int) g.1 g.2.1 0 = some (.inl ()) := by
      refine loop_to (fun i : Nat => (i : Int)) T.length (many_of (by omega)) _ ?_ ?_ _ rfl
      · intro i hi
        have hgd : (outS N cl T).getD i [] = mems N cl (cl (T.getD i 0)) := by rw [getD_at _ i [] (by simpa using hi), List.getElem_map, getD_at T i 0 hi]
        simp (disch := omega) only [law04_GraphPartitionL2K, hgd, hlo, hL1 _ (getD_mem 0 hi), ckB_ix, ckB_inR, ckB_room, ckB_cut, ckB_mk, ckB_ne, bif_lt, bif_nlt, bif_le, bif_nle, bif_eq, bif_neq, bif_ne, bif_nne, bif_not, bif_true', bif_false', bnd_ok, lk_inl, lk_inr, Int.toNat_natCast]
        rw [cast_succ]
      · simp (disch := omega) only [law04_GraphPartitionL2K, ckB_ix, ckB_inR, ckB_room, ckB_cut, ckB_mk, ckB_ne, bif_lt, bif_nlt, bif_le, bif_nle, bif_eq, bif_neq, bif_ne, bif_nne, bif_not, bif_true', bif_false', bnd_ok, lk_inl, lk_inr, Int.toNat_natCast]
    rw [bif_neg (c := !true) rfl, hK, bnd_ok, hS, bnd_ok]
    simp only []
    rw [hg, hp1, bnd_ok, hp2, bnd_ok, bif_neg (by simp), bif_neg (by simp), ckB_blt (by rw [tab_len]; omega), ckB_blt (by rw [tab_len]; omega), ← hg, hL0, bnd_ok, lk_inl, hlo, hL2]
    rfl

end Go.Proofs.Ytmcmlloigphbeaa
