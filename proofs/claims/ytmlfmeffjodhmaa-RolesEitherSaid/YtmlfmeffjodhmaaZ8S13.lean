/-
  Roles: the law RolesAssigns.
-/
import Derived.Test.YtmlfmeffjodhmaaZ8S12
set_option linter.all false
namespace Go.Proofs.Ytmlfmeffjodhmaa
open Go.K Go.M
section
variable (o : Org) (g : Nat → Nat → Bool) (n i : Nat) (hn : n ≤ 12) (hP : o.1.length ≤ 12) (hi : i < n) (out : List ByteArray) (ho : out.length ≤ 12)
include hn hP hi ho
theorem refAssignL2_eq : ref46_AssignL2 (o.1.length : Int) (i : Int) o.1 o.2.1 o.2.2.1 (RW g n o.1.length) out 0 = some (.inl (RW (asgR (fun k => (o.1.getD k Person.z).1) g n o.1.length i out).1 n o.1.length, (asgR (fun k => (o.1.getD k Person.z).1) g n o.1.length i out).2)) := by
  have h0 := loop_stop (step := fun a => ref46_AssignL2K (o.1.length : Int) (i : Int) o.1 o.2.1 o.2.2.1 (RW g n o.1.length) out a (fun a' => some (.next a')) (fun e => some (.done e)) (fun r => some (.ret r)))
    (fun k : Nat => (k : Int)) o.1.length (many_of (by omega)) (fun k => if goodK g n o.1.length i k = true then some (.inl (RW (delG g i k) n o.1.length, out ++ [(o.1.getD k Person.z).1])) else none) (RW g n o.1.length, out) ?_ ?_ ?_
  · refine Eq.trans h0 ?_
    rw [findSome_if]
    unfold asgR pick
    cases (List.range o.1.length).find? (goodK g n o.1.length i) <;> rfl
  all_goals have hl1 : (RW g n o.1.length).length = n := tab_len _ _
  all_goals have hrow : (RW g n o.1.length).getD i [] = tab o.1.length (g i) := tab_getD hi
  all_goals have hl2 : (tab o.1.length (g i)).length = o.1.length := tab_len _ _
  · intro k hk hnone
    have hg : goodK g n o.1.length i k = false := by
      cases hg : goodK g n o.1.length i k with
      | false => rfl
      | true => rw [if_pos hg] at hnone; cases hnone
    have hbit : (tab o.1.length (g i)).getD k false = g i k := tab_getD hk
    have hA := refAssignL0_eq g n o.1.length i k hn hP hi hk o.1 o.2.1 o.2.2.1 out
    rw [← cast_succ] at hA
    have hM := refblock_RW (restG g i k) (n - (i + 1)) o.1.length (by omega) hP
    unfold goodK at hg
    simp only [ref46_AssignL2K, hl1, Int.toNat_natCast, hrow, hl2, hbit]
    simp (disch := omega) only [ckB_ix, ckB_inR, ckB_room, ckB_cut, ckB_mk, ckB_ne, bif_lt, bif_nlt, bif_le, bif_nle, bif_eq, bif_neq, bif_ne, bif_nne, bif_not, bif_true', bif_false', bnd_ok, lk_inl, lk_inr, Int.toNat_natCast, decide_true]
    cases hgk : g i k with
    | false => rfl
    | true =>
      rw [hgk, Bool.true_and] at hg
      simp (disch := omega) only [hA, hM, hg, ckB_ix, ckB_inR, ckB_room, ckB_cut, ckB_mk, ckB_ne, bif_lt, bif_nlt, bif_le, bif_nle, bif_eq, bif_neq, bif_ne, bif_nne, bif_not, bif_true', bif_false', bnd_ok, lk_inl, lk_inr, Int.toNat_natCast, decide_true]
      simp
  · intro k oo hk hsome
    have hg : goodK g n o.1.length i k = true := by
      cases hg : goodK g n o.1.length i k with
      | false => rw [hg] at hsome; cases hsome
      | true => rfl
    rw [if_pos hg] at hsome
    obtain rfl := Option.some.inj hsome
    have hbit : (tab o.1.length (g i)).getD k false = g i k := tab_getD hk
    have hA := refAssignL0_eq g n o.1.length i k hn hP hi hk o.1 o.2.1 o.2.2.1 out
    have hB := refAssignL1_eq g n o.1.length i k hn hP hi hk o.1 o.2.1 o.2.2.1 (out ++ [(o.1.getD k Person.z).1])
    rw [← cast_succ] at hA hB
    have hM := refblock_RW (restG g i k) (n - (i + 1)) o.1.length (by omega) hP
    unfold goodK at hg
    rw [Bool.and_eq_true] at hg
    simp only [ref46_AssignL2K, hl1, Int.toNat_natCast, hrow, hl2, hbit, hg.1]
    simp (disch := omega) only [hA, hM, hg.2, hB, ckB_ix, ckB_inR, ckB_room, ckB_cut, ckB_mk, ckB_ne, bif_lt, bif_nlt, bif_le, bif_nle, bif_eq, bif_neq, bif_ne, bif_nne, bif_not, bif_true', bif_false', bnd_ok, lk_inl, lk_inr, Int.toNat_natCast, decide_true]
  · simp only [ref46_AssignL2K]
    simp (disch := omega) only [ckB_ix, ckB_inR, ckB_room, ckB_cut, ckB_mk, ckB_ne, bif_lt, bif_nlt, bif_le, bif_nle, bif_eq, bif_neq, bif_ne, bif_nne, bif_not, bif_true', bif_false', bnd_ok, lk_inl, lk_inr, Int.toNat_natCast, decide_true]
end
section
variable (o : Org) (g : Nat → Nat → Bool) (n : Nat) (hn : n ≤ 12) (hP : o.1.length ≤ 12)
include hn hP
theorem AssignL2_eq : roles_AssignL2 (n : Int) o.1 o.2.1 o.2.2.1 (0, ints (BS g n o.1.length), []) = some (.inl (asgS (fun k => (o.1.getD k Person.z).1) g n o.1.length n).2) := by
  refine loop_to (fun i : Nat => ((i : Int), ints (BS (asgS (fun k => (o.1.getD k Person.z).1) g n o.1.length i).1 n o.1.length), (asgS (fun k => (o.1.getD k Person.z).1) g n o.1.length i).2)) n (many_of (by omega)) _ (fun i hi => ?_) ?_ _ rfl
  · have := asg_len (fun k => (o.1.getD k Person.z).1) g n o.1.length i
    have h0 := AssignL1_eq o (asgS (fun k => (o.1.getD k Person.z).1) g n o.1.length i).1 n i hn hP hi (asgS (fun k => (o.1.getD k Person.z).1) g n o.1.length i).2 (by omega)
    simp only [roles_AssignL2K, h0]
    simp (disch := omega) only [ckB_ix, ckB_inR, ckB_room, ckB_cut, ckB_mk, ckB_ne, bif_lt, bif_nlt, bif_le, bif_nle, bif_eq, bif_neq, bif_ne, bif_nne, bif_not, bif_true', bif_false', bnd_ok, lk_inl, lk_inr, Int.toNat_natCast, decide_true]
    rw [cast_succ]
    rfl
  · simp only [roles_AssignL2K]
    simp (disch := omega) only [ckB_ix, ckB_inR, ckB_room, ckB_cut, ckB_mk, ckB_ne, bif_lt, bif_nlt, bif_le, bif_nle, bif_eq, bif_neq, bif_ne, bif_nne, bif_not, bif_true', bif_false', bnd_ok, lk_inl, lk_inr, Int.toNat_natCast, decide_true]
theorem refAssignL3_eq : ref46_AssignL3 (o.1.length : Int) o.1 o.2.1 o.2.2.1 (0, RW g n o.1.length, []) = some (.inl (asgS (fun k => (o.1.getD k Person.z).1) g n o.1.length n).2) := by
  refine loop_to (fun i : Nat => ((i : Int), RW (asgS (fun k => (o.1.getD k Person.z).1) g n o.1.length i).1 n o.1.length, (asgS (fun k => (o.1.getD k Person.z).1) g n o.1.length i).2)) n (many_of (by omega)) _ (fun i hi => ?_) ?_ _ rfl
  · have := asg_len (fun k => (o.1.getD k Person.z).1) g n o.1.length i
    have h0 := refAssignL2_eq o (asgS (fun k => (o.1.getD k Person.z).1) g n o.1.length i).1 n i hn hP hi (asgS (fun k => (o.1.getD k Person.z).1) g n o.1.length i).2 (by omega)
    have hl : (RW (asgS (fun k => (o.1.getD k Person.z).1) g n o.1.length i).1 n o.1.length).length = n := tab_len _ _
    simp only [ref46_AssignL3K, h0, hl]
    simp (disch := omega) only [ckB_ix, ckB_inR, ckB_room, ckB_cut, ckB_mk, ckB_ne, bif_lt, bif_nlt, bif_le, bif_nle, bif_eq, bif_neq, bif_ne, bif_nne, bif_not, bif_true', bif_false', bnd_ok, lk_inl, lk_inr, Int.toNat_natCast, decide_true]
    rw [cast_succ]
    rfl
  · have hl : (RW (asgS (fun k => (o.1.getD k Person.z).1) g n o.1.length n).1 n o.1.length).length = n := tab_len _ _
    simp only [ref46_AssignL3K, hl]
    simp (disch := omega) only [ckB_ix, ckB_inR, ckB_room, ckB_cut, ckB_mk, ckB_ne, bif_lt, bif_nlt, bif_le, bif_nle, bif_eq, bif_neq, bif_ne, bif_nne, bif_not, bif_true', bif_false', bnd_ok, lk_inl, lk_inr, Int.toNat_natCast, decide_true]
end
def AsgV (o : Org) (acts roles : List ByteArray) (time : Int) (hs : List Task) : Int × List ByteArray :=
  bif free (mA o acts roles time hs) acts.length o.1.length then (0, (asgS (fun k => (o.1.getD k Person.z).1) (mA o acts roles time hs) acts.length o.1.length acts.length).2) else (10, [])
def BlkV (o : Org) (acts roles : List ByteArray) (time : Int) (hs : List Task) : Int × List Int :=
  bif free (mA o acts roles time hs) acts.length o.1.length then (10, []) else (0, blk (mA o acts roles time hs) acts.length o.1.length)
theorem few12 {o : Org} (hf : law46_few o = some true) : o.1.length ≤ 12 ∨ 40 < o.1.length := by
  by_cases h1 : o.1.length ≤ 12
  · exact .inl h1
  · by_cases h2 : 40 < o.1.length
    · exact .inr h2
    · unfold law46_few at hf
      have d1 : decide ((o.1.length : Int) ≤ 12) = false := decide_eq_false (by omega)
      have d2 : decide ((40 : Int) < (o.1.length : Int)) = false := decide_eq_false (by omega)
      rw [d1, d2] at hf
      exact absurd hf (by simp)
theorem valid40 {o : Org} (hv : validO o = true) : o.1.length ≤ 40 := by
  unfold validO peopleB at hv
  simp only [Bool.and_eq_true, decide_eq_true_eq] at hv
  exact hv.1.1.1
section
variable {o : Org} (h : Few o) (h12 : o.1.length ≤ 12 ∨ 40 < o.1.length) (acts roles : List ByteArray) (ha : acts.length ≤ 1000) (hr : roles.length ≤ 1000) (time : Int) (hs : List Task) (hl : hs.length ≤ 2000)
include h h12 ha hr hl
theorem Assign_val : ∃ e, roles_given o acts roles time hs = some e ∧ (e = 0 → validO o = true ∧ acts.length = roles.length ∧ acts.length ≤ 12 ∧ o.1.length ≤ 12) ∧
    roles_Assign o acts roles time hs = some (bif decide (e = 0) then AsgV o acts roles time hs else (e, [])) ∧ ref46_Assign o acts roles time hs = some (bif decide (e = 0) then AsgV o acts roles time hs else (e, [])) ∧
    roles_Blocking o acts roles time hs = some (bif decide (e = 0) then BlkV o acts roles time hs else (e, [])) ∧ ref46_Blocking o acts roles time hs = some (bif decide (e = 0) then ((BlkV o acts roles time hs).2, (BlkV o acts roles time hs).1) else ([], e)) := by
  obtain ⟨hsame, e, he, h0⟩ := fault_eq h acts roles ha hr time hs hl
  refine ⟨e, he, fun h1 => ?_, ?_⟩
  · obtain ⟨a, b, c⟩ := h0 h1
    have := valid40 a
    exact ⟨a, b, c, by omega⟩
  rw [hsame] at he
  unfold roles_Assign ref46_Assign roles_Blocking ref46_Blocking
  rw [hsame, he]
  simp only [bnd_ok]
  by_cases h1 : e = 0
  · obtain ⟨hv, hlen, hn⟩ := h0 h1
    have := valid40 hv
    have hP : o.1.length ≤ 12 := by omega
    have e1 := able_eq h hv hP acts roles hn hlen time hs hl
    have e2 := refable_eq h hv hP acts roles hn hlen time hs hl
    have e3 := matched_BS (mA o acts roles time hs) acts.length o.1.length hn hP
    have e4 := refblock_RW (mA o acts roles time hs) acts.length o.1.length hn hP
    have e5 := block_BS (mA o acts roles time hs) acts.length o.1.length hn hP
    have e6 := AssignL2_eq o (mA o acts roles time hs) acts.length hn hP
    have e7 := refAssignL3_eq o (mA o acts roles time hs) acts.length hn hP
    have e8 : (ints (BS (mA o acts roles time hs) acts.length o.1.length)).length = acts.length := by simp [ints, tab_len]
    have hfr : (decide (((blk (mA o acts roles time hs) acts.length o.1.length).length : Int) = 0)) = free (mA o acts roles time hs) acts.length o.1.length := by
      unfold free
      refine decide_eq_decide.2 ?_
      rw [← List.length_eq_zero_iff]
      omega
    rw [decide_eq_true h1, e1, e2]
    simp only [bnd_ok, e3, e4, e5, e6, e7, e8, lk_inl, hfr, AsgV, BlkV, decide_true, ckB_true, Bool.not_true, cond_false, cond_true]
    cases free (mA o acts roles time hs) acts.length o.1.length <;> exact ⟨rfl, rfl, rfl, rfl⟩
  · rw [decide_eq_false h1]
    exact ⟨rfl, rfl, rfl, rfl⟩
end
theorem bestN_len (bad : Nat → Bool) : ∀ m, (bestN bad m).length ≤ 12
  | 0 => by simp [bestN]
  | m + 1 => by
    rw [bestN]
    split
    · simp only [ints, List.length_map, elems]
      have := List.length_filter_le (elB (m + 1)) (List.range 12)
      simpa using this
    · exact bestN_len bad m
end Go.Proofs.Ytmlfmeffjodhmaa
