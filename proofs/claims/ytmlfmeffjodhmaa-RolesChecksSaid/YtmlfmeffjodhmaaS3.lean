/-
  Roles: Has, Forbids, Allowed, Check: the laws RolesHave, RolesDuties, RolesChecks.
-/
import Derived.Test.YtmlfmeffjodhmaaS2
set_option linter.all false
namespace Go.Proofs.Ytmlfmeffjodhmaa
open Go.K Go.M

/-! What the statements let through. -/
def wordsB (l : List ByteArray) : Bool := decide ((l.length : Int) ≤ 50) && !l.any fun s => decide ((100 : Int) < (s.size : Int))
theorem words_eq (l : List ByteArray) : law46_words l = some (wordsB l) := by
  unfold law46_words wordsB
  by_cases h : (l.length : Int) ≤ 50
  · have hL : slices_IndexFunc_string_string_42L0 l (l.length : Int) 0 = some (fOut (fun i => (i : Int)) (fidx (fun s : ByteArray => decide ((100 : Int) < (s.size : Int))) l)) := by
      refine loop_find l ⟨#[]⟩ (fun s : ByteArray => decide ((100 : Int) < (s.size : Int))) (fun i => (i : Int)) (by omega) (fun i hi => ?_) ?_
      · simp (disch := omega) only [slices_IndexFunc_string_string_42L0K, law46_words_1, ckB_ix, ckB_inR, ckB_room, ckB_cut, ckB_mk, ckB_ne, bif_lt, bif_nlt, bif_le, bif_nle, bif_eq, bif_neq, bif_ne, bif_nne, bif_not, bif_true', bif_false', bnd_ok, lk_inl, lk_inr, Int.toNat_natCast, decide_true]
        rw [cast_succ]
        exact some_bif
      · simp (disch := omega) only [slices_IndexFunc_string_string_42L0K, ckB_ix, ckB_inR, ckB_room, ckB_cut, ckB_mk, ckB_ne, bif_lt, bif_nlt, bif_le, bif_nle, bif_eq, bif_neq, bif_ne, bif_nne, bif_not, bif_true', bif_false', bnd_ok, lk_inl, lk_inr, Int.toNat_natCast, decide_true]
    have hC : slices_ContainsFunc_string_string_42 l = some (l.any fun s : ByteArray => decide ((100 : Int) < (s.size : Int))) := by
      unfold slices_ContainsFunc_string_string_42 slices_IndexFunc_string_string_42
      rw [hL, bnd_ok, idx_out, bnd_ok, idxI_nn]
    rw [decide_eq_true h]
    simp (disch := omega) only [hC, ckB_ix, ckB_inR, ckB_room, ckB_cut, ckB_mk, ckB_ne, bif_lt, bif_nlt, bif_le, bif_nle, bif_eq, bif_neq, bif_ne, bif_nne, bif_not, bif_true', bif_false', bnd_ok, lk_inl, lk_inr, Int.toNat_natCast, decide_true]
    rfl
  · rw [decide_eq_false h]
    rfl
theorem words_len {l : List ByteArray} (h : wordsB l = true) : l.length ≤ 50 := by
  unfold wordsB at h
  simp only [Bool.and_eq_true, decide_eq_true_eq] at h
  omega

theorem few1_eq (p : Person) : ∃ b, law46_few_1 p = some b ∧ (b = false → p.2.1.length ≤ 50) := by
  unfold law46_few_1
  rw [words_eq, bnd_ok]
  cases h : wordsB p.2.1 with
  | false => exact ⟨true, rfl, fun h => by cases h⟩
  | true => exact ⟨_, rfl, fun _ => words_len h⟩
def few1B (p : Person) : Bool := (law46_few_1 p).getD true
theorem few1_B (p : Person) : law46_few_1 p = some (few1B p) ∧ (few1B p = false → p.2.1.length ≤ 50) := by
  obtain ⟨b, h1, h2⟩ := few1_eq p
  unfold few1B
  rw [h1]
  exact ⟨rfl, h2⟩
def few2B (d : Delegation) : Bool := decide ((100 : Int) < (d.1.size : Int)) || decide ((100 : Int) < (d.2.1.size : Int)) || decide ((100 : Int) < (d.2.2.1.size : Int))
theorem few2_eq (d : Delegation) : law46_few_2 d = some (few2B d) := by
  unfold law46_few_2 few2B
  cases decide ((100 : Int) < (d.1.size : Int)) <;> cases decide ((100 : Int) < (d.2.1.size : Int)) <;> rfl
def few3B (d : Duty) : Bool := decide ((100 : Int) < (d.2.1.size : Int)) || decide ((100 : Int) < (d.2.2.1.size : Int))
theorem few3_eq (d : Duty) : law46_few_3 d = some (few3B d) := by
  unfold law46_few_3 few3B
  cases decide ((100 : Int) < (d.2.1.size : Int)) <;> rfl

theorem few_eq (o : Org) : ∃ b, law46_few o = some b ∧ (b = true → Few o) := by
  have h1 : o.1.length ≤ 100 → slices_ContainsFunc_api_Person_api_Person_36 o.1 = some (o.1.any few1B) := fun hl => by
    have hL : slices_IndexFunc_api_Person_api_Person_36L0 o.1 (o.1.length : Int) 0 = some (fOut (fun i => (i : Int)) (fidx few1B o.1)) := by
      refine loop_find o.1 Person.z few1B (fun i => (i : Int)) (by omega) (fun i hi => ?_) ?_
      · have := (few1_B (o.1.getD i Person.z)).1
        simp (disch := omega) only [slices_IndexFunc_api_Person_api_Person_36L0K, this, ckB_ix, ckB_inR, ckB_room, ckB_cut, ckB_mk, ckB_ne, bif_lt, bif_nlt, bif_le, bif_nle, bif_eq, bif_neq, bif_ne, bif_nne, bif_not, bif_true', bif_false', bnd_ok, lk_inl, lk_inr, Int.toNat_natCast, decide_true]
        rw [cast_succ]
        exact some_bif
      · simp (disch := omega) only [slices_IndexFunc_api_Person_api_Person_36L0K, ckB_ix, ckB_inR, ckB_room, ckB_cut, ckB_mk, ckB_ne, bif_lt, bif_nlt, bif_le, bif_nle, bif_eq, bif_neq, bif_ne, bif_nne, bif_not, bif_true', bif_false', bnd_ok, lk_inl, lk_inr, Int.toNat_natCast, decide_true]
    unfold slices_ContainsFunc_api_Person_api_Person_36 slices_IndexFunc_api_Person_api_Person_36
    rw [hL, bnd_ok, idx_out, bnd_ok, idxI_nn]
  have h2 : o.2.1.length ≤ 100 → slices_ContainsFunc_api_Delegation_api_Delegation_38 o.2.1 = some (o.2.1.any few2B) := fun hl => by
    have hL : slices_IndexFunc_api_Delegation_api_Delegation_38L0 o.2.1 (o.2.1.length : Int) 0 = some (fOut (fun i => (i : Int)) (fidx few2B o.2.1)) := by
      refine loop_find o.2.1 Delegation.z few2B (fun i => (i : Int)) (by omega) (fun i hi => ?_) ?_
      · simp (disch := omega) only [slices_IndexFunc_api_Delegation_api_Delegation_38L0K, few2_eq, ckB_ix, ckB_inR, ckB_room, ckB_cut, ckB_mk, ckB_ne, bif_lt, bif_nlt, bif_le, bif_nle, bif_eq, bif_neq, bif_ne, bif_nne, bif_not, bif_true', bif_false', bnd_ok, lk_inl, lk_inr, Int.toNat_natCast, decide_true]
        rw [cast_succ]
        exact some_bif
      · simp (disch := omega) only [slices_IndexFunc_api_Delegation_api_Delegation_38L0K, ckB_ix, ckB_inR, ckB_room, ckB_cut, ckB_mk, ckB_ne, bif_lt, bif_nlt, bif_le, bif_nle, bif_eq, bif_neq, bif_ne, bif_nne, bif_not, bif_true', bif_false', bnd_ok, lk_inl, lk_inr, Int.toNat_natCast, decide_true]
    unfold slices_ContainsFunc_api_Delegation_api_Delegation_38 slices_IndexFunc_api_Delegation_api_Delegation_38
    rw [hL, bnd_ok, idx_out, bnd_ok, idxI_nn]
  have h3 : o.2.2.1.length ≤ 100 → slices_ContainsFunc_api_Duty_api_Duty_40 o.2.2.1 = some (o.2.2.1.any few3B) := fun hl => by
    have hL : slices_IndexFunc_api_Duty_api_Duty_40L0 o.2.2.1 (o.2.2.1.length : Int) 0 = some (fOut (fun i => (i : Int)) (fidx few3B o.2.2.1)) := by
      refine loop_find o.2.2.1 Duty.z few3B (fun i => (i : Int)) (by omega) (fun i hi => ?_) ?_
      · simp (disch := omega) only [slices_IndexFunc_api_Duty_api_Duty_40L0K, few3_eq, ckB_ix, ckB_inR, ckB_room, ckB_cut, ckB_mk, ckB_ne, bif_lt, bif_nlt, bif_le, bif_nle, bif_eq, bif_neq, bif_ne, bif_nne, bif_not, bif_true', bif_false', bnd_ok, lk_inl, lk_inr, Int.toNat_natCast, decide_true]
        rw [cast_succ]
        exact some_bif
      · simp (disch := omega) only [slices_IndexFunc_api_Duty_api_Duty_40L0K, ckB_ix, ckB_inR, ckB_room, ckB_cut, ckB_mk, ckB_ne, bif_lt, bif_nlt, bif_le, bif_nle, bif_eq, bif_neq, bif_ne, bif_nne, bif_not, bif_true', bif_false', bnd_ok, lk_inl, lk_inr, Int.toNat_natCast, decide_true]
    unfold slices_ContainsFunc_api_Duty_api_Duty_40 slices_IndexFunc_api_Duty_api_Duty_40
    rw [hL, bnd_ok, idx_out, bnd_ok, idxI_nn]
  have hF : o.1.length ≤ 100 → o.2.1.length ≤ 100 → o.2.2.1.length ≤ 100 → (!o.1.any few1B) = true → Few o := fun a b c d => ⟨a, b, c, fun p hp => by
    have h0 : o.1.any few1B = false := by simpa using d
    have h4 : few1B p = false := by
      have := List.any_eq_false.1 h0 p hp
      simpa using this
    have := (few1_B p).2 h4
    omega⟩
  unfold law46_few
  by_cases c1 : (o.1.length : Int) ≤ 12
  · by_cases c2 : (o.2.1.length : Int) ≤ 20
    · by_cases c3 : (o.2.2.1.length : Int) ≤ 20
      · refine ⟨!o.1.any few1B && !o.2.1.any few2B && !o.2.2.1.any few3B, ?_, fun hb => ?_⟩
        · simp (disch := omega) only [h1 (by omega), h2 (by omega), h3 (by omega), ckB_ix, ckB_inR, ckB_room, ckB_cut, ckB_mk, ckB_ne, bif_lt, bif_nlt, bif_le, bif_nle, bif_eq, bif_neq, bif_ne, bif_nne, bif_not, bif_true', bif_false', bnd_ok, lk_inl, lk_inr, Int.toNat_natCast, decide_true]
          cases o.1.any few1B <;> cases o.2.1.any few2B <;> cases o.2.2.1.any few3B <;> rfl
        · simp only [Bool.and_eq_true] at hb
          exact hF (by omega) (by omega) (by omega) hb.1.1
      · exact ⟨false, by simp (disch := omega) only [ckB_ix, ckB_inR, ckB_room, ckB_cut, ckB_mk, ckB_ne, bif_lt, bif_nlt, bif_le, bif_nle, bif_eq, bif_neq, bif_ne, bif_nne, bif_not, bif_true', bif_false', bnd_ok, lk_inl, lk_inr, Int.toNat_natCast, decide_true], fun h => by cases h⟩
    · exact ⟨false, by simp (disch := omega) only [ckB_ix, ckB_inR, ckB_room, ckB_cut, ckB_mk, ckB_ne, bif_lt, bif_nlt, bif_le, bif_nle, bif_eq, bif_neq, bif_ne, bif_nne, bif_not, bif_true', bif_false', bnd_ok, lk_inl, lk_inr, Int.toNat_natCast, decide_true], fun h => by cases h⟩
  · by_cases c4 : 40 < (o.1.length : Int)
    · by_cases c5 : (o.1.length : Int) < 45
      · by_cases c2 : (o.2.1.length : Int) ≤ 20
        · by_cases c3 : (o.2.2.1.length : Int) ≤ 20
          · refine ⟨!o.1.any few1B && !o.2.1.any few2B && !o.2.2.1.any few3B, ?_, fun hb => ?_⟩
            · simp (disch := omega) only [h1 (by omega), h2 (by omega), h3 (by omega), ckB_ix, ckB_inR, ckB_room, ckB_cut, ckB_mk, ckB_ne, bif_lt, bif_nlt, bif_le, bif_nle, bif_eq, bif_neq, bif_ne, bif_nne, bif_not, bif_true', bif_false', bnd_ok, lk_inl, lk_inr, Int.toNat_natCast, decide_true]
              cases o.1.any few1B <;> cases o.2.1.any few2B <;> cases o.2.2.1.any few3B <;> rfl
            · simp only [Bool.and_eq_true] at hb
              exact hF (by omega) (by omega) (by omega) hb.1.1
          · exact ⟨false, by simp (disch := omega) only [ckB_ix, ckB_inR, ckB_room, ckB_cut, ckB_mk, ckB_ne, bif_lt, bif_nlt, bif_le, bif_nle, bif_eq, bif_neq, bif_ne, bif_nne, bif_not, bif_true', bif_false', bnd_ok, lk_inl, lk_inr, Int.toNat_natCast, decide_true], fun h => by cases h⟩
        · exact ⟨false, by simp (disch := omega) only [ckB_ix, ckB_inR, ckB_room, ckB_cut, ckB_mk, ckB_ne, bif_lt, bif_nlt, bif_le, bif_nle, bif_eq, bif_neq, bif_ne, bif_nne, bif_not, bif_true', bif_false', bnd_ok, lk_inl, lk_inr, Int.toNat_natCast, decide_true], fun h => by cases h⟩
      · exact ⟨false, by simp (disch := omega) only [ckB_ix, ckB_inR, ckB_room, ckB_cut, ckB_mk, ckB_ne, bif_lt, bif_nlt, bif_le, bif_nle, bif_eq, bif_neq, bif_ne, bif_nne, bif_not, bif_true', bif_false', bnd_ok, lk_inl, lk_inr, Int.toNat_natCast, decide_true], fun h => by cases h⟩
    · exact ⟨false, by simp (disch := omega) only [ckB_ix, ckB_inR, ckB_room, ckB_cut, ckB_mk, ckB_ne, bif_lt, bif_nlt, bif_le, bif_nle, bif_eq, bif_neq, bif_ne, bif_nne, bif_not, bif_true', bif_false', bnd_ok, lk_inl, lk_inr, Int.toNat_natCast, decide_true], fun h => by cases h⟩

theorem tasks_eq (l : List Task) : ∃ b, law46_tasks l = some b ∧ (b = true → l.length ≤ 2000) := by
  have hC : l.length ≤ 2000 → ∃ q, slices_ContainsFunc_api_Task_api_Task_44 l = some q := fun hl => by
    have h1 : ∀ t : Task, law46_tasks_1 t = some (decide ((100 : Int) < (t.1.size : Int)) || decide ((100 : Int) < (t.2.1.size : Int))) := fun t => by
      unfold law46_tasks_1
      cases decide ((100 : Int) < (t.1.size : Int)) <;> rfl
    have hL : slices_IndexFunc_api_Task_api_Task_44L0 l (l.length : Int) 0 = some (fOut (fun i => (i : Int)) (fidx (fun t : Task => decide ((100 : Int) < (t.1.size : Int)) || decide ((100 : Int) < (t.2.1.size : Int))) l)) := by
      refine loop_find l Task.z (fun t : Task => decide ((100 : Int) < (t.1.size : Int)) || decide ((100 : Int) < (t.2.1.size : Int))) (fun i => (i : Int)) (by omega) (fun i hi => ?_) ?_
      · simp (disch := omega) only [slices_IndexFunc_api_Task_api_Task_44L0K, h1, ckB_ix, ckB_inR, ckB_room, ckB_cut, ckB_mk, ckB_ne, bif_lt, bif_nlt, bif_le, bif_nle, bif_eq, bif_neq, bif_ne, bif_nne, bif_not, bif_true', bif_false', bnd_ok, lk_inl, lk_inr, Int.toNat_natCast, decide_true]
        rw [cast_succ]
        exact some_bif
      · simp (disch := omega) only [slices_IndexFunc_api_Task_api_Task_44L0K, ckB_ix, ckB_inR, ckB_room, ckB_cut, ckB_mk, ckB_ne, bif_lt, bif_nlt, bif_le, bif_nle, bif_eq, bif_neq, bif_ne, bif_nne, bif_not, bif_true', bif_false', bnd_ok, lk_inl, lk_inr, Int.toNat_natCast, decide_true]
    unfold slices_ContainsFunc_api_Task_api_Task_44 slices_IndexFunc_api_Task_api_Task_44
    rw [hL, bnd_ok, idx_out, bnd_ok]
    exact ⟨_, rfl⟩
  unfold law46_tasks
  by_cases c1 : (l.length : Int) ≤ 30
  · obtain ⟨q, hq⟩ := hC (by omega)
    exact ⟨!q, by simp (disch := omega) only [hq, ckB_ix, ckB_inR, ckB_room, ckB_cut, ckB_mk, ckB_ne, bif_lt, bif_nlt, bif_le, bif_nle, bif_eq, bif_neq, bif_ne, bif_nne, bif_not, bif_true', bif_false', bnd_ok, lk_inl, lk_inr, Int.toNat_natCast, decide_true], fun _ => by omega⟩
  · by_cases c2 : 1000 < (l.length : Int)
    · by_cases c3 : (l.length : Int) < 1005
      · obtain ⟨q, hq⟩ := hC (by omega)
        exact ⟨!q, by simp (disch := omega) only [hq, ckB_ix, ckB_inR, ckB_room, ckB_cut, ckB_mk, ckB_ne, bif_lt, bif_nlt, bif_le, bif_nle, bif_eq, bif_neq, bif_ne, bif_nne, bif_not, bif_true', bif_false', bnd_ok, lk_inl, lk_inr, Int.toNat_natCast, decide_true], fun _ => by omega⟩
      · exact ⟨false, by simp (disch := omega) only [ckB_ix, ckB_inR, ckB_room, ckB_cut, ckB_mk, ckB_ne, bif_lt, bif_nlt, bif_le, bif_nle, bif_eq, bif_neq, bif_ne, bif_nne, bif_not, bif_true', bif_false', bnd_ok, lk_inl, lk_inr, Int.toNat_natCast, decide_true], fun h => by cases h⟩
    · exact ⟨false, by simp (disch := omega) only [ckB_ix, ckB_inR, ckB_room, ckB_cut, ckB_mk, ckB_ne, bif_lt, bif_nlt, bif_le, bif_nle, bif_eq, bif_neq, bif_ne, bif_nne, bif_not, bif_true', bif_false', bnd_ok, lk_inl, lk_inr, Int.toNat_natCast, decide_true], fun h => by cases h⟩

/-! Has, Forbids, Allowed. -/
def HasV (o : Org) (person role : ByteArray) (time : Int) : Bool × Int :=
  bif !validO o || !nameB role then (false, 1) else bif !instB time then (false, 2) else bif decide (pix o person < 0) then (false, 10) else (hasB o person role time, 0)
def ForV (o : Org) (person act : ByteArray) (hs : List Task) : Int × Int :=
  bif !validO o || !nameB act then (0, 1) else bif decide (pix o person < 0) then (0, 10) else bif !decide (pastI o hs = 0) then (0, pastI o hs) else (broI o person act hs, 0)
def AllV (o : Org) (person act role : ByteArray) (time : Int) (hs : List Task) : Bool × Int :=
  bif !validO o || !nameB act || !nameB role then (false, 1) else bif !instB time then (false, 2) else bif decide (pix o person < 0) then (false, 10) else bif !decide (pastI o hs = 0) then (false, pastI o hs) else (mayB o person act role time hs, 0)

section
variable {o : Org} (h : Few o)
include h
theorem Has_val (person role : ByteArray) (time : Int) : roles_Has o person role time = some (HasV o person role time) ∧ ref46_Has o person role time = some (HasV o person role time) := by
  have hn : [role].all nameB = nameB role := by simp
  unfold HasV roles_Has ref46_Has
  cases hv : validO o with
  | false => exact ⟨by simp (disch := omega) only [Valid_eq h, hv, ckB_ix, ckB_inR, ckB_room, ckB_cut, ckB_mk, ckB_ne, bif_lt, bif_nlt, bif_le, bif_nle, bif_eq, bif_neq, bif_ne, bif_nne, bif_not, bif_true', bif_false', bnd_ok, lk_inl, lk_inr, Int.toNat_natCast, decide_true]; rfl, by simp (disch := omega) only [refValid_eq h, hv, ckB_ix, ckB_inR, ckB_room, ckB_cut, ckB_mk, ckB_ne, bif_lt, bif_nlt, bif_le, bif_nle, bif_eq, bif_neq, bif_ne, bif_nne, bif_not, bif_true', bif_false', bnd_ok, lk_inl, lk_inr, Int.toNat_natCast, decide_true]; rfl⟩
  | true =>
    by_cases hp : pix o person < 0
    · constructor
      · simp (disch := omega) only [Valid_eq h, hv, names_eq [role] (by simp), hn, instant_eq, find_eq o h.people, ckB_ix, ckB_inR, ckB_room, ckB_cut, ckB_mk, ckB_ne, bif_lt, bif_nlt, bif_le, bif_nle, bif_eq, bif_neq, bif_ne, bif_nne, bif_not, bif_true', bif_false', bnd_ok, lk_inl, lk_inr, Int.toNat_natCast, decide_true]
        cases nameB role <;> cases instB time <;> rfl
      · simp (disch := omega) only [refValid_eq h, hv, refIsName_eq, refInstant_eq, Person_eq o h.people, ckB_ix, ckB_inR, ckB_room, ckB_cut, ckB_mk, ckB_ne, bif_lt, bif_nlt, bif_le, bif_nle, bif_eq, bif_neq, bif_ne, bif_nne, bif_not, bif_true', bif_false', bnd_ok, lk_inl, lk_inr, Int.toNat_natCast, decide_true]
        cases nameB role <;> cases instB time <;> rfl
    · constructor
      · simp (disch := omega) only [Valid_eq h, hv, names_eq [role] (by simp), hn, instant_eq, find_eq o h.people, has_eq h hv (person := person) (by omega), ckB_ix, ckB_inR, ckB_room, ckB_cut, ckB_mk, ckB_ne, bif_lt, bif_nlt, bif_le, bif_nle, bif_eq, bif_neq, bif_ne, bif_nne, bif_not, bif_true', bif_false', bnd_ok, lk_inl, lk_inr, Int.toNat_natCast, decide_true]
        cases nameB role <;> cases instB time <;> rfl
      · simp (disch := omega) only [refValid_eq h, hv, refIsName_eq, refInstant_eq, Person_eq o h.people, refHas_eq h hv (person := person) (by omega), ckB_ix, ckB_inR, ckB_room, ckB_cut, ckB_mk, ckB_ne, bif_lt, bif_nlt, bif_le, bif_nle, bif_eq, bif_neq, bif_ne, bif_nne, bif_not, bif_true', bif_false', bnd_ok, lk_inl, lk_inr, Int.toNat_natCast, decide_true]
        cases nameB role <;> cases instB time <;> rfl
theorem For_val (person act : ByteArray) (hs : List Task) (hl : hs.length ≤ 2000) : roles_Forbids o person act hs = some (ForV o person act hs) ∧ ref46_Forbids o person act hs = some (ForV o person act hs) := by
  have hn : [act].all nameB = nameB act := by simp
  unfold ForV roles_Forbids ref46_Forbids
  constructor
  · rw [Valid_eq h, names_eq [act] (by simp), hn, find_eq o h.people, past_eq h hs hl, broken_eq h person act hs hl]
    simp only [bnd_ok]
    cases validO o <;> cases nameB act <;> cases decide (pix o person < 0) <;> cases decide (pastI o hs = 0) <;> rfl
  · rw [refValid_eq h, refIsName_eq, Person_eq o h.people, refPast_eq h hs hl, refBroken_eq h person act hs hl]
    simp only [bnd_ok]
    cases validO o <;> cases nameB act <;> cases decide (pix o person < 0) <;> cases decide (pastI o hs = 0) <;> rfl
theorem All_val (person act role : ByteArray) (time : Int) (hs : List Task) (hl : hs.length ≤ 2000) : roles_Allowed o person act role time hs = some (AllV o person act role time hs) ∧ ref46_Allowed o person act role time hs = some (AllV o person act role time hs) := by
  have hn : [act, role].all nameB = (nameB act && nameB role) := by simp
  unfold AllV roles_Allowed ref46_Allowed
  cases hv : validO o with
  | false => exact ⟨by simp (disch := omega) only [Valid_eq h, hv, ckB_ix, ckB_inR, ckB_room, ckB_cut, ckB_mk, ckB_ne, bif_lt, bif_nlt, bif_le, bif_nle, bif_eq, bif_neq, bif_ne, bif_nne, bif_not, bif_true', bif_false', bnd_ok, lk_inl, lk_inr, Int.toNat_natCast, decide_true]; rfl, by simp (disch := omega) only [refValid_eq h, hv, ckB_ix, ckB_inR, ckB_room, ckB_cut, ckB_mk, ckB_ne, bif_lt, bif_nlt, bif_le, bif_nle, bif_eq, bif_neq, bif_ne, bif_nne, bif_not, bif_true', bif_false', bnd_ok, lk_inl, lk_inr, Int.toNat_natCast, decide_true]; rfl⟩
  | true =>
    by_cases hp : pix o person < 0
    · constructor
      · simp (disch := omega) only [Valid_eq h, hv, names_eq [act, role] (by simp), hn, instant_eq, find_eq o h.people, ckB_ix, ckB_inR, ckB_room, ckB_cut, ckB_mk, ckB_ne, bif_lt, bif_nlt, bif_le, bif_nle, bif_eq, bif_neq, bif_ne, bif_nne, bif_not, bif_true', bif_false', bnd_ok, lk_inl, lk_inr, Int.toNat_natCast, decide_true]
        cases nameB act <;> cases nameB role <;> cases instB time <;> rfl
      · simp (disch := omega) only [refValid_eq h, hv, refIsName_eq, refInstant_eq, Person_eq o h.people, ckB_ix, ckB_inR, ckB_room, ckB_cut, ckB_mk, ckB_ne, bif_lt, bif_nlt, bif_le, bif_nle, bif_eq, bif_neq, bif_ne, bif_nne, bif_not, bif_true', bif_false', bnd_ok, lk_inl, lk_inr, Int.toNat_natCast, decide_true]
        cases nameB act <;> cases nameB role <;> cases instB time <;> rfl
    · constructor
      · simp (disch := omega) only [Valid_eq h, hv, names_eq [act, role] (by simp), hn, instant_eq, find_eq o h.people, past_eq h hs hl, may_eq h hv (person := person) (by omega) act role time hs hl, ckB_ix, ckB_inR, ckB_room, ckB_cut, ckB_mk, ckB_ne, bif_lt, bif_nlt, bif_le, bif_nle, bif_eq, bif_neq, bif_ne, bif_nne, bif_not, bif_true', bif_false', bnd_ok, lk_inl, lk_inr, Int.toNat_natCast, decide_true]
        cases nameB act <;> cases nameB role <;> cases instB time <;> cases decide (pastI o hs = 0) <;> rfl
      · simp (disch := omega) only [refValid_eq h, hv, refIsName_eq, refInstant_eq, Person_eq o h.people, refPast_eq h hs hl, refMay_eq h hv (person := person) (by omega) act role time hs hl, ckB_ix, ckB_inR, ckB_room, ckB_cut, ckB_mk, ckB_ne, bif_lt, bif_nlt, bif_le, bif_nle, bif_eq, bif_neq, bif_ne, bif_nne, bif_not, bif_true', bif_false', bnd_ok, lk_inl, lk_inr, Int.toNat_natCast, decide_true]
        cases nameB act <;> cases nameB role <;> cases instB time <;> cases decide (pastI o hs = 0) <;> rfl
end

theorem RolesHave_true (o : Org) (person act role : ByteArray) (time : Int) (hs : List Task) : law46_RolesHave o person act role time hs = some true := by
  obtain ⟨b, hb, hF⟩ := few_eq o
  obtain ⟨c, hc, hl⟩ := tasks_eq hs
  unfold law46_RolesHave
  rw [awake_true, hb, words_eq, hc]
  simp only [bnd_ok]
  cases b with
  | false => rfl
  | true =>
    cases wordsB [person, act, role] with
    | false => rfl
    | true =>
      cases c with
      | false => rfl
      | true =>
        have h := hF rfl
        rw [(Has_val h _ _ _).1, (Has_val h _ _ _).2, (For_val h _ _ _ (hl rfl)).1, (For_val h _ _ _ (hl rfl)).2, (All_val h _ _ _ _ _ (hl rfl)).1, (All_val h _ _ _ _ _ (hl rfl)).2, Valid_eq h, refValid_eq h]
        simp [bnd_ok]

/-! Duties say what they mean. -/
theorem dutiesL0_eq (person act : ByteArray) (hs : List Task) (k i : Int) (x : List Duty) (a b : Int) (y : List Task) (c e : Int) (d : Duty) (t : Task) (h : brkB d act person t = true → ¬ (k < 0 ∨ i < k)) : law46_RolesDutiesL0 person act hs k i x a b y c e [(d.2.1, d.2.2.1, ()), (d.2.2.1, d.2.1, ())] 2 d.1 d.2.1 d.2.2.1 t.1 t.2.1 0 = some (.inl ()) := by
  have hst : ∀ j : Nat, j < 2 → law46_RolesDutiesL0K (R := LR Int Unit Bool) person act hs k i x a b y c e [(d.2.1, d.2.2.1, ()), (d.2.2.1, d.2.1, ())] 2 d.1 d.2.1 d.2.2.1 t.1 t.2.1 (j : Int) (fun a' => some (.next a')) (fun e => some (.done e)) (fun r => some (.ret r)) = some (.next ((j + 1 : Nat) : Int)) := fun j hj => by
    have hlen : ([(d.2.1, d.2.2.1, ()), (d.2.2.1, d.2.1, ())] : List Task).length = 2 := rfl
    have hj' : (j : Int) < 2 := by omega
    unfold brkB othB at h
    by_cases hb : brkB d act person t = true
    · have := h hb
      have h1 : ¬ k < 0 := fun e => this (.inl e)
      have h2 : ¬ i < k := fun e => this (.inr e)
      simp (disch := omega) only [law46_RolesDutiesL0K, hlen, eqS_def, ckB_ix, ckB_inR, ckB_room, ckB_cut, ckB_mk, ckB_ne, bif_lt, bif_nlt, bif_le, bif_nle, bif_eq, bif_neq, bif_ne, bif_nne, bif_not, bif_true', bif_false', bnd_ok, lk_inl, lk_inr, Int.toNat_natCast, decide_true]
      rw [cast_succ]
      cases eqS act (([(d.2.1, d.2.2.1, ()), (d.2.2.1, d.2.1, ())] : List Task).getD j Task.z).1 <;> cases eqS t.1 (([(d.2.1, d.2.2.1, ()), (d.2.2.1, d.2.1, ())] : List Task).getD j Task.z).2.1 <;> cases (decide (d.1 = 1) == eqS t.2.1 person) <;> rfl
    · have hb' : brkB d act person t = false := by simpa using hb
      have key : (eqS act (([(d.2.1, d.2.2.1, ()), (d.2.2.1, d.2.1, ())] : List Task).getD j Task.z).1 && eqS t.1 (([(d.2.1, d.2.2.1, ()), (d.2.2.1, d.2.1, ())] : List Task).getD j Task.z).2.1 && (decide (d.1 = 1) == eqS t.2.1 person)) = false := by
        unfold brkB othB at hb'
        revert hb'
        have : j = 0 ∨ j = 1 := by omega
        rcases this with rfl | rfl
        · show _ → (eqS act d.2.1 && eqS t.1 d.2.2.1 && _) = false
          cases eqS act d.2.1 <;> cases eqS t.1 d.2.2.1 <;> cases (decide (d.1 = 1) == eqS t.2.1 person) <;> simp
        · show _ → (eqS act d.2.2.1 && eqS t.1 d.2.1 && _) = false
          cases eqS act d.2.2.1 <;> cases eqS t.1 d.2.1 <;> cases (decide (d.1 = 1) == eqS t.2.1 person) <;> simp
      simp (disch := omega) only [law46_RolesDutiesL0K, hlen, eqS_def, ckB_ix, ckB_inR, ckB_room, ckB_cut, ckB_mk, ckB_ne, bif_lt, bif_nlt, bif_le, bif_nle, bif_eq, bif_neq, bif_ne, bif_nne, bif_not, bif_true', bif_false', bnd_ok, lk_inl, lk_inr, Int.toNat_natCast, decide_true]
      rw [cast_succ]
      revert key
      cases eqS act (([(d.2.1, d.2.2.1, ()), (d.2.2.1, d.2.1, ())] : List Task).getD j Task.z).1 <;> cases eqS t.1 (([(d.2.1, d.2.2.1, ()), (d.2.2.1, d.2.1, ())] : List Task).getD j Task.z).2.1 <;> cases (decide (d.1 = 1) == eqS t.2.1 person) <;> intro key <;> first | rfl | cases key
  refine loop_count (fun j : Nat => (j : Int)) 2 (many_of (by omega)) (.inl ()) hst ?_
  simp (disch := omega) only [law46_RolesDutiesL0K, ckB_ix, ckB_inR, ckB_room, ckB_cut, ckB_mk, ckB_ne, bif_lt, bif_nlt, bif_le, bif_nle, bif_eq, bif_neq, bif_ne, bif_nne, bif_not, bif_true', bif_false', bnd_ok, lk_inl, lk_inr, Int.toNat_natCast, decide_true]

theorem dutiesT3_eq {o : Org} (h : Few o) (person act : ByteArray) (hs : List Task) (hl : hs.length ≤ 2000) : law46_RolesDutiesT3 person act hs (broI o person act hs) o.1 o.2.1 o.2.2.1 = some (.inr (nameB act)) := by
  have hd := h.duty
  have hkey : ∀ i, i < o.2.2.1.length → ∀ j, j < hs.length → brkB (o.2.2.1.getD i Duty.z) act person (hs.getD j Task.z) = true → ¬ (broI o person act hs < 0 ∨ (i : Int) < broI o person act hs) := fun i hi j hj hb => by
    have ha : hs.any (brkB (o.2.2.1.getD i Duty.z) act person) = true := List.any_eq_true.2 ⟨_, getD_mem Task.z hj, hb⟩
    have hsome : 0 ≤ broI o person act hs := by
      have := idxI_nn (fun d : Duty => hs.any (brkB d act person)) o.2.2.1
      have h2 : o.2.2.1.any (fun d : Duty => hs.any (brkB d act person)) = true := List.any_eq_true.2 ⟨_, getD_mem Duty.z hi, ha⟩
      rw [h2] at this
      exact of_decide_eq_true this
    have h3 := (idxI_at (q := fun d : Duty => hs.any (brkB d act person)) Duty.z hsome).2.2
    rintro (h4 | h4)
    · omega
    · have h5 := h3 i (by
        have e : broI o person act hs = idxI (fun d : Duty => hs.any (brkB d act person)) o.2.2.1 := rfl
        omega)
      rw [ha] at h5
      cases h5
  have hL1 : ∀ i, i < o.2.2.1.length → law46_RolesDutiesL1 person act hs (broI o person act hs) (i : Int) o.2.2.1 (o.2.2.1.length : Int) (i : Int) hs (hs.length : Int) (o.2.2.1.getD i Duty.z).1 (o.2.2.1.getD i Duty.z).2.1 (o.2.2.1.getD i Duty.z).2.2.1 0 = some (.inl ()) := fun i hi => by
    refine loop_count (fun j : Nat => (j : Int)) hs.length (many_of (by omega)) (.inl ()) (fun j hj => ?_) ?_
    · have := dutiesL0_eq person act hs (broI o person act hs) (i : Int) o.2.2.1 (o.2.2.1.length : Int) (i : Int) hs (hs.length : Int) (j : Int) (o.2.2.1.getD i Duty.z) (hs.getD j Task.z) (hkey i hi j hj)
      simp (disch := omega) only [law46_RolesDutiesL1K, this, ckB_ix, ckB_inR, ckB_room, ckB_cut, ckB_mk, ckB_ne, bif_lt, bif_nlt, bif_le, bif_nle, bif_eq, bif_neq, bif_ne, bif_nne, bif_not, bif_true', bif_false', bnd_ok, lk_inl, lk_inr, Int.toNat_natCast, decide_true]
      rw [cast_succ]
    · simp (disch := omega) only [law46_RolesDutiesL1K, ckB_ix, ckB_inR, ckB_room, ckB_cut, ckB_mk, ckB_ne, bif_lt, bif_nlt, bif_le, bif_nle, bif_eq, bif_neq, bif_ne, bif_nne, bif_not, bif_true', bif_false', bnd_ok, lk_inl, lk_inr, Int.toNat_natCast, decide_true]
  have hL2 : law46_RolesDutiesL2 person act hs (broI o person act hs) o.2.2.1 (o.2.2.1.length : Int) 0 = some (.inl ()) := by
    refine loop_count (fun j : Nat => (j : Int)) o.2.2.1.length (many_of (by omega)) (.inl ()) (fun i hi => ?_) ?_
    · simp (disch := omega) only [law46_RolesDutiesL2K, hL1 i hi, ckB_ix, ckB_inR, ckB_room, ckB_cut, ckB_mk, ckB_ne, bif_lt, bif_nlt, bif_le, bif_nle, bif_eq, bif_neq, bif_ne, bif_nne, bif_not, bif_true', bif_false', bnd_ok, lk_inl, lk_inr, Int.toNat_natCast, decide_true]
      rw [cast_succ]
    · simp (disch := omega) only [law46_RolesDutiesL2K, ckB_ix, ckB_inR, ckB_room, ckB_cut, ckB_mk, ckB_ne, bif_lt, bif_nlt, bif_le, bif_nle, bif_eq, bif_neq, bif_ne, bif_nne, bif_not, bif_true', bif_false', bnd_ok, lk_inl, lk_inr, Int.toNat_natCast, decide_true]
  unfold law46_RolesDutiesT3 law46_RolesDutiesT3K
  simp (disch := omega) only [hL2, refIsName_eq, ckB_ix, ckB_inR, ckB_room, ckB_cut, ckB_mk, ckB_ne, bif_lt, bif_nlt, bif_le, bif_nle, bif_eq, bif_neq, bif_ne, bif_nne, bif_not, bif_true', bif_false', bnd_ok, lk_inl, lk_inr, Int.toNat_natCast, decide_true]

theorem RolesDuties_true (o : Org) (person act role : ByteArray) (time : Int) (hs : List Task) : law46_RolesDuties o person act role time hs = some true := by
  obtain ⟨b, hb, hF⟩ := few_eq o
  obtain ⟨c, hc, hl⟩ := tasks_eq hs
  unfold law46_RolesDuties
  rw [awake_true, hb, words_eq, hc]
  simp only [bnd_ok]
  cases b with
  | false => rfl
  | true =>
    cases wordsB [person, act, role] with
    | false => rfl
    | true =>
      cases c with
      | false => rfl
      | true =>
        have h := hF rfl
        have hT3 := dutiesT3_eq h person act hs (hl rfl)
        rw [(Has_val h _ _ _).1, (For_val h _ _ _ (hl rfl)).1, (All_val h _ _ _ _ _ (hl rfl)).1]
        simp only [bnd_ok]
        have hbr := idxI_le (fun d : Duty => hs.any (brkB d act person)) o.2.2.1
        have hbe : broI o person act hs = idxI (fun d : Duty => hs.any (brkB d act person)) o.2.2.1 := rfl
        rw [← hbe] at hbr
        unfold HasV ForV AllV mayB
        cases hv : validO o with
        | false => rfl
        | true =>
          cases hn : nameB act with
          | false => cases nameB role <;> rfl
          | true =>
            rw [hn] at hT3
            cases nameB role with
            | false => rfl
            | true =>
              cases instB time with
              | false => rfl
              | true =>
                cases decide (pix o person < 0) with
                | true => rfl
                | false =>
                  by_cases hp : pastI o hs = 0
                  · have e1 : decide (broI o person act hs < -1) = false := decide_eq_false (by omega)
                    have e2 : decide ((o.2.2.1.length : Int) ≤ broI o person act hs) = false := decide_eq_false (by omega)
                    have e3 : decide (broI o person act hs < 0) = decide (broI o person act hs = -1) := decide_eq_decide.2 (by omega)
                    have e4 : ((0 : Int) < 0) = False := by simp
                    simp only [hp, decide_true, Bool.not_true, Bool.or_self, cond_false, e1, e2, hT3, bnd_ok, lk_inr, e3]
                    cases hasB o person role time <;> cases decide (broI o person act hs = -1) <;> rfl
                  · simp only [hp, decide_false, Bool.not_true, Bool.not_false, Bool.or_self, cond_false, cond_true]

/-! Check. -/
theorem fault_eq {o : Org} (h : Few o) (acts roles : List ByteArray) (ha : acts.length ≤ 1000) (hr : roles.length ≤ 1000) (time : Int) (hs : List Task) (hl : hs.length ≤ 2000) : roles_given o acts roles time hs = ref46_fault o acts roles time hs ∧ ∃ e, roles_given o acts roles time hs = some e ∧ (e = 0 → validO o = true ∧ acts.length = roles.length ∧ acts.length ≤ 12) := by
  have e1 : roles_given o acts roles time hs = some (bif !validO o then 1 else bif !acts.all nameB then 1 else bif !roles.all nameB then 1 else bif !instB time then 2 else bif !decide (pastI o hs = 0) then pastI o hs else bif !decide ((acts.length : Int) = (roles.length : Int)) then 29 else bif decide ((12 : Int) < (acts.length : Int)) then 5 else 0) := by
    unfold roles_given
    rw [Valid_eq h, names_eq acts ha, names_eq roles hr, instant_eq, past_eq h hs hl]
    simp only [bnd_ok]
    cases validO o <;> cases acts.all nameB <;> cases roles.all nameB <;> cases instB time <;> cases decide (pastI o hs = 0) <;> cases decide ((acts.length : Int) = (roles.length : Int)) <;> cases decide ((12 : Int) < (acts.length : Int)) <;> rfl
  have e2 : ref46_fault o acts roles time hs = some (bif !validO o then 1 else bif !acts.all nameB then 1 else bif !roles.all nameB then 1 else bif !instB time then 2 else bif !decide (pastI o hs = 0) then pastI o hs else bif !decide ((acts.length : Int) = (roles.length : Int)) then 29 else bif decide ((12 : Int) < (acts.length : Int)) then 5 else 0) := by
    unfold ref46_fault
    rw [refValid_eq h, Names_eq acts (by omega), Names_eq roles (by omega), refInstant_eq, refPast_eq h hs hl]
    simp only [bnd_ok]
    cases validO o <;> cases acts.all nameB <;> cases roles.all nameB <;> cases instB time <;> cases decide (pastI o hs = 0) <;> cases decide ((acts.length : Int) = (roles.length : Int)) <;> cases decide ((12 : Int) < (acts.length : Int)) <;> rfl
  refine ⟨e1.trans e2.symm, _, e1, fun h0 => ?_⟩
  cases hv : validO o with
  | false => rw [hv] at h0; cases h0
  | true =>
    rw [hv] at h0
    cases h1 : acts.all nameB with
    | false => rw [h1] at h0; cases h0
    | true =>
      rw [h1] at h0
      cases h2 : roles.all nameB with
      | false => rw [h2] at h0; cases h0
      | true =>
        rw [h2] at h0
        cases h3 : instB time with
        | false => rw [h3] at h0; cases h0
        | true =>
          rw [h3] at h0
          by_cases h4 : pastI o hs = 0
          · by_cases h5 : (acts.length : Int) = (roles.length : Int)
            · by_cases h6 : (12 : Int) < (acts.length : Int)
              · exfalso
                rw [h4, decide_eq_true h5, decide_eq_true h6] at h0
                exact absurd h0 (by decide)
              · exact ⟨rfl, by omega, by omega⟩
            · simp [h4, h5] at h0
          · simp [h4] at h0

theorem idx_take {l : List ByteArray} {i : Nat} (hi : i < l.length) : ((l.take i).any fun r => eqS (l.getD i ⟨#[]⟩) r) = !decide (idxI (fun r => eqS (l.getD i ⟨#[]⟩) r) l = (i : Int)) := by
  have hself : eqS (l.getD i ⟨#[]⟩) (l.getD i ⟨#[]⟩) = true := by unfold eqS; exact beq_self_eq_true _
  cases ha : (l.take i).any fun r => eqS (l.getD i ⟨#[]⟩) r with
  | false =>
    have hf : fidx (fun r => eqS (l.getD i ⟨#[]⟩) r) l = some i := by
      refine fidx_of ⟨#[]⟩ hi hself fun j hj => ?_
      have := List.any_eq_false.1 ha (l.getD j ⟨#[]⟩) (by
        have e : l.getD j ⟨#[]⟩ = (l.take i).getD j ⟨#[]⟩ := by simp [List.getD_eq_getElem?_getD, List.getElem?_take, hj]
        rw [e]
        exact getD_mem _ (by simp; omega))
      simpa using this
    unfold idxI
    rw [hf]
    simp
  | true =>
    have hne : ¬ idxI (fun r => eqS (l.getD i ⟨#[]⟩) r) l = (i : Int) := by
      intro e
      obtain ⟨x, hx, hq⟩ := List.any_eq_true.1 ha
      obtain ⟨j, hj, rfl⟩ := mem_getD (⟨#[]⟩ : ByteArray) hx
      have hj' : j < i := by simp at hj; omega
      have e2 : (l.take i).getD j ⟨#[]⟩ = l.getD j ⟨#[]⟩ := by simp [List.getD_eq_getElem?_getD, List.getElem?_take, hj']
      rw [e2] at hq
      have h3 := (idxI_at (q := fun r => eqS (l.getD i ⟨#[]⟩) r) (l := l) ⟨#[]⟩ (by omega)).2.2 j (by omega)
      rw [hq] at h3
      cases h3
    rw [decide_eq_false hne]
    rfl

theorem Check_same {o : Org} (h : Few o) (acts roles people : List ByteArray) (ha : acts.length ≤ 100) (hr : roles.length ≤ 100) (hp : people.length ≤ 100) (time : Int) (hs : List Task) (hl : hs.length ≤ 2000) : ∃ b, roles_Check o acts roles people time hs = some b ∧ ref46_Check o acts roles people time hs = some b := by
  obtain ⟨hsame, e, he, h0⟩ := fault_eq h acts roles (by omega) (by omega) time hs hl
  have he' := he
  rw [hsame] at he'
  unfold roles_Check ref46_Check
  rw [he, he']
  simp only [bnd_ok]
  by_cases hz : e = 0
  · obtain ⟨hv, hlen, h12⟩ := h0 hz
    by_cases hpl : (people.length : Int) = (acts.length : Int)
    · have hx : ∀ i, i < people.length → ∃ x : LR Int Unit Bool, roles_CheckL0K (R := LR Int Unit Bool) acts roles people time hs people (people.length : Int) o.1 o.2.1 o.2.2.1 (i : Int) (fun a' => some (.next a')) (fun e => some (.done e)) (fun r => some (.ret r)) = some x ∧ ref46_CheckL0K (R := LR Int Unit Bool) acts roles people time hs o.1 o.2.1 o.2.2.1 (i : Int) (fun a' => some (.next a')) (fun e => some (.done e)) (fun r => some (.ret r)) = some x ∧ (x = .ret false ∨ x = .next ((i + 1 : Nat) : Int)) := fun i hi => by
        have eo : ((o.1, o.2.1, o.2.2.1, ()) : Org) = o := rfl
        have hIx := Index_eq people hp (people.getD i ⟨#[]⟩)
        have hCt := Contains_eq (people.take i) (by simp; omega) (people.getD i ⟨#[]⟩)
        have hit := idx_take hi
        by_cases hq : pix o (people.getD i ⟨#[]⟩) < 0
        · exact ⟨.ret false, by simp (disch := omega) only [roles_CheckL0K, eo, find_eq o h.people, ckB_ix, ckB_inR, ckB_room, ckB_cut, ckB_mk, ckB_ne, bif_lt, bif_nlt, bif_le, bif_nle, bif_eq, bif_neq, bif_ne, bif_nne, bif_not, bif_true', bif_false', bnd_ok, lk_inl, lk_inr, Int.toNat_natCast, decide_true], by simp (disch := omega) only [ref46_CheckL0K, eo, Person_eq o h.people, ckB_ix, ckB_inR, ckB_room, ckB_cut, ckB_mk, ckB_ne, bif_lt, bif_nlt, bif_le, bif_nle, bif_eq, bif_neq, bif_ne, bif_nne, bif_not, bif_true', bif_false', bnd_ok, lk_inl, lk_inr, Int.toNat_natCast, decide_true], .inl rfl⟩
        · have hm := may_eq h hv (person := people.getD i ⟨#[]⟩) (by omega) (acts.getD i ⟨#[]⟩) (roles.getD i ⟨#[]⟩) time hs hl
          have hm' := refMay_eq h hv (person := people.getD i ⟨#[]⟩) (by omega) (acts.getD i ⟨#[]⟩) (roles.getD i ⟨#[]⟩) time hs hl
          refine ⟨bif !decide (idxI (fun r => eqS (people.getD i ⟨#[]⟩) r) people = (i : Int)) then .ret false else bif !mayB o (people.getD i ⟨#[]⟩) (acts.getD i ⟨#[]⟩) (roles.getD i ⟨#[]⟩) time hs then .ret false else .next ((i + 1 : Nat) : Int), ?_, ?_, ?_⟩
          · simp (disch := omega) only [roles_CheckL0K, eo, find_eq o h.people, hCt, hit, hm, ckB_ix, ckB_inR, ckB_room, ckB_cut, ckB_mk, ckB_ne, bif_lt, bif_nlt, bif_le, bif_nle, bif_eq, bif_neq, bif_ne, bif_nne, bif_not, bif_true', bif_false', bnd_ok, lk_inl, lk_inr, Int.toNat_natCast, decide_true]
            rw [cast_succ]
            cases decide (idxI (fun r => eqS (people.getD i ⟨#[]⟩) r) people = (i : Int)) <;> cases mayB o (people.getD i ⟨#[]⟩) (acts.getD i ⟨#[]⟩) (roles.getD i ⟨#[]⟩) time hs <;> rfl
          · simp (disch := omega) only [ref46_CheckL0K, eo, Person_eq o h.people, hIx, hm', ckB_ix, ckB_inR, ckB_room, ckB_cut, ckB_mk, ckB_ne, bif_lt, bif_nlt, bif_le, bif_nle, bif_eq, bif_neq, bif_ne, bif_nne, bif_not, bif_true', bif_false', bnd_ok, lk_inl, lk_inr, Int.toNat_natCast, decide_true]
            rw [cast_succ]
            cases decide (idxI (fun r => eqS (people.getD i ⟨#[]⟩) r) people = (i : Int)) <;> cases mayB o (people.getD i ⟨#[]⟩) (acts.getD i ⟨#[]⟩) (roles.getD i ⟨#[]⟩) time hs <;> rfl
          · cases decide (idxI (fun r => eqS (people.getD i ⟨#[]⟩) r) people = (i : Int)) <;> cases mayB o (people.getD i ⟨#[]⟩) (acts.getD i ⟨#[]⟩) (roles.getD i ⟨#[]⟩) time hs <;> first | exact .inl rfl | exact .inr rfl
      obtain ⟨out, ho1, ho2, hpost⟩ : ∃ out : Unit ⊕ Bool, roles_CheckL0 acts roles people time hs people (people.length : Int) o.1 o.2.1 o.2.2.1 0 = some out ∧ ref46_CheckL0 acts roles people time hs o.1 o.2.1 o.2.2.1 0 = some out ∧ True := by
        refine loop_two (fun s => ∃ i : Nat, s = (i : Int) ∧ i ≤ people.length) (fun s => people.length + 1 - Int.toNat s) (fun _ => True) 0 ⟨0, rfl, Nat.zero_le _⟩ (by show people.length + 1 - Int.toNat 0 < many; unfold many; omega) ?_
        rintro s ⟨i, rfl, hi⟩
        by_cases hlt : i < people.length
        · obtain ⟨x, h1, h2, h3⟩ := hx i hlt
          refine ⟨x, h1, h2, ?_⟩
          rcases h3 with rfl | rfl
          · trivial
          · exact ⟨⟨i + 1, rfl, hlt⟩, by show people.length + 1 - Int.toNat ((i + 1 : Nat) : Int) < people.length + 1 - Int.toNat (i : Int); omega⟩
        · have : i = people.length := by omega
          subst this
          refine ⟨.done (), by simp (disch := omega) only [roles_CheckL0K, ckB_ix, ckB_inR, ckB_room, ckB_cut, ckB_mk, ckB_ne, bif_lt, bif_nlt, bif_le, bif_nle, bif_eq, bif_neq, bif_ne, bif_nne, bif_not, bif_true', bif_false', bnd_ok, lk_inl, lk_inr, Int.toNat_natCast, decide_true], by simp (disch := omega) only [ref46_CheckL0K, ckB_ix, ckB_inR, ckB_room, ckB_cut, ckB_mk, ckB_ne, bif_lt, bif_nlt, bif_le, bif_nle, bif_eq, bif_neq, bif_ne, bif_nne, bif_not, bif_true', bif_false', bnd_ok, lk_inl, lk_inr, Int.toNat_natCast, decide_true], trivial⟩
      rw [ho1, ho2]
      simp (disch := omega) only [ckB_ix, ckB_inR, ckB_room, ckB_cut, ckB_mk, ckB_ne, bif_lt, bif_nlt, bif_le, bif_nle, bif_eq, bif_neq, bif_ne, bif_nne, bif_not, bif_true', bif_false', bnd_ok, lk_inl, lk_inr, Int.toNat_natCast, decide_true]
      cases out with
      | inl u => exact ⟨true, rfl, rfl⟩
      | inr r => exact ⟨r, rfl, rfl⟩
    · exact ⟨false, by simp (disch := omega) only [ckB_ix, ckB_inR, ckB_room, ckB_cut, ckB_mk, ckB_ne, bif_lt, bif_nlt, bif_le, bif_nle, bif_eq, bif_neq, bif_ne, bif_nne, bif_not, bif_true', bif_false', bnd_ok, lk_inl, lk_inr, Int.toNat_natCast, decide_true], by simp (disch := omega) only [ckB_ix, ckB_inR, ckB_room, ckB_cut, ckB_mk, ckB_ne, bif_lt, bif_nlt, bif_le, bif_nle, bif_eq, bif_neq, bif_ne, bif_nne, bif_not, bif_true', bif_false', bnd_ok, lk_inl, lk_inr, Int.toNat_natCast, decide_true]⟩
  · exact ⟨false, by simp (disch := omega) only [ckB_ix, ckB_inR, ckB_room, ckB_cut, ckB_mk, ckB_ne, bif_lt, bif_nlt, bif_le, bif_nle, bif_eq, bif_neq, bif_ne, bif_nne, bif_not, bif_true', bif_false', bnd_ok, lk_inl, lk_inr, Int.toNat_natCast, decide_true], by simp (disch := omega) only [ckB_ix, ckB_inR, ckB_room, ckB_cut, ckB_mk, ckB_ne, bif_lt, bif_nlt, bif_le, bif_nle, bif_eq, bif_neq, bif_ne, bif_nne, bif_not, bif_true', bif_false', bnd_ok, lk_inl, lk_inr, Int.toNat_natCast, decide_true]⟩

theorem open_eq (acts l : List ByteArray) : ∃ b, law46_open acts l = some b ∧ (b = true → acts.length ≤ 50 ∧ l.length ≤ 50) := by
  unfold law46_open
  rw [words_eq, words_eq]
  simp only [bnd_ok]
  cases h1 : wordsB acts with
  | false => exact ⟨false, rfl, fun h => by cases h⟩
  | true =>
    cases h2 : wordsB l with
    | false => exact ⟨false, rfl, fun h => by cases h⟩
    | true =>
      have := words_len h1
      have := words_len h2
      exact ⟨bif decide ((acts.length : Int) ≤ 6) then true else decide ((12 : Int) < (acts.length : Int)), by cases decide ((acts.length : Int) ≤ 6) <;> rfl, fun _ => ⟨by omega, by omega⟩⟩

theorem RolesChecks_true (o : Org) (acts needs people : List ByteArray) (time : Int) (hs : List Task) : law46_RolesChecks o acts needs people time hs = some true := by
  obtain ⟨b, hb, hF⟩ := few_eq o
  obtain ⟨c, hc, hl⟩ := tasks_eq hs
  obtain ⟨d, hd, hlen⟩ := open_eq acts needs
  unfold law46_RolesChecks
  rw [awake_true, hb, hd, words_eq, hc]
  simp only [bnd_ok]
  cases b with
  | false => rfl
  | true =>
    cases d with
    | false => rfl
    | true =>
      cases hw : wordsB people with
      | false => rfl
      | true =>
        cases c with
        | false => rfl
        | true =>
          have := words_len hw
          have h12 := hlen rfl
          obtain ⟨q, h1, h2⟩ := Check_same (hF rfl) acts needs people (by omega) (by omega) (by omega) time hs (hl rfl)
          rw [h1, h2]
          simp [bnd_ok]

end Go.Proofs.Ytmlfmeffjodhmaa
