/-
  Roles: Has, Forbids, Allowed, Check: the laws RolesHave, RolesDuties, RolesChecks.
-/
import Derived.Test.YtmlfmeffjodhmaaZ8S2
set_option linter.all false
namespace Go.Proofs.Ytmlfmeffjodhmaa
open Go.K Go.M
def wordsB (l : List ByteArray) : Bool := decide ((l.length : Int) ≤ 50) && !l.any fun s => decide ((100 : Int) < (s.size : Int))
theorem words_eq (l : List ByteArray) : law46_words l = some (wordsB l) := by
  unfold law46_words wordsB
  by_cases h : (l.length : Int) ≤ 50
  · have hL : slices_IndexFunc_string_string_42L0 l (l.length : Int) 0 = some (fOut (fun i => (i : Int)) (fidx (fun s : ByteArray => decide ((100 : Int) < (s.size : Int))) l)) := by
      refine loop_find l ⟨#[]⟩ (fun s : ByteArray => decide ((100 : Int) < (s.size : Int))) (fun i => (i : Int)) (by omega) (fun i hi => ?_) ?_
      · simp (disch := omega) only [slices_IndexFunc_string_string_42L0K, law46_words_1, ckB_ix, ckB_inR, ckB_room, ckB_cut, ckB_mk, ckB_ne, bif_lt, bif_nlt, bif_le, bif_nle, bif_eq, bif_neq, bif_ne, bif_nne, bif_not, bif_true', bif_false', bnd_ok, lk_inl, lk_inr, Int.toNat_natCast, decide_true]
        rw [cast_succ]
        exact some_bif
      · simp (disch := omega) only [slices_IndexFunc_string_string_42L0K, ckB_ix, ckB_inR, ckB_room, ckB_cut, ckB_mk, ckB_ne, bif_lt, bif_nlt, bif_le, bif_nle, bif_eq, bif_neq, bif_ne, bif_nne, bif_not, bif_true', bif_false', bnd_ok, lk_inl, lk_inr, Int.toNat_natCast, decide_true]
    have hC : slices_ContainsFunc_string_string_42 l = some (l.any fun s : ByteArray => decide ((100 : Int) < (s.size : Int))) := by
      unfold slices_ContainsFunc_string_string_42 slices_IndexFunc_string_string_42
      rw [hL, bnd_ok, idx_out, bnd_ok, idxI_nn]
    rw [decide_eq_true h]
    simp (disch := omega) only [hC, ckB_ix, ckB_inR, ckB_room, ckB_cut, ckB_mk, ckB_ne, bif_lt, bif_nlt, bif_le, bif_nle, bif_eq, bif_neq, bif_ne, bif_nne, bif_not, bif_true', bif_false', bnd_ok, lk_inl, lk_inr, Int.toNat_natCast, decide_true]
    rfl
  · rw [decide_eq_false h]
    rfl
theorem words_len {l : List ByteArray} (h : wordsB l = true) : l.length ≤ 50 := by
  unfold wordsB at h
  simp only [Bool.and_eq_true, decide_eq_true_eq] at h
  omega
theorem few1_eq (p : Person) : ∃ b, law46_few_1 p = some b ∧ (b = false → p.2.1.length ≤ 50) := by
  unfold law46_few_1
  rw [words_eq, bnd_ok]
  cases h : wordsB p.2.1 with
  | false => exact ⟨true, rfl, fun h => by cases h⟩
  | true => exact ⟨_, rfl, fun _ => words_len h⟩
def few1B (p : Person) : Bool := (law46_few_1 p).getD true
theorem few1_B (p : Person) : law46_few_1 p = some (few1B p) ∧ (few1B p = false → p.2.1.length ≤ 50) := by
  obtain ⟨b, h1, h2⟩ := few1_eq p
  unfold few1B
  rw [h1]
  exact ⟨rfl, h2⟩
def few2B (d : Delegation) : Bool := decide ((100 : Int) < (d.1.size : Int)) || decide ((100 : Int) < (d.2.1.size : Int)) || decide ((100 : Int) < (d.2.2.1.size : Int))
theorem few2_eq (d : Delegation) : law46_few_2 d = some (few2B d) := by
  unfold law46_few_2 few2B
  cases decide ((100 : Int) < (d.1.size : Int)) <;> cases decide ((100 : Int) < (d.2.1.size : Int)) <;> rfl
def few3B (d : Duty) : Bool := decide ((100 : Int) < (d.2.1.size : Int)) || decide ((100 : Int) < (d.2.2.1.size : Int))
theorem few3_eq (d : Duty) : law46_few_3 d = some (few3B d) := by
  unfold law46_few_3 few3B
  cases decide ((100 : Int) < (d.2.1.size : Int)) <;> rfl
theorem few_eq (o : Org) : ∃ b, law46_few o = some b ∧ (b = true → Few o) := by
  have h1 : o.1.length ≤ 100 → slices_ContainsFunc_api_Person_api_Person_36 o.1 = some (o.1.any few1B) := fun hl => by
    have hL : slices_IndexFunc_api_Person_api_Person_36L0 o.1 (o.1.length : Int) 0 = some (fOut (fun i => (i : Int)) (fidx few1B o.1)) := by
      refine loop_find o.1 Person.z few1B (fun i => (i : Int)) (by omega) (fun i hi => ?_) ?_
      · have := (few1_B (o.1.getD i Person.z)).1
        simp (disch := omega) only [slices_IndexFunc_api_Person_api_Person_36L0K, this, ckB_ix, ckB_inR, ckB_room, ckB_cut, ckB_mk, ckB_ne, bif_lt, bif_nlt, bif_le, bif_nle, bif_eq, bif_neq, bif_ne, bif_nne, bif_not, bif_true', bif_false', bnd_ok, lk_inl, lk_inr, Int.toNat_natCast, decide_true]
        rw [cast_succ]
        exact some_bif
      · simp (disch := omega) only [slices_IndexFunc_api_Person_api_Person_36L0K, ckB_ix, ckB_inR, ckB_room, ckB_cut, ckB_mk, ckB_ne, bif_lt, bif_nlt, bif_le, bif_nle, bif_eq, bif_neq, bif_ne, bif_nne, bif_not, bif_true', bif_false', bnd_ok, lk_inl, lk_inr, Int.toNat_natCast, decide_true]
    unfold slices_ContainsFunc_api_Person_api_Person_36 slices_IndexFunc_api_Person_api_Person_36
    rw [hL, bnd_ok, idx_out, bnd_ok, idxI_nn]
  have h2 : o.2.1.length ≤ 100 → slices_ContainsFunc_api_Delegation_api_Delegation_38 o.2.1 = some (o.2.1.any few2B) := fun hl => by
    have hL : slices_IndexFunc_api_Delegation_api_Delegation_38L0 o.2.1 (o.2.1.length : Int) 0 = some (fOut (fun i => (i : Int)) (fidx few2B o.2.1)) := by
      refine loop_find o.2.1 Delegation.z few2B (fun i => (i : Int)) (by omega) (fun i hi => ?_) ?_
      · simp (disch := omega) only [slices_IndexFunc_api_Delegation_api_Delegation_38L0K, few2_eq, ckB_ix, ckB_inR, ckB_room, ckB_cut, ckB_mk, ckB_ne, bif_lt, bif_nlt, bif_le, bif_nle, bif_eq, bif_neq, bif_ne, bif_nne, bif_not, bif_true', bif_false', bnd_ok, lk_inl, lk_inr, Int.toNat_natCast, decide_true]
        rw [cast_succ]
        exact some_bif
      · simp (disch := omega) only [slices_IndexFunc_api_Delegation_api_Delegation_38L0K, ckB_ix, ckB_inR, ckB_room, ckB_cut, ckB_mk, ckB_ne, bif_lt, bif_nlt, bif_le, bif_nle, bif_eq, bif_neq, bif_ne, bif_nne, bif_not, bif_true', bif_false', bnd_ok, lk_inl, lk_inr, Int.toNat_natCast, decide_true]
    unfold slices_ContainsFunc_api_Delegation_api_Delegation_38 slices_IndexFunc_api_Delegation_api_Delegation_38
    rw [hL, bnd_ok, idx_out, bnd_ok, idxI_nn]
  have h3 : o.2.2.1.length ≤ 100 → slices_ContainsFunc_api_Duty_api_Duty_40 o.2.2.1 = some (o.2.2.1.any few3B) := fun hl => by
    have hL : slices_IndexFunc_api_Duty_api_Duty_40L0 o.2.2.1 (o.2.2.1.length : Int) 0 = some (fOut (fun i => (i : Int)) (fidx few3B o.2.2.1)) := by
      refine loop_find o.2.2.1 Duty.z few3B (fun i => (i : Int)) (by omega) (fun i hi => ?_) ?_
      · simp (disch := omega) only [slices_IndexFunc_api_Duty_api_Duty_40L0K, few3_eq, ckB_ix, ckB_inR, ckB_room, ckB_cut, ckB_mk, ckB_ne, bif_lt, bif_nlt, bif_le, bif_nle, bif_eq, bif_neq, bif_ne, bif_nne, bif_not, bif_true', bif_false', bnd_ok, lk_inl, lk_inr, Int.toNat_natCast, decide_true]
        rw [cast_succ]
        exact some_bif
      · simp (disch := omega) only [slices_IndexFunc_api_Duty_api_Duty_40L0K, ckB_ix, ckB_inR, ckB_room, ckB_cut, ckB_mk, ckB_ne, bif_lt, bif_nlt, bif_le, bif_nle, bif_eq, bif_neq, bif_ne, bif_nne, bif_not, bif_true', bif_false', bnd_ok, lk_inl, lk_inr, Int.toNat_natCast, decide_true]
    unfold slices_ContainsFunc_api_Duty_api_Duty_40 slices_IndexFunc_api_Duty_api_Duty_40
    rw [hL, bnd_ok, idx_out, bnd_ok, idxI_nn]
  have hF : o.1.length ≤ 100 → o.2.1.length ≤ 100 → o.2.2.1.length ≤ 100 → (!o.1.any few1B) = true → Few o := fun a b c d => ⟨a, b, c, fun p hp => by
    have h0 : o.1.any few1B = false := by simpa using d
    have h4 : few1B p = false := by
      have := List.any_eq_false.1 h0 p hp
      simpa using this
    have := (few1_B p).2 h4
    omega⟩
  unfold law46_few
  by_cases c1 : (o.1.length : Int) ≤ 12
  · by_cases c2 : (o.2.1.length : Int) ≤ 20
    · by_cases c3 : (o.2.2.1.length : Int) ≤ 20
      · refine ⟨!o.1.any few1B && !o.2.1.any few2B && !o.2.2.1.any few3B, ?_, fun hb => ?_⟩
        · simp (disch := omega) only [h1 (by omega), h2 (by omega), h3 (by omega), ckB_ix, ckB_inR, ckB_room, ckB_cut, ckB_mk, ckB_ne, bif_lt, bif_nlt, bif_le, bif_nle, bif_eq, bif_neq, bif_ne, bif_nne, bif_not, bif_true', bif_false', bnd_ok, lk_inl, lk_inr, Int.toNat_natCast, decide_true]
          cases o.1.any few1B <;> cases o.2.1.any few2B <;> cases o.2.2.1.any few3B <;> rfl
        · simp only [Bool.and_eq_true] at hb
          exact hF (by omega) (by omega) (by omega) hb.1.1
      · exact ⟨false, by simp (disch := omega) only [ckB_ix, ckB_inR, ckB_room, ckB_cut, ckB_mk, ckB_ne, bif_lt, bif_nlt, bif_le, bif_nle, bif_eq, bif_neq, bif_ne, bif_nne, bif_not, bif_true', bif_false', bnd_ok, lk_inl, lk_inr, Int.toNat_natCast, decide_true], fun h => by cases h⟩
    · exact ⟨false, by simp (disch := omega) only [ckB_ix, ckB_inR, ckB_room, ckB_cut, ckB_mk, ckB_ne, bif_lt, bif_nlt, bif_le, bif_nle, bif_eq, bif_neq, bif_ne, bif_nne, bif_not, bif_true', bif_false', bnd_ok, lk_inl, lk_inr, Int.toNat_natCast, decide_true], fun h => by cases h⟩
  · by_cases c4 : 40 < (o.1.length : Int)
    · by_cases c5 : (o.1.length : Int) < 45
      · by_cases c2 : (o.2.1.length : Int) ≤ 20
        · by_cases c3 : (o.2.2.1.length : Int) ≤ 20
          · refine ⟨!o.1.any few1B && !o.2.1.any few2B && !o.2.2.1.any few3B, ?_, fun hb => ?_⟩
            · simp (disch := omega) only [h1 (by omega), h2 (by omega), h3 (by omega), ckB_ix, ckB_inR, ckB_room, ckB_cut, ckB_mk, ckB_ne, bif_lt, bif_nlt, bif_le, bif_nle, bif_eq, bif_neq, bif_ne, bif_nne, bif_not, bif_true', bif_false', bnd_ok, lk_inl, lk_inr, Int.toNat_natCast, decide_true]
              cases o.1.any few1B <;> cases o.2.1.any few2B <;> cases o.2.2.1.any few3B <;> rfl
            · simp only [Bool.and_eq_true] at hb
              exact hF (by omega) (by omega) (by omega) hb.1.1
          · exact ⟨false, by simp (disch := omega) only [ckB_ix, ckB_inR, ckB_room, ckB_cut, ckB_mk, ckB_ne, bif_lt, bif_nlt, bif_le, bif_nle, bif_eq, bif_neq, bif_ne, bif_nne, bif_not, bif_true', bif_false', bnd_ok, lk_inl, lk_inr, Int.toNat_natCast, decide_true], fun h => by cases h⟩
        · exact ⟨false, by simp (disch := omega) only [ckB_ix, ckB_inR, ckB_room, ckB_cut, ckB_mk, ckB_ne, bif_lt, bif_nlt, bif_le, bif_nle, bif_eq, bif_neq, bif_ne, bif_nne, bif_not, bif_true', bif_false', bnd_ok, lk_inl, lk_inr, Int.toNat_natCast, decide_true], fun h => by cases h⟩
      · exact ⟨false, by simp (disch := omega) only [ckB_ix, ckB_inR, ckB_room, ckB_cut, ckB_mk, ckB_ne, bif_lt, bif_nlt, bif_le, bif_nle, bif_eq, bif_neq, bif_ne, bif_nne, bif_not, bif_true', bif_false', bnd_ok, lk_inl, lk_inr, Int.toNat_natCast, decide_true], fun h => by cases h⟩
    · exact ⟨false, by simp (disch := omega) only [ckB_ix, ckB_inR, ckB_room, ckB_cut, ckB_mk, ckB_ne, bif_lt, bif_nlt, bif_le, bif_nle, bif_eq, bif_neq, bif_ne, bif_nne, bif_not, bif_true', bif_false', bnd_ok, lk_inl, lk_inr, Int.toNat_natCast, decide_true], fun h => by cases h⟩
theorem tasks_eq (l : List Task) : ∃ b, law46_tasks l = some b ∧ (b = true → l.length ≤ 2000) := by
  have hC : l.length ≤ 2000 → ∃ q, slices_ContainsFunc_api_Task_api_Task_44 l = some q := fun hl => by
    have h1 : ∀ t : Task, law46_tasks_1 t = some (decide ((100 : Int) < (t.1.size : Int)) || decide ((100 : Int) < (t.2.1.size : Int))) := fun t => by
      unfold law46_tasks_1
      cases decide ((100 : Int) < (t.1.size : Int)) <;> rfl
    have hL : slices_IndexFunc_api_Task_api_Task_44L0 l (l.length : Int) 0 = some (fOut (fun i => (i : Int)) (fidx (fun t : Task => decide ((100 : Int) < (t.1.size : Int)) || decide ((100 : Int) < (t.2.1.size : Int))) l)) := by
      refine loop_find l Task.z (fun t : Task => decide ((100 : Int) < (t.1.size : Int)) || decide ((100 : Int) < (t.2.1.size : Int))) (fun i => (i : Int)) (by omega) (fun i hi => ?_) ?_
      · simp (disch := omega) only [slices_IndexFunc_api_Task_api_Task_44L0K, h1, ckB_ix, ckB_inR, ckB_room, ckB_cut, ckB_mk, ckB_ne, bif_lt, bif_nlt, bif_le, bif_nle, bif_eq, bif_neq, bif_ne, bif_nne, bif_not, bif_true', bif_false', bnd_ok, lk_inl, lk_inr, Int.toNat_natCast, decide_true]
        rw [cast_succ]
        exact some_bif
      · simp (disch := omega) only [slices_IndexFunc_api_Task_api_Task_44L0K, ckB_ix, ckB_inR, ckB_room, ckB_cut, ckB_mk, ckB_ne, bif_lt, bif_nlt, bif_le, bif_nle, bif_eq, bif_neq, bif_ne, bif_nne, bif_not, bif_true', bif_false', bnd_ok, lk_inl, lk_inr, Int.toNat_natCast, decide_true]
    unfold slices_ContainsFunc_api_Task_api_Task_44 slices_IndexFunc_api_Task_api_Task_44
    rw [hL, bnd_ok, idx_out, bnd_ok]
    exact ⟨_, rfl⟩
  unfold law46_tasks
  by_cases c1 : (l.length : Int) ≤ 30
  · obtain ⟨q, hq⟩ := hC (by omega)
    exact ⟨!q, by simp (disch := omega) only [hq, ckB_ix, ckB_inR, ckB_room, ckB_cut, ckB_mk, ckB_ne, bif_lt, bif_nlt, bif_le, bif_nle, bif_eq, bif_neq, bif_ne, bif_nne, bif_not, bif_true', bif_false', bnd_ok, lk_inl, lk_inr, Int.toNat_natCast, decide_true], fun _ => by omega⟩
  · by_cases c2 : 1000 < (l.length : Int)
    · by_cases c3 : (l.length : Int) < 1005
      · obtain ⟨q, hq⟩ := hC (by omega)
        exact ⟨!q, by simp (disch := omega) only [hq, ckB_ix, ckB_inR, ckB_room, ckB_cut, ckB_mk, ckB_ne, bif_lt, bif_nlt, bif_le, bif_nle, bif_eq, bif_neq, bif_ne, bif_nne, bif_not, bif_true', bif_false', bnd_ok, lk_inl, lk_inr, Int.toNat_natCast, decide_true], fun _ => by omega⟩
      · exact ⟨false, by simp (disch := omega) only [ckB_ix, ckB_inR, ckB_room, ckB_cut, ckB_mk, ckB_ne, bif_lt, bif_nlt, bif_le, bif_nle, bif_eq, bif_neq, bif_ne, bif_nne, bif_not, bif_true', bif_false', bnd_ok, lk_inl, lk_inr, Int.toNat_natCast, decide_true], fun h => by cases h⟩
    · exact ⟨false, by simp (disch := omega) only [ckB_ix, ckB_inR, ckB_room, ckB_cut, ckB_mk, ckB_ne, bif_lt, bif_nlt, bif_le, bif_nle, bif_eq, bif_neq, bif_ne, bif_nne, bif_not, bif_true', bif_false', bnd_ok, lk_inl, lk_inr, Int.toNat_natCast, decide_true], fun h => by cases h⟩
def AllV (o : Org) (person act role : ByteArray) (time : Int) (hs : List Task) : Bool × Int :=
  bif !validO o || !nameB act || !nameB role then (false, 1) else bif !instB time then (false, 2) else bif decide (pix o person < 0) then (false, 10) else bif !decide (pastI o hs = 0) then (false, pastI o hs) else (mayB o person act role time hs, 0)
section
variable {o : Org} (h : Few o)
include h
theorem All_val (person act role : ByteArray) (time : Int) (hs : List Task) (hl : hs.length ≤ 2000) : roles_Allowed o person act role time hs = some (AllV o person act role time hs) ∧ ref46_Allowed o person act role time hs = some (AllV o person act role time hs) := by
  have hn : [act, role].all nameB = (nameB act && nameB role) := by simp
  unfold AllV roles_Allowed ref46_Allowed
  cases hv : validO o with
  | false => exact ⟨by simp (disch := omega) only [Valid_eq h, hv, ckB_ix, ckB_inR, ckB_room, ckB_cut, ckB_mk, ckB_ne, bif_lt, bif_nlt, bif_le, bif_nle, bif_eq, bif_neq, bif_ne, bif_nne, bif_not, bif_true', bif_false', bnd_ok, lk_inl, lk_inr, Int.toNat_natCast, decide_true]; rfl, by simp (disch := omega) only [refValid_eq h, hv, ckB_ix, ckB_inR, ckB_room, ckB_cut, ckB_mk, ckB_ne, bif_lt, bif_nlt, bif_le, bif_nle, bif_eq, bif_neq, bif_ne, bif_nne, bif_not, bif_true', bif_false', bnd_ok, lk_inl, lk_inr, Int.toNat_natCast, decide_true]; rfl⟩
  | true =>
    by_cases hp : pix o person < 0
    · constructor
      · simp (disch := omega) only [Valid_eq h, hv, names_eq [act, role] (by simp), hn, instant_eq, find_eq o h.people, ckB_ix, ckB_inR, ckB_room, ckB_cut, ckB_mk, ckB_ne, bif_lt, bif_nlt, bif_le, bif_nle, bif_eq, bif_neq, bif_ne, bif_nne, bif_not, bif_true', bif_false', bnd_ok, lk_inl, lk_inr, Int.toNat_natCast, decide_true]
        cases nameB act <;> cases nameB role <;> cases instB time <;> rfl
      · simp (disch := omega) only [refValid_eq h, hv, refIsName_eq, refInstant_eq, Person_eq o h.people, ckB_ix, ckB_inR, ckB_room, ckB_cut, ckB_mk, ckB_ne, bif_lt, bif_nlt, bif_le, bif_nle, bif_eq, bif_neq, bif_ne, bif_nne, bif_not, bif_true', bif_false', bnd_ok, lk_inl, lk_inr, Int.toNat_natCast, decide_true]
        cases nameB act <;> cases nameB role <;> cases instB time <;> rfl
    · constructor
      · simp (disch := omega) only [Valid_eq h, hv, names_eq [act, role] (by simp), hn, instant_eq, find_eq o h.people, past_eq h hs hl, may_eq h hv (person := person) (by omega) act role time hs hl, ckB_ix, ckB_inR, ckB_room, ckB_cut, ckB_mk, ckB_ne, bif_lt, bif_nlt, bif_le, bif_nle, bif_eq, bif_neq, bif_ne, bif_nne, bif_not, bif_true', bif_false', bnd_ok, lk_inl, lk_inr, Int.toNat_natCast, decide_true]
        cases nameB act <;> cases nameB role <;> cases instB time <;> cases decide (pastI o hs = 0) <;> rfl
      · simp (disch := omega) only [refValid_eq h, hv, refIsName_eq, refInstant_eq, Person_eq o h.people, refPast_eq h hs hl, refMay_eq h hv (person := person) (by omega) act role time hs hl, ckB_ix, ckB_inR, ckB_room, ckB_cut, ckB_mk, ckB_ne, bif_lt, bif_nlt, bif_le, bif_nle, bif_eq, bif_neq, bif_ne, bif_nne, bif_not, bif_true', bif_false', bnd_ok, lk_inl, lk_inr, Int.toNat_natCast, decide_true]
        cases nameB act <;> cases nameB role <;> cases instB time <;> cases decide (pastI o hs = 0) <;> rfl
end
theorem fault_eq {o : Org} (h : Few o) (acts roles : List ByteArray) (ha : acts.length ≤ 1000) (hr : roles.length ≤ 1000) (time : Int) (hs : List Task) (hl : hs.length ≤ 2000) : roles_given o acts roles time hs = ref46_fault o acts roles time hs ∧ ∃ e, roles_given o acts roles time hs = some e ∧ (e = 0 → validO o = true ∧ acts.length = roles.length ∧ acts.length ≤ 12) := by
  have e1 : roles_given o acts roles time hs = some (bif !validO o then 1 else bif !acts.all nameB then 1 else bif !roles.all nameB then 1 else bif !instB time then 2 else bif !decide (pastI o hs = 0) then pastI o hs else bif !decide ((acts.length : Int) = (roles.length : Int)) then 29 else bif decide ((12 : Int) < (acts.length : Int)) then 5 else 0) := by
    unfold roles_given
    rw [Valid_eq h, names_eq acts ha, names_eq roles hr, instant_eq, past_eq h hs hl]
    simp only [bnd_ok]
    cases validO o <;> cases acts.all nameB <;> cases roles.all nameB <;> cases instB time <;> cases decide (pastI o hs = 0) <;> cases decide ((acts.length : Int) = (roles.length : Int)) <;> cases decide ((12 : Int) < (acts.length : Int)) <;> rfl
  have e2 : ref46_fault o acts roles time hs = some (bif !validO o then 1 else bif !acts.all nameB then 1 else bif !roles.all nameB then 1 else bif !instB time then 2 else bif !decide (pastI o hs = 0) then pastI o hs else bif !decide ((acts.length : Int) = (roles.length : Int)) then 29 else bif decide ((12 : Int) < (acts.length : Int)) then 5 else 0) := by
    unfold ref46_fault
    rw [refValid_eq h, Names_eq acts (by omega), Names_eq roles (by omega), refInstant_eq, refPast_eq h hs hl]
    simp only [bnd_ok]
    cases validO o <;> cases acts.all nameB <;> cases roles.all nameB <;> cases instB time <;> cases decide (pastI o hs = 0) <;> cases decide ((acts.length : Int) = (roles.length : Int)) <;> cases decide ((12 : Int) < (acts.length : Int)) <;> rfl
  refine ⟨e1.trans e2.symm, _, e1, fun h0 => ?_⟩
  cases hv : validO o with
  | false => rw [hv] at h0; cases h0
  | true =>
    rw [hv] at h0
    cases h1 : acts.all nameB with
    | false => rw [h1] at h0; cases h0
    | true =>
      rw [h1] at h0
      cases h2 : roles.all nameB with
      | false => rw [h2] at h0; cases h0
      | true =>
        rw [h2] at h0
        cases h3 : instB time with
        | false => rw [h3] at h0; cases h0
        | true =>
          rw [h3] at h0
          by_cases h4 : pastI o hs = 0
          · by_cases h5 : (acts.length : Int) = (roles.length : Int)
            · by_cases h6 : (12 : Int) < (acts.length : Int)
              · exfalso
                rw [h4, decide_eq_true h5, decide_eq_true h6] at h0
                exact absurd h0 (by decide)
              · exact ⟨rfl, by omega, by omega⟩
            · simp [h4, h5] at h0
          · simp [h4] at h0
theorem open_eq (acts l : List ByteArray) : ∃ b, law46_open acts l = some b ∧ (b = true → acts.length ≤ 50 ∧ l.length ≤ 50) := by
  unfold law46_open
  rw [words_eq, words_eq]
  simp only [bnd_ok]
  cases h1 : wordsB acts with
  | false => exact ⟨false, rfl, fun h => by cases h⟩
  | true =>
    cases h2 : wordsB l with
    | false => exact ⟨false, rfl, fun h => by cases h⟩
    | true =>
      have := words_len h1
      have := words_len h2
      exact ⟨bif decide ((acts.length : Int) ≤ 6) then true else decide ((12 : Int) < (acts.length : Int)), by cases decide ((acts.length : Int) ≤ 6) <;> rfl, fun _ => ⟨by omega, by omega⟩⟩
end Go.Proofs.Ytmlfmeffjodhmaa
