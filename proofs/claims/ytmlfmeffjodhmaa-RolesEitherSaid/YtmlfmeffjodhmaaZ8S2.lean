/-
  Roles: organisations, roles, duties, by the program and by the reference.
-/
import Derived.Test.YtmlfmeffjodhmaaZ8S1
set_option linter.all false
namespace Go.Proofs.Ytmlfmeffjodhmaa
open Go.K Go.M
structure Few (o : Org) : Prop where
  people : o.1.length ≤ 100
  dele : o.2.1.length ≤ 100
  duty : o.2.2.1.length ≤ 100
  roles : ∀ p ∈ o.1, p.2.1.length ≤ 100
def pix (o : Org) (s : ByteArray) : Int := idxI (fun p : Person => eqS p.1 s) o.1
theorem find_eq (o : Org) (h : o.1.length ≤ 100) (s : ByteArray) : roles_find o s = some (pix o s) := by
  have hL : slices_IndexFunc_api_Person_api_Person_82L0 o.1 s (o.1.length : Int) 0 = some (fOut (fun i => (i : Int)) (fidx (fun p : Person => eqS p.1 s) o.1)) := by
    refine loop_find o.1 Person.z (fun p : Person => eqS p.1 s) (fun i => (i : Int)) (by omega) (fun i hi => ?_) ?_
    · simp (disch := omega) only [eqS_def, slices_IndexFunc_api_Person_api_Person_82L0K, roles_find_1, ckB_ix, ckB_inR, ckB_room, ckB_cut, ckB_mk, ckB_ne, bif_lt, bif_nlt, bif_le, bif_nle, bif_eq, bif_neq, bif_ne, bif_nne, bif_not, bif_true', bif_false', bnd_ok, lk_inl, lk_inr, Int.toNat_natCast, decide_true]
      rw [cast_succ]
      exact some_bif
    · simp (disch := omega) only [eqS_def, slices_IndexFunc_api_Person_api_Person_82L0K, ckB_ix, ckB_inR, ckB_room, ckB_cut, ckB_mk, ckB_ne, bif_lt, bif_nlt, bif_le, bif_nle, bif_eq, bif_neq, bif_ne, bif_nne, bif_not, bif_true', bif_false', bnd_ok, lk_inl, lk_inr, Int.toNat_natCast, decide_true]
  unfold roles_find slices_IndexFunc_api_Person_api_Person_82
  rw [hL, bnd_ok, idx_out, bnd_ok]
  rfl
theorem Person_eq (o : Org) (h : o.1.length ≤ 100) (s : ByteArray) : ref46_Person o s = some (pix o s) := by
  have hL : ref46_PersonL0 s o.1 o.2.1 o.2.2.1 0 = some (fOut (fun i => (i : Int)) (fidx (fun p : Person => eqS p.1 s) o.1)) := by
    refine loop_find o.1 Person.z (fun p : Person => eqS p.1 s) (fun i => (i : Int)) (by omega) (fun i hi => ?_) ?_
    · simp (disch := omega) only [eqS_def, ref46_PersonL0K, ckB_ix, ckB_inR, ckB_room, ckB_cut, ckB_mk, ckB_ne, bif_lt, bif_nlt, bif_le, bif_nle, bif_eq, bif_neq, bif_ne, bif_nne, bif_not, bif_true', bif_false', bnd_ok, lk_inl, lk_inr, Int.toNat_natCast, decide_true]
      rw [cast_succ]
      exact some_bif
    · simp (disch := omega) only [eqS_def, ref46_PersonL0K, ckB_ix, ckB_inR, ckB_room, ckB_cut, ckB_mk, ckB_ne, bif_lt, bif_nlt, bif_le, bif_nle, bif_eq, bif_neq, bif_ne, bif_nne, bif_not, bif_true', bif_false', bnd_ok, lk_inl, lk_inr, Int.toNat_natCast, decide_true]
  unfold ref46_Person
  rw [hL, bnd_ok, idx_out]
  rfl
theorem Index_eq (l : List ByteArray) (h : l.length ≤ 100) (s : ByteArray) : ref02_Index l s = some (idxI (fun r => eqS s r) l) := by
  have hL : ref02_IndexL0 l s 0 = some (fOut (fun i => (i : Int)) (fidx (fun r => eqS s r) l)) := by
    refine loop_find l ⟨#[]⟩ (fun r => eqS s r) (fun i => (i : Int)) (by omega) (fun i hi => ?_) ?_
    · have := eqS_comm s (l.getD i ⟨#[]⟩)
      simp (disch := omega) only [eqS_def, ref02_IndexL0K, ckB_ix, ckB_inR, ckB_room, ckB_cut, ckB_mk, ckB_ne, bif_lt, bif_nlt, bif_le, bif_nle, bif_eq, bif_neq, bif_ne, bif_nne, bif_not, bif_true', bif_false', bnd_ok, lk_inl, lk_inr, Int.toNat_natCast, decide_true]
      rw [cast_succ, this]
      exact some_bif
    · simp (disch := omega) only [eqS_def, ref02_IndexL0K, ckB_ix, ckB_inR, ckB_room, ckB_cut, ckB_mk, ckB_ne, bif_lt, bif_nlt, bif_le, bif_nle, bif_eq, bif_neq, bif_ne, bif_nne, bif_not, bif_true', bif_false', bnd_ok, lk_inl, lk_inr, Int.toNat_natCast, decide_true]
  unfold ref02_Index
  rw [hL, bnd_ok, idx_out]
theorem Contains_eq (l : List ByteArray) (h : l.length ≤ 100) (s : ByteArray) : slices_Contains_string_string l s = some (l.any fun r => eqS s r) := by
  have hL : slices_Index_string_stringL0 l s (l.length : Int) 0 = some (fOut (fun i => (i : Int)) (fidx (fun r => eqS s r) l)) := by
    refine loop_find l ⟨#[]⟩ (fun r => eqS s r) (fun i => (i : Int)) (by omega) (fun i hi => ?_) ?_
    · simp (disch := omega) only [eqS_def, slices_Index_string_stringL0K, ckB_ix, ckB_inR, ckB_room, ckB_cut, ckB_mk, ckB_ne, bif_lt, bif_nlt, bif_le, bif_nle, bif_eq, bif_neq, bif_ne, bif_nne, bif_not, bif_true', bif_false', bnd_ok, lk_inl, lk_inr, Int.toNat_natCast, decide_true]
      rw [cast_succ]
      exact some_bif
    · simp (disch := omega) only [eqS_def, slices_Index_string_stringL0K, ckB_ix, ckB_inR, ckB_room, ckB_cut, ckB_mk, ckB_ne, bif_lt, bif_nlt, bif_le, bif_nle, bif_eq, bif_neq, bif_ne, bif_nne, bif_not, bif_true', bif_false', bnd_ok, lk_inl, lk_inr, Int.toNat_natCast, decide_true]
  unfold slices_Contains_string_string slices_Index_string_string
  rw [hL, bnd_ok, idx_out, bnd_ok, idxI_nn]
def badP (l : List Person) (i : Nat) : Bool := !nameB (l.getD i Person.z).1 || decide (0 < i) && !lessB (l.getD (i - 1) Person.z).1 (l.getD i Person.z).1 || !alphaB (l.getD i Person.z).2.1
def peopleB (l : List Person) : Bool := decide (l.length ≤ 40) && (List.range l.length).all fun i => !badP l i
theorem people_eq (l : List Person) (h : l.length ≤ 100) : roles_people l = some (peopleB l) := by
  have hL : roles_peopleL0 l l (l.length : Int) 0 = some (bif (List.range l.length).all (fun i => !badP l i) then .inl () else .inr false) := by
    have hst : ∀ i : Nat, i < l.length → roles_peopleL0K (R := LR Int Unit Bool) l l (l.length : Int) (i : Int) (fun a' => some (.next a')) (fun e => some (.done e)) (fun r => some (.ret r)) = some (bif badP l i then .ret false else .next ((i + 1 : Nat) : Int)) := fun i hi => by
      unfold badP lessB
      by_cases h0 : 0 < i
      · have e : (i : Int) - 1 = ((i - 1 : Nat) : Int) := by omega
        have h0' : (0 : Int) < (i : Int) := by omega
        rw [decide_eq_true h0]
        simp (disch := omega) only [eqS_def, roles_peopleL0K, IsName_eq, Alphabet_eq, e, ckB_ix, ckB_inR, ckB_room, ckB_cut, ckB_mk, ckB_ne, bif_lt, bif_nlt, bif_le, bif_nle, bif_eq, bif_neq, bif_ne, bif_nne, bif_not, bif_true', bif_false', bnd_ok, lk_inl, lk_inr, Int.toNat_natCast, decide_true]
        rw [cast_succ]
        cases nameB (l.getD i Person.z).1 <;> cases Op.bytesLess (l.getD (i - 1) Person.z).1.toList (l.getD i Person.z).1.toList <;> cases alphaB (l.getD i Person.z).2.1 <;> rfl
      · have h0' : ¬ (0 : Int) < (i : Int) := by omega
        rw [decide_eq_false h0]
        simp (disch := omega) only [eqS_def, roles_peopleL0K, IsName_eq, Alphabet_eq, ckB_ix, ckB_inR, ckB_room, ckB_cut, ckB_mk, ckB_ne, bif_lt, bif_nlt, bif_le, bif_nle, bif_eq, bif_neq, bif_ne, bif_nne, bif_not, bif_true', bif_false', bnd_ok, lk_inl, lk_inr, Int.toNat_natCast, decide_true]
        rw [cast_succ]
        cases nameB (l.getD i Person.z).1 <;> cases alphaB (l.getD i Person.z).2.1 <;> rfl
    refine loop_all (fun i : Nat => (i : Int)) l.length (many_of (by omega)) _ () false (fun i hi hp => ?_) (fun i hi hp => ?_) ?_
    · have hb : badP l i = false := by simpa using hp
      exact (hst i hi).trans (by rw [hb]; rfl)
    · have hb : badP l i = true := by simpa using hp
      exact (hst i hi).trans (by rw [hb]; rfl)
    · simp (disch := omega) only [eqS_def, roles_peopleL0K, ckB_ix, ckB_inR, ckB_room, ckB_cut, ckB_mk, ckB_ne, bif_lt, bif_nlt, bif_le, bif_nle, bif_eq, bif_neq, bif_ne, bif_nne, bif_not, bif_true', bif_false', bnd_ok, lk_inl, lk_inr, Int.toNat_natCast, decide_true]
  unfold roles_people peopleB
  rw [hL, bnd_ok]
  have e : decide ((l.length : Int) ≤ 40) = decide (l.length ≤ 40) := decide_eq_decide.2 (by omega)
  rw [e]
  cases (List.range l.length).all (fun i => !badP l i) with
  | true => simp
  | false => simp
theorem refPeople_eq (o : Org) (h : o.1.length ≤ 100) : ref46_ValidL0 o.1 o.2.1 o.2.2.1 0 = some (bif (List.range o.1.length).all (fun i => !badP o.1 i) then .inl () else .inr false) := by
  have hst : ∀ i : Nat, i < o.1.length → ref46_ValidL0K (R := LR Int Unit Bool) o.1 o.2.1 o.2.2.1 (i : Int) (fun a' => some (.next a')) (fun e => some (.done e)) (fun r => some (.ret r)) = some (bif badP o.1 i then .ret false else .next ((i + 1 : Nat) : Int)) := fun i hi => by
    unfold badP lessB
    by_cases h0 : 0 < i
    · have e : (i : Int) - 1 = ((i - 1 : Nat) : Int) := by omega
      have h0' : (0 : Int) < (i : Int) := by omega
      rw [decide_eq_true h0]
      simp (disch := omega) only [eqS_def, ref46_ValidL0K, refIsName_eq, refAlphabet_eq, e, ckB_ix, ckB_inR, ckB_room, ckB_cut, ckB_mk, ckB_ne, bif_lt, bif_nlt, bif_le, bif_nle, bif_eq, bif_neq, bif_ne, bif_nne, bif_not, bif_true', bif_false', bnd_ok, lk_inl, lk_inr, Int.toNat_natCast, decide_true]
      rw [cast_succ]
      cases nameB (o.1.getD i Person.z).1 <;> cases Op.bytesLess (o.1.getD (i - 1) Person.z).1.toList (o.1.getD i Person.z).1.toList <;> cases alphaB (o.1.getD i Person.z).2.1 <;> rfl
    · have h0' : ¬ (0 : Int) < (i : Int) := by omega
      rw [decide_eq_false h0]
      simp (disch := omega) only [eqS_def, ref46_ValidL0K, refIsName_eq, refAlphabet_eq, ckB_ix, ckB_inR, ckB_room, ckB_cut, ckB_mk, ckB_ne, bif_lt, bif_nlt, bif_le, bif_nle, bif_eq, bif_neq, bif_ne, bif_nne, bif_not, bif_true', bif_false', bnd_ok, lk_inl, lk_inr, Int.toNat_natCast, decide_true]
      rw [cast_succ]
      cases nameB (o.1.getD i Person.z).1 <;> cases alphaB (o.1.getD i Person.z).2.1 <;> rfl
  refine loop_all (fun i : Nat => (i : Int)) o.1.length (many_of (by omega)) _ () false (fun i hi hp => ?_) (fun i hi hp => ?_) ?_
  · have hb : badP o.1 i = false := by simpa using hp
    exact (hst i hi).trans (by rw [hb]; rfl)
  · have hb : badP o.1 i = true := by simpa using hp
    exact (hst i hi).trans (by rw [hb]; rfl)
  · simp (disch := omega) only [eqS_def, ref46_ValidL0K, ckB_ix, ckB_inR, ckB_room, ckB_cut, ckB_mk, ckB_ne, bif_lt, bif_nlt, bif_le, bif_nle, bif_eq, bif_neq, bif_ne, bif_nne, bif_not, bif_true', bif_false', bnd_ok, lk_inl, lk_inr, Int.toNat_natCast, decide_true]
def spanB (s : Span) : Bool := decide (0 ≤ s.1) && decide (s.1 < s.2.1) && decide (s.2.1 ≤ 1099511627776)
theorem ValidSpan_eq (s : Span) : clock_ValidSpan s = some (spanB s) := by
  unfold clock_ValidSpan spanB
  cases decide ((0 : Int) ≤ s.1) <;> cases decide (s.1 < s.2.1) <;> rfl
theorem refValidSpan_eq (s : Span) : ref03_ValidSpan s = some (spanB s) := ValidSpan_eq s
def badD (o : Org) (d : Delegation) : Bool := decide (pix o d.1 < 0) || decide (pix o d.2.1 < 0) || eqS d.1 d.2.1 || !nameB d.2.2.1 || !spanB d.2.2.2.1
def badU (d : Duty) : Bool := !decide (d.1 = 1) && !decide (d.1 = 2) || !nameB d.2.1 || !nameB d.2.2.1
def validO (o : Org) : Bool := peopleB o.1 && !o.2.1.any (badD o) && !o.2.2.1.any badU
theorem Valid1_eq (o : Org) (h : o.1.length ≤ 100) (d : Delegation) : roles_Valid_1 d o = some (badD o d) := by
  unfold roles_Valid_1 badD
  simp (disch := omega) only [eqS_def, find_eq o h, IsName_eq, ValidSpan_eq, ckB_ix, ckB_inR, ckB_room, ckB_cut, ckB_mk, ckB_ne, bif_lt, bif_nlt, bif_le, bif_nle, bif_eq, bif_neq, bif_ne, bif_nne, bif_not, bif_true', bif_false', bnd_ok, lk_inl, lk_inr, Int.toNat_natCast, decide_true]
  cases decide (pix o d.1 < 0) <;> cases decide (pix o d.2.1 < 0) <;> cases eqS d.1 d.2.1 <;> cases nameB d.2.2.1 <;> cases spanB d.2.2.2.1 <;> rfl
theorem Valid2_eq (d : Duty) : roles_Valid_2 d = some (badU d) := by
  unfold roles_Valid_2 badU
  rw [IsName_eq, IsName_eq]
  cases decide (d.1 = 1) <;> cases decide (d.1 = 2) <;> cases nameB d.2.1 <;> cases nameB d.2.2.1 <;> rfl
theorem anyD_eq (o : Org) (h : o.1.length ≤ 100) (l : List Delegation) (hl : l.length ≤ 100) : slices_ContainsFunc_api_Delegation_api_Delegation_63 l o = some (l.any (badD o)) := by
  have hL : slices_IndexFunc_api_Delegation_api_Delegation_63L0 l o (l.length : Int) 0 = some (fOut (fun i => (i : Int)) (fidx (badD o) l)) := by
    refine loop_find l Delegation.z (badD o) (fun i => (i : Int)) (by omega) (fun i hi => ?_) ?_
    · simp (disch := omega) only [eqS_def, slices_IndexFunc_api_Delegation_api_Delegation_63L0K, Valid1_eq o h, ckB_ix, ckB_inR, ckB_room, ckB_cut, ckB_mk, ckB_ne, bif_lt, bif_nlt, bif_le, bif_nle, bif_eq, bif_neq, bif_ne, bif_nne, bif_not, bif_true', bif_false', bnd_ok, lk_inl, lk_inr, Int.toNat_natCast, decide_true]
      rw [cast_succ]
      exact some_bif
    · simp (disch := omega) only [eqS_def, slices_IndexFunc_api_Delegation_api_Delegation_63L0K, ckB_ix, ckB_inR, ckB_room, ckB_cut, ckB_mk, ckB_ne, bif_lt, bif_nlt, bif_le, bif_nle, bif_eq, bif_neq, bif_ne, bif_nne, bif_not, bif_true', bif_false', bnd_ok, lk_inl, lk_inr, Int.toNat_natCast, decide_true]
  unfold slices_ContainsFunc_api_Delegation_api_Delegation_63 slices_IndexFunc_api_Delegation_api_Delegation_63
  rw [hL, bnd_ok, idx_out, bnd_ok, idxI_nn]
theorem anyU_eq (l : List Duty) (hl : l.length ≤ 100) : slices_ContainsFunc_api_Duty_api_Duty_66 l = some (l.any badU) := by
  have hL : slices_IndexFunc_api_Duty_api_Duty_66L0 l (l.length : Int) 0 = some (fOut (fun i => (i : Int)) (fidx badU l)) := by
    refine loop_find l Duty.z badU (fun i => (i : Int)) (by omega) (fun i hi => ?_) ?_
    · simp (disch := omega) only [eqS_def, slices_IndexFunc_api_Duty_api_Duty_66L0K, Valid2_eq, ckB_ix, ckB_inR, ckB_room, ckB_cut, ckB_mk, ckB_ne, bif_lt, bif_nlt, bif_le, bif_nle, bif_eq, bif_neq, bif_ne, bif_nne, bif_not, bif_true', bif_false', bnd_ok, lk_inl, lk_inr, Int.toNat_natCast, decide_true]
      rw [cast_succ]
      exact some_bif
    · simp (disch := omega) only [eqS_def, slices_IndexFunc_api_Duty_api_Duty_66L0K, ckB_ix, ckB_inR, ckB_room, ckB_cut, ckB_mk, ckB_ne, bif_lt, bif_nlt, bif_le, bif_nle, bif_eq, bif_neq, bif_ne, bif_nne, bif_not, bif_true', bif_false', bnd_ok, lk_inl, lk_inr, Int.toNat_natCast, decide_true]
  unfold slices_ContainsFunc_api_Duty_api_Duty_66 slices_IndexFunc_api_Duty_api_Duty_66
  rw [hL, bnd_ok, idx_out, bnd_ok, idxI_nn]
theorem Valid_eq {o : Org} (h : Few o) : roles_Valid o = some (validO o) := by
  have h1 := h.people
  have h2 := h.dele
  have h3 := h.duty
  unfold roles_Valid validO
  simp (disch := omega) only [eqS_def, people_eq o.1 h1, anyD_eq o h1 o.2.1 h2, anyU_eq o.2.2.1 h3, ckB_ix, ckB_inR, ckB_room, ckB_cut, ckB_mk, ckB_ne, bif_lt, bif_nlt, bif_le, bif_nle, bif_eq, bif_neq, bif_ne, bif_nne, bif_not, bif_true', bif_false', bnd_ok, lk_inl, lk_inr, Int.toNat_natCast, decide_true]
  cases peopleB o.1 <;> cases o.2.1.any (badD o) <;> cases o.2.2.1.any badU <;> rfl
theorem refValid_eq {o : Org} (h : Few o) : ref46_Valid o = some (validO o) := by
  have h1 := h.people
  have h2 := h.dele
  have h3 := h.duty
  have hL0 := refPeople_eq o h1
  have hL1 : ref46_ValidL1 o.1 o.2.1 o.2.2.1 0 = some (bif o.2.1.any (badD o) then .inr false else .inl ()) := by
    refine loop_findC o.2.1 Delegation.z (badD o) false (by omega) (fun i hi => ?_) ?_
    · have e : ((o.1, o.2.1, o.2.2.1, ()) : Org) = o := rfl
      unfold badD
      simp (disch := omega) only [eqS_def, ref46_ValidL1K, e, Person_eq o h1, refIsName_eq, refValidSpan_eq, ckB_ix, ckB_inR, ckB_room, ckB_cut, ckB_mk, ckB_ne, bif_lt, bif_nlt, bif_le, bif_nle, bif_eq, bif_neq, bif_ne, bif_nne, bif_not, bif_true', bif_false', bnd_ok, lk_inl, lk_inr, Int.toNat_natCast, decide_true]
      rw [cast_succ]
      cases decide (pix o (o.2.1.getD i Delegation.z).1 < 0) <;> cases decide (pix o (o.2.1.getD i Delegation.z).2.1 < 0) <;> cases eqS (o.2.1.getD i Delegation.z).1 (o.2.1.getD i Delegation.z).2.1 <;> cases nameB (o.2.1.getD i Delegation.z).2.2.1 <;> cases spanB (o.2.1.getD i Delegation.z).2.2.2.1 <;> rfl
    · simp (disch := omega) only [eqS_def, ref46_ValidL1K, ckB_ix, ckB_inR, ckB_room, ckB_cut, ckB_mk, ckB_ne, bif_lt, bif_nlt, bif_le, bif_nle, bif_eq, bif_neq, bif_ne, bif_nne, bif_not, bif_true', bif_false', bnd_ok, lk_inl, lk_inr, Int.toNat_natCast, decide_true]
  have hL2 : ref46_ValidL2 o.1 o.2.1 o.2.2.1 0 = some (bif o.2.2.1.any badU then .inr false else .inl ()) := by
    refine loop_findC o.2.2.1 Duty.z badU false (by omega) (fun i hi => ?_) ?_
    · unfold badU
      simp (disch := omega) only [eqS_def, ref46_ValidL2K, refIsName_eq, ckB_ix, ckB_inR, ckB_room, ckB_cut, ckB_mk, ckB_ne, bif_lt, bif_nlt, bif_le, bif_nle, bif_eq, bif_neq, bif_ne, bif_nne, bif_not, bif_true', bif_false', bnd_ok, lk_inl, lk_inr, Int.toNat_natCast, decide_true]
      rw [cast_succ]
      cases decide ((o.2.2.1.getD i Duty.z).1 = 1) <;> cases decide ((o.2.2.1.getD i Duty.z).1 = 2) <;> cases nameB (o.2.2.1.getD i Duty.z).2.1 <;> cases nameB (o.2.2.1.getD i Duty.z).2.2.1 <;> rfl
    · simp (disch := omega) only [eqS_def, ref46_ValidL2K, ckB_ix, ckB_inR, ckB_room, ckB_cut, ckB_mk, ckB_ne, bif_lt, bif_nlt, bif_le, bif_nle, bif_eq, bif_neq, bif_ne, bif_nne, bif_not, bif_true', bif_false', bnd_ok, lk_inl, lk_inr, Int.toNat_natCast, decide_true]
  unfold ref46_Valid validO peopleB
  by_cases hp : 40 < (o.1.length : Int)
  · have : ¬ o.1.length ≤ 40 := by omega
    simp (disch := omega) only [eqS_def, ckB_ix, ckB_inR, ckB_room, ckB_cut, ckB_mk, ckB_ne, bif_lt, bif_nlt, bif_le, bif_nle, bif_eq, bif_neq, bif_ne, bif_nne, bif_not, bif_true', bif_false', bnd_ok, lk_inl, lk_inr, Int.toNat_natCast, decide_true]
    rw [decide_eq_false this]; rfl
  · have hp' : o.1.length ≤ 40 := by omega
    rw [decide_eq_true hp']
    simp (disch := omega) only [eqS_def, hL0, hL1, hL2, ckB_ix, ckB_inR, ckB_room, ckB_cut, ckB_mk, ckB_ne, bif_lt, bif_nlt, bif_le, bif_nle, bif_eq, bif_neq, bif_ne, bif_nne, bif_not, bif_true', bif_false', bnd_ok, lk_inl, lk_inr, Int.toNat_natCast, decide_true]
    cases (List.range o.1.length).all (fun i => !badP o.1 i) <;> cases o.2.1.any (badD o) <;> cases o.2.2.1.any badU <;> rfl
def ownB (o : Org) (s role : ByteArray) : Bool := (o.1.getD (pix o s).toNat Person.z).2.1.any fun r => eqS role r
def byD (o : Org) (person role : ByteArray) (time : Int) (d : Delegation) : Bool := eqS d.2.1 person && eqS d.2.2.1 role && decide (d.2.2.2.1.1 ≤ time) && decide (time < d.2.2.2.1.2.1) && ownB o d.1 role
def hasB (o : Org) (person role : ByteArray) (time : Int) : Bool := ownB o person role || o.2.1.any (byD o person role time)
theorem pix_lt {o : Org} {s : ByteArray} (h : 0 ≤ pix o s) : (pix o s).toNat < o.1.length := (idxI_at Person.z h).1
theorem valid_from {o : Org} (h : validO o = true) {d : Delegation} (hd : d ∈ o.2.1) : 0 ≤ pix o d.1 := by
  unfold validO at h
  simp only [Bool.and_eq_true, Bool.not_eq_true'] at h
  have := List.any_eq_false.1 h.1.2 d hd
  unfold badD at this
  simp only [Bool.or_eq_true, decide_eq_true_eq, not_or] at this
  omega
theorem has1_eq {o : Org} (h : Few o) {s : ByteArray} (hs : 0 ≤ pix o s) (role : ByteArray) : roles_has_1 s o role = some (ownB o s role) := by
  have h1 := pix_lt hs
  have h2 := h.roles _ (getD_mem Person.z h1)
  unfold roles_has_1 ownB
  simp (disch := omega) only [eqS_def, find_eq o h.people, Contains_eq _ h2, ckB_ix, ckB_inR, ckB_room, ckB_cut, ckB_mk, ckB_ne, bif_lt, bif_nlt, bif_le, bif_nle, bif_eq, bif_neq, bif_ne, bif_nne, bif_not, bif_true', bif_false', bnd_ok, lk_inl, lk_inr, Int.toNat_natCast, decide_true]
theorem has_eq {o : Org} (h : Few o) (hv : validO o = true) {person : ByteArray} (hp : 0 ≤ pix o person) (role : ByteArray) (time : Int) : roles_has o person role time = some (hasB o person role time) := by
  have hd := h.dele
  have hL : slices_IndexFunc_api_Delegation_api_Delegation_87_86L0 o.2.1 person time (o.2.1.length : Int) (0, role, o.1, o.2.1, o.2.2.1) = some (match fidx (byD o person role time) o.2.1 with | some i => .inr ((i : Int), role, o.1, o.2.1, o.2.2.1) | none => .inl (role, o.1, o.2.1, o.2.2.1)) := by
    have hst : ∀ i : Nat, i < o.2.1.length → slices_IndexFunc_api_Delegation_api_Delegation_87_86L0K (R := LR (Int × ByteArray × (List Person) × (List Delegation) × (List Duty)) (ByteArray × (List Person) × (List Delegation) × (List Duty)) (Int × ByteArray × (List Person) × (List Delegation) × (List Duty))) o.2.1 person time (o.2.1.length : Int) (i : Int) role o.1 o.2.1 o.2.2.1 (fun a' => some (.next a')) (fun e => some (.done e)) (fun r => some (.ret r)) = some (bif byD o person role time (o.2.1.getD i Delegation.z) then .ret ((i : Int), role, o.1, o.2.1, o.2.2.1) else .next (((i + 1 : Nat) : Int), role, o.1, o.2.1, o.2.2.1)) := fun i hi => by
      have hf := has1_eq h (valid_from hv (getD_mem Delegation.z hi)) role
      have e : ((o.1, o.2.1, o.2.2.1, ()) : Org) = o := rfl
      unfold byD
      simp (disch := omega) only [eqS_def, slices_IndexFunc_api_Delegation_api_Delegation_87_86L0K, roles_has_2_86, e, hf, ckB_ix, ckB_inR, ckB_room, ckB_cut, ckB_mk, ckB_ne, bif_lt, bif_nlt, bif_le, bif_nle, bif_eq, bif_neq, bif_ne, bif_nne, bif_not, bif_true', bif_false', bnd_ok, lk_inl, lk_inr, Int.toNat_natCast, decide_true]
      rw [cast_succ]
      cases eqS (o.2.1.getD i Delegation.z).2.1 person <;> cases eqS (o.2.1.getD i Delegation.z).2.2.1 role <;> cases decide ((o.2.1.getD i Delegation.z).2.2.2.1.1 ≤ time) <;> cases decide (time < (o.2.1.getD i Delegation.z).2.2.2.1.2.1) <;> cases ownB o (o.2.1.getD i Delegation.z).1 role <;> rfl
    cases hf : fidx (byD o person role time) o.2.1 with
    | none =>
      refine loop_count (fun i : Nat => ((i : Int), role, o.1, o.2.1, o.2.2.1)) o.2.1.length (many_of (by omega)) (.inl _) (fun i hi => ?_) ?_
      · exact (hst i hi).trans (by rw [fidx_none hf _ (getD_mem _ hi)]; rfl)
      · simp (disch := omega) only [eqS_def, slices_IndexFunc_api_Delegation_api_Delegation_87_86L0K, ckB_ix, ckB_inR, ckB_room, ckB_cut, ckB_mk, ckB_ne, bif_lt, bif_nlt, bif_le, bif_nle, bif_eq, bif_neq, bif_ne, bif_nne, bif_not, bif_true', bif_false', bnd_ok, lk_inl, lk_inr, Int.toNat_natCast, decide_true]
    | some k =>
      obtain ⟨k1, k2, k3⟩ := fidx_some Delegation.z hf
      refine loop_first (fun i : Nat => ((i : Int), role, o.1, o.2.1, o.2.2.1)) k (many_of (by omega)) (.ret _) (.inr _) rfl (fun i hi => ?_) ?_
      · exact (hst i (by omega)).trans (by rw [k3 i hi]; rfl)
      · exact (hst k k1).trans (by rw [k2]; rfl)
  unfold roles_has hasB slices_ContainsFunc_api_Delegation_api_Delegation_87_86 slices_IndexFunc_api_Delegation_api_Delegation_87_86
  rw [has1_eq h hp, bnd_ok, hL, bnd_ok, ← fidx_any]
  cases ownB o person role with
  | true => rfl
  | false =>
    cases fidx (byD o person role time) o.2.1 with
    | none => rfl
    | some i =>
      have : decide ((0 : Int) ≤ (i : Int)) = true := decide_eq_true (by omega)
      simp [lk_inr, bnd_ok]
theorem refHas_eq {o : Org} (h : Few o) (hv : validO o = true) {person : ByteArray} (hp : 0 ≤ pix o person) (role : ByteArray) (time : Int) : ref46_has o person role time = some (hasB o person role time) := by
  have hd := h.dele
  have h1 := pix_lt hp
  have h2 := h.roles _ (getD_mem Person.z h1)
  have hL : ref46_hasL0 person role time o.1 o.2.1 o.2.2.1 0 = some (bif o.2.1.any (byD o person role time) then .inr true else .inl ()) := by
    refine loop_findC o.2.1 Delegation.z (byD o person role time) true (by omega) (fun i hi => ?_) ?_
    · have hf := valid_from hv (getD_mem Delegation.z hi)
      have hf1 := pix_lt hf
      have hf2 := h.roles _ (getD_mem Person.z hf1)
      have e : ((o.1, o.2.1, o.2.2.1, ()) : Org) = o := rfl
      unfold byD ownB
      simp (disch := omega) only [eqS_def, ref46_hasL0K, e, Person_eq o h.people, Index_eq _ hf2, idxI_nn, ckB_ix, ckB_inR, ckB_room, ckB_cut, ckB_mk, ckB_ne, bif_lt, bif_nlt, bif_le, bif_nle, bif_eq, bif_neq, bif_ne, bif_nne, bif_not, bif_true', bif_false', bnd_ok, lk_inl, lk_inr, Int.toNat_natCast, decide_true]
      rw [cast_succ]
      cases eqS (o.2.1.getD i Delegation.z).2.1 person <;> cases eqS (o.2.1.getD i Delegation.z).2.2.1 role <;> cases decide ((o.2.1.getD i Delegation.z).2.2.2.1.1 ≤ time) <;> cases decide (time < (o.2.1.getD i Delegation.z).2.2.2.1.2.1) <;> cases (o.1.getD (pix o (o.2.1.getD i Delegation.z).1).toNat Person.z).2.1.any (fun r => eqS role r) <;> rfl
    · simp (disch := omega) only [eqS_def, ref46_hasL0K, ckB_ix, ckB_inR, ckB_room, ckB_cut, ckB_mk, ckB_ne, bif_lt, bif_nlt, bif_le, bif_nle, bif_eq, bif_neq, bif_ne, bif_nne, bif_not, bif_true', bif_false', bnd_ok, lk_inl, lk_inr, Int.toNat_natCast, decide_true]
  unfold ref46_has hasB ownB
  simp (disch := omega) only [eqS_def, Person_eq o h.people, Index_eq _ h2, idxI_nn, hL, ckB_ix, ckB_inR, ckB_room, ckB_cut, ckB_mk, ckB_ne, bif_lt, bif_nlt, bif_le, bif_nle, bif_eq, bif_neq, bif_ne, bif_nne, bif_not, bif_true', bif_false', bnd_ok, lk_inl, lk_inr, Int.toNat_natCast, decide_true]
  cases (o.1.getD (pix o person).toNat Person.z).2.1.any (fun r => eqS role r) <;> cases o.2.1.any (byD o person role time) <;> rfl
def othB (d : Duty) (t : Task) (act : ByteArray) : Bool := eqS act d.2.1 && eqS t.1 d.2.2.1 || eqS act d.2.2.1 && eqS t.1 d.2.1
def brkB (d : Duty) (act person : ByteArray) (t : Task) : Bool := othB d t act && (decide (d.1 = 1) == eqS t.2.1 person)
def broI (o : Org) (person act : ByteArray) (hs : List Task) : Int := idxI (fun d : Duty => hs.any (brkB d act person)) o.2.2.1
theorem brk_eq (t : Task) (act : ByteArray) (d : Duty) (person : ByteArray) : roles_broken_1_1 t act d person = some (brkB d act person t) := by
  unfold roles_broken_1_1 brkB othB
  simp (disch := omega) only [eqS_def, roles_broken_1_1T0, roles_broken_1_1T0K, ckB_ix, ckB_inR, ckB_room, ckB_cut, ckB_mk, ckB_ne, bif_lt, bif_nlt, bif_le, bif_nle, bif_eq, bif_neq, bif_ne, bif_nne, bif_not, bif_true', bif_false', bnd_ok, lk_inl, lk_inr, Int.toNat_natCast, decide_true]
  cases decide (d.1 = 1) <;> cases eqS act d.2.1 <;> cases eqS t.1 d.2.2.1 <;> cases eqS act d.2.2.1 <;> cases eqS t.1 d.2.1 <;> cases eqS t.2.1 person <;> rfl
theorem broken_eq {o : Org} (h : Few o) (person act : ByteArray) (hs : List Task) (hl : hs.length ≤ 2000) : roles_broken o person act hs = some (broI o person act hs) := by
  have hd := h.duty
  have hB : ∀ d : Duty, roles_broken_1 d hs act person = some (hs.any (brkB d act person)) := fun d => by
    have hL : slices_IndexFunc_api_Task_api_Task_90L0 hs act d person (hs.length : Int) 0 = some (fOut (fun i => (i : Int)) (fidx (brkB d act person) hs)) := by
      refine loop_find hs Task.z (brkB d act person) (fun i => (i : Int)) (by omega) (fun i hi => ?_) ?_
      · simp (disch := omega) only [eqS_def, slices_IndexFunc_api_Task_api_Task_90L0K, brk_eq, ckB_ix, ckB_inR, ckB_room, ckB_cut, ckB_mk, ckB_ne, bif_lt, bif_nlt, bif_le, bif_nle, bif_eq, bif_neq, bif_ne, bif_nne, bif_not, bif_true', bif_false', bnd_ok, lk_inl, lk_inr, Int.toNat_natCast, decide_true]
        rw [cast_succ]
        exact some_bif
      · simp (disch := omega) only [eqS_def, slices_IndexFunc_api_Task_api_Task_90L0K, ckB_ix, ckB_inR, ckB_room, ckB_cut, ckB_mk, ckB_ne, bif_lt, bif_nlt, bif_le, bif_nle, bif_eq, bif_neq, bif_ne, bif_nne, bif_not, bif_true', bif_false', bnd_ok, lk_inl, lk_inr, Int.toNat_natCast, decide_true]
    unfold roles_broken_1 slices_ContainsFunc_api_Task_api_Task_90 slices_IndexFunc_api_Task_api_Task_90
    rw [hL, bnd_ok, idx_out, bnd_ok, bnd_ok, idxI_nn]
    rfl
  have hL : slices_IndexFunc_api_Duty_api_Duty_89L0 o.2.2.1 hs act person (o.2.2.1.length : Int) 0 = some (fOut (fun i => (i : Int)) (fidx (fun d : Duty => hs.any (brkB d act person)) o.2.2.1)) := by
    refine loop_find o.2.2.1 Duty.z (fun d : Duty => hs.any (brkB d act person)) (fun i => (i : Int)) (by omega) (fun i hi => ?_) ?_
    · simp (disch := omega) only [eqS_def, slices_IndexFunc_api_Duty_api_Duty_89L0K, hB, ckB_ix, ckB_inR, ckB_room, ckB_cut, ckB_mk, ckB_ne, bif_lt, bif_nlt, bif_le, bif_nle, bif_eq, bif_neq, bif_ne, bif_nne, bif_not, bif_true', bif_false', bnd_ok, lk_inl, lk_inr, Int.toNat_natCast, decide_true]
      rw [cast_succ]
      exact some_bif
    · simp (disch := omega) only [eqS_def, slices_IndexFunc_api_Duty_api_Duty_89L0K, ckB_ix, ckB_inR, ckB_room, ckB_cut, ckB_mk, ckB_ne, bif_lt, bif_nlt, bif_le, bif_nle, bif_eq, bif_neq, bif_ne, bif_nne, bif_not, bif_true', bif_false', bnd_ok, lk_inl, lk_inr, Int.toNat_natCast, decide_true]
  unfold roles_broken slices_IndexFunc_api_Duty_api_Duty_89
  rw [hL, bnd_ok, idx_out, bnd_ok]
  rfl
theorem refBroken_eq {o : Org} (h : Few o) (person act : ByteArray) (hs : List Task) (hl : hs.length ≤ 2000) : ref46_broken o person act hs = some (broI o person act hs) := by
  have hd := h.duty
  have hL1 : ∀ (i : Int) (d : Duty), ref46_brokenL1 person act hs i o.1 o.2.1 o.2.2.1 d.1 d.2.1 d.2.2.1 0 = some (bif hs.any (brkB d act person) then .inr i else .inl ()) := fun i d => by
    refine loop_findC hs Task.z (brkB d act person) i (by omega) (fun k hk => ?_) ?_
    · unfold brkB othB
      simp (disch := omega) only [eqS_def, ref46_brokenL1K, ref46_brokenT0, ref46_brokenT0K, ckB_ix, ckB_inR, ckB_room, ckB_cut, ckB_mk, ckB_ne, bif_lt, bif_nlt, bif_le, bif_nle, bif_eq, bif_neq, bif_ne, bif_nne, bif_not, bif_true', bif_false', bnd_ok, lk_inl, lk_inr, Int.toNat_natCast, decide_true]
      rw [cast_succ]
      cases (decide (d.1 = 1) == eqS (hs.getD k Task.z).2.1 person) <;> cases eqS act d.2.1 <;> cases eqS (hs.getD k Task.z).1 d.2.2.1 <;> cases eqS act d.2.2.1 <;> cases eqS (hs.getD k Task.z).1 d.2.1 <;> rfl
    · simp (disch := omega) only [eqS_def, ref46_brokenL1K, ckB_ix, ckB_inR, ckB_room, ckB_cut, ckB_mk, ckB_ne, bif_lt, bif_nlt, bif_le, bif_nle, bif_eq, bif_neq, bif_ne, bif_nne, bif_not, bif_true', bif_false', bnd_ok, lk_inl, lk_inr, Int.toNat_natCast, decide_true]
  have hL2 : ref46_brokenL2 person act hs o.1 o.2.1 o.2.2.1 0 = some (fOut (fun i => (i : Int)) (fidx (fun d : Duty => hs.any (brkB d act person)) o.2.2.1)) := by
    refine loop_find o.2.2.1 Duty.z (fun d : Duty => hs.any (brkB d act person)) (fun i => (i : Int)) (by omega) (fun i hi => ?_) ?_
    · simp (disch := omega) only [eqS_def, ref46_brokenL2K, hL1, ckB_ix, ckB_inR, ckB_room, ckB_cut, ckB_mk, ckB_ne, bif_lt, bif_nlt, bif_le, bif_nle, bif_eq, bif_neq, bif_ne, bif_nne, bif_not, bif_true', bif_false', bnd_ok, lk_inl, lk_inr, Int.toNat_natCast, decide_true]
      rw [cast_succ]
      cases hs.any (brkB (o.2.2.1.getD i Duty.z) act person) <;> rfl
    · simp (disch := omega) only [eqS_def, ref46_brokenL2K, ckB_ix, ckB_inR, ckB_room, ckB_cut, ckB_mk, ckB_ne, bif_lt, bif_nlt, bif_le, bif_nle, bif_eq, bif_neq, bif_ne, bif_nne, bif_not, bif_true', bif_false', bnd_ok, lk_inl, lk_inr, Int.toNat_natCast, decide_true]
  unfold ref46_broken
  rw [hL2, bnd_ok, idx_out]
  rfl
def instB (t : Int) : Bool := decide (0 ≤ t) && decide (t ≤ 1099511627776)
theorem instant_eq (t : Int) : roles_instant t = some (instB t) := by
  unfold roles_instant instB
  cases decide ((0 : Int) ≤ t) <;> rfl
theorem refInstant_eq (t : Int) : ref46_instant t = some (instB t) := instant_eq t
theorem names_eq (l : List ByteArray) (hl : l.length ≤ 1000) : roles_names l = some (l.all nameB) := by
  have hL : slices_IndexFunc_string_string_85L0 l (l.length : Int) 0 = some (fOut (fun i => (i : Int)) (fidx (fun s => !nameB s) l)) := by
    refine loop_find l ⟨#[]⟩ (fun s => !nameB s) (fun i => (i : Int)) (by omega) (fun i hi => ?_) ?_
    · simp (disch := omega) only [eqS_def, slices_IndexFunc_string_string_85L0K, roles_names_1, IsName_eq, ckB_ix, ckB_inR, ckB_room, ckB_cut, ckB_mk, ckB_ne, bif_lt, bif_nlt, bif_le, bif_nle, bif_eq, bif_neq, bif_ne, bif_nne, bif_not, bif_true', bif_false', bnd_ok, lk_inl, lk_inr, Int.toNat_natCast, decide_true]
      rw [cast_succ]
      cases nameB (l.getD i ⟨#[]⟩) <;> rfl
    · simp (disch := omega) only [eqS_def, slices_IndexFunc_string_string_85L0K, ckB_ix, ckB_inR, ckB_room, ckB_cut, ckB_mk, ckB_ne, bif_lt, bif_nlt, bif_le, bif_nle, bif_eq, bif_neq, bif_ne, bif_nne, bif_not, bif_true', bif_false', bnd_ok, lk_inl, lk_inr, Int.toNat_natCast, decide_true]
  unfold roles_names slices_ContainsFunc_string_string_85 slices_IndexFunc_string_string_85
  have : l.all nameB = !l.any (fun s => !nameB s) := by rw [List.not_any_eq_all_not]; simp
  rw [hL, bnd_ok, idx_out, bnd_ok, bnd_ok, idxI_nn, this]
def badT (o : Org) (t : Task) : Bool := !nameB t.1 || decide (pix o t.2.1 < 0)
def pastI (o : Org) (hs : List Task) : Int := if 1000 < hs.length then 5 else if hs.any (badT o) = true then 8 else 0
theorem past_eq {o : Org} (h : Few o) (hs : List Task) (hl : hs.length ≤ 2000) : roles_past o hs = some (pastI o hs) := by
  have hT : ∀ t : Task, roles_past_1 t o = some (badT o t) := fun t => by
    unfold roles_past_1 badT
    simp (disch := omega) only [eqS_def, IsName_eq, find_eq o h.people, ckB_ix, ckB_inR, ckB_room, ckB_cut, ckB_mk, ckB_ne, bif_lt, bif_nlt, bif_le, bif_nle, bif_eq, bif_neq, bif_ne, bif_nne, bif_not, bif_true', bif_false', bnd_ok, lk_inl, lk_inr, Int.toNat_natCast, decide_true]
    cases nameB t.1 <;> rfl
  have hL : slices_IndexFunc_api_Task_api_Task_88L0 hs o (hs.length : Int) 0 = some (fOut (fun i => (i : Int)) (fidx (badT o) hs)) := by
    refine loop_find hs Task.z (badT o) (fun i => (i : Int)) (by omega) (fun i hi => ?_) ?_
    · simp (disch := omega) only [eqS_def, slices_IndexFunc_api_Task_api_Task_88L0K, hT, ckB_ix, ckB_inR, ckB_room, ckB_cut, ckB_mk, ckB_ne, bif_lt, bif_nlt, bif_le, bif_nle, bif_eq, bif_neq, bif_ne, bif_nne, bif_not, bif_true', bif_false', bnd_ok, lk_inl, lk_inr, Int.toNat_natCast, decide_true]
      rw [cast_succ]
      exact some_bif
    · simp (disch := omega) only [eqS_def, slices_IndexFunc_api_Task_api_Task_88L0K, ckB_ix, ckB_inR, ckB_room, ckB_cut, ckB_mk, ckB_ne, bif_lt, bif_nlt, bif_le, bif_nle, bif_eq, bif_neq, bif_ne, bif_nne, bif_not, bif_true', bif_false', bnd_ok, lk_inl, lk_inr, Int.toNat_natCast, decide_true]
  unfold roles_past pastI slices_ContainsFunc_api_Task_api_Task_88 slices_IndexFunc_api_Task_api_Task_88
  by_cases hb : 1000 < (hs.length : Int)
  · have : 1000 < hs.length := by omega
    simp (disch := omega) only [eqS_def, ckB_ix, ckB_inR, ckB_room, ckB_cut, ckB_mk, ckB_ne, bif_lt, bif_nlt, bif_le, bif_nle, bif_eq, bif_neq, bif_ne, bif_nne, bif_not, bif_true', bif_false', bnd_ok, lk_inl, lk_inr, Int.toNat_natCast, decide_true]
    rw [if_pos this]
  · have : ¬ 1000 < hs.length := by omega
    rw [if_neg this, hL, bnd_ok, idx_out, bnd_ok, bnd_ok, idxI_nn]
    simp (disch := omega) only [eqS_def, ckB_ix, ckB_inR, ckB_room, ckB_cut, ckB_mk, ckB_ne, bif_lt, bif_nlt, bif_le, bif_nle, bif_eq, bif_neq, bif_ne, bif_nne, bif_not, bif_true', bif_false', bnd_ok, lk_inl, lk_inr, Int.toNat_natCast, decide_true]
    cases hs.any (badT o) <;> rfl
theorem refPast_eq {o : Org} (h : Few o) (hs : List Task) (hl : hs.length ≤ 2000) : ref46_past o hs = some (pastI o hs) := by
  have hL : ref46_pastL0 hs o.1 o.2.1 o.2.2.1 0 = some (bif hs.any (badT o) then .inr 8 else .inl ()) := by
    refine loop_findC hs Task.z (badT o) 8 (by omega) (fun i hi => ?_) ?_
    · have e : ((o.1, o.2.1, o.2.2.1, ()) : Org) = o := rfl
      unfold badT
      simp (disch := omega) only [eqS_def, ref46_pastL0K, refIsName_eq, e, Person_eq o h.people, ckB_ix, ckB_inR, ckB_room, ckB_cut, ckB_mk, ckB_ne, bif_lt, bif_nlt, bif_le, bif_nle, bif_eq, bif_neq, bif_ne, bif_nne, bif_not, bif_true', bif_false', bnd_ok, lk_inl, lk_inr, Int.toNat_natCast, decide_true]
      rw [cast_succ]
      cases nameB (hs.getD i Task.z).1 <;> cases decide (pix o (hs.getD i Task.z).2.1 < 0) <;> rfl
    · simp (disch := omega) only [eqS_def, ref46_pastL0K, ckB_ix, ckB_inR, ckB_room, ckB_cut, ckB_mk, ckB_ne, bif_lt, bif_nlt, bif_le, bif_nle, bif_eq, bif_neq, bif_ne, bif_nne, bif_not, bif_true', bif_false', bnd_ok, lk_inl, lk_inr, Int.toNat_natCast, decide_true]
  unfold ref46_past pastI
  by_cases hb : 1000 < (hs.length : Int)
  · have : 1000 < hs.length := by omega
    simp (disch := omega) only [eqS_def, ckB_ix, ckB_inR, ckB_room, ckB_cut, ckB_mk, ckB_ne, bif_lt, bif_nlt, bif_le, bif_nle, bif_eq, bif_neq, bif_ne, bif_nne, bif_not, bif_true', bif_false', bnd_ok, lk_inl, lk_inr, Int.toNat_natCast, decide_true]
    rw [if_pos this]
  · have : ¬ 1000 < hs.length := by omega
    rw [if_neg this]
    simp (disch := omega) only [eqS_def, hL, ckB_ix, ckB_inR, ckB_room, ckB_cut, ckB_mk, ckB_ne, bif_lt, bif_nlt, bif_le, bif_nle, bif_eq, bif_neq, bif_ne, bif_nne, bif_not, bif_true', bif_false', bnd_ok, lk_inl, lk_inr, Int.toNat_natCast, decide_true]
    cases hs.any (badT o) <;> rfl
def mayB (o : Org) (person act role : ByteArray) (time : Int) (hs : List Task) : Bool := hasB o person role time && decide (broI o person act hs < 0)
theorem may_eq {o : Org} (h : Few o) (hv : validO o = true) {person : ByteArray} (hp : 0 ≤ pix o person) (act role : ByteArray) (time : Int) (hs : List Task) (hl : hs.length ≤ 2000) : roles_may o person act role time hs = some (mayB o person act role time hs) := by
  unfold roles_may mayB
  rw [has_eq h hv hp, bnd_ok, broken_eq h person act hs hl]
  cases hasB o person role time <;> rfl
theorem refMay_eq {o : Org} (h : Few o) (hv : validO o = true) {person : ByteArray} (hp : 0 ≤ pix o person) (act role : ByteArray) (time : Int) (hs : List Task) (hl : hs.length ≤ 2000) : ref46_may o person act role time hs = some (mayB o person act role time hs) := by
  unfold ref46_may mayB
  rw [refHas_eq h hv hp, bnd_ok, refBroken_eq h person act hs hl]
  cases hasB o person role time <;> rfl
end Go.Proofs.Ytmlfmeffjodhmaa
