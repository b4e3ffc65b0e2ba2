/-
  Roles: names, alphabets, people, organisations: the program and the reference reckon alike.
-/
import Derived.Test.YtmlfmeffjodhmaaZ8Md
import Derived.Test.YtmlfmeffjodhmaaZ8KE
import Derived.KernelRfl
set_option linter.all false
namespace Go.Proofs.Ytmlfmeffjodhmaa
open Go.K Go.M
theorem awake_true : law46_awake = some true := by kernel_rfl
def eqS (a b : ByteArray) : Bool := ByteArray.toList a == ByteArray.toList b
theorem eqS_def (a b : ByteArray) : (ByteArray.toList a == ByteArray.toList b) = eqS a b := rfl
theorem eqS_comm (a b : ByteArray) : eqS a b = eqS b a := BEq.comm
def letB (c : Int) : Bool := decide (65 ≤ c) && decide (c ≤ 90) || decide (97 ≤ c) && decide (c ≤ 122)
def partB (c : Int) : Bool := letB c || decide (48 ≤ c) && decide (c ≤ 57) || decide (c = 95) || decide (c = 45) || decide (c = 46)
abbrev byt (s : ByteArray) (i : Nat) : Int := ((ByteArray.data s).getD i 0).toNat
theorem letter_eq (c : Int) : name_letter c = some (letB c) := by
  unfold name_letter letB
  cases decide ((65 : Int) ≤ c) <;> cases decide (c ≤ (90 : Int)) <;> cases decide ((97 : Int) ≤ c) <;> cases decide (c ≤ (122 : Int)) <;> rfl
theorem refLetter_eq (c : Int) : ref02_letter c = some (letB c) := by
  unfold ref02_letter letB
  cases decide ((65 : Int) ≤ c) <;> cases decide (c ≤ (90 : Int)) <;> cases decide ((97 : Int) ≤ c) <;> cases decide (c ≤ (122 : Int)) <;> rfl
theorem part_eq (c : Int) : name_part c = some (partB c) := by
  unfold name_part partB
  rw [letter_eq, bnd_ok]
  cases letB c <;> cases decide ((48 : Int) ≤ c) <;> cases decide (c ≤ (57 : Int)) <;> cases decide (c = (95 : Int)) <;> cases decide (c = (45 : Int)) <;> cases decide (c = (46 : Int)) <;> rfl
def nameB (s : ByteArray) : Bool := decide (1 ≤ s.size) && decide (s.size ≤ 40) && letB (byt s 0) && (List.range s.size).all fun i => partB (byt s i)
theorem IsName_eq (s : ByteArray) : name_IsName s = some (nameB s) := by
  unfold name_IsName nameB
  by_cases h1 : (s.size : Int) < 1
  · have : ¬ 1 ≤ s.size := by omega
    simp (disch := omega) only [ckB_ix, ckB_inR, ckB_room, ckB_cut, ckB_mk, ckB_ne, bif_lt, bif_nlt, bif_le, bif_nle, bif_eq, bif_neq, bif_ne, bif_nne, bif_not, bif_true', bif_false', bnd_ok, lk_inl, lk_inr, Int.toNat_natCast, decide_true]
    rw [decide_eq_false this]; rfl
  · have h1' : 1 ≤ s.size := by omega
    rw [decide_eq_true h1']
    by_cases h2 : 40 < (s.size : Int)
    · have : ¬ s.size ≤ 40 := by omega
      simp (disch := omega) only [ckB_ix, ckB_inR, ckB_room, ckB_cut, ckB_mk, ckB_ne, bif_lt, bif_nlt, bif_le, bif_nle, bif_eq, bif_neq, bif_ne, bif_nne, bif_not, bif_true', bif_false', bnd_ok, lk_inl, lk_inr, Int.toNat_natCast, decide_true]
      rw [decide_eq_false this]; rfl
    · have h2' : s.size ≤ 40 := by omega
      rw [decide_eq_true h2']
      have hL : name_IsNameL0 s (s.size : Int) 0 = some (bif (List.range s.size).all (fun i => partB (byt s i)) then .inl () else .inr false) := by
        refine loop_all (fun i : Nat => (i : Int)) s.size (many_of (by omega)) _ () false ?_ ?_ ?_
        · intro i hi hp
          simp (disch := omega) only [name_IsNameL0K, part_eq, hp, Bool.not_true, ckB_ix, ckB_inR, ckB_room, ckB_cut, ckB_mk, ckB_ne, bif_lt, bif_nlt, bif_le, bif_nle, bif_eq, bif_neq, bif_ne, bif_nne, bif_not, bif_true', bif_false', bnd_ok, lk_inl, lk_inr, Int.toNat_natCast, decide_true]
          rw [cast_succ]
        · intro i hi hp
          simp (disch := omega) only [name_IsNameL0K, part_eq, hp, Bool.not_false, ckB_ix, ckB_inR, ckB_room, ckB_cut, ckB_mk, ckB_ne, bif_lt, bif_nlt, bif_le, bif_nle, bif_eq, bif_neq, bif_ne, bif_nne, bif_not, bif_true', bif_false', bnd_ok, lk_inl, lk_inr, Int.toNat_natCast, decide_true]
        · simp (disch := omega) only [name_IsNameL0K, ckB_ix, ckB_inR, ckB_room, ckB_cut, ckB_mk, ckB_ne, bif_lt, bif_nlt, bif_le, bif_nle, bif_eq, bif_neq, bif_ne, bif_nne, bif_not, bif_true', bif_false', bnd_ok, lk_inl, lk_inr, Int.toNat_natCast, decide_true]
      simp (disch := omega) only [letter_eq, hL, ckB_ix, ckB_inR, ckB_room, ckB_cut, ckB_mk, ckB_ne, bif_lt, bif_nlt, bif_le, bif_nle, bif_eq, bif_neq, bif_ne, bif_nne, bif_not, bif_true', bif_false', bnd_ok, lk_inl, lk_inr, Int.toNat_natCast, decide_true]
      cases letB (byt s 0) with
      | false => rfl
      | true => cases (List.range s.size).all (fun i => partB (byt s i)) <;> rfl
theorem all_range_succ (n : Nat) (p : Nat → Bool) : (List.range (n + 1)).all p = (p 0 && (List.range n).all fun i => p (i + 1)) := by
  rw [List.range_succ_eq_map, List.all_cons, List.all_map]
  rfl
theorem refIsName_eq (s : ByteArray) : ref02_IsName s = some (nameB s) := by
  unfold ref02_IsName nameB
  by_cases h1 : (s.size : Int) < 1
  · have : ¬ 1 ≤ s.size := by omega
    simp (disch := omega) only [ckB_ix, ckB_inR, ckB_room, ckB_cut, ckB_mk, ckB_ne, bif_lt, bif_nlt, bif_le, bif_nle, bif_eq, bif_neq, bif_ne, bif_nne, bif_not, bif_true', bif_false', bnd_ok, lk_inl, lk_inr, Int.toNat_natCast, decide_true]
    rw [decide_eq_false this]; rfl
  · have h1' : 1 ≤ s.size := by omega
    rw [decide_eq_true h1']
    by_cases h2 : 40 < (s.size : Int)
    · have : ¬ s.size ≤ 40 := by omega
      simp (disch := omega) only [ckB_ix, ckB_inR, ckB_room, ckB_cut, ckB_mk, ckB_ne, bif_lt, bif_nlt, bif_le, bif_nle, bif_eq, bif_neq, bif_ne, bif_nne, bif_not, bif_true', bif_false', bnd_ok, lk_inl, lk_inr, Int.toNat_natCast, decide_true]
      rw [decide_eq_false this]; rfl
    · have h2' : s.size ≤ 40 := by omega
      rw [decide_eq_true h2']
      have hL : ref02_IsNameL0 s 1 = some (bif (List.range (s.size - 1)).all (fun i => partB (byt s (i + 1))) then .inl () else .inr false) := by
        refine loop_all (fun i : Nat => ((i + 1 : Nat) : Int)) (s.size - 1) (many_of (by omega)) _ () false ?_ ?_ ?_
        · intro i hi hp
          unfold partB at hp
          simp (disch := omega) only [ref02_IsNameL0K, refLetter_eq, ckB_ix, ckB_inR, ckB_room, ckB_cut, ckB_mk, ckB_ne, bif_lt, bif_nlt, bif_le, bif_nle, bif_eq, bif_neq, bif_ne, bif_nne, bif_not, bif_true', bif_false', bnd_ok, lk_inl, lk_inr, Int.toNat_natCast, decide_true]
          rw [cast_succ]
          revert hp
          cases letB (byt s (i + 1)) <;> cases decide ((48 : Int) ≤ byt s (i + 1)) <;> cases decide (byt s (i + 1) ≤ (57 : Int)) <;> cases decide (byt s (i + 1) = (95 : Int)) <;> cases decide (byt s (i + 1) = (45 : Int)) <;> cases decide (byt s (i + 1) = (46 : Int)) <;> intro hp <;> first | rfl | cases hp
        · intro i hi hp
          unfold partB at hp
          simp (disch := omega) only [ref02_IsNameL0K, refLetter_eq, ckB_ix, ckB_inR, ckB_room, ckB_cut, ckB_mk, ckB_ne, bif_lt, bif_nlt, bif_le, bif_nle, bif_eq, bif_neq, bif_ne, bif_nne, bif_not, bif_true', bif_false', bnd_ok, lk_inl, lk_inr, Int.toNat_natCast, decide_true]
          revert hp
          cases letB (byt s (i + 1)) <;> cases decide ((48 : Int) ≤ byt s (i + 1)) <;> cases decide (byt s (i + 1) ≤ (57 : Int)) <;> cases decide (byt s (i + 1) = (95 : Int)) <;> cases decide (byt s (i + 1) = (45 : Int)) <;> cases decide (byt s (i + 1) = (46 : Int)) <;> intro hp <;> first | rfl | cases hp
        · have e : s.size - 1 + 1 = s.size := by omega
          rw [e]
          simp (disch := omega) only [ref02_IsNameL0K, ckB_ix, ckB_inR, ckB_room, ckB_cut, ckB_mk, ckB_ne, bif_lt, bif_nlt, bif_le, bif_nle, bif_eq, bif_neq, bif_ne, bif_nne, bif_not, bif_true', bif_false', bnd_ok, lk_inl, lk_inr, Int.toNat_natCast, decide_true]
      simp (disch := omega) only [refLetter_eq, hL, ckB_ix, ckB_inR, ckB_room, ckB_cut, ckB_mk, ckB_ne, bif_lt, bif_nlt, bif_le, bif_nle, bif_eq, bif_neq, bif_ne, bif_nne, bif_not, bif_true', bif_false', bnd_ok, lk_inl, lk_inr, Int.toNat_natCast, decide_true]
      have e : s.size = s.size - 1 + 1 := by omega
      have e2 : (List.range s.size).all (fun i => partB (byt s i)) = (partB (byt s 0) && (List.range (s.size - 1)).all fun i => partB (byt s (i + 1))) := by
        conv => lhs; rw [e]
        exact all_range_succ _ _
      rw [e2]
      have e3 : letB (byt s 0) = true → partB (byt s 0) = true := fun h => by unfold partB; rw [h]; rfl
      cases h : letB (byt s 0) with
      | false => rfl
      | true =>
        rw [e3 h]
        cases (List.range (s.size - 1)).all (fun i => partB (byt s (i + 1))) <;> rfl
def lessB (a b : ByteArray) : Bool := Op.bytesLess (ByteArray.toList a) (ByteArray.toList b)
def badA (l : List ByteArray) (i : Nat) : Bool := !nameB (l.getD i ⟨#[]⟩) || decide (0 < i) && !lessB (l.getD (i - 1) ⟨#[]⟩) (l.getD i ⟨#[]⟩)
def alphaB (l : List ByteArray) : Bool := decide (l.length ≤ 40) && (List.range l.length).all fun i => !badA l i
theorem Alphabet_eq (l : List ByteArray) : name_Alphabet l = some (alphaB l) := by
  unfold name_Alphabet alphaB
  by_cases h1 : 40 < (l.length : Int)
  · have : ¬ l.length ≤ 40 := by omega
    simp (disch := omega) only [ckB_ix, ckB_inR, ckB_room, ckB_cut, ckB_mk, ckB_ne, bif_lt, bif_nlt, bif_le, bif_nle, bif_eq, bif_neq, bif_ne, bif_nne, bif_not, bif_true', bif_false', bnd_ok, lk_inl, lk_inr, Int.toNat_natCast, decide_true]
    rw [decide_eq_false this]; rfl
  · have h1' : l.length ≤ 40 := by omega
    rw [decide_eq_true h1']
    have hL : name_AlphabetL0 l l (l.length : Int) 0 = some (bif (List.range l.length).all (fun i => !badA l i) then .inl () else .inr false) := by
      have hst : ∀ i : Nat, i < l.length → name_AlphabetL0K (R := LR Int Unit Bool) l l (l.length : Int) (i : Int) (fun a' => some (.next a')) (fun e => some (.done e)) (fun r => some (.ret r)) = some (bif badA l i then .ret false else .next ((i + 1 : Nat) : Int)) := fun i hi => by
        unfold badA lessB
        by_cases h0 : 0 < i
        · have e : (i : Int) - 1 = ((i - 1 : Nat) : Int) := by omega
          have h0' : (0 : Int) < (i : Int) := by omega
          rw [decide_eq_true h0]
          simp (disch := omega) only [name_AlphabetL0K, IsName_eq, e, ckB_ix, ckB_inR, ckB_room, ckB_cut, ckB_mk, ckB_ne, bif_lt, bif_nlt, bif_le, bif_nle, bif_eq, bif_neq, bif_ne, bif_nne, bif_not, bif_true', bif_false', bnd_ok, lk_inl, lk_inr, Int.toNat_natCast, decide_true]
          rw [cast_succ]
          cases nameB (l.getD i ⟨#[]⟩) <;> cases Op.bytesLess (l.getD (i - 1) ⟨#[]⟩).toList (l.getD i ⟨#[]⟩).toList <;> rfl
        · have h0' : ¬ (0 : Int) < (i : Int) := by omega
          rw [decide_eq_false h0]
          simp (disch := omega) only [name_AlphabetL0K, IsName_eq, ckB_ix, ckB_inR, ckB_room, ckB_cut, ckB_mk, ckB_ne, bif_lt, bif_nlt, bif_le, bif_nle, bif_eq, bif_neq, bif_ne, bif_nne, bif_not, bif_true', bif_false', bnd_ok, lk_inl, lk_inr, Int.toNat_natCast, decide_true]
          rw [cast_succ]
          cases nameB (l.getD i ⟨#[]⟩) <;> rfl
      refine loop_all (fun i : Nat => (i : Int)) l.length (many_of (by omega)) _ () false (fun i hi hp => ?_) (fun i hi hp => ?_) ?_
      · have hb : badA l i = false := by simpa using hp
        exact (hst i hi).trans (by rw [hb]; rfl)
      · have hb : badA l i = true := by simpa using hp
        exact (hst i hi).trans (by rw [hb]; rfl)
      · simp (disch := omega) only [name_AlphabetL0K, ckB_ix, ckB_inR, ckB_room, ckB_cut, ckB_mk, ckB_ne, bif_lt, bif_nlt, bif_le, bif_nle, bif_eq, bif_neq, bif_ne, bif_nne, bif_not, bif_true', bif_false', bnd_ok, lk_inl, lk_inr, Int.toNat_natCast, decide_true]
    simp (disch := omega) only [hL, ckB_ix, ckB_inR, ckB_room, ckB_cut, ckB_mk, ckB_ne, bif_lt, bif_nlt, bif_le, bif_nle, bif_eq, bif_neq, bif_ne, bif_nne, bif_not, bif_true', bif_false', bnd_ok, lk_inl, lk_inr, Int.toNat_natCast, decide_true]
    cases (List.range l.length).all (fun i => !badA l i) <;> rfl
theorem Names_eq (l : List ByteArray) (hl : l.length ≤ 9223372036854775806) : ref02_Names l = some (l.all nameB) := by
  have hL : ref02_NamesL0 l 0 = some (bif l.any (fun s => !nameB s) then .inr false else .inl ()) := by
    refine loop_findC l ⟨#[]⟩ (fun s => !nameB s) false hl (fun i hi => ?_) ?_
    · simp (disch := omega) only [ref02_NamesL0K, refIsName_eq, ckB_ix, ckB_inR, ckB_room, ckB_cut, ckB_mk, ckB_ne, bif_lt, bif_nlt, bif_le, bif_nle, bif_eq, bif_neq, bif_ne, bif_nne, bif_not, bif_true', bif_false', bnd_ok, lk_inl, lk_inr, Int.toNat_natCast, decide_true]
      rw [cast_succ]
      cases nameB (l.getD i ⟨#[]⟩) <;> rfl
    · simp (disch := omega) only [ref02_NamesL0K, ckB_ix, ckB_inR, ckB_room, ckB_cut, ckB_mk, ckB_ne, bif_lt, bif_nlt, bif_le, bif_nle, bif_eq, bif_neq, bif_ne, bif_nne, bif_not, bif_true', bif_false', bnd_ok, lk_inl, lk_inr, Int.toNat_natCast, decide_true]
  unfold ref02_Names
  rw [hL, bnd_ok]
  have : l.all nameB = !l.any (fun s => !nameB s) := by rw [List.not_any_eq_all_not]; simp
  rw [this]
  cases l.any (fun s => !nameB s) <;> rfl
theorem refAlphabet_eq (l : List ByteArray) : ref02_Alphabet l = some (alphaB l) := by
  unfold ref02_Alphabet alphaB
  by_cases h1 : (l.length : Int) ≤ 40
  · have h1' : l.length ≤ 40 := by omega
    rw [decide_eq_true h1']
    have hA : ref02_Ascends l = some ((List.range (l.length - 1)).all fun i => lessB (l.getD i ⟨#[]⟩) (l.getD (i + 1) ⟨#[]⟩)) := by
      have hL : ref02_AscendsL0 l 1 = some (bif (List.range (l.length - 1)).all (fun i => lessB (l.getD i ⟨#[]⟩) (l.getD (i + 1) ⟨#[]⟩)) then .inl () else .inr false) := by
        have hst : ∀ i : Nat, i < l.length - 1 → ref02_AscendsL0K (R := LR Int Unit Bool) l ((i + 1 : Nat) : Int) (fun a' => some (.next a')) (fun e => some (.done e)) (fun r => some (.ret r)) = some (bif lessB (l.getD i ⟨#[]⟩) (l.getD (i + 1) ⟨#[]⟩) then .next ((i + 1 + 1 : Nat) : Int) else .ret false) := fun i hi => by
          have e : ((i + 1 : Nat) : Int) - 1 = (i : Int) := by omega
          unfold lessB
          simp (disch := omega) only [ref02_AscendsL0K, e, ckB_ix, ckB_inR, ckB_room, ckB_cut, ckB_mk, ckB_ne, bif_lt, bif_nlt, bif_le, bif_nle, bif_eq, bif_neq, bif_ne, bif_nne, bif_not, bif_true', bif_false', bnd_ok, lk_inl, lk_inr, Int.toNat_natCast, decide_true]
          rw [cast_succ]
          cases Op.bytesLess (l.getD i ⟨#[]⟩).toList (l.getD (i + 1) ⟨#[]⟩).toList <;> rfl
        by_cases h0 : l.length = 0
        · have e0 : l.length - 1 = 0 := by omega
          rw [e0]
          refine loop_count (fun _ : Nat => (1 : Int)) 0 (many_of (by omega)) (.inl ()) (fun i hi => by omega) ?_
          simp (disch := omega) only [ref02_AscendsL0K, ckB_ix, ckB_inR, ckB_room, ckB_cut, ckB_mk, ckB_ne, bif_lt, bif_nlt, bif_le, bif_nle, bif_eq, bif_neq, bif_ne, bif_nne, bif_not, bif_true', bif_false', bnd_ok, lk_inl, lk_inr, Int.toNat_natCast, decide_true]
        · refine loop_all (fun i : Nat => ((i + 1 : Nat) : Int)) (l.length - 1) (many_of (by omega)) _ () false (fun i hi hp => ?_) (fun i hi hp => ?_) ?_
          · exact (hst i hi).trans (by rw [hp]; rfl)
          · exact (hst i hi).trans (by rw [hp]; rfl)
          · have e : l.length - 1 + 1 = l.length := by omega
            rw [e]
            simp (disch := omega) only [ref02_AscendsL0K, ckB_ix, ckB_inR, ckB_room, ckB_cut, ckB_mk, ckB_ne, bif_lt, bif_nlt, bif_le, bif_nle, bif_eq, bif_neq, bif_ne, bif_nne, bif_not, bif_true', bif_false', bnd_ok, lk_inl, lk_inr, Int.toNat_natCast, decide_true]
      unfold ref02_Ascends
      rw [hL, bnd_ok]
      cases (List.range (l.length - 1)).all (fun i => lessB (l.getD i ⟨#[]⟩) (l.getD (i + 1) ⟨#[]⟩)) <;> rfl
    simp (disch := omega) only [Names_eq l (by omega), hA, ckB_ix, ckB_inR, ckB_room, ckB_cut, ckB_mk, ckB_ne, bif_lt, bif_nlt, bif_le, bif_nle, bif_eq, bif_neq, bif_ne, bif_nne, bif_not, bif_true', bif_false', bnd_ok, lk_inl, lk_inr, Int.toNat_natCast, decide_true]
    refine (show _ = some (l.all nameB && (List.range (l.length - 1)).all fun i => lessB (l.getD i ⟨#[]⟩) (l.getD (i + 1) ⟨#[]⟩)) from by cases l.all nameB <;> rfl).trans (congrArg some ?_)
    rw [Bool.true_and, Bool.eq_iff_iff]
    simp only [Bool.and_eq_true, List.all_eq_true, List.mem_range, badA, Bool.not_eq_true', Bool.or_eq_false_iff, Bool.and_eq_false_iff, Bool.not_eq_false', decide_eq_false_iff_not]
    constructor
    · rintro ⟨h2, h3⟩ i hi
      refine ⟨h2 _ (getD_mem _ hi), ?_⟩
      by_cases h0 : 0 < i
      · have := h3 (i - 1) (by omega)
        rw [show i - 1 + 1 = i by omega] at this
        exact .inr this
      · exact .inl h0
    · intro h2
      refine ⟨fun s hs => ?_, fun i hi => ?_⟩
      · obtain ⟨i, hi, rfl⟩ := mem_getD (⟨#[]⟩ : ByteArray) hs
        exact (h2 i hi).1
      · exact (h2 (i + 1) (by omega)).2.resolve_left (by omega)
  · have : ¬ l.length ≤ 40 := by omega
    simp (disch := omega) only [ckB_ix, ckB_inR, ckB_room, ckB_cut, ckB_mk, ckB_ne, bif_lt, bif_nlt, bif_le, bif_nle, bif_eq, bif_neq, bif_ne, bif_nne, bif_not, bif_true', bif_false', bnd_ok, lk_inl, lk_inr, Int.toNat_natCast, decide_true]
    rw [decide_eq_false this]; rfl
end Go.Proofs.Ytmlfmeffjodhmaa
