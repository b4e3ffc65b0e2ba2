/-
  Siphon: names, lists of places, nets: the program and the reference reckon alike.
-/
import Derived.Test.YtjhojmninmipcaaZ8Md
import Derived.Test.YtjhojmninmipcaaZ8KE
import Derived.KernelRfl
set_option linter.all false
namespace Go.Proofs.Ytjhojmninmipcaa
open Go.K Go.M
theorem awake_true : law25_awake = some true := by kernel_rfl
def eqS (a b : ByteArray) : Bool := ByteArray.toList a == ByteArray.toList b
theorem eqS_def (a b : ByteArray) : (ByteArray.toList a == ByteArray.toList b) = eqS a b := rfl
def letB (c : Int) : Bool := decide (65 ≤ c) && decide (c ≤ 90) || decide (97 ≤ c) && decide (c ≤ 122)
def partB (c : Int) : Bool := letB c || decide (48 ≤ c) && decide (c ≤ 57) || decide (c = 95) || decide (c = 45) || decide (c = 46)
abbrev byt (s : ByteArray) (i : Nat) : Int := ((ByteArray.data s).getD i 0).toNat
theorem letter_eq (c : Int) : name_letter c = some (letB c) := by
  unfold name_letter letB
  cases decide ((65 : Int) ≤ c) <;> cases decide (c ≤ (90 : Int)) <;> cases decide ((97 : Int) ≤ c) <;> cases decide (c ≤ (122 : Int)) <;> rfl
theorem refLetter_eq (c : Int) : ref02_letter c = some (letB c) := by
  unfold ref02_letter letB
  cases decide ((65 : Int) ≤ c) <;> cases decide (c ≤ (90 : Int)) <;> cases decide ((97 : Int) ≤ c) <;> cases decide (c ≤ (122 : Int)) <;> rfl
theorem part_eq (c : Int) : name_part c = some (partB c) := by
  unfold name_part partB
  rw [letter_eq, bnd_ok]
  cases letB c <;> cases decide ((48 : Int) ≤ c) <;> cases decide (c ≤ (57 : Int)) <;> cases decide (c = (95 : Int)) <;> cases decide (c = (45 : Int)) <;> cases decide (c = (46 : Int)) <;> rfl
def nameB (s : ByteArray) : Bool := decide (1 ≤ s.size) && decide (s.size ≤ 40) && letB (byt s 0) && (List.range s.size).all fun i => partB (byt s i)
theorem IsName_eq (s : ByteArray) : name_IsName s = some (nameB s) := by
  unfold name_IsName nameB
  by_cases h1 : (s.size : Int) < 1
  · have : ¬ 1 ≤ s.size := by omega
    simp (disch := omega) only [ckB_ix, ckB_inR, ckB_room, ckB_cut, ckB_mk, ckB_ne, bif_lt, bif_nlt, bif_le, bif_nle, bif_eq, bif_neq, bif_ne, bif_nne, bif_not, bif_true', bif_false', bnd_ok, lk_inl, lk_inr, Int.toNat_natCast, decide_true]
    rw [decide_eq_false this]; rfl
  · have h1' : 1 ≤ s.size := by omega
    rw [decide_eq_true h1']
    by_cases h2 : 40 < (s.size : Int)
    · have : ¬ s.size ≤ 40 := by omega
      simp (disch := omega) only [ckB_ix, ckB_inR, ckB_room, ckB_cut, ckB_mk, ckB_ne, bif_lt, bif_nlt, bif_le, bif_nle, bif_eq, bif_neq, bif_ne, bif_nne, bif_not, bif_true', bif_false', bnd_ok, lk_inl, lk_inr, Int.toNat_natCast, decide_true]
      rw [decide_eq_false this]; rfl
    · have h2' : s.size ≤ 40 := by omega
      rw [decide_eq_true h2']
      have hL : name_IsNameL0 s (s.size : Int) 0 = some (bif (List.range s.size).all (fun i => partB (byt s i)) then .inl () else .inr false) := by
        refine loop_all (fun i : Nat => (i : Int)) s.size (many_of (by omega)) _ () false ?_ ?_ ?_
        · intro i hi hp
          simp (disch := omega) only [name_IsNameL0K, part_eq, hp, Bool.not_true, ckB_ix, ckB_inR, ckB_room, ckB_cut, ckB_mk, ckB_ne, bif_lt, bif_nlt, bif_le, bif_nle, bif_eq, bif_neq, bif_ne, bif_nne, bif_not, bif_true', bif_false', bnd_ok, lk_inl, lk_inr, Int.toNat_natCast, decide_true]
          rw [cast_succ]
        · intro i hi hp
          simp (disch := omega) only [name_IsNameL0K, part_eq, hp, Bool.not_false, ckB_ix, ckB_inR, ckB_room, ckB_cut, ckB_mk, ckB_ne, bif_lt, bif_nlt, bif_le, bif_nle, bif_eq, bif_neq, bif_ne, bif_nne, bif_not, bif_true', bif_false', bnd_ok, lk_inl, lk_inr, Int.toNat_natCast, decide_true]
        · simp (disch := omega) only [name_IsNameL0K, ckB_ix, ckB_inR, ckB_room, ckB_cut, ckB_mk, ckB_ne, bif_lt, bif_nlt, bif_le, bif_nle, bif_eq, bif_neq, bif_ne, bif_nne, bif_not, bif_true', bif_false', bnd_ok, lk_inl, lk_inr, Int.toNat_natCast, decide_true]
      simp (disch := omega) only [letter_eq, hL, ckB_ix, ckB_inR, ckB_room, ckB_cut, ckB_mk, ckB_ne, bif_lt, bif_nlt, bif_le, bif_nle, bif_eq, bif_neq, bif_ne, bif_nne, bif_not, bif_true', bif_false', bnd_ok, lk_inl, lk_inr, Int.toNat_natCast, decide_true]
      cases letB (byt s 0) with
      | false => rfl
      | true => cases (List.range s.size).all (fun i => partB (byt s i)) <;> rfl
theorem all_range_succ (n : Nat) (p : Nat → Bool) : (List.range (n + 1)).all p = (p 0 && (List.range n).all fun i => p (i + 1)) := by
  rw [List.range_succ_eq_map, List.all_cons, List.all_map]
  rfl
theorem refIsName_eq (s : ByteArray) : ref02_IsName s = some (nameB s) := by
  unfold ref02_IsName nameB
  by_cases h1 : (s.size : Int) < 1
  · have : ¬ 1 ≤ s.size := by omega
    simp (disch := omega) only [ckB_ix, ckB_inR, ckB_room, ckB_cut, ckB_mk, ckB_ne, bif_lt, bif_nlt, bif_le, bif_nle, bif_eq, bif_neq, bif_ne, bif_nne, bif_not, bif_true', bif_false', bnd_ok, lk_inl, lk_inr, Int.toNat_natCast, decide_true]
    rw [decide_eq_false this]; rfl
  · have h1' : 1 ≤ s.size := by omega
    rw [decide_eq_true h1']
    by_cases h2 : 40 < (s.size : Int)
    · have : ¬ s.size ≤ 40 := by omega
      simp (disch := omega) only [ckB_ix, ckB_inR, ckB_room, ckB_cut, ckB_mk, ckB_ne, bif_lt, bif_nlt, bif_le, bif_nle, bif_eq, bif_neq, bif_ne, bif_nne, bif_not, bif_true', bif_false', bnd_ok, lk_inl, lk_inr, Int.toNat_natCast, decide_true]
      rw [decide_eq_false this]; rfl
    · have h2' : s.size ≤ 40 := by omega
      rw [decide_eq_true h2']
      have hL : ref02_IsNameL0 s 1 = some (bif (List.range (s.size - 1)).all (fun i => partB (byt s (i + 1))) then .inl () else .inr false) := by
        refine loop_all (fun i : Nat => ((i + 1 : Nat) : Int)) (s.size - 1) (many_of (by omega)) _ () false ?_ ?_ ?_
        · intro i hi hp
          unfold partB at hp
          simp (disch := omega) only [ref02_IsNameL0K, refLetter_eq, ckB_ix, ckB_inR, ckB_room, ckB_cut, ckB_mk, ckB_ne, bif_lt, bif_nlt, bif_le, bif_nle, bif_eq, bif_neq, bif_ne, bif_nne, bif_not, bif_true', bif_false', bnd_ok, lk_inl, lk_inr, Int.toNat_natCast, decide_true]
          rw [cast_succ]
          revert hp
          cases letB (byt s (i + 1)) <;> cases decide ((48 : Int) ≤ byt s (i + 1)) <;> cases decide (byt s (i + 1) ≤ (57 : Int)) <;> cases decide (byt s (i + 1) = (95 : Int)) <;> cases decide (byt s (i + 1) = (45 : Int)) <;> cases decide (byt s (i + 1) = (46 : Int)) <;> intro hp <;> first | rfl | cases hp
        · intro i hi hp
          unfold partB at hp
          simp (disch := omega) only [ref02_IsNameL0K, refLetter_eq, ckB_ix, ckB_inR, ckB_room, ckB_cut, ckB_mk, ckB_ne, bif_lt, bif_nlt, bif_le, bif_nle, bif_eq, bif_neq, bif_ne, bif_nne, bif_not, bif_true', bif_false', bnd_ok, lk_inl, lk_inr, Int.toNat_natCast, decide_true]
          revert hp
          cases letB (byt s (i + 1)) <;> cases decide ((48 : Int) ≤ byt s (i + 1)) <;> cases decide (byt s (i + 1) ≤ (57 : Int)) <;> cases decide (byt s (i + 1) = (95 : Int)) <;> cases decide (byt s (i + 1) = (45 : Int)) <;> cases decide (byt s (i + 1) = (46 : Int)) <;> intro hp <;> first | rfl | cases hp
        · have e : s.size - 1 + 1 = s.size := by omega
          rw [e]
          simp (disch := omega) only [ref02_IsNameL0K, ckB_ix, ckB_inR, ckB_room, ckB_cut, ckB_mk, ckB_ne, bif_lt, bif_nlt, bif_le, bif_nle, bif_eq, bif_neq, bif_ne, bif_nne, bif_not, bif_true', bif_false', bnd_ok, lk_inl, lk_inr, Int.toNat_natCast, decide_true]
      simp (disch := omega) only [refLetter_eq, hL, ckB_ix, ckB_inR, ckB_room, ckB_cut, ckB_mk, ckB_ne, bif_lt, bif_nlt, bif_le, bif_nle, bif_eq, bif_neq, bif_ne, bif_nne, bif_not, bif_true', bif_false', bnd_ok, lk_inl, lk_inr, Int.toNat_natCast, decide_true]
      have e : s.size = s.size - 1 + 1 := by omega
      have e2 : (List.range s.size).all (fun i => partB (byt s i)) = (partB (byt s 0) && (List.range (s.size - 1)).all fun i => partB (byt s (i + 1))) := by
        conv => lhs; rw [e]
        exact all_range_succ _ _
      rw [e2]
      have e3 : letB (byt s 0) = true → partB (byt s 0) = true := fun h => by unfold partB; rw [h]; rfl
      cases h : letB (byt s 0) with
      | false => rfl
      | true =>
        rw [e3 h]
        cases (List.range (s.size - 1)).all (fun i => partB (byt s (i + 1))) <;> rfl
def memB (l : List Int) (x : Int) : Bool := l.any fun y => decide (x = y)
theorem memB_iff {l : List Int} {x : Int} : memB l x = true ↔ x ∈ l := by
  unfold memB
  rw [List.any_eq_true]
  constructor
  · rintro ⟨y, hy, h⟩
    rw [of_decide_eq_true h]; exact hy
  · intro h
    exact ⟨x, h, decide_eq_true rfl⟩
theorem Contains_eq (l : List Int) (h : l.length ≤ 1000000) (x : Int) : slices_Contains_int_int l x = some (memB l x) := by
  have hL : slices_Index_int_intL0 l x (l.length : Int) 0 = some (fOut (fun i => (i : Int)) (fidx (fun y => decide (x = y)) l)) := by
    refine loop_find l 0 (fun y => decide (x = y)) (fun i => (i : Int)) (by omega) (fun i hi => ?_) ?_
    · simp (disch := omega) only [slices_Index_int_intL0K, ckB_ix, ckB_inR, ckB_room, ckB_cut, ckB_mk, ckB_ne, bif_lt, bif_nlt, bif_le, bif_nle, bif_eq, bif_neq, bif_ne, bif_nne, bif_not, bif_true', bif_false', bnd_ok, lk_inl, lk_inr, Int.toNat_natCast, decide_true]
      rw [cast_succ]
      cases decide (x = l.getD i 0) <;> rfl
    · simp (disch := omega) only [slices_Index_int_intL0K, ckB_ix, ckB_inR, ckB_room, ckB_cut, ckB_mk, ckB_ne, bif_lt, bif_nlt, bif_le, bif_nle, bif_eq, bif_neq, bif_ne, bif_nne, bif_not, bif_true', bif_false', bnd_ok, lk_inl, lk_inr, Int.toNat_natCast, decide_true]
  unfold slices_Contains_int_int slices_Index_int_int
  rw [hL, bnd_ok, idx_out, bnd_ok, idxI_nn]
  rfl
def meetB (a b : List Int) : Bool := a.any fun p => memB b p
theorem meets_eq (a b : List Int) (ha : a.length ≤ 1000000) (hb : b.length ≤ 1000000) : siphon_meets a b = some (meetB a b) := by
  have hL : slices_IndexFunc_int_int_109L0 a b (a.length : Int) 0 = some (fOut (fun i => (i : Int)) (fidx (fun p => memB b p) a)) := by
    refine loop_find a 0 (fun p => memB b p) (fun i => (i : Int)) (by omega) (fun i hi => ?_) ?_
    · simp (disch := omega) only [slices_IndexFunc_int_int_109L0K, siphon_meets_1, Contains_eq b hb, ckB_ix, ckB_inR, ckB_room, ckB_cut, ckB_mk, ckB_ne, bif_lt, bif_nlt, bif_le, bif_nle, bif_eq, bif_neq, bif_ne, bif_nne, bif_not, bif_true', bif_false', bnd_ok, lk_inl, lk_inr, Int.toNat_natCast, decide_true]
      rw [cast_succ]
      cases memB b (a.getD i 0) <;> rfl
    · simp (disch := omega) only [slices_IndexFunc_int_int_109L0K, ckB_ix, ckB_inR, ckB_room, ckB_cut, ckB_mk, ckB_ne, bif_lt, bif_nlt, bif_le, bif_nle, bif_eq, bif_neq, bif_ne, bif_nne, bif_not, bif_true', bif_false', bnd_ok, lk_inl, lk_inr, Int.toNat_natCast, decide_true]
  unfold siphon_meets slices_ContainsFunc_int_int_109 slices_IndexFunc_int_int_109
  rw [hL, bnd_ok, idx_out, bnd_ok, bnd_ok, idxI_nn]
  rfl
def badQ (N : Int) (l : List Int) (i : Nat) : Bool := decide (l.getD i 0 < 0) || decide (N ≤ l.getD i 0) || decide (0 < i) && decide (l.getD i 0 ≤ l.getD (i - 1) 0)
def setB (N : Int) (l : List Int) : Bool := (List.range l.length).all fun i => !badQ N l i
theorem petri_placesL0_eq (N : Int) (ts : List Trans) (a b : Int) (l : List Int) (h : l.length ≤ 1000000) : petri_placesL0 l l (l.length : Int) N ts a b 0 = some (bif (List.range l.length).all (fun i => !badQ N l i) then .inl () else .inr false) := by
  have hst : ∀ i : Nat, i < l.length → petri_placesL0K l l (l.length : Int) N ts a b (R := LR Int Unit Bool) (i : Int) (fun a' => some (.next a')) (fun e => some (.done e)) (fun r => some (.ret r)) = some (bif badQ N l i then .ret false else .next ((i + 1 : Nat) : Int)) := fun i hi => by
    unfold badQ
    by_cases h0 : 0 < i
    · have e : (i : Int) - 1 = ((i - 1 : Nat) : Int) := by omega
      have h0' : (0 : Int) < (i : Int) := by omega
      rw [decide_eq_true h0]
      simp (disch := omega) only [petri_placesL0K, e, ckB_ix, ckB_inR, ckB_room, ckB_cut, ckB_mk, ckB_ne, bif_lt, bif_nlt, bif_le, bif_nle, bif_eq, bif_neq, bif_ne, bif_nne, bif_not, bif_true', bif_false', bnd_ok, lk_inl, lk_inr, Int.toNat_natCast, decide_true]
      rw [cast_succ]
      cases decide (l.getD i 0 < 0) <;> cases decide (N ≤ l.getD i 0) <;> cases decide (l.getD i 0 ≤ l.getD (i - 1) 0) <;> rfl
    · have h0' : ¬ (0 : Int) < (i : Int) := by omega
      rw [decide_eq_false h0]
      simp (disch := omega) only [petri_placesL0K, ckB_ix, ckB_inR, ckB_room, ckB_cut, ckB_mk, ckB_ne, bif_lt, bif_nlt, bif_le, bif_nle, bif_eq, bif_neq, bif_ne, bif_nne, bif_not, bif_true', bif_false', bnd_ok, lk_inl, lk_inr, Int.toNat_natCast, decide_true]
      rw [cast_succ]
      cases decide (l.getD i 0 < 0) <;> cases decide (N ≤ l.getD i 0) <;> rfl
  refine loop_all (fun i : Nat => (i : Int)) l.length (many_of (by omega)) _ () false (fun i hi hp => ?_) (fun i hi hp => ?_) ?_
  · have hb : badQ N l i = false := by simpa using hp
    exact (hst i hi).trans (by rw [hb]; rfl)
  · have hb : badQ N l i = true := by simpa using hp
    exact (hst i hi).trans (by rw [hb]; rfl)
  · simp (disch := omega) only [petri_placesL0K, ckB_ix, ckB_inR, ckB_room, ckB_cut, ckB_mk, ckB_ne, bif_lt, bif_nlt, bif_le, bif_nle, bif_eq, bif_neq, bif_ne, bif_nne, bif_not, bif_true', bif_false', bnd_ok, lk_inl, lk_inr, Int.toNat_natCast, decide_true]
theorem siphon_setL0_eq (N : Int) (ts : List Trans) (a b : Int) (l : List Int) (h : l.length ≤ 1000000) : siphon_setL0 l l (l.length : Int) N ts a b 0 = some (bif (List.range l.length).all (fun i => !badQ N l i) then .inl () else .inr false) := by
  have hst : ∀ i : Nat, i < l.length → siphon_setL0K l l (l.length : Int) N ts a b (R := LR Int Unit Bool) (i : Int) (fun a' => some (.next a')) (fun e => some (.done e)) (fun r => some (.ret r)) = some (bif badQ N l i then .ret false else .next ((i + 1 : Nat) : Int)) := fun i hi => by
    unfold badQ
    by_cases h0 : 0 < i
    · have e : (i : Int) - 1 = ((i - 1 : Nat) : Int) := by omega
      have h0' : (0 : Int) < (i : Int) := by omega
      rw [decide_eq_true h0]
      simp (disch := omega) only [siphon_setL0K, e, ckB_ix, ckB_inR, ckB_room, ckB_cut, ckB_mk, ckB_ne, bif_lt, bif_nlt, bif_le, bif_nle, bif_eq, bif_neq, bif_ne, bif_nne, bif_not, bif_true', bif_false', bnd_ok, lk_inl, lk_inr, Int.toNat_natCast, decide_true]
      rw [cast_succ]
      cases decide (l.getD i 0 < 0) <;> cases decide (N ≤ l.getD i 0) <;> cases decide (l.getD i 0 ≤ l.getD (i - 1) 0) <;> rfl
    · have h0' : ¬ (0 : Int) < (i : Int) := by omega
      rw [decide_eq_false h0]
      simp (disch := omega) only [siphon_setL0K, ckB_ix, ckB_inR, ckB_room, ckB_cut, ckB_mk, ckB_ne, bif_lt, bif_nlt, bif_le, bif_nle, bif_eq, bif_neq, bif_ne, bif_nne, bif_not, bif_true', bif_false', bnd_ok, lk_inl, lk_inr, Int.toNat_natCast, decide_true]
      rw [cast_succ]
      cases decide (l.getD i 0 < 0) <;> cases decide (N ≤ l.getD i 0) <;> rfl
  refine loop_all (fun i : Nat => (i : Int)) l.length (many_of (by omega)) _ () false (fun i hi hp => ?_) (fun i hi hp => ?_) ?_
  · have hb : badQ N l i = false := by simpa using hp
    exact (hst i hi).trans (by rw [hb]; rfl)
  · have hb : badQ N l i = true := by simpa using hp
    exact (hst i hi).trans (by rw [hb]; rfl)
  · simp (disch := omega) only [siphon_setL0K, ckB_ix, ckB_inR, ckB_room, ckB_cut, ckB_mk, ckB_ne, bif_lt, bif_nlt, bif_le, bif_nle, bif_eq, bif_neq, bif_ne, bif_nne, bif_not, bif_true', bif_false', bnd_ok, lk_inl, lk_inr, Int.toNat_natCast, decide_true]
theorem ref25_SetL0_eq (N : Int) (ts : List Trans) (a b : Int) (l : List Int) (h : l.length ≤ 1000000) : ref25_SetL0 l N ts a b 0 = some (bif (List.range l.length).all (fun i => !badQ N l i) then .inl () else .inr false) := by
  have hst : ∀ i : Nat, i < l.length → ref25_SetL0K l N ts a b (R := LR Int Unit Bool) (i : Int) (fun a' => some (.next a')) (fun e => some (.done e)) (fun r => some (.ret r)) = some (bif badQ N l i then .ret false else .next ((i + 1 : Nat) : Int)) := fun i hi => by
    unfold badQ
    by_cases h0 : 0 < i
    · have e : (i : Int) - 1 = ((i - 1 : Nat) : Int) := by omega
      have h0' : (0 : Int) < (i : Int) := by omega
      rw [decide_eq_true h0]
      simp (disch := omega) only [ref25_SetL0K, e, ckB_ix, ckB_inR, ckB_room, ckB_cut, ckB_mk, ckB_ne, bif_lt, bif_nlt, bif_le, bif_nle, bif_eq, bif_neq, bif_ne, bif_nne, bif_not, bif_true', bif_false', bnd_ok, lk_inl, lk_inr, Int.toNat_natCast, decide_true]
      rw [cast_succ]
      cases decide (l.getD i 0 < 0) <;> cases decide (N ≤ l.getD i 0) <;> cases decide (l.getD i 0 ≤ l.getD (i - 1) 0) <;> rfl
    · have h0' : ¬ (0 : Int) < (i : Int) := by omega
      rw [decide_eq_false h0]
      simp (disch := omega) only [ref25_SetL0K, ckB_ix, ckB_inR, ckB_room, ckB_cut, ckB_mk, ckB_ne, bif_lt, bif_nlt, bif_le, bif_nle, bif_eq, bif_neq, bif_ne, bif_nne, bif_not, bif_true', bif_false', bnd_ok, lk_inl, lk_inr, Int.toNat_natCast, decide_true]
      rw [cast_succ]
      cases decide (l.getD i 0 < 0) <;> cases decide (N ≤ l.getD i 0) <;> rfl
  refine loop_all (fun i : Nat => (i : Int)) l.length (many_of (by omega)) _ () false (fun i hi hp => ?_) (fun i hi hp => ?_) ?_
  · have hb : badQ N l i = false := by simpa using hp
    exact (hst i hi).trans (by rw [hb]; rfl)
  · have hb : badQ N l i = true := by simpa using hp
    exact (hst i hi).trans (by rw [hb]; rfl)
  · simp (disch := omega) only [ref25_SetL0K, ckB_ix, ckB_inR, ckB_room, ckB_cut, ckB_mk, ckB_ne, bif_lt, bif_nlt, bif_le, bif_nle, bif_eq, bif_neq, bif_ne, bif_nne, bif_not, bif_true', bif_false', bnd_ok, lk_inl, lk_inr, Int.toNat_natCast, decide_true]
theorem ref21_placesL0_eq (N : Int) (ts : List Trans) (a b : Int) (l : List Int) (h : l.length ≤ 1000000) : ref21_placesL0 N l 0 = some (bif (List.range l.length).all (fun i => !badQ N l i) then .inl () else .inr false) := by
  have hst : ∀ i : Nat, i < l.length → ref21_placesL0K N l (R := LR Int Unit Bool) (i : Int) (fun a' => some (.next a')) (fun e => some (.done e)) (fun r => some (.ret r)) = some (bif badQ N l i then .ret false else .next ((i + 1 : Nat) : Int)) := fun i hi => by
    unfold badQ
    by_cases h0 : 0 < i
    · have e : (i : Int) - 1 = ((i - 1 : Nat) : Int) := by omega
      have h0' : (0 : Int) < (i : Int) := by omega
      rw [decide_eq_true h0]
      simp (disch := omega) only [ref21_placesL0K, e, ckB_ix, ckB_inR, ckB_room, ckB_cut, ckB_mk, ckB_ne, bif_lt, bif_nlt, bif_le, bif_nle, bif_eq, bif_neq, bif_ne, bif_nne, bif_not, bif_true', bif_false', bnd_ok, lk_inl, lk_inr, Int.toNat_natCast, decide_true]
      rw [cast_succ]
      cases decide (l.getD i 0 < 0) <;> cases decide (N ≤ l.getD i 0) <;> cases decide (l.getD i 0 ≤ l.getD (i - 1) 0) <;> rfl
    · have h0' : ¬ (0 : Int) < (i : Int) := by omega
      rw [decide_eq_false h0]
      simp (disch := omega) only [ref21_placesL0K, ckB_ix, ckB_inR, ckB_room, ckB_cut, ckB_mk, ckB_ne, bif_lt, bif_nlt, bif_le, bif_nle, bif_eq, bif_neq, bif_ne, bif_nne, bif_not, bif_true', bif_false', bnd_ok, lk_inl, lk_inr, Int.toNat_natCast, decide_true]
      rw [cast_succ]
      cases decide (l.getD i 0 < 0) <;> cases decide (N ≤ l.getD i 0) <;> rfl
  refine loop_all (fun i : Nat => (i : Int)) l.length (many_of (by omega)) _ () false (fun i hi hp => ?_) (fun i hi hp => ?_) ?_
  · have hb : badQ N l i = false := by simpa using hp
    exact (hst i hi).trans (by rw [hb]; rfl)
  · have hb : badQ N l i = true := by simpa using hp
    exact (hst i hi).trans (by rw [hb]; rfl)
  · simp (disch := omega) only [ref21_placesL0K, ckB_ix, ckB_inR, ckB_room, ckB_cut, ckB_mk, ckB_ne, bif_lt, bif_nlt, bif_le, bif_nle, bif_eq, bif_neq, bif_ne, bif_nne, bif_not, bif_true', bif_false', bnd_ok, lk_inl, lk_inr, Int.toNat_natCast, decide_true]
theorem bif_id {b : Bool} : (lk (bif b then (.inl () : Unit ⊕ Bool) else .inr false) (fun _ => some true) fun r => some r) = some b := by cases b <;> rfl
theorem petri_places_eq (n : Net) (l : List Int) (h : l.length ≤ 1000000) : petri_places n l = some (setB n.1 l) := by
  unfold petri_places setB
  rw [petri_placesL0_eq n.1 n.2.1 n.2.2.1 n.2.2.2.1 l h, bnd_ok, bif_id]
theorem siphon_set_eq (n : Net) (l : List Int) (h : l.length ≤ 1000000) : siphon_set n l = some (setB n.1 l) := by
  unfold siphon_set setB
  rw [siphon_setL0_eq n.1 n.2.1 n.2.2.1 n.2.2.2.1 l h, bnd_ok, bif_id]
theorem ref25_Set_eq (n : Net) (l : List Int) (h : l.length ≤ 1000000) : ref25_Set n l = some (setB n.1 l) := by
  unfold ref25_Set setB
  rw [ref25_SetL0_eq n.1 n.2.1 n.2.2.1 n.2.2.2.1 l h, bnd_ok, bif_id]
theorem ref21_places_eq (N : Int) (l : List Int) (h : l.length ≤ 1000000) : ref21_places N l = some (setB N l) := by
  unfold ref21_places setB
  rw [ref21_placesL0_eq N [] 0 0 l h, bnd_ok, bif_id]
structure Small (n : Net) : Prop where
  trans : n.2.1.length ≤ 100
  ins : ∀ t ∈ n.2.1, t.2.1.length ≤ 50
  outs : ∀ t ∈ n.2.1, t.2.2.1.length ≤ 50
def badT (N : Int) (t : Trans) : Bool := !eqS t.1 ⟨#[]⟩ && !nameB t.1 || !setB N t.2.1 || !setB N t.2.2.1
def validN (n : Net) : Bool := decide (1 ≤ n.1) && decide (n.1 ≤ 40) && decide (n.2.1.length ≤ 60) && !n.2.1.any (badT n.1) && (decide (0 ≤ n.2.2.1) && decide (n.2.2.1 < n.1)) && (decide (0 ≤ n.2.2.2.1) && decide (n.2.2.2.1 < n.1))
theorem setB_one (N x : Int) : setB N [x] = (decide (0 ≤ x) && decide (x < N)) := by
  unfold setB badQ
  rw [Bool.eq_iff_iff]
  simp
theorem Valid_eq {n : Net} (h : Small n) : petri_Valid n = some (validN n) := by
  have hL : petri_ValidL0 n.2.1 (n.2.1.length : Int) n.1 n.2.1 n.2.2.1 n.2.2.2.1 0 = some (bif n.2.1.any (badT n.1) then .inr false else .inl ()) := by
    have hl := h.trans
    refine loop_findC n.2.1 Trans.z (badT n.1) false (by omega) (fun i hi => ?_) ?_
    · have h1 := h.ins _ (getD_mem Trans.z hi)
      have h2 := h.outs _ (getD_mem Trans.z hi)
      unfold badT
      simp (disch := omega) only [eqS_def, petri_ValidL0K, IsName_eq, ckB_ix, ckB_inR, ckB_room, ckB_cut, ckB_mk, ckB_ne, bif_lt, bif_nlt, bif_le, bif_nle, bif_eq, bif_neq, bif_ne, bif_nne, bif_not, bif_true', bif_false', bnd_ok, lk_inl, lk_inr, Int.toNat_natCast, decide_true]
      rw [petri_places_eq _ _ (by omega), petri_places_eq _ _ (by omega), cast_succ]
      simp only [bnd_ok]
      cases eqS (n.2.1.getD i Trans.z).1 ⟨#[]⟩ <;> cases nameB (n.2.1.getD i Trans.z).1 <;> cases setB n.1 (n.2.1.getD i Trans.z).2.1 <;> cases setB n.1 (n.2.1.getD i Trans.z).2.2.1 <;> rfl
    · simp (disch := omega) only [petri_ValidL0K, ckB_ix, ckB_inR, ckB_room, ckB_cut, ckB_mk, ckB_ne, bif_lt, bif_nlt, bif_le, bif_nle, bif_eq, bif_neq, bif_ne, bif_nne, bif_not, bif_true', bif_false', bnd_ok, lk_inl, lk_inr, Int.toNat_natCast, decide_true]
  unfold petri_Valid validN
  rw [hL, petri_places_eq _ _ (by simp), petri_places_eq _ _ (by simp), setB_one, setB_one]
  have e1 : decide (1 ≤ n.1) = !decide (n.1 < 1) := by rw [Bool.eq_iff_iff]; simp
  have e2 : decide (n.1 ≤ 40) = !decide (40 < n.1) := by rw [Bool.eq_iff_iff]; simp
  have e3 : decide (n.2.1.length ≤ 60) = !decide ((60 : Int) < (n.2.1.length : Int)) := by rw [Bool.eq_iff_iff]; simp; omega
  rw [e1, e2, e3]
  cases decide (n.1 < 1) <;> cases decide (40 < n.1) <;> cases decide ((60 : Int) < (n.2.1.length : Int)) <;> cases n.2.1.any (badT n.1) <;> cases (decide (0 ≤ n.2.2.1) && decide (n.2.2.1 < n.1)) <;> cases (decide (0 ≤ n.2.2.2.1) && decide (n.2.2.2.1 < n.1)) <;> rfl
theorem refValid_eq {n : Net} (h : Small n) : ref21_Valid n = some (validN n) := by
  have hL : ref21_ValidL0 n.1 n.2.1 n.2.2.1 n.2.2.2.1 0 = some (bif n.2.1.any (badT n.1) then .inr false else .inl ()) := by
    have hl := h.trans
    refine loop_findC n.2.1 Trans.z (badT n.1) false (by omega) (fun i hi => ?_) ?_
    · have h1 := h.ins _ (getD_mem Trans.z hi)
      have h2 := h.outs _ (getD_mem Trans.z hi)
      unfold badT
      simp (disch := omega) only [eqS_def, ref21_ValidL0K, refIsName_eq, ckB_ix, ckB_inR, ckB_room, ckB_cut, ckB_mk, ckB_ne, bif_lt, bif_nlt, bif_le, bif_nle, bif_eq, bif_neq, bif_ne, bif_nne, bif_not, bif_true', bif_false', bnd_ok, lk_inl, lk_inr, Int.toNat_natCast, decide_true]
      rw [ref21_places_eq _ _ (by omega), ref21_places_eq _ _ (by omega), cast_succ]
      simp only [bnd_ok]
      cases eqS (n.2.1.getD i Trans.z).1 ⟨#[]⟩ <;> cases nameB (n.2.1.getD i Trans.z).1 <;> cases setB n.1 (n.2.1.getD i Trans.z).2.1 <;> cases setB n.1 (n.2.1.getD i Trans.z).2.2.1 <;> rfl
    · simp (disch := omega) only [ref21_ValidL0K, ckB_ix, ckB_inR, ckB_room, ckB_cut, ckB_mk, ckB_ne, bif_lt, bif_nlt, bif_le, bif_nle, bif_eq, bif_neq, bif_ne, bif_nne, bif_not, bif_true', bif_false', bnd_ok, lk_inl, lk_inr, Int.toNat_natCast, decide_true]
  unfold ref21_Valid validN
  rw [hL]
  have e1 : decide (1 ≤ n.1) = !decide (n.1 < 1) := by rw [Bool.eq_iff_iff]; simp
  have e2 : decide (n.1 ≤ 40) = !decide (40 < n.1) := by rw [Bool.eq_iff_iff]; simp
  have e3 : decide (n.2.1.length ≤ 60) = !decide ((60 : Int) < (n.2.1.length : Int)) := by rw [Bool.eq_iff_iff]; simp; omega
  have e4 : ∀ x : Int, decide (0 ≤ x) = !decide (x < 0) := fun x => by rw [Bool.eq_iff_iff]; simp
  have e5 : ∀ x : Int, decide (x < n.1) = !decide (n.1 ≤ x) := fun x => by rw [Bool.eq_iff_iff]; simp
  rw [e1, e2, e3, e4 n.2.2.1, e4 n.2.2.2.1, e5 n.2.2.1, e5 n.2.2.2.1]
  cases decide (n.1 < 1) <;> cases decide (40 < n.1) <;> cases decide ((60 : Int) < (n.2.1.length : Int)) <;> cases n.2.1.any (badT n.1) <;> cases decide (n.2.2.1 < 0) <;> cases decide (n.1 ≤ n.2.2.1) <;> cases decide (n.2.2.2.1 < 0) <;> cases decide (n.1 ≤ n.2.2.2.1) <;> rfl
theorem given_eq {n : Net} (h : Small n) (l : List Int) (hl : l.length ≤ 1000000) : siphon_given n l = some (bif !validN n then 1 else bif !setB n.1 l then 2 else 0) := by
  unfold siphon_given
  rw [Valid_eq h, siphon_set_eq n l hl]
  simp only [bnd_ok]
  cases validN n <;> cases setB n.1 l <;> rfl
theorem great_eq (n : Net) : ∃ b, law25_great n = some b ∧ (b = false → Small n ∧ (n.2.1.length ≤ 12 ∨ 60 < n.2.1.length) ∧ (n.1 ≤ 10 ∨ 16 < n.1)) := by
  have h1 : ∀ t : Trans, law25_great_1 t = some (decide ((50 : Int) < (t.2.1.length : Int)) || decide ((50 : Int) < (t.2.2.1.length : Int)) || decide ((200 : Int) < (t.1.size : Int))) := fun t => by
    unfold law25_great_1
    cases decide ((50 : Int) < (t.2.1.length : Int)) <;> cases decide ((50 : Int) < (t.2.2.1.length : Int)) <;> rfl
  have hC : n.2.1.length ≤ 100 → slices_ContainsFunc_api_Trans_api_Trans_45 n.2.1 = some (n.2.1.any fun t => decide ((50 : Int) < (t.2.1.length : Int)) || decide ((50 : Int) < (t.2.2.1.length : Int)) || decide ((200 : Int) < (t.1.size : Int))) := fun hl => by
    have hL : slices_IndexFunc_api_Trans_api_Trans_45L0 n.2.1 (n.2.1.length : Int) 0 = some (fOut (fun i => (i : Int)) (fidx (fun t : Trans => decide ((50 : Int) < (t.2.1.length : Int)) || decide ((50 : Int) < (t.2.2.1.length : Int)) || decide ((200 : Int) < (t.1.size : Int))) n.2.1)) := by
      refine loop_find n.2.1 Trans.z (fun t : Trans => decide ((50 : Int) < (t.2.1.length : Int)) || decide ((50 : Int) < (t.2.2.1.length : Int)) || decide ((200 : Int) < (t.1.size : Int))) (fun i => (i : Int)) (by omega) (fun i hi => ?_) ?_
      · simp (disch := omega) only [slices_IndexFunc_api_Trans_api_Trans_45L0K, h1, ckB_ix, ckB_inR, ckB_room, ckB_cut, ckB_mk, ckB_ne, bif_lt, bif_nlt, bif_le, bif_nle, bif_eq, bif_neq, bif_ne, bif_nne, bif_not, bif_true', bif_false', bnd_ok, lk_inl, lk_inr, Int.toNat_natCast, decide_true]
        rw [cast_succ]
        exact some_bif
      · simp (disch := omega) only [slices_IndexFunc_api_Trans_api_Trans_45L0K, ckB_ix, ckB_inR, ckB_room, ckB_cut, ckB_mk, ckB_ne, bif_lt, bif_nlt, bif_le, bif_nle, bif_eq, bif_neq, bif_ne, bif_nne, bif_not, bif_true', bif_false', bnd_ok, lk_inl, lk_inr, Int.toNat_natCast, decide_true]
    unfold slices_ContainsFunc_api_Trans_api_Trans_45 slices_IndexFunc_api_Trans_api_Trans_45
    rw [hL, bnd_ok, idx_out, bnd_ok, idxI_nn]
  have hF : n.2.1.length ≤ 100 → (n.2.1.any fun t => decide ((50 : Int) < (t.2.1.length : Int)) || decide ((50 : Int) < (t.2.2.1.length : Int)) || decide ((200 : Int) < (t.1.size : Int))) = false → Small n := fun hl ha => by
    have key : ∀ t ∈ n.2.1, t.2.1.length ≤ 50 ∧ t.2.2.1.length ≤ 50 := fun t ht => by
      have := List.any_eq_false.1 ha t ht
      simp only [Bool.or_eq_true, decide_eq_true_eq, not_or] at this
      omega
    exact ⟨hl, fun t ht => (key t ht).1, fun t ht => (key t ht).2⟩
  unfold law25_great
  by_cases c1 : (100 : Int) < (n.2.1.length : Int)
  · refine ⟨true, ?_, fun h => by cases h⟩
    by_cases c2 : (n.2.1.length : Int) ≤ 60
    · omega
    · simp (disch := omega) only [ckB_ix, ckB_inR, ckB_room, ckB_cut, ckB_mk, ckB_ne, bif_lt, bif_nlt, bif_le, bif_nle, bif_eq, bif_neq, bif_ne, bif_nne, bif_not, bif_true', bif_false', bnd_ok, lk_inl, lk_inr, Int.toNat_natCast, decide_true]
  · have hl : n.2.1.length ≤ 100 := by omega
    by_cases c3 : (10 : Int) < n.1
    · by_cases c4 : n.1 ≤ 16
      · refine ⟨true, ?_, fun h => by cases h⟩
        by_cases c2 : (12 : Int) < (n.2.1.length : Int)
        · by_cases c5 : (n.2.1.length : Int) ≤ 60
          · simp (disch := omega) only [ckB_ix, ckB_inR, ckB_room, ckB_cut, ckB_mk, ckB_ne, bif_lt, bif_nlt, bif_le, bif_nle, bif_eq, bif_neq, bif_ne, bif_nne, bif_not, bif_true', bif_false', bnd_ok, lk_inl, lk_inr, Int.toNat_natCast, decide_true]
          · simp (disch := omega) only [ckB_ix, ckB_inR, ckB_room, ckB_cut, ckB_mk, ckB_ne, bif_lt, bif_nlt, bif_le, bif_nle, bif_eq, bif_neq, bif_ne, bif_nne, bif_not, bif_true', bif_false', bnd_ok, lk_inl, lk_inr, Int.toNat_natCast, decide_true]
        · simp (disch := omega) only [ckB_ix, ckB_inR, ckB_room, ckB_cut, ckB_mk, ckB_ne, bif_lt, bif_nlt, bif_le, bif_nle, bif_eq, bif_neq, bif_ne, bif_nne, bif_not, bif_true', bif_false', bnd_ok, lk_inl, lk_inr, Int.toNat_natCast, decide_true]
      · by_cases c2 : (12 : Int) < (n.2.1.length : Int)
        · by_cases c5 : (n.2.1.length : Int) ≤ 60
          · exact ⟨true, by simp (disch := omega) only [ckB_ix, ckB_inR, ckB_room, ckB_cut, ckB_mk, ckB_ne, bif_lt, bif_nlt, bif_le, bif_nle, bif_eq, bif_neq, bif_ne, bif_nne, bif_not, bif_true', bif_false', bnd_ok, lk_inl, lk_inr, Int.toNat_natCast, decide_true], fun h => by cases h⟩
          · exact ⟨_, by simp (disch := omega) only [hC hl, ckB_ix, ckB_inR, ckB_room, ckB_cut, ckB_mk, ckB_ne, bif_lt, bif_nlt, bif_le, bif_nle, bif_eq, bif_neq, bif_ne, bif_nne, bif_not, bif_true', bif_false', bnd_ok, lk_inl, lk_inr, Int.toNat_natCast, decide_true], fun h => ⟨hF hl h, by omega, by omega⟩⟩
        · exact ⟨_, by simp (disch := omega) only [hC hl, ckB_ix, ckB_inR, ckB_room, ckB_cut, ckB_mk, ckB_ne, bif_lt, bif_nlt, bif_le, bif_nle, bif_eq, bif_neq, bif_ne, bif_nne, bif_not, bif_true', bif_false', bnd_ok, lk_inl, lk_inr, Int.toNat_natCast, decide_true], fun h => ⟨hF hl h, by omega, by omega⟩⟩
    · by_cases c2 : (12 : Int) < (n.2.1.length : Int)
      · by_cases c5 : (n.2.1.length : Int) ≤ 60
        · exact ⟨true, by simp (disch := omega) only [ckB_ix, ckB_inR, ckB_room, ckB_cut, ckB_mk, ckB_ne, bif_lt, bif_nlt, bif_le, bif_nle, bif_eq, bif_neq, bif_ne, bif_nne, bif_not, bif_true', bif_false', bnd_ok, lk_inl, lk_inr, Int.toNat_natCast, decide_true], fun h => by cases h⟩
        · exact ⟨_, by simp (disch := omega) only [hC hl, ckB_ix, ckB_inR, ckB_room, ckB_cut, ckB_mk, ckB_ne, bif_lt, bif_nlt, bif_le, bif_nle, bif_eq, bif_neq, bif_ne, bif_nne, bif_not, bif_true', bif_false', bnd_ok, lk_inl, lk_inr, Int.toNat_natCast, decide_true], fun h => ⟨hF hl h, by omega, by omega⟩⟩
      · exact ⟨_, by simp (disch := omega) only [hC hl, ckB_ix, ckB_inR, ckB_room, ckB_cut, ckB_mk, ckB_ne, bif_lt, bif_nlt, bif_le, bif_nle, bif_eq, bif_neq, bif_ne, bif_nne, bif_not, bif_true', bif_false', bnd_ok, lk_inl, lk_inr, Int.toNat_natCast, decide_true], fun h => ⟨hF hl h, by omega, by omega⟩⟩
end Go.Proofs.Ytjhojmninmipcaa
