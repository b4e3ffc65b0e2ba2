/-
  Roles: bits.
-/
import Derived.Test.YtmlfmeffjodhmaaZ8S5
set_option linter.all false
namespace Go.Proofs.Ytmlfmeffjodhmaa
open Go.K Go.M
theorem bv_and1 (m : Nat) : (BitVec.ofInt 64 (m : Int) &&& BitVec.ofInt 64 1).toNat = m % 2 := by
  have h1 : BitVec.ofInt 64 (m : Int) = BitVec.ofNat 64 m := by
    apply BitVec.eq_of_toNat_eq
    simp [BitVec.toNat_ofInt]
  have h2 : BitVec.ofInt 64 1 = BitVec.ofNat 64 1 := rfl
  rw [h1, h2, BitVec.toNat_and, BitVec.toNat_ofNat, BitVec.toNat_ofNat]
  rw [show 1 % 2 ^ 64 = 1 from rfl, Nat.and_one_is_mod]
  omega
theorem bit_u64 (s i : Nat) (hi : i < 64) : bitI .and .u64 (shrI .u64 (s : Int) (i : Int)) 1 = ((s / 2 ^ i % 2 : Nat) : Int) := by
  have h : shrI .u64 (s : Int) (i : Int) = ((s / 2 ^ i : Nat) : Int) := by
    unfold shrI
    rw [show min (Int.toNat (i : Int)) IntKind.u64.bits = i by simp [IntKind.bits]; omega]
    rw [show ((2 : Int) ^ i) = ((2 ^ i : Nat) : Int) by simp, Int.fdiv_eq_ediv_of_nonneg _ (Int.natCast_nonneg (2 ^ i))]
    rfl
  rw [h]
  unfold bitI
  simp only []
  rw [show IntKind.u64.bits = 64 from rfl, bv_and1]
  have : s / 2 ^ i % 2 < 2 := Nat.mod_lt _ (by omega)
  simp [IntKind.wrap, IntKind.bits, IntKind.signed]
  omega
theorem bit_i64 (s i : Nat) (hi : i < 64) : bitI .and .i64 (shrI .i64 (s : Int) (i : Int)) 1 = ((s / 2 ^ i % 2 : Nat) : Int) := by
  have h : shrI .i64 (s : Int) (i : Int) = ((s / 2 ^ i : Nat) : Int) := by
    unfold shrI
    rw [show min (Int.toNat (i : Int)) IntKind.i64.bits = i by simp [IntKind.bits]; omega]
    rw [show ((2 : Int) ^ i) = ((2 ^ i : Nat) : Int) by simp, Int.fdiv_eq_ediv_of_nonneg _ (Int.natCast_nonneg (2 ^ i))]
    rfl
  rw [h]
  unfold bitI
  simp only []
  rw [show IntKind.i64.bits = 64 from rfl, bv_and1]
  have : s / 2 ^ i % 2 < 2 := Nat.mod_lt _ (by omega)
  simp [IntKind.wrap, IntKind.bits, IntKind.signed]
  omega
def elB (s i : Nat) : Bool := s / 2 ^ i % 2 == 1
def elems (s n : Nat) : List Nat := (List.range n).filter (elB s)
abbrev ints (l : List Nat) : List Int := l.map fun (i : Nat) => (i : Int)
theorem bitI_one (s i : Nat) (hi : i < 64) : decide ((bitI .and .i64 (shrI .i64 (s : Int) (i : Int)) 1) = 1) = elB s i := by
  rw [bit_i64 s i hi]
  unfold elB
  have : s / 2 ^ i % 2 < 2 := Nat.mod_lt _ (by omega)
  by_cases h : s / 2 ^ i % 2 = 1
  · simp [h]
  · have h0 : s / 2 ^ i % 2 = 0 := by omega
    simp [h0]
theorem elems_succ (s n : Nat) : elems s (n + 1) = elems s n ++ (if elB s n = true then [n] else []) := by
  unfold elems
  rw [List.range_succ, List.filter_append]
  congr 1
  by_cases h : elB s n = true
  · simp [h]
  · simp [h]
theorem members_eq (s : Nat) : ref46_members (s : Int) = some (ints (elems s 12)) := by
  have hloop : ∃ o, ref46_membersL0 (s : Int) (0, []) = some o ∧ o = .inl (ints (elems s 12)) := by
    refine loop_inv (fun (st : Int × List Int) => ∃ i : Nat, i ≤ 12 ∧ st = ((i : Int), ints (elems s i))) (fun st => (12 - st.1).toNat) (fun (o : (List Int) ⊕ (List Int)) => o = .inl (ints (elems s 12))) _ ⟨0, by omega, rfl⟩ (by show (12 - (0 : Int)).toNat < many; decide) ?_
    rintro _ ⟨i, hi, rfl⟩
    by_cases h : i < 12
    · have hb := bitI_one s i (by omega)
      have hlen : (ints (elems s i)).length ≤ 12 := by
        simp only [ints, List.length_map, elems]
        have := List.length_filter_le (elB s) (List.range i)
        simp only [List.length_range] at this
        omega
      refine ⟨.next (((i + 1 : Nat) : Int), ints (elems s (i + 1))), ?_, ⟨i + 1, by omega, rfl⟩, by show (12 - ((i + 1 : Nat) : Int)).toNat < (12 - (i : Int)).toNat; omega⟩
      rw [elems_succ]
      cases he : elB s i with
      | true =>
        rw [he] at hb
        simp only [ref46_membersL0K, hb]
        simp (disch := omega) only [ckB_ix, ckB_inR, ckB_room, ckB_cut, ckB_mk, ckB_ne, bif_lt, bif_nlt, bif_le, bif_nle, bif_eq, bif_neq, bif_ne, bif_nne, bif_not, bif_true', bif_false', bnd_ok, lk_inl, lk_inr, Int.toNat_natCast, decide_true]
        simp [ints, ckB]
      | false =>
        rw [he] at hb
        simp only [ref46_membersL0K, hb]
        simp (disch := omega) only [ckB_ix, ckB_inR, ckB_room, ckB_cut, ckB_mk, ckB_ne, bif_lt, bif_nlt, bif_le, bif_nle, bif_eq, bif_neq, bif_ne, bif_nne, bif_not, bif_true', bif_false', bnd_ok, lk_inl, lk_inr, Int.toNat_natCast, decide_true]
        simp [ckB]
    · have e : i = 12 := by omega
      subst e
      exact ⟨.done _, rfl, rfl⟩
  obtain ⟨o, ho, rfl⟩ := hloop
  unfold ref46_members
  rw [ho, bnd_ok]
  rfl
def hits (rows : List (List Bool)) (s n k : Nat) : Bool := (List.range n).any fun i => elB s i && (rows.getD i []).getD k false
theorem hits_succ (rows : List (List Bool)) (s n k : Nat) : hits rows s (n + 1) k = (hits rows s n k || (elB s n && (rows.getD n []).getD k false)) := by
  unfold hits
  rw [List.range_succ, List.any_append]
  simp
theorem countL0_eq (rows : List (List Bool)) (P s k : Nat) (nn : Int) (hn : rows.length ≤ 60) (hP : ∀ i, i < rows.length → (rows.getD i []).length = P) (hk : k < P) : ref46_countL0 rows (P : Int) (s : Int) nn (k : Int) (false, 0) = some (.inl (hits rows s rows.length k)) := by
  have hloop : ∃ o, ref46_countL0 rows (P : Int) (s : Int) nn (k : Int) (false, 0) = some o ∧ o = .inl (hits rows s rows.length k) := by
    refine loop_inv (fun (st : Bool × Int) => ∃ i : Nat, i ≤ rows.length ∧ st = (hits rows s i k, (i : Int))) (fun st => ((rows.length : Int) - st.2).toNat) (fun (o : Bool ⊕ Int) => o = .inl (hits rows s rows.length k)) _ ⟨0, by omega, rfl⟩ (by show ((rows.length : Int) - 0).toNat < many; unfold many; omega) ?_
    rintro _ ⟨i, hi, rfl⟩
    by_cases h : i < rows.length
    · refine ⟨.next (hits rows s (i + 1) k, ((i + 1 : Nat) : Int)), ?_, ⟨i + 1, by omega, rfl⟩, by show ((rows.length : Int) - ((i + 1 : Nat) : Int)).toNat < ((rows.length : Int) - (i : Int)).toNat; omega⟩
      have hb := bitI_one s i (by omega)
      have hl := hP i h
      rw [hits_succ]
      cases hh : hits rows s i k with
      | true =>
        simp only [ref46_countL0K]
        simp (disch := omega) only [ckB_ix, ckB_inR, ckB_room, ckB_cut, ckB_mk, ckB_ne, bif_lt, bif_nlt, bif_le, bif_nle, bif_eq, bif_neq, bif_ne, bif_nne, bif_not, bif_true', bif_false', bnd_ok, lk_inl, lk_inr, Int.toNat_natCast, decide_true]
        simp [ckB]
      | false =>
        cases he : elB s i with
        | true =>
          rw [he] at hb
          have hix : ix (k : Int) (rows.getD i []).length = true := by
            rw [hl]
            simp only [ix, Bool.and_eq_true, decide_eq_true_eq]
            omega
          simp only [ref46_countL0K, hb, Int.toNat_natCast, hix]
          simp (disch := omega) only [ckB_ix, ckB_inR, ckB_room, ckB_cut, ckB_mk, ckB_ne, bif_lt, bif_nlt, bif_le, bif_nle, bif_eq, bif_neq, bif_ne, bif_nne, bif_not, bif_true', bif_false', bnd_ok, lk_inl, lk_inr, Int.toNat_natCast, decide_true]
          simp [ckB]
        | false =>
          rw [he] at hb
          simp only [ref46_countL0K, hb]
          simp (disch := omega) only [ckB_ix, ckB_inR, ckB_room, ckB_cut, ckB_mk, ckB_ne, bif_lt, bif_nlt, bif_le, bif_nle, bif_eq, bif_neq, bif_ne, bif_nne, bif_not, bif_true', bif_false', bnd_ok, lk_inl, lk_inr, Int.toNat_natCast, decide_true]
          simp [ckB]
    · have e : i = rows.length := by omega
      subst e
      refine ⟨.done (hits rows s rows.length k), ?_, rfl⟩
      simp only [ref46_countL0K]
      simp (disch := omega) only [ckB_ix, ckB_inR, ckB_room, ckB_cut, ckB_mk, ckB_ne, bif_lt, bif_nlt, bif_le, bif_nle, bif_eq, bif_neq, bif_ne, bif_nne, bif_not, bif_true', bif_false', bnd_ok, lk_inl, lk_inr, Int.toNat_natCast, decide_true]
  obtain ⟨o, ho, rfl⟩ := hloop
  exact ho
def cntH (rows : List (List Bool)) (s n P : Nat) : Nat := ((List.range P).filter (hits rows s n)).length
theorem cntH_le (rows : List (List Bool)) (s n P : Nat) : cntH rows s n P ≤ P := by
  unfold cntH
  have := List.length_filter_le (hits rows s n) (List.range P)
  simpa using this
theorem cntH_succ (rows : List (List Bool)) (s n P : Nat) : cntH rows s n (P + 1) = cntH rows s n P + (if hits rows s n P = true then 1 else 0) := by
  unfold cntH
  rw [List.range_succ, List.filter_append, List.length_append]
  congr 1
  by_cases h : hits rows s n P = true
  · simp [h]
  · simp [h]
theorem count_eq (rows : List (List Bool)) (P s : Nat) (hn : rows.length ≤ 60) (hP : ∀ i, i < rows.length → (rows.getD i []).length = P) (hP1 : P ≤ 1000) : ref46_count rows (P : Int) (s : Int) = some (cntH rows s rows.length P : Int) := by
  have hloop : ∃ o, ref46_countL1 rows (P : Int) (s : Int) (0, 0) = some o ∧ o = .inl (cntH rows s rows.length P : Int) := by
    refine loop_inv (fun (st : Int × Int) => ∃ k : Nat, k ≤ P ∧ st = ((cntH rows s rows.length k : Int), (k : Int))) (fun st => ((P : Int) - st.2).toNat) (fun (o : Int ⊕ Int) => o = .inl (cntH rows s rows.length P : Int)) _ ⟨0, by omega, rfl⟩ (by show ((P : Int) - 0).toNat < many; unfold many; omega) ?_
    rintro _ ⟨k, hk, rfl⟩
    have hc := cntH_le rows s rows.length k
    by_cases h : k < P
    · refine ⟨.next ((cntH rows s rows.length (k + 1) : Int), ((k + 1 : Nat) : Int)), ?_, ⟨k + 1, by omega, rfl⟩, by show ((P : Int) - ((k + 1 : Nat) : Int)).toNat < ((P : Int) - (k : Int)).toNat; omega⟩
      have h0 := countL0_eq rows P s k (cntH rows s rows.length k : Int) hn hP h
      rw [cntH_succ]
      cases hh : hits rows s rows.length k with
      | true =>
        rw [hh] at h0
        simp only [ref46_countL1K, h0, bnd_ok, lk_inl]
        simp (disch := omega) only [ckB_ix, ckB_inR, ckB_room, ckB_cut, ckB_mk, ckB_ne, bif_lt, bif_nlt, bif_le, bif_nle, bif_eq, bif_neq, bif_ne, bif_nne, bif_not, bif_true', bif_false', bnd_ok, lk_inl, lk_inr, Int.toNat_natCast, decide_true]
        simp [ckB]
      | false =>
        rw [hh] at h0
        simp only [ref46_countL1K, h0, bnd_ok, lk_inl]
        simp (disch := omega) only [ckB_ix, ckB_inR, ckB_room, ckB_cut, ckB_mk, ckB_ne, bif_lt, bif_nlt, bif_le, bif_nle, bif_eq, bif_neq, bif_ne, bif_nne, bif_not, bif_true', bif_false', bnd_ok, lk_inl, lk_inr, Int.toNat_natCast, decide_true]
        simp [ckB]
    · have e : k = P := by omega
      subst e
      refine ⟨.done (cntH rows s rows.length k : Int), ?_, rfl⟩
      simp only [ref46_countL1K]
      simp (disch := omega) only [ckB_ix, ckB_inR, ckB_room, ckB_cut, ckB_mk, ckB_ne, bif_lt, bif_nlt, bif_le, bif_nle, bif_eq, bif_neq, bif_ne, bif_nne, bif_not, bif_true', bif_false', bnd_ok, lk_inl, lk_inr, Int.toNat_natCast, decide_true]
  obtain ⟨o, ho, rfl⟩ := hloop
  unfold ref46_count
  rw [ho, bnd_ok]
  rfl
def lexB : List Int → List Int → Bool
  | a :: l, b :: m => if a = b then lexB l m else decide (a < b)
  | _, _ => false
theorem lexB_drop (a b : List Int) (i : Nat) (ha : i < a.length) (hb : i < b.length) : lexB (a.drop i) (b.drop i) = if a.getD i 0 = b.getD i 0 then lexB (a.drop (i + 1)) (b.drop (i + 1)) else decide (a.getD i 0 < b.getD i 0) := by
  rw [List.drop_eq_getElem_cons ha, List.drop_eq_getElem_cons hb]
  simp only [lexB, List.getD_eq_getElem?_getD, List.getElem?_eq_getElem ha, List.getElem?_eq_getElem hb, Option.getD_some]
def firstB (a b : List Int) : Bool := if a.length = b.length then lexB a b else decide (a.length < b.length)
theorem first_eq (a b : List Int) (ha : a.length ≤ 1000) : ref46_first a b = some (firstB a b) := by
  unfold ref46_first firstB
  by_cases hl : a.length = b.length
  · have hloop : ∃ o, ref46_firstL0 a b 0 = some o ∧ (match o with | .inl _ => lexB a b = false | .inr r => r = lexB a b) := by
      refine loop_inv (fun (st : Int) => ∃ i : Nat, i ≤ a.length ∧ st = (i : Int) ∧ lexB (a.drop i) (b.drop i) = lexB a b) (fun st => ((a.length : Int) - st).toNat) (fun (o : Unit ⊕ Bool) => match o with | .inl _ => lexB a b = false | .inr r => r = lexB a b) _ ⟨0, by omega, rfl, rfl⟩ (by show ((a.length : Int) - 0).toNat < many; unfold many; omega) ?_
      rintro _ ⟨i, hi, rfl, he⟩
      by_cases h : i < a.length
      · rw [lexB_drop a b i h (by omega)] at he
        by_cases heq : a.getD i 0 = b.getD i 0
        · rw [if_pos heq] at he
          refine ⟨.next (((i + 1 : Nat) : Int)), ?_, ⟨i + 1, by omega, rfl, he⟩, by show ((a.length : Int) - ((i + 1 : Nat) : Int)).toNat < ((a.length : Int) - (i : Int)).toNat; omega⟩
          have hd : decide (a.getD i 0 = b.getD i 0) = true := decide_eq_true heq
          simp only [ref46_firstL0K, Int.toNat_natCast, hd]
          simp (disch := omega) only [ckB_ix, ckB_inR, ckB_room, ckB_cut, ckB_mk, ckB_ne, bif_lt, bif_nlt, bif_le, bif_nle, bif_eq, bif_neq, bif_ne, bif_nne, bif_not, bif_true', bif_false', bnd_ok, lk_inl, lk_inr, Int.toNat_natCast, decide_true]
          simp [ckB]
        · rw [if_neg heq] at he
          refine ⟨.ret (lexB a b), ?_, rfl⟩
          have hd : decide (a.getD i 0 = b.getD i 0) = false := decide_eq_false heq
          rw [← he]
          simp only [ref46_firstL0K, Int.toNat_natCast, hd]
          simp (disch := omega) only [ckB_ix, ckB_inR, ckB_room, ckB_cut, ckB_mk, ckB_ne, bif_lt, bif_nlt, bif_le, bif_nle, bif_eq, bif_neq, bif_ne, bif_nne, bif_not, bif_true', bif_false', bnd_ok, lk_inl, lk_inr, Int.toNat_natCast, decide_true]
      · have e : i = a.length := by omega
        subst e
        refine ⟨.done (), ?_, ?_⟩
        · simp only [ref46_firstL0K]
          simp (disch := omega) only [ckB_ix, ckB_inR, ckB_room, ckB_cut, ckB_mk, ckB_ne, bif_lt, bif_nlt, bif_le, bif_nle, bif_eq, bif_neq, bif_ne, bif_nne, bif_not, bif_true', bif_false', bnd_ok, lk_inl, lk_inr, Int.toNat_natCast, decide_true]
        · show lexB a b = false
          rw [← he, List.drop_length, hl, List.drop_length]
          rfl
    obtain ⟨o, ho, hp⟩ := hloop
    rw [if_pos hl, show (!decide ((a.length : Int) = (b.length : Int))) = false by simp [hl], ho]
    cases o with
    | inl u => rw [hp]; rfl
    | inr r => rw [hp]; rfl
  · have : ¬ (a.length : Int) = (b.length : Int) := by omega
    rw [if_neg hl, show (!decide ((a.length : Int) = (b.length : Int))) = true by simp [this]]
    show some (decide _) = _
    congr 1
    simp
theorem cmp_eq (x y : Int) : cmp_Compare_int x y = some (if x < y then -1 else if y < x then 1 else 0) := by
  have h1 : cmp_isNaN_int x = some false := by unfold cmp_isNaN_int; simp
  have h2 : cmp_isNaN_int y = some false := by unfold cmp_isNaN_int; simp
  unfold cmp_Compare_int
  rw [h1, bnd_ok, h2, bnd_ok]
  by_cases a : x < y
  · simp [a]
  · by_cases b : y < x
    · simp [a, b]
    · simp [a, b]
theorem compare_eq (a b : List Int) (hl : a.length = b.length) (ha : a.length ≤ 1000) : ∃ r, slices_Compare_int_int a b = some r ∧ decide (r < 0) = lexB a b := by
  have hloop : ∃ o, slices_Compare_int_intL0 a b a (a.length : Int) 0 = some o ∧ (match o with | .inl _ => lexB a b = false | .inr r => decide (r < 0) = lexB a b) := by
    refine loop_inv (fun (st : Int) => ∃ i : Nat, i ≤ a.length ∧ st = (i : Int) ∧ lexB (a.drop i) (b.drop i) = lexB a b) (fun st => ((a.length : Int) - st).toNat) (fun (o : Unit ⊕ Int) => match o with | .inl _ => lexB a b = false | .inr r => decide (r < 0) = lexB a b) _ ⟨0, by omega, rfl, rfl⟩ (by show ((a.length : Int) - 0).toNat < many; unfold many; omega) ?_
    rintro _ ⟨i, hi, rfl, he⟩
    by_cases h : i < a.length
    · rw [lexB_drop a b i h (by omega)] at he
      have hc := cmp_eq (a.getD i 0) (b.getD i 0)
      by_cases heq : a.getD i 0 = b.getD i 0
      · rw [if_pos heq] at he
        rw [if_neg (by omega), if_neg (by omega)] at hc
        refine ⟨.next (((i + 1 : Nat) : Int)), ?_, ⟨i + 1, by omega, rfl, he⟩, by show ((a.length : Int) - ((i + 1 : Nat) : Int)).toNat < ((a.length : Int) - (i : Int)).toNat; omega⟩
        simp only [slices_Compare_int_intL0K, Int.toNat_natCast, hc]
        simp (disch := omega) only [ckB_ix, ckB_inR, ckB_room, ckB_cut, ckB_mk, ckB_ne, bif_lt, bif_nlt, bif_le, bif_nle, bif_eq, bif_neq, bif_ne, bif_nne, bif_not, bif_true', bif_false', bnd_ok, lk_inl, lk_inr, Int.toNat_natCast, decide_true]
        simp [ckB]
      · rw [if_neg heq] at he
        by_cases hlt : a.getD i 0 < b.getD i 0
        · rw [if_pos hlt] at hc
          refine ⟨.ret (-1), ?_, ?_⟩
          · simp only [slices_Compare_int_intL0K, Int.toNat_natCast, hc]
            simp (disch := omega) only [ckB_ix, ckB_inR, ckB_room, ckB_cut, ckB_mk, ckB_ne, bif_lt, bif_nlt, bif_le, bif_nle, bif_eq, bif_neq, bif_ne, bif_nne, bif_not, bif_true', bif_false', bnd_ok, lk_inl, lk_inr, Int.toNat_natCast, decide_true]
          · show decide ((-1 : Int) < 0) = lexB a b
            rw [← he, decide_eq_true hlt]
            rfl
        · rw [if_neg hlt, if_pos (by omega)] at hc
          refine ⟨.ret 1, ?_, ?_⟩
          · simp only [slices_Compare_int_intL0K, Int.toNat_natCast, hc]
            simp (disch := omega) only [ckB_ix, ckB_inR, ckB_room, ckB_cut, ckB_mk, ckB_ne, bif_lt, bif_nlt, bif_le, bif_nle, bif_eq, bif_neq, bif_ne, bif_nne, bif_not, bif_true', bif_false', bnd_ok, lk_inl, lk_inr, Int.toNat_natCast, decide_true]
          · show decide ((1 : Int) < 0) = lexB a b
            rw [← he, decide_eq_false hlt]
            rfl
    · have e : i = a.length := by omega
      subst e
      refine ⟨.done (), ?_, ?_⟩
      · simp only [slices_Compare_int_intL0K]
        simp (disch := omega) only [ckB_ix, ckB_inR, ckB_room, ckB_cut, ckB_mk, ckB_ne, bif_lt, bif_nlt, bif_le, bif_nle, bif_eq, bif_neq, bif_ne, bif_nne, bif_not, bif_true', bif_false', bnd_ok, lk_inl, lk_inr, Int.toNat_natCast, decide_true]
      · show lexB a b = false
        rw [← he, List.drop_length, hl, List.drop_length]
        rfl
  obtain ⟨o, ho, hp⟩ := hloop
  unfold slices_Compare_int_int
  rw [ho, bnd_ok]
  cases o with
  | inl u =>
    refine ⟨0, ?_, by rw [hp]; rfl⟩
    show (bif decide ((a.length : Int) < (b.length : Int)) then some (-1) else some 0) = _
    rw [decide_eq_false (by omega)]
    rfl
  | inr r => exact ⟨r, rfl, hp⟩
def bestN (bad : Nat → Bool) : Nat → List Int
  | 0 => []
  | m + 1 => if bad (m + 1) = true ∧ (bestN bad m = [] ∨ firstB (ints (elems (m + 1) 12)) (bestN bad m) = true) then ints (elems (m + 1) 12) else bestN bad m
theorem bits_zero (s : Nat) : ∀ n, s < 2 ^ n → (∀ i, i < n → s / 2 ^ i % 2 = 0) → s = 0
  | 0, h, _ => by simp at h; exact h
  | n + 1, h, hk => by
    have h1 := hk n (by omega)
    have h2 : s / 2 ^ n < 2 := (Nat.div_lt_iff_lt_mul (Nat.two_pow_pos n)).2 (by rw [Nat.pow_succ] at h; omega)
    have h3 : s / 2 ^ n = 0 := by
      generalize s / 2 ^ n = q at h1 h2
      omega
    have h4 : s < 2 ^ n := by
      rcases (Nat.div_eq_zero_iff).1 h3 with e | e
      · have := Nat.two_pow_pos n; omega
      · exact e
    exact bits_zero s n h4 fun i hi => hk i (by omega)
theorem elems_ne (m : Nat) (h : m + 1 < 4096) : elems (m + 1) 12 ≠ [] := by
  intro e
  have key : ∀ i, i < 12 → (m + 1) / 2 ^ i % 2 = 0 := by
    intro i hi
    have h2 : ¬ elB (m + 1) i = true := fun hb => by
      have : i ∈ elems (m + 1) 12 := List.mem_filter.2 ⟨List.mem_range.2 hi, hb⟩
      rw [e] at this
      cases this
    unfold elB at h2
    have : (m + 1) / 2 ^ i % 2 < 2 := Nat.mod_lt _ (by omega)
    simp only [beq_iff_eq] at h2
    omega
  have := bits_zero (m + 1) 12 h key
  omega
theorem pow12 {n : Nat} (h : n ≤ 12) : 2 ^ n ≤ 4096 := Nat.le_trans (Nat.pow_le_pow_right (by omega) h) (by decide)
theorem shl_one {n : Nat} (h : n ≤ 12) : shlI .i64 1 (n : Int) = ((2 ^ n : Nat) : Int) := by
  have hp := pow12 h
  unfold shlI
  rw [show min (Int.toNat (n : Int)) IntKind.i64.bits = n by simp [IntKind.bits]; omega, show ((1 : Int) * 2 ^ n) = ((2 ^ n : Nat) : Int) by simp]
  generalize 2 ^ n = q at hp
  simp [IntKind.wrap, IntKind.bits, IntKind.signed]
  omega
def badR (rows : List (List Bool)) (P s : Nat) : Bool := decide (cntH rows s rows.length P < (elems s 12).length)
theorem refblock_eq (rows : List (List Bool)) (P : Nat) (hn : rows.length ≤ 12) (hP : ∀ i, i < rows.length → (rows.getD i []).length = P) (hP1 : P ≤ 1000) :
    ref46_blocking rows (P : Int) = some (bestN (badR rows P) (2 ^ rows.length - 1), !decide (bestN (badR rows P) (2 ^ rows.length - 1) = [])) := by
  have hp := pow12 hn
  have hpos : 0 < 2 ^ rows.length := Nat.two_pow_pos _
  have hloop : ∃ o, ref46_blockingL0 rows (P : Int) ([], false, 1) = some o ∧ o = .inl (bestN (badR rows P) (2 ^ rows.length - 1), !decide (bestN (badR rows P) (2 ^ rows.length - 1) = [])) := by
    refine loop_inv (fun (st : List Int × Bool × Int) => ∃ m : Nat, m < 2 ^ rows.length ∧ st = (bestN (badR rows P) m, !decide (bestN (badR rows P) m = []), ((m + 1 : Nat) : Int))) (fun st => ((2 ^ rows.length : Nat) - st.2.2).toNat) (fun (o : (List Int × Bool) ⊕ (List Int × Bool)) => o = .inl (bestN (badR rows P) (2 ^ rows.length - 1), !decide (bestN (badR rows P) (2 ^ rows.length - 1) = []))) _ ⟨0, hpos, rfl⟩ (by show (((2 ^ rows.length : Nat) : Int) - 1).toNat < many; unfold many; omega) ?_
    rintro _ ⟨m, hm, rfl⟩
    by_cases h : m + 1 < 2 ^ rows.length
    · refine ⟨.next (bestN (badR rows P) (m + 1), !decide (bestN (badR rows P) (m + 1) = []), ((m + 1 + 1 : Nat) : Int)), ?_, ⟨m + 1, h, rfl⟩, by show (((2 ^ rows.length : Nat) : Int) - ((m + 1 + 1 : Nat) : Int)).toNat < (((2 ^ rows.length : Nat) : Int) - ((m + 1 : Nat) : Int)).toNat; omega⟩
      have h1 := members_eq (m + 1)
      have h2 := count_eq rows P (m + 1) (by omega) hP hP1
      have hne := elems_ne m (by omega)
      have hne' : ints (elems (m + 1) 12) ≠ [] := fun e => hne (List.map_eq_nil_iff.1 e)
      have hlen : (ints (elems (m + 1) 12)).length ≤ 12 := by
        simp only [ints, List.length_map, elems]
        have := List.length_filter_le (elB (m + 1)) (List.range 12)
        simpa using this
      have hf := first_eq (ints (elems (m + 1) 12)) (bestN (badR rows P) m) (by omega)
      have hd1 : decide ((((m + 1 : Nat)) : Int) < ((2 ^ rows.length : Nat) : Int)) = true := decide_eq_true (by omega)
      have hll : (ints (elems (m + 1) 12)).length = (elems (m + 1) 12).length := List.length_map _
      simp only [ref46_blockingL0K, shl_one hn, hd1, h1, h2, bnd_ok]
      generalize hq : 2 ^ rows.length = q at *
      have hb : decide ((cntH rows (m + 1) rows.length P : Int) < ((ints (elems (m + 1) 12)).length : Int)) = badR rows P (m + 1) := by
        unfold badR
        rw [hll]
        exact decide_eq_decide.2 (by omega)
      rw [hb, bestN]
      cases hbad : badR rows P (m + 1) with
      | false => simp (disch := omega) only [ckB_ix, ckB_inR, ckB_room, ckB_cut, ckB_mk, ckB_ne, bif_lt, bif_nlt, bif_le, bif_nle, bif_eq, bif_neq, bif_ne, bif_nne, bif_not, bif_true', bif_false', bnd_ok, lk_inl, lk_inr, Int.toNat_natCast, decide_true]; simp [ckB]
      | true =>
        by_cases he : bestN (badR rows P) m = []
        · rw [if_pos ⟨rfl, .inl he⟩, decide_eq_true he, decide_eq_false hne']
          simp (disch := omega) only [ckB_ix, ckB_inR, ckB_room, ckB_cut, ckB_mk, ckB_ne, bif_lt, bif_nlt, bif_le, bif_nle, bif_eq, bif_neq, bif_ne, bif_nne, bif_not, bif_true', bif_false', bnd_ok, lk_inl, lk_inr, Int.toNat_natCast, decide_true]
          simp [ckB]
        · rw [decide_eq_false he, hf, bnd_ok]
          cases hfb : firstB (ints (elems (m + 1) 12)) (bestN (badR rows P) m) with
          | true =>
            rw [if_pos ⟨rfl, .inr rfl⟩, decide_eq_false hne']
            simp (disch := omega) only [ckB_ix, ckB_inR, ckB_room, ckB_cut, ckB_mk, ckB_ne, bif_lt, bif_nlt, bif_le, bif_nle, bif_eq, bif_neq, bif_ne, bif_nne, bif_not, bif_true', bif_false', bnd_ok, lk_inl, lk_inr, Int.toNat_natCast, decide_true]
            simp [ckB]
          | false =>
            rw [if_neg (by simp [he]), decide_eq_false he]
            simp (disch := omega) only [ckB_ix, ckB_inR, ckB_room, ckB_cut, ckB_mk, ckB_ne, bif_lt, bif_nlt, bif_le, bif_nle, bif_eq, bif_neq, bif_ne, bif_nne, bif_not, bif_true', bif_false', bnd_ok, lk_inl, lk_inr, Int.toNat_natCast, decide_true]
            simp [ckB]
    · have e : m = 2 ^ rows.length - 1 := by omega
      subst e
      refine ⟨.done (bestN (badR rows P) (2 ^ rows.length - 1), !decide (bestN (badR rows P) (2 ^ rows.length - 1) = [])), ?_, rfl⟩
      have hd1 : decide ((((2 ^ rows.length - 1 + 1 : Nat)) : Int) < ((2 ^ rows.length : Nat) : Int)) = false := decide_eq_false (by omega)
      simp only [ref46_blockingL0K, shl_one hn, hd1]
      simp (disch := omega) only [ckB_ix, ckB_inR, ckB_room, ckB_cut, ckB_mk, ckB_ne, bif_lt, bif_nlt, bif_le, bif_nle, bif_eq, bif_neq, bif_ne, bif_nne, bif_not, bif_true', bif_false', bnd_ok, lk_inl, lk_inr, Int.toNat_natCast, decide_true]
      rw [decide_eq_true (by omega)]
      rfl
  obtain ⟨o, ho, rfl⟩ := hloop
  unfold ref46_blocking
  rw [ho, bnd_ok]
  rfl
end Go.Proofs.Ytmlfmeffjodhmaa
