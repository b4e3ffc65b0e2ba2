/-
  Graphs: strong components in order: the reference's list.
-/
import Derived.Test.YtmcmlloigphbeaaP15
set_option linter.all false
namespace Go.Proofs.Ytmcmlloigphbeaa
open Go.K Go.M

section
variable {N n : Nat} {E : List St4} {cl : Nat → Int} {T : List Nat}

theorem W_rch {a v : Nat} : (∃ k, W E (fun x => x = a) k v) ↔ Rch E a v := by
  constructor
  · rintro ⟨k, h⟩
    induction k generalizing v with
    | zero => have : v = a := h; subst this; exact .refl _
    | succ k ih =>
      obtain ⟨e, he, hW, hd⟩ := h
      exact .step (ih hW) ⟨e, he, rfl, hd⟩
  · intro h
    induction h with
    | refl => exact ⟨0, rfl⟩
    | step _ ha ih =>
      obtain ⟨k, hk⟩ := ih
      obtain ⟨e, he, h1, h2⟩ := ha
      exact ⟨k + 1, e, he, by rw [h1]; exact hk, h2⟩
theorem W_rch_turn {b v : Nat} : (∃ k, W (E.map swapE) (fun x => x = b) k v) ↔ Rch E v b :=
  ⟨fun ⟨k, h⟩ => W_rch.1 ⟨k, W_turn h⟩, fun h => by obtain ⟨k, hk⟩ := W_rch.2 h; exact ⟨k, W_turn' hk⟩⟩
theorem Rch.lt (hv : VE N E) {u w : Nat} (h : Rch E u w) (hu : u < N) : w < N := by
  cases h with
  | refl => exact hu
  | step _ ha =>
    obtain ⟨e, he, _, hd⟩ := ha
    have := hv.mem he
    have : dst e = w := hd
    show w < N
    rw [← this]
    show Int.toNat e.2.1 < N
    omega

theorem refClassL0_eq (hN : N ≤ 1000) (m1 m2 : Nat → Bool) (E : List St4) : ref04_classL0 (tab N m2) (N : Int) E (0, tab N m1) = some (.inl (tab N fun v => m1 v && m2 v)) := by
  refine loop_to (fun i : Nat => ((i : Int), tab N fun v => if v < i then m1 v && m2 v else m1 v)) N (many_of (by omega)) _ ?_ ?_ _ (by simp)
  · intro i hi
    have hii : ¬ i < i := Nat.lt_irrefl i
    cases hm : m1 i with
    | true =>
      simp (disch := omega) only [ref04_classL0K, tab_len, tab_getD hi, if_neg hii, hm, tab_set, ckB_ix, ckB_inR, ckB_room, ckB_cut, ckB_mk, ckB_ne, bif_lt, bif_nlt, bif_le, bif_nle, bif_eq, bif_neq, bif_ne, bif_nne, bif_not, bif_true', bif_false', bnd_ok, lk_inl, lk_inr, Int.toNat_natCast]
      simp only [Option.some.injEq, LR.next.injEq, Prod.mk.injEq]
      refine ⟨by omega, tab_congr fun v _ => ?_⟩
      by_cases e : v = i
      · subst e; simp [hm]
      · by_cases e2 : v < i
        · rw [if_neg e, if_pos e2, if_pos (by omega)]
        · rw [if_neg e, if_neg e2, if_neg (by omega)]
    | false =>
      simp (disch := omega) only [ref04_classL0K, tab_len, tab_getD hi, if_neg hii, hm, tab_set, ckB_ix, ckB_inR, ckB_room, ckB_cut, ckB_mk, ckB_ne, bif_lt, bif_nlt, bif_le, bif_nle, bif_eq, bif_neq, bif_ne, bif_nne, bif_not, bif_true', bif_false', bnd_ok, lk_inl, lk_inr, Int.toNat_natCast]
      simp only [Option.some.injEq, LR.next.injEq, Prod.mk.injEq]
      refine ⟨by omega, tab_congr fun v _ => ?_⟩
      by_cases e : v = i
      · subst e; simp [hm]
      · by_cases e2 : v < i
        · rw [if_neg e, if_pos e2, if_pos (by omega)]
        · rw [if_neg e, if_neg e2, if_neg (by omega)]
  · simp (disch := omega) only [ref04_classL0K, ckB_ix, ckB_inR, ckB_room, ckB_cut, ckB_mk, ckB_ne, bif_lt, bif_nlt, bif_le, bif_nle, bif_eq, bif_neq, bif_ne, bif_nne, bif_not, bif_true', bif_false', bnd_ok, lk_inl, lk_inr, Int.toNat_natCast]
    congr 2
    exact tab_congr fun v hv => if_pos hv

theorem refClass_eq {g : Graph} (hg : g.1 = (N : Int)) (hN : N ≤ 1000) (hE : g.2.1.length ≤ 20000) (hv : VE N g.2.1) {i : Nat} (hi : i < N) :
    ∃ m : Nat → Bool, ref04_class g (i : Int) = some (tab N m) ∧ ∀ v, v < N → (m v = true ↔ Rch g.2.1 i v ∧ Rch g.2.1 v i) := by
  obtain ⟨m1, h1, s1⟩ := Marks_eq hN hE hv (fun v => decide (v = Int.toNat (i : Int)))
  obtain ⟨m2, h2, s2⟩ := Marks_eq (g := (g.1, g.2.1.map swapE, ())) hN (by simpa using hE) hv.swap (fun v => decide (v = Int.toNat (i : Int)))
  refine ⟨fun v => m1 v && m2 v, ?_, fun v hv' => ?_⟩
  · unfold ref04_class
    rw [one_eq hg hN (by omega) (by omega), bnd_ok, h1, bnd_ok, ref04_Reverse_eq g hE, bnd_ok, bnd_ok, h2, bnd_ok, hg, refClassL0_eq hN, bnd_ok, lk_inl]
  · simp only [Bool.and_eq_true]
    rw [s1 v hv', s2 v hv', ← W_rch, ← W_rch_turn]
    have c : ∀ R k, W R (fun v => v < N ∧ decide (v = Int.toNat (i : Int)) = true) k v ↔ W R (fun v => v = i) k v := fun R k => W_congr (fun w => by
      simp only [Int.toNat_natCast, decide_eq_true_eq]
      exact ⟨fun h => h.2, fun h => ⟨by omega, h⟩⟩) k v
    simp only [c]

/-- The marks of the class of a vertex. -/
abbrev mk (N : Nat) (cl : Nat → Int) (c : Int) : List Bool := tab N fun v => decide (cl v = c)

theorem refClass_cl {g : Graph} {cc : Int} (hg : g.1 = (N : Int)) (hN : N ≤ 1000) (hE : g.2.1.length ≤ 20000) (hv : VE N g.2.1) (hC : CL N g.2.1 cc cl) {i : Nat} (hi : i < N) :
    ref04_class g (i : Int) = some (mk N cl (cl i)) := by
  obtain ⟨m, h, hm⟩ := refClass_eq hg hN hE hv hi
  rw [h]
  refine congrArg some (tab_congr fun v hv' => ?_)
  rw [Bool.eq_iff_iff, hm v hv', decide_eq_true_iff, eq_comm, hC.scc i v hi hv']

theorem refStrongL0_eq {g : Graph} {cc : Int} (hg : g.1 = (N : Int)) (hN : N ≤ 1000) (hE : g.2.1.length ≤ 20000) (hv : VE N g.2.1) (hC : CL N g.2.1 cc cl) :
    ref04_StrongL0 (N : Int) g.2.1 (0, []) = some (.inl (tab N fun i => mk N cl (cl i))) := by
  obtain ⟨a, E, u⟩ := g
  simp only at hg hE hv hC
  subst hg
  refine loop_to (fun i : Nat => ((i : Int), tab i fun i => mk N cl (cl i))) N (many_of (by omega)) _ ?_ ?_ _ rfl
  · intro i hi
    have := refClass_cl (g := ((N : Int), E, ())) rfl hN hE hv hC hi
    simp (disch := omega) only [ref04_StrongL0K, this, tab_len, ckB_ix, ckB_inR, ckB_room, ckB_cut, ckB_mk, ckB_ne, bif_lt, bif_nlt, bif_le, bif_nle, bif_eq, bif_neq, bif_ne, bif_nne, bif_not, bif_true', bif_false', bnd_ok, lk_inl, lk_inr, Int.toNat_natCast]
    rw [cast_succ]
    simp [tab, List.range_succ]
  · simp (disch := omega) only [ref04_StrongL0K, ckB_ix, ckB_inR, ckB_room, ckB_cut, ckB_mk, ckB_ne, bif_lt, bif_nlt, bif_le, bif_nle, bif_eq, bif_neq, bif_ne, bif_nne, bif_not, bif_true', bif_false', bnd_ok, lk_inl, lk_inr, Int.toNat_natCast]

theorem ready_eq (hE : E.length ≤ 20000) (hv : VE N E) (T : List Nat) (v : Nat) (a : Int) (hnt : tkB cl T (cl v) = false) :
    ref04_ready (a, E, ()) (mk N cl (cl v)) (tab N fun u => tkB cl T (cl u)) = some (rdyC E cl T (cl v)) := by
  unfold ref04_ready
  simp only
  have hloop : ref04_readyL0 (mk N cl (cl v)) (tab N fun u => tkB cl T (cl u)) a E 0 = some (bif (List.range E.length).all (fun i => !decide (cl (dst (E.getD i St4.z)) = cl v) || (decide (cl (src (E.getD i St4.z)) = cl v) || tkB cl T (cl (src (E.getD i St4.z))))) then .inl () else .inr false) := by
    refine loop_all (fun i : Nat => (i : Int)) E.length (many_of (by omega)) _ () false ?_ ?_ ?_
    · intro i hi hp
      obtain ⟨h1, h2, h3, h4⟩ := hv i hi
      have k1 : Int.toNat (E.getD i St4.z).1 < N := by omega
      have k2 : Int.toNat (E.getD i St4.z).2.1 < N := by omega
      by_cases hd : cl (Int.toNat (E.getD i St4.z).2.1) = cl v
      · by_cases hs : cl (Int.toNat (E.getD i St4.z).1) = cl v
        · simp (disch := omega) only [ref04_readyL0K, tab_len, tab_getD k1, tab_getD k2, hs, hd, decide_true, Bool.not_true, ckB_ix, ckB_inR, ckB_room, ckB_cut, ckB_mk, ckB_ne, bif_lt, bif_nlt, bif_le, bif_nle, bif_eq, bif_neq, bif_ne, bif_nne, bif_not, bif_true', bif_false', bnd_ok, lk_inl, lk_inr, Int.toNat_natCast]
          rw [cast_succ]
        · have ht : tkB cl T (cl (Int.toNat (E.getD i St4.z).1)) = true := by
            simp only [Bool.or_eq_true, Bool.not_eq_true', decide_eq_false_iff_not, decide_eq_true_eq] at hp
            exact (hp.resolve_left fun hn => hn hd).resolve_left hs
          have hs' : decide (cl (Int.toNat (E.getD i St4.z).1) = cl v) = false := by simpa using hs
          simp (disch := omega) only [ref04_readyL0K, tab_len, tab_getD k1, tab_getD k2, hs', hd, ht, decide_true, Bool.not_true, ckB_ix, ckB_inR, ckB_room, ckB_cut, ckB_mk, ckB_ne, bif_lt, bif_nlt, bif_le, bif_nle, bif_eq, bif_neq, bif_ne, bif_nne, bif_not, bif_true', bif_false', bnd_ok, lk_inl, lk_inr, Int.toNat_natCast]
          rw [cast_succ]
      · have hd' : decide (cl (Int.toNat (E.getD i St4.z).2.1) = cl v) = false := by simpa using hd
        simp (disch := omega) only [ref04_readyL0K, tab_len, tab_getD k1, tab_getD k2, hd', ckB_ix, ckB_inR, ckB_room, ckB_cut, ckB_mk, ckB_ne, bif_lt, bif_nlt, bif_le, bif_nle, bif_eq, bif_neq, bif_ne, bif_nne, bif_not, bif_true', bif_false', bnd_ok, lk_inl, lk_inr, Int.toNat_natCast]
        rw [cast_succ]
    · intro i hi hp
      obtain ⟨h1, h2, h3, h4⟩ := hv i hi
      have k1 : Int.toNat (E.getD i St4.z).1 < N := by omega
      have k2 : Int.toNat (E.getD i St4.z).2.1 < N := by omega
      simp only [Bool.or_eq_false_iff, Bool.not_eq_false', decide_eq_true_eq] at hp
      obtain ⟨p1, p2, p3⟩ := hp
      have p1' : decide (cl (Int.toNat (E.getD i St4.z).2.1) = cl v) = true := by simpa using p1
      simp (disch := omega) only [ref04_readyL0K, tab_len, tab_getD k1, tab_getD k2, p1', p2, p3, Bool.not_false, ckB_ix, ckB_inR, ckB_room, ckB_cut, ckB_mk, ckB_ne, bif_lt, bif_nlt, bif_le, bif_nle, bif_eq, bif_neq, bif_ne, bif_nne, bif_not, bif_true', bif_false', bnd_ok, lk_inl, lk_inr, Int.toNat_natCast]
    · simp (disch := omega) only [ref04_readyL0K, ckB_ix, ckB_inR, ckB_room, ckB_cut, ckB_mk, ckB_ne, bif_lt, bif_nlt, bif_le, bif_nle, bif_eq, bif_neq, bif_ne, bif_nne, bif_not, bif_true', bif_false', bnd_ok, lk_inl, lk_inr, Int.toNat_natCast]
  rw [hloop, bnd_ok]
  have hall : (List.range E.length).all (fun i => !decide (cl (dst (E.getD i St4.z)) = cl v) || (decide (cl (src (E.getD i St4.z)) = cl v) || tkB cl T (cl (src (E.getD i St4.z))))) = E.all fun e => !decide (cl (dst e) = cl v) || (decide (cl (src e) = cl v) || tkB cl T (cl (src e))) := by
    rw [Bool.eq_iff_iff, List.all_eq_true, List.all_eq_true]
    constructor
    · intro h e he
      obtain ⟨i, hi, rfl⟩ := mem_getD St4.z he
      exact h i (List.mem_range.2 hi)
    · intro h i hi
      exact h _ (getD_mem St4.z (List.mem_range.1 hi))
  rw [hall]
  unfold rdyC
  rw [hnt]
  cases (E.all fun e => !decide (cl (dst e) = cl v) || (decide (cl (src e) = cl v) || tkB cl T (cl (src e)))) <;> rfl

abbrev tkS (N : Nat) (cl : Nat → Int) (T : List Nat) : List Bool := tab N fun u => tkB cl T (cl u)

theorem refStrongL1_eq (hN : N ≤ 1000) (T : List Nat) {i : Nat} (hi : i < N) (E : List St4) (out : List (List Int)) :
    ref04_StrongL1 (tab N fun i => mk N cl (cl i)) (i : Int) (N : Int) E out (0, tkS N cl T) = some (.inl (tkS N cl (T ++ [i]))) := by
  refine loop_to (fun k : Nat => ((k : Int), tab N fun u => if u < k then tkB cl (T ++ [i]) (cl u) else tkB cl T (cl u))) N (many_of (by omega)) _ ?_ ?_ _ (by simp)
  · intro k hk
    have hkk : ¬ k < k := Nat.lt_irrefl k
    cases hm : tkB cl T (cl k) with
    | true =>
      simp (disch := omega) only [ref04_StrongL1K, tab_len, tab_getD hk, if_neg hkk, hm, tab_set, ckB_ix, ckB_inR, ckB_room, ckB_cut, ckB_mk, ckB_ne, bif_lt, bif_nlt, bif_le, bif_nle, bif_eq, bif_neq, bif_ne, bif_nne, bif_not, bif_true', bif_false', bnd_ok, lk_inl, lk_inr, Int.toNat_natCast]
      simp only [Option.some.injEq, LR.next.injEq, Prod.mk.injEq]
      refine ⟨by omega, tab_congr fun v _ => ?_⟩
      by_cases e : v = k
      · subst e
        rw [if_pos rfl, if_pos (by omega), tkB_add, hm]; rfl
      · by_cases e2 : v < k
        · rw [if_neg e, if_pos e2, if_pos (by omega)]
        · rw [if_neg e, if_neg e2, if_neg (by omega)]
    | false =>
      simp (disch := omega) only [ref04_StrongL1K, tab_len, tab_getD hk, tab_getD hi, if_neg hkk, hm, tab_set, ckB_ix, ckB_inR, ckB_room, ckB_cut, ckB_mk, ckB_ne, bif_lt, bif_nlt, bif_le, bif_nle, bif_eq, bif_neq, bif_ne, bif_nne, bif_not, bif_true', bif_false', bnd_ok, lk_inl, lk_inr, Int.toNat_natCast]
      simp only [Option.some.injEq, LR.next.injEq, Prod.mk.injEq]
      refine ⟨by omega, tab_congr fun v _ => ?_⟩
      by_cases e : v = k
      · subst e
        rw [if_pos rfl, if_pos (by omega), tkB_add, hm, Bool.false_or]
        exact decide_eq_decide.2 eq_comm
      · by_cases e2 : v < k
        · rw [if_neg e, if_pos e2, if_pos (by omega)]
        · rw [if_neg e, if_neg e2, if_neg (by omega)]
  · simp (disch := omega) only [ref04_StrongL1K, ckB_ix, ckB_inR, ckB_room, ckB_cut, ckB_mk, ckB_ne, bif_lt, bif_nlt, bif_le, bif_nle, bif_eq, bif_neq, bif_ne, bif_nne, bif_not, bif_true', bif_false', bnd_ok, lk_inl, lk_inr, Int.toNat_natCast]
    congr 2
    exact tab_congr fun v hv => if_pos hv

theorem sStep_no (hN : N ≤ 1000) (hE : E.length ≤ 20000) (hv : VE N E) (T : List Nat) {i : Nat} (hi : i < N) (hf : rdyC E cl T (cl i) = false) (o : List (List Int)) :
    ref04_StrongL3K (R := LR (Bool × Int × List (List Int) × List Bool) (Bool × List (List Int) × List Bool) (List (List Int))) (tab N fun i => mk N cl (cl i)) (N : Int) E false (i : Int) o (tkS N cl T) (fun a' => some (.next a')) (fun e => some (.done e)) (fun r => some (.ret r)) = some (.next (false, ((i + 1 : Nat) : Int), o, tkS N cl T)) := by
  cases ht : tkB cl T (cl i) with
  | true =>
    simp (disch := omega) only [ref04_StrongL3K, ref04_StrongT2, ref04_StrongT2K, tab_len, tab_getD hi, ht, Bool.not_true, Bool.not_false, ckB_ix, ckB_inR, ckB_room, ckB_cut, ckB_mk, ckB_ne, bif_lt, bif_nlt, bif_le, bif_nle, bif_eq, bif_neq, bif_ne, bif_nne, bif_not, bif_true', bif_false', bnd_ok, lk_inl, lk_inr, Int.toNat_natCast]
    rw [cast_succ]
  | false =>
    have hr := ready_eq hE hv T i (N : Int) ht
    rw [hf] at hr
    simp (disch := omega) only [ref04_StrongL3K, ref04_StrongT2, ref04_StrongT2K, tab_len, tab_getD hi, ht, hr, Bool.not_true, Bool.not_false, ckB_ix, ckB_inR, ckB_room, ckB_cut, ckB_mk, ckB_ne, bif_lt, bif_nlt, bif_le, bif_nle, bif_eq, bif_neq, bif_ne, bif_nne, bif_not, bif_true', bif_false', bnd_ok, lk_inl, lk_inr, Int.toNat_natCast]
    rw [cast_succ]
theorem sStep_yes (hN : N ≤ 1000) (hE : E.length ≤ 20000) (hv : VE N E) (T : List Nat) (hl : T.length ≤ 1000) {i : Nat} (hi : i < N) (hf : rdyC E cl T (cl i) = true) :
    ref04_StrongL3K (R := LR (Bool × Int × List (List Int) × List Bool) (Bool × List (List Int) × List Bool) (List (List Int))) (tab N fun i => mk N cl (cl i)) (N : Int) E false (i : Int) (outS N cl T) (tkS N cl T) (fun a' => some (.next a')) (fun e => some (.done e)) (fun r => some (.ret r)) = some (.next (true, ((i + 1 : Nat) : Int), outS N cl (T ++ [i]), tkS N cl (T ++ [i]))) := by
  have ht := (rdyC_iff.1 hf).1
  have hr := ready_eq hE hv T i (N : Int) ht
  rw [hf] at hr
  have hlist : ref04_list (mk N cl (cl i)) = some (mems N cl (cl i)) := list_eq hN _
  have hol : (outS N cl T).length = T.length := by simp
  have hL1 := refStrongL1_eq (cl := cl) hN T hi E (outS N cl T ++ [mems N cl (cl i)])
  simp (disch := omega) only [ref04_StrongL3K, ref04_StrongT2, ref04_StrongT2K, tab_len, tab_getD hi, ht, hr, hlist, hol, hL1, Bool.not_true, Bool.not_false, ckB_ix, ckB_inR, ckB_room, ckB_cut, ckB_mk, ckB_ne, bif_lt, bif_nlt, bif_le, bif_nle, bif_eq, bif_neq, bif_ne, bif_nne, bif_not, bif_true', bif_false', bnd_ok, lk_inl, lk_inr, Int.toNat_natCast]
  rw [cast_succ]
  simp [outS]

theorem refStrongL3_eq (hN : N ≤ 1000) (hE : E.length ≤ 20000) (hv : VE N E) (T : List Nat) (hl : T.length ≤ 1000) :
    ref04_StrongL3 (tab N fun i => mk N cl (cl i)) (N : Int) E (false, 0, outS N cl T, tkS N cl T) = some (.inl (match pickS N E cl T with | none => (false, outS N cl T, tkS N cl T) | some v => (true, outS N cl (T ++ [v]), tkS N cl (T ++ [v])))) := by
  cases hp : pickS N E cl T with
  | none =>
    refine loop_to (fun i : Nat => (false, (i : Int), outS N cl T, tkS N cl T)) N (many_of (by omega)) _ ?_ ?_ _ rfl
    · intro i hi
      exact sStep_no hN hE hv T hi (range_none hp i hi) _
    · simp (disch := omega) only [ref04_StrongL3K, ckB_ix, ckB_inR, ckB_room, ckB_cut, ckB_mk, ckB_ne, bif_lt, bif_nlt, bif_le, bif_nle, bif_eq, bif_neq, bif_ne, bif_nne, bif_not, bif_true', bif_false', bnd_ok, lk_inl, lk_inr, Int.toNat_natCast]
  | some v =>
    obtain ⟨h1, h2, h3⟩ := pickS_some hp
    refine loop_to (fun i : Nat => if i ≤ v then (false, (i : Int), outS N cl T, tkS N cl T) else (true, (i : Int), outS N cl (T ++ [v]), tkS N cl (T ++ [v]))) (v + 1) (many_of (by omega)) _ ?_ ?_ _ (by simp)
    · intro i hi
      have hle : i ≤ v := by omega
      simp only [if_pos hle]
      by_cases e : i = v
      · subst e
        rw [if_neg (by omega)]
        exact sStep_yes hN hE hv T hl h1 h2
      · rw [if_pos (by omega)]
        exact sStep_no hN hE hv T (by omega) (h3 i (by omega)) _
    · rw [if_neg (by omega)]
      by_cases hlt : v + 1 < N
      · simp (disch := omega) only [ref04_StrongL3K, Bool.not_true, ckB_ix, ckB_inR, ckB_room, ckB_cut, ckB_mk, ckB_ne, bif_lt, bif_nlt, bif_le, bif_nle, bif_eq, bif_neq, bif_ne, bif_nne, bif_not, bif_true', bif_false', bnd_ok, lk_inl, lk_inr, Int.toNat_natCast]
      · simp (disch := omega) only [ref04_StrongL3K, ckB_ix, ckB_inR, ckB_room, ckB_cut, ckB_mk, ckB_ne, bif_lt, bif_nlt, bif_le, bif_nle, bif_eq, bif_neq, bif_ne, bif_nne, bif_not, bif_true', bif_false', bnd_ok, lk_inl, lk_inr, Int.toNat_natCast]

def rsStep (N : Nat) (E : List St4) (cl : Nat → Int) (a : Bool × List (List Int) × List Bool) : Option (LR (Bool × List (List Int) × List Bool) (List (List Int)) (List (List Int))) :=
  ref04_StrongL4K (tab N fun i => mk N cl (cl i)) (N : Int) E a.1 a.2.1 a.2.2 (fun a' => some (.next a')) (fun e => some (.done e)) (fun r => some (.ret r))

theorem refStrongL4_eq (hN : N ≤ 1000) (hE : E.length ≤ 20000) (hv : VE N E) (hC : CL N E (n : Int) cl) : ∀ (k : Nat) (T : List Nat), k + T.length = n → InvS N E cl T → ∀ m, k + 1 < m →
    iter (rsStep N E cl) m (true, outS N cl T, tkS N cl T) = some (.inl (outS N cl (finS N E cl k T)) : List (List Int) ⊕ List (List Int)) := by
  have hn : n ≤ N := by have := hC.ccN; omega
  intro k
  have stop : ∀ (T : List Nat), T.length ≤ 1000 → pickS N E cl T = none → ∀ m, 1 < m → iter (rsStep N E cl) m (true, outS N cl T, tkS N cl T) = some (.inl (outS N cl T) : List (List Int) ⊕ List (List Int)) := by
    intro T hl hp m hm
    obtain ⟨m, rfl⟩ : ∃ q, m = q + 2 := ⟨m - 2, by omega⟩
    have h0 := refStrongL3_eq (cl := cl) hN hE hv T hl
    rw [hp] at h0
    have hs : rsStep N E cl (true, outS N cl T, tkS N cl T) = some (.next (false, outS N cl T, tkS N cl T)) := by
      simp (disch := omega) only [rsStep, ref04_StrongL4K, h0, ckB_ix, ckB_inR, ckB_room, ckB_cut, ckB_mk, ckB_ne, bif_lt, bif_nlt, bif_le, bif_nle, bif_eq, bif_neq, bif_ne, bif_nne, bif_not, bif_true', bif_false', bnd_ok, lk_inl, lk_inr, Int.toNat_natCast]
    have hs2 : rsStep N E cl (false, outS N cl T, tkS N cl T) = some (.done (outS N cl T)) := by
      simp (disch := omega) only [rsStep, ref04_StrongL4K, ckB_ix, ckB_inR, ckB_room, ckB_cut, ckB_mk, ckB_ne, bif_lt, bif_nlt, bif_le, bif_nle, bif_eq, bif_neq, bif_ne, bif_nne, bif_not, bif_true', bif_false', bnd_ok, lk_inl, lk_inr, Int.toNat_natCast]
    rw [iter_succ, hs, bnd_ok]
    change iter (rsStep N E cl) (m + 1) (false, outS N cl T, tkS N cl T) = _
    rw [iter_succ, hs2, bnd_ok]
    rfl
  induction k with
  | zero =>
    intro T hk hI m hm
    have hp : pickS N E cl T = none := by
      cases hp : pickS N E cl T with
      | none => rfl
      | some v =>
        have h1 := (hI.add hp).ccl hC
        simp at h1
        omega
    exact stop T (by omega) hp m (by omega)
  | succ k ih =>
    intro T hk hI m hm
    cases hp : pickS N E cl T with
    | none =>
      simp only [finS, hp]
      exact stop T (by omega) hp m (by omega)
    | some v =>
      obtain ⟨m, rfl⟩ : ∃ q, m = q + 1 := ⟨m - 1, by omega⟩
      have h0 := refStrongL3_eq (cl := cl) hN hE hv T (by omega)
      rw [hp] at h0
      have hs : rsStep N E cl (true, outS N cl T, tkS N cl T) = some (.next (true, outS N cl (T ++ [v]), tkS N cl (T ++ [v]))) := by
        simp (disch := omega) only [rsStep, ref04_StrongL4K, h0, ckB_ix, ckB_inR, ckB_room, ckB_cut, ckB_mk, ckB_ne, bif_lt, bif_nlt, bif_le, bif_nle, bif_eq, bif_neq, bif_ne, bif_nne, bif_not, bif_true', bif_false', bnd_ok, lk_inl, lk_inr, Int.toNat_natCast]
      rw [iter_succ, hs, bnd_ok]
      simp only [finS, hp]
      exact ih (T ++ [v]) (by simp; omega) (hI.add hp) m (by omega)

theorem refStrong_eq {g : Graph} (hg : g.1 = (N : Int)) (hN : N ≤ 1000) (hE : g.2.1.length ≤ 20000) (hv : VE N g.2.1) (hC : CL N g.2.1 (n : Int) cl) :
    ref04_Strong g = some (outS N cl (finS N g.2.1 cl n [])) := by
  have hL0 := refStrongL0_eq hg hN hE hv hC
  have hL4 : ref04_StrongL4 (tab N fun i => mk N cl (cl i)) (N : Int) g.2.1 (true, [], tkS N cl []) = some (.inl (outS N cl (finS N g.2.1 cl n []))) :=
    refStrongL4_eq hN hE hv hC n [] (by simp) InvS.nil many (by have := hC.ccN; unfold many; omega)
  have e0 : List.replicate N (false : Bool) = tkS N cl [] := by rw [tab_rep]; exact tab_congr fun c _ => by simp [tkB]
  unfold ref04_Strong
  simp (disch := omega) only [hg, hL0, e0, hL4, ckB_ix, ckB_inR, ckB_room, ckB_cut, ckB_mk, ckB_ne, bif_lt, bif_nlt, bif_le, bif_nle, bif_eq, bif_neq, bif_ne, bif_nne, bif_not, bif_true', bif_false', bnd_ok, lk_inl, lk_inr, Int.toNat_natCast]

end
end Go.Proofs.Ytmcmlloigphbeaa
