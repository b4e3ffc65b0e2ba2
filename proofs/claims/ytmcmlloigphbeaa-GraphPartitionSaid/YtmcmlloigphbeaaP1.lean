/-
  Graphs: Valid and Reverse, in plain words; the program and the reference agree.
-/
import Derived.Test.YtmcmlloigphbeaaMd
import Derived.Test.YtmcmlloigphbeaaKE
import Derived.KernelRfl
set_option linter.all false
namespace Go.Proofs.Ytmcmlloigphbeaa
open Go.K Go.M

theorem many_of {n : Nat} (h : n ≤ 9223372036854775807) : n < many := by unfold many; omega
theorem cast_succ (i : Nat) : ((i : Int) + 1) = ((i + 1 : Nat) : Int) := by omega

theorem awake_true : law04_awake = some true := by kernel_rfl

def vOK (n : Int) (e : St4) : Bool := (decide (0 ≤ e.1) && decide (e.1 < n)) && (decide (0 ≤ e.2.1) && decide (e.2.1 < n))
def validB (g : Graph) : Bool := decide (0 ≤ g.1) && decide (g.1 ≤ 1000) && decide (g.2.1.length ≤ 20000) && (List.range g.2.1.length).all (fun i => vOK g.1 (g.2.1.getD i St4.z))

theorem graph_vertex_eq (g : Graph) (v : Int) : graph_vertex g v = some (decide (0 ≤ v) && decide (v < g.1)) := by
  unfold graph_vertex
  by_cases h : 0 ≤ v <;> simp [h]
theorem ref04_Vertex_eq (g : Graph) (v : Int) : ref04_Vertex g v = some (decide (0 ≤ v) && decide (v < g.1)) := by
  unfold ref04_Vertex
  by_cases h : 0 ≤ v <;> simp [h]

theorem graph_Valid_eq (g : Graph) : graph_Valid g = some (validB g) := by
  obtain ⟨n, E, u⟩ := g
  unfold graph_Valid validB
  simp only
  by_cases h0 : 0 ≤ n
  · rw [bif_neg (by simp; omega)]
    by_cases h1 : n ≤ 1000
    · rw [bif_neg (by simp; omega)]
      by_cases h2 : E.length ≤ 20000
      · rw [bif_neg (by simp; omega)]
        have hloop : graph_ValidL0 E (E.length : Int) n E 0 = some (bif (List.range E.length).all (fun i => vOK n (E.getD i St4.z)) then .inl () else .inr false) := by
          refine loop_all (fun i : Nat => (i : Int)) E.length (many_of (by omega)) _ () false ?_ ?_ ?_
          · intro i hi hp
            simp only [vOK, Bool.and_eq_true] at hp
            simp only [graph_ValidL0K, graph_vertex_eq, bnd_ok, Int.toNat_natCast]
            rw [bif_pos (by simpa using hi), ckB_pos (ix_pos hi), ckB_pos (ix_pos hi), bif_neg (by simpa using hp.1), bif_neg (by simpa using hp.2), ckB_pos (inR_i64 (by omega) (by omega)), cast_succ]
          · intro i hi hp
            simp only [graph_ValidL0K, graph_vertex_eq, bnd_ok, Int.toNat_natCast]
            rw [bif_pos (by simpa using hi), ckB_pos (ix_pos hi), ckB_pos (ix_pos hi)]
            cases hw : (decide (0 ≤ (E.getD i St4.z).1) && decide ((E.getD i St4.z).1 < n)) with
            | false => rfl
            | true =>
              simp only [vOK, hw, Bool.true_and] at hp
              rw [bif_neg (c := !true) rfl, hp]
              rfl
          · simp only [graph_ValidL0K]
            rw [bif_neg (by simp)]
        rw [hloop, bnd_ok]
        cases (List.range E.length).all (fun i => vOK n (E.getD i St4.z)) <;> simp [h0, h1, h2]
      · rw [bif_pos (by simp; omega)]
        simp [h2]
    · rw [bif_pos (by simp; omega)]
      simp [h1]
  · rw [bif_pos (by simp; omega)]
    simp [h0]

theorem ref04_Valid_eq (g : Graph) : ref04_Valid g = some (validB g) := by
  obtain ⟨n, E, u⟩ := g
  unfold ref04_Valid validB
  simp only
  by_cases h0 : 0 ≤ n
  · rw [bif_neg (by simp; omega)]
    by_cases h1 : n ≤ 1000
    · rw [bif_neg (by simp; omega)]
      by_cases h2 : E.length ≤ 20000
      · rw [bif_neg (by simp; omega)]
        have hloop : ref04_ValidL0 n E 0 = some (bif (List.range E.length).all (fun i => vOK n (E.getD i St4.z)) then .inl () else .inr false) := by
          refine loop_all (fun i : Nat => (i : Int)) E.length (many_of (by omega)) _ () false ?_ ?_ ?_
          · intro i hi hp
            simp only [vOK, Bool.and_eq_true] at hp
            have hx := ix_pos hi
            simp only [ref04_ValidL0K, ref04_Vertex_eq, bnd_ok, Int.toNat_natCast, hx, ckB_pos]
            rw [bif_pos (by simpa using hi), bif_neg (by simpa using hp.1), bif_neg (by simpa using hp.2), ckB_pos (inR_i64 (by omega) (by omega)), cast_succ]
          · intro i hi hp
            have hx := ix_pos hi
            simp only [ref04_ValidL0K, ref04_Vertex_eq, bnd_ok, Int.toNat_natCast, hx, ckB_pos]
            rw [bif_pos (by simpa using hi)]
            cases hw : (decide (0 ≤ (E.getD i St4.z).1) && decide ((E.getD i St4.z).1 < n)) with
            | false => rfl
            | true =>
              simp only [vOK, hw, Bool.true_and] at hp
              rw [bif_neg (c := !true) rfl, hp]
              rfl
          · simp only [ref04_ValidL0K]
            rw [bif_neg (by simp)]
        rw [hloop, bnd_ok]
        cases (List.range E.length).all (fun i => vOK n (E.getD i St4.z)) <;> simp [h0, h1, h2]
      · rw [bif_pos (by simp; omega)]
        simp [h2]
    · rw [bif_pos (by simp; omega)]
      simp [h1]
  · rw [bif_pos (by simp; omega)]
    simp [h0]

abbrev swapE (e : St4) : St4 := (e.2.1, e.1, ())
theorem map_take_succ (E : List St4) (i : Nat) (h : i < E.length) : (E.take (i + 1)).map swapE = (E.take i).map swapE ++ [((E.getD i St4.z).2.1, (E.getD i St4.z).1, ())] := by
  rw [take_succ_getD E i St4.z h, List.map_append]
  rfl

theorem graph_reversed_eq (g : Graph) (h : g.2.1.length ≤ 20000) : graph_reversed g = some (g.1, g.2.1.map swapE, ()) := by
  obtain ⟨n, E, u⟩ := g
  simp only at h
  unfold graph_reversed
  simp only
  have hloop : graph_reversedL0 E (E.length : Int) 0 [] n (0, []) = some (.inl (E.map swapE)) := by
    refine loop_to (fun i : Nat => ((i : Int), (E.take i).map swapE)) E.length (many_of (by omega)) _ ?_ ?_ _ (by simp)
    · intro i hi
      have hl : ((E.take i).map swapE).length = i := by simp; omega
      simp only [graph_reversedL0K, Int.toNat_natCast]
      rw [bif_pos (by simpa using hi), ckB_pos (ix_pos hi), ckB_pos (ix_pos hi), ckB_room (by omega) (by omega), ckB_pos (inR_i64 (by omega) (by omega)), cast_succ, map_take_succ E i hi]
    · simp only [graph_reversedL0K]
      rw [bif_neg (by simp), List.take_length]
  rw [hloop]
  rfl
theorem ref04_Reverse_eq (g : Graph) (h : g.2.1.length ≤ 20000) : ref04_Reverse g = some (g.1, g.2.1.map swapE, ()) := by
  obtain ⟨n, E, u⟩ := g
  simp only at h
  unfold ref04_Reverse
  simp only
  have hloop : ref04_ReverseL0 n E 0 [] n (0, []) = some (.inl (E.map swapE)) := by
    refine loop_to (fun i : Nat => ((i : Int), (E.take i).map swapE)) E.length (many_of (by omega)) _ ?_ ?_ _ (by simp)
    · intro i hi
      have hl : ((E.take i).map swapE).length = i := by simp; omega
      have hx := ix_pos hi
      simp only [ref04_ReverseL0K, Int.toNat_natCast, hx, ckB_pos]
      rw [bif_pos (by simpa using hi), ckB_room (by omega) (by omega), ckB_pos (inR_i64 (by omega) (by omega)), cast_succ, map_take_succ E i hi]
    · simp only [ref04_ReverseL0K]
      rw [bif_neg (by simp), List.take_length]
  rw [hloop]
  rfl

theorem equalE_self (l : List St4) (h : l.length ≤ 9223372036854775806) : slices_Equal_2_int_2_int l l = some true := by
  unfold slices_Equal_2_int_2_int
  rw [bif_neg (by simp)]
  have hloop : slices_Equal_2_int_2_intL0 l l (l.length : Int) 0 = some (.inl ()) := by
    refine loop_to (fun i : Nat => (i : Int)) l.length (many_of (by omega)) _ ?_ ?_ _ rfl
    · intro i hi
      have hx := ix_pos hi
      simp only [slices_Equal_2_int_2_intL0K, Int.toNat_natCast, hx, ckB_pos]
      rw [bif_pos (by simpa using hi), bif_neg (by simp), ckB_pos (inR_i64 (by omega) (by omega)), cast_succ]
    · simp only [slices_Equal_2_int_2_intL0K]
      rw [bif_neg (by simp)]
  rw [hloop]
  rfl
theorem equal_self (l : List Int) (h : l.length ≤ 9223372036854775806) : slices_Equal_int_int l l = some true := by
  unfold slices_Equal_int_int
  rw [bif_neg (by simp)]
  have hloop : slices_Equal_int_intL0 l l (l.length : Int) 0 = some (.inl ()) := by
    refine loop_to (fun i : Nat => (i : Int)) l.length (many_of (by omega)) _ ?_ ?_ _ rfl
    · intro i hi
      have hx := ix_pos hi
      simp only [slices_Equal_int_intL0K, Int.toNat_natCast, hx, ckB_pos]
      rw [bif_pos (by simpa using hi), bif_neg (by simp), ckB_pos (inR_i64 (by omega) (by omega)), cast_succ]
    · simp only [slices_Equal_int_intL0K]
      rw [bif_neg (by simp)]
  rw [hloop]
  rfl

theorem small_some (g : Graph) : ∃ b, law04_small g = some b := by
  unfold law04_small
  cases decide (g.1 ≤ 12) <;> cases decide ((1000 : Int) < g.1) <;> exact ⟨_, rfl⟩
theorem small_len {g : Graph} (h : law04_small g = some true) : g.2.1.length ≤ 40 ∧ (g.1 ≤ 12 ∨ 1000 < g.1) := by
  unfold law04_small at h
  by_cases h1 : g.1 ≤ 12
  · rw [bif_pos (by simpa using h1)] at h
    simp only [Option.some.injEq, decide_eq_true_eq] at h
    exact ⟨by omega, .inl h1⟩
  · rw [bif_neg (by simpa using h1)] at h
    by_cases h2 : 1000 < g.1
    · rw [bif_pos (by simpa using h2)] at h
      simp only [Option.some.injEq, decide_eq_true_eq] at h
      exact ⟨by omega, .inr h2⟩
    · rw [bif_neg (by simpa using h2)] at h
      cases h

theorem GraphForms_true (g : Graph) : law04_GraphForms g = some true := by
  unfold law04_GraphForms
  simp only [awake_true, bnd_ok]
  rw [bif_neg (c := !true) rfl]
  obtain ⟨b, hb⟩ := small_some g
  rw [hb, bnd_ok]
  cases b with
  | false => rfl
  | true =>
    obtain ⟨hl, hn⟩ := small_len hb
    rw [bif_neg (c := !true) rfl, ref04_Valid_eq, bnd_ok]
    have hR : graph_Reverse g = some (bif validB g then ((g.1, g.2.1.map swapE, ()), 0) else ((0, [], ()), 1)) := by
      unfold graph_Reverse
      rw [graph_Valid_eq, bnd_ok]
      cases validB g with
      | false => rfl
      | true =>
        rw [bif_neg (c := !true) rfl, graph_reversed_eq g (by omega)]
        rfl
    rw [hR, bnd_ok, graph_Valid_eq, bnd_ok, bif_neg (by simp)]
    cases validB g with
    | false => rfl
    | true =>
      rw [bif_neg (c := !true) rfl]
      simp only [bif_true']
      rw [bif_pos (by simp), ref04_Reverse_eq g (by omega), bnd_ok, equalE_self _ (by simp; omega), bnd_ok]
      rfl

end Go.Proofs.Ytmcmlloigphbeaa
