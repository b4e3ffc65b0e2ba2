/-
  Graphs: tables over the vertices; the ends of the edges of each vertex; the first place of a value in a list.
-/
import Derived.Test.YtmcmlloigphbeaaP1
set_option linter.all false
namespace Go.Proofs.Ytmcmlloigphbeaa
open Go.K Go.M

theorem ckB_true {α : Type} {m : Option α} : ckB true m = m := rfl

abbrev tab {α : Type} (N : Nat) (f : Nat → α) : List α := (List.range N).map f
theorem tab_len {α : Type} (N : Nat) (f : Nat → α) : (tab N f).length = N := by simp [tab]
theorem tab_getD {α : Type} {N : Nat} {f : Nat → α} {v : Nat} {d : α} (h : v < N) : (tab N f).getD v d = f v := by simp [tab, List.getD_eq_getElem?_getD, h]
theorem tab_congr {α : Type} {N : Nat} {f g : Nat → α} (h : ∀ v, v < N → f v = g v) : tab N f = tab N g := List.map_congr_left fun v hv => h v (List.mem_range.1 hv)
theorem tab_set {α : Type} {N : Nat} {f : Nat → α} {w : Nat} {x : α} : (tab N f).set w x = tab N (fun v => if v = w then x else f v) := by
  apply List.ext_getElem
  · simp [tab]
  · intro i h1 h2
    simp only [tab, List.getElem_set, List.getElem_map, List.getElem_range]
    by_cases e : w = i
    · subst e; simp
    · rw [if_neg e, if_neg (Ne.symm e)]
theorem tab_rep {α : Type} (N : Nat) (x : α) : List.replicate N x = tab N (fun _ => x) := by
  apply List.ext_getElem
  · simp [tab]
  · intro i h1 h2
    simp [tab]

/-- The edges lead from vertices to vertices. -/
def VE (N : Nat) (E : List St4) : Prop := ∀ i, i < E.length → 0 ≤ (E.getD i St4.z).1 ∧ (E.getD i St4.z).1 < (N : Int) ∧ 0 ≤ (E.getD i St4.z).2.1 ∧ (E.getD i St4.z).2.1 < (N : Int)
theorem VE.mem {N : Nat} {E : List St4} (h : VE N E) {e : St4} (he : e ∈ E) : 0 ≤ e.1 ∧ e.1 < (N : Int) ∧ 0 ≤ e.2.1 ∧ e.2.1 < (N : Int) := by
  obtain ⟨i, hi, rfl⟩ := mem_getD St4.z he
  exact h i hi
theorem VE.of {N : Nat} {E : List St4} (h : ∀ e ∈ E, 0 ≤ e.1 ∧ e.1 < (N : Int) ∧ 0 ≤ e.2.1 ∧ e.2.1 < (N : Int)) : VE N E := fun i hi => h _ (getD_mem St4.z hi)
theorem VE.swap {N : Nat} {E : List St4} (h : VE N E) : VE N (E.map swapE) := by
  refine VE.of fun e he => ?_
  obtain ⟨e0, h0, rfl⟩ := List.mem_map.1 he
  obtain ⟨h1, h2, h3, h4⟩ := h.mem h0
  exact ⟨h3, h4, h1, h2⟩

/-- What validity says. -/
theorem valid_at {g : Graph} (h : validB g = true) : ∃ N : Nat, g.1 = (N : Int) ∧ N ≤ 1000 ∧ g.2.1.length ≤ 20000 ∧ VE N g.2.1 := by
  unfold validB at h
  simp only [Bool.and_eq_true, decide_eq_true_eq, List.all_eq_true, List.mem_range, vOK] at h
  obtain ⟨⟨⟨h0, h1⟩, h2⟩, h3⟩ := h
  refine ⟨g.1.toNat, by omega, by omega, h2, fun i hi => ?_⟩
  have := h3 i hi
  omega

abbrev src (e : St4) : Nat := Int.toNat e.1
abbrev dst (e : St4) : Nat := Int.toNat e.2.1

def ng (both : Bool) (e : St4) (v : Nat) : List Int := (if src e = v then [e.2.1] else []) ++ (if both = true ∧ dst e = v then [e.1] else [])
def nxt (both : Bool) (E : List St4) (v : Nat) : List Int := E.flatMap fun e => ng both e v

theorem nxt_succ (both : Bool) (E : List St4) (v i : Nat) (h : i < E.length) : nxt both (E.take (i + 1)) v = nxt both (E.take i) v ++ ng both (E.getD i St4.z) v := by
  unfold nxt
  rw [take_succ_getD E i St4.z h, List.flatMap_append]
  simp
theorem ng_len (both : Bool) (e : St4) (v : Nat) : (ng both e v).length ≤ 2 := by
  unfold ng
  split <;> split <;> simp
theorem nxt_len (both : Bool) : ∀ (E : List St4) (v : Nat), (nxt both E v).length ≤ 2 * E.length
  | [], v => by simp [nxt]
  | e :: E, v => by
    have h1 := ng_len both e v
    have h2 := nxt_len both E v
    unfold nxt at h2 ⊢
    simp only [List.flatMap_cons, List.length_append, List.length_cons]
    omega
theorem nxt_take_len (both : Bool) (E : List St4) (v i : Nat) : (nxt both (E.take i) v).length ≤ 2 * i := by
  have h := nxt_len both (E.take i) v
  have : (E.take i).length ≤ i := by simp; omega
  omega

theorem gathered_eq (g : Graph) {N : Nat} (hg : g.1 = (N : Int)) (hN : N ≤ 1000) (hE : g.2.1.length ≤ 20000) (hv : VE N g.2.1) (both : Bool) : graph_gathered g both = some (tab N (nxt both g.2.1)) := by
  obtain ⟨n, E, u⟩ := g
  simp only at hg hE hv
  subst hg
  unfold graph_gathered
  simp only
  have hloop : graph_gatheredL0 both E (E.length : Int) (0, List.replicate (Int.toNat (N : Int)) ([] : List Int)) = some (.inl (tab N (nxt both E))) := by
    refine loop_to (fun i : Nat => ((i : Int), tab N (nxt both (E.take i)))) E.length (many_of (by omega)) _ ?_ ?_ _ ?_
    · intro i hi
      obtain ⟨h1, h2, h3, h4⟩ := hv i hi
      have l1 := nxt_take_len both E (Int.toNat (E.getD i St4.z).1) i
      have l2 := nxt_take_len both E (Int.toNat (E.getD i St4.z).2.1) i
      have k1 : Int.toNat (E.getD i St4.z).1 < N := by omega
      have k2 : Int.toNat (E.getD i St4.z).2.1 < N := by omega
      cases both with
      | false =>
        simp (disch := omega) only [graph_gatheredL0K, tab_len, List.length_set, tab_getD k1, decide_true, ckB_true, ckB_ix, ckB_inR, ckB_room, ckB_cut, ckB_mk, ckB_ne, bif_lt, bif_nlt, bif_le, bif_nle, bif_eq, bif_neq, bif_ne, bif_nne, bif_not, bif_true', bif_false', bnd_ok, lk_inl, lk_inr, Int.toNat_natCast]
        simp only [tab_set, Option.some.injEq, LR.next.injEq, Prod.mk.injEq]
        refine ⟨by omega, tab_congr fun v hv' => ?_⟩
        rw [nxt_succ false E v i hi]
        unfold ng
        generalize E.getD i St4.z = x at *
        by_cases e : v = Int.toNat x.1
        · subst e; simp
        · simp [e, Ne.symm e]
      | true =>
        have l3 : ((if Int.toNat (E.getD i St4.z).2.1 = Int.toNat (E.getD i St4.z).1 then nxt true (E.take i) (Int.toNat (E.getD i St4.z).1) ++ [(E.getD i St4.z).2.1] else nxt true (E.take i) (Int.toNat (E.getD i St4.z).2.1))).length ≤ 2 * i + 1 := by
          split
          · simp only [List.length_append, List.length_singleton]; omega
          · omega
        simp (disch := omega) only [graph_gatheredL0K, tab_len, List.length_set, tab_getD k1, tab_getD k2, tab_set, decide_true, ckB_true, ckB_ix, ckB_inR, ckB_room, ckB_cut, ckB_mk, ckB_ne, bif_lt, bif_nlt, bif_le, bif_nle, bif_eq, bif_neq, bif_ne, bif_nne, bif_not, bif_true', bif_false', bnd_ok, lk_inl, lk_inr, Int.toNat_natCast]
        simp only [Option.some.injEq, LR.next.injEq, Prod.mk.injEq]
        refine ⟨by omega, tab_congr fun v hv' => ?_⟩
        rw [nxt_succ true E v i hi]
        unfold ng
        generalize E.getD i St4.z = x at *
        by_cases e : v = Int.toNat x.1
        · by_cases e' : v = Int.toNat x.2.1
          · subst e
            simp [← e']
          · subst e
            simp [e', Ne.symm e']
        · by_cases e' : v = Int.toNat x.2.1
          · subst e'
            simp [e, Ne.symm e]
          · simp [e, e', Ne.symm e, Ne.symm e']
    · simp (disch := omega) only [graph_gatheredL0K, ckB_ix, ckB_inR, ckB_room, ckB_cut, ckB_mk, ckB_ne, bif_lt, bif_nlt, bif_le, bif_nle, bif_eq, bif_neq, bif_ne, bif_nne, bif_not, bif_true', bif_false', bnd_ok, lk_inl, lk_inr, Int.toNat_natCast]
      rw [List.take_length]
    · simp only [Int.toNat_natCast, tab_rep]
      refine Prod.ext rfl (tab_congr fun v _ => ?_)
      simp [nxt]
  rw [hloop]
  simp (disch := omega) only [ckB_ix, ckB_inR, ckB_room, ckB_cut, ckB_mk, ckB_ne, bif_lt, bif_nlt, bif_le, bif_nle, bif_eq, bif_neq, bif_ne, bif_nne, bif_not, bif_true', bif_false', bnd_ok, lk_inl, lk_inr, Int.toNat_natCast]

/-! The first place of a value. -/
theorem index_none (l : List Int) (x : Int) (hl : l.length ≤ 9223372036854775806) (h : ∀ i, i < l.length → l.getD i 0 ≠ x) : slices_Index_int_int l x = some (-1) := by
  unfold slices_Index_int_int
  have hloop : slices_Index_int_intL0 l x (l.length : Int) 0 = some (.inl ()) := by
    refine loop_to (fun i : Nat => (i : Int)) l.length (many_of (by omega)) _ ?_ ?_ _ rfl
    · intro i hi
      have hx := ix_pos hi
      simp only [slices_Index_int_intL0K, Int.toNat_natCast, hx, ckB_pos]
      rw [bif_pos (by simpa using hi), bif_neg (by simpa using Ne.symm (h i hi)), ckB_pos (inR_i64 (by omega) (by omega)), cast_succ]
    · simp only [slices_Index_int_intL0K]
      rw [bif_neg (by simp)]
  rw [hloop]
  rfl
theorem index_first (l : List Int) (x : Int) (hl : l.length ≤ 9223372036854775806) {k : Nat} (hk : k < l.length) (hx : l.getD k 0 = x) (h : ∀ i, i < k → l.getD i 0 ≠ x) : slices_Index_int_int l x = some (k : Int) := by
  unfold slices_Index_int_int
  have hloop : slices_Index_int_intL0 l x (l.length : Int) 0 = some (.inr (k : Int)) := by
    refine loop_first (fun i : Nat => (i : Int)) k (many_of (by omega)) (.ret (k : Int)) _ rfl ?_ ?_
    · intro i hi
      have hx := ix_pos (show i < l.length by omega)
      simp only [slices_Index_int_intL0K, Int.toNat_natCast, hx, ckB_pos]
      rw [bif_pos (by simp; omega), bif_neg (by simpa using Ne.symm (h i hi)), ckB_pos (inR_i64 (by omega) (by omega)), cast_succ]
    · have hx' := ix_pos hk
      simp only [slices_Index_int_intL0K, Int.toNat_natCast, hx', ckB_pos]
      rw [bif_pos (by simpa using hk), bif_pos (by simpa using hx.symm)]
  rw [hloop]
  rfl

/-! Lists without repetitions. -/
theorem nodup_le : ∀ (N : Nat) (l : List Nat), l.Nodup → (∀ x ∈ l, x < N) → l.length ≤ N
  | 0, l, _, h => by
    cases l with
    | nil => simp
    | cons a l => exact absurd (h a List.mem_cons_self) (by omega)
  | N + 1, l, hd, h => by
    have h1 := nodup_le N (l.filter (fun x => decide (x ≠ N))) (hd.filter _) (fun x hx => by
      have := List.mem_filter.1 hx
      have h2 := h x this.1
      have h3 : x ≠ N := by simpa using this.2
      omega)
    have h2 : l.length ≤ (l.filter (fun x => decide (x ≠ N))).length + 1 := by
      clear h1 h
      induction l with
      | nil => simp
      | cons a l ih =>
        have hn := List.nodup_cons.1 hd
        by_cases e : a = N
        · subst e
          have : l.filter (fun x => decide (x ≠ a)) = l := by
            rw [List.filter_eq_self]
            intro x hx
            have : x ≠ a := fun e => hn.1 (e ▸ hx)
            simpa using this
          simp only [ne_eq, List.filter_cons, not_true_eq_false, decide_false, Bool.false_eq_true, if_false, List.length_cons]
          simp only [ne_eq] at this
          rw [this]
          exact Nat.le_refl _
        · have := ih hn.2
          simp only [List.filter_cons, ne_eq, e, not_false_eq_true, decide_true, if_true, List.length_cons]
          simp only [ne_eq] at this
          omega
    omega
theorem nodup_full {N : Nat} {l : List Nat} (hd : l.Nodup) (h : ∀ x ∈ l, x < N) (hl : l.length = N) {v : Nat} (hv : v < N) : v ∈ l := by
  refine Classical.byContradiction fun hn => ?_
  have := nodup_le N (v :: l) (List.nodup_cons.2 ⟨hn, hd⟩) (fun x hx => by
    rcases List.mem_cons.1 hx with rfl | hx
    · exact hv
    · exact h x hx)
  simp at this
  omega

end Go.Proofs.Ytmcmlloigphbeaa
