/-
  Graphs: strong components in order: the order in which classes are taken.
-/
import Derived.Test.YtmcmlloigphbeaaP12
set_option linter.all false
namespace Go.Proofs.Ytmcmlloigphbeaa
open Go.K Go.M

theorem range_find {N : Nat} {p : Nat → Bool} {v : Nat} (h : (List.range N).find? p = some v) : v < N ∧ p v = true ∧ ∀ i, i < v → p i = false := by
  have h1 := List.find?_some h
  have h2 := List.mem_range.1 (List.mem_of_find?_eq_some h)
  refine ⟨h2, h1, fun i hi => ?_⟩
  obtain ⟨_, as, bs, hab, hn⟩ := List.find?_eq_some_iff_append.1 h
  have hlen : as.length = v := by
    have h3 : (List.range N)[as.length]? = some v := by rw [hab]; simp
    rw [List.getElem?_range (by
      have := congrArg List.length hab
      simp at this
      omega)] at h3
    exact Option.some.inj h3
  have hmem : i ∈ as := by
    have h3 : (List.range N)[i]? = some i := List.getElem?_range (by omega)
    rw [hab, List.getElem?_append_left (by omega)] at h3
    exact List.mem_of_getElem? h3
  simpa using hn i hmem
theorem range_none {N : Nat} {p : Nat → Bool} (h : (List.range N).find? p = none) : ∀ i, i < N → p i = false := by
  intro i hi
  have := List.find?_eq_none.1 h i (List.mem_range.2 hi)
  simpa using this

theorem cover_le : ∀ (k : Nat) (l : List Int), (∀ c : Nat, c < k → (c : Int) ∈ l) → k ≤ l.length := by
  intro k
  induction k with
  | zero => intro l _; omega
  | succ k ih =>
    intro l h
    have h1 := h k (by omega)
    have h2 := ih (l.erase (k : Int)) (fun c hc => (List.mem_erase_of_ne (by omega)).2 (h c (by omega)))
    rw [List.length_erase_of_mem h1] at h2
    have h3 := List.length_pos_of_mem h1
    omega

section
variable (N : Nat) (E : List St4) (cl : Nat → Int)
/-- The vertices of a class. -/
def mem (c : Int) : List Nat := (List.range N).filter fun v => decide (cl v = c)
/-- A class was taken. -/
def tkB (T : List Nat) (c : Int) : Bool := T.any fun r => decide (cl r = c)
def rdyC (T : List Nat) (c : Int) : Bool := !tkB cl T c && E.all fun e => !decide (cl (dst e) = c) || (decide (cl (src e) = c) || tkB cl T (cl (src e)))
def pickS (T : List Nat) : Option Nat := (List.range N).find? fun v => rdyC E cl T (cl v)
def finS : Nat → List Nat → List Nat
  | 0, T => T
  | k + 1, T => match pickS N E cl T with | none => T | some v => finS k (T ++ [v])
/-- Edges into a class from classes that were not taken. -/
def cntS (T : List Nat) (c : Int) : Nat := E.countP fun e => decide (cl (dst e) = c) && (!decide (cl (src e) = c) && !tkB cl T (cl (src e)))
end

section
variable {N : Nat} {E : List St4} {cl : Nat → Int} {cc : Int} {T : List Nat}

theorem tkB_iff {c : Int} : tkB cl T c = true ↔ ∃ r ∈ T, cl r = c := by simp [tkB]
theorem tkB_add {v : Nat} {c : Int} : tkB cl (T ++ [v]) c = (tkB cl T c || decide (cl v = c)) := by simp [tkB]
theorem mem_mem {c : Int} {v : Nat} : v ∈ mem N cl c ↔ v < N ∧ cl v = c := by simp [mem]
theorem mem_nodup {c : Int} : (mem N cl c).Nodup := List.nodup_range.filter _
theorem mem_len {c : Int} : (mem N cl c).length ≤ N := by
  have := List.length_filter_le (fun v => decide (cl v = c)) (List.range N)
  simpa [mem] using this

theorem rdyC_iff {c : Int} : rdyC E cl T c = true ↔ tkB cl T c = false ∧ cntS E cl T c = 0 := by
  unfold rdyC cntS
  rw [List.countP_eq_zero]
  simp only [Bool.and_eq_true, Bool.not_eq_true', List.all_eq_true, Bool.or_eq_true, decide_eq_true_eq, not_and, Bool.not_eq_false, decide_eq_false_iff_not]
  refine and_congr Iff.rfl ⟨fun h e he h1 h2 => ?_, fun h e he => ?_⟩
  · exact ((h e he).resolve_left (fun hn => hn h1)).resolve_left h2
  · by_cases h1 : cl (dst e) = c
    · by_cases h2 : cl (src e) = c
      · exact .inr (.inl h2)
      · exact .inr (.inr (h e he h1 h2))
    · exact .inl h1

structure InvS (N : Nat) (E : List St4) (cl : Nat → Int) (T : List Nat) : Prop where
  nd : (T.map cl).Nodup
  lt : ∀ r ∈ T, r < N
  least : ∀ r ∈ T, ∀ u, cl u = cl r → r ≤ u
  ord : ∀ T1 r T2, T = T1 ++ r :: T2 → ∀ e ∈ E, cl (dst e) = cl r → cl (src e) = cl r ∨ tkB cl T1 (cl (src e)) = true

theorem InvS.nil : InvS N E cl [] := ⟨List.nodup_nil, fun r h => by simp at h, fun r h => by simp at h, fun T1 r T2 h => by simp at h⟩

theorem pickS_some {v : Nat} (h : pickS N E cl T = some v) : v < N ∧ rdyC E cl T (cl v) = true ∧ ∀ i, i < v → rdyC E cl T (cl i) = false := range_find h

theorem InvS.add (h : InvS N E cl T) {v : Nat} (hv : pickS N E cl T = some v) : InvS N E cl (T ++ [v]) := by
  obtain ⟨h1, h2, h3⟩ := pickS_some hv
  have h4 := rdyC_iff.1 h2
  refine ⟨?_, fun r hr => ?_, fun r hr u hu => ?_, fun T1 r T2 hT e he hd => ?_⟩
  · rw [List.map_append, List.nodup_append]
    refine ⟨h.nd, by simp, fun a ha b hb => ?_⟩
    simp only [List.map_cons, List.map_nil, List.mem_singleton] at hb
    subst hb
    obtain ⟨r, hr, rfl⟩ := List.mem_map.1 ha
    intro e
    have := tkB_iff.2 ⟨r, hr, e⟩
    rw [h4.1] at this
    cases this
  · rcases List.mem_append.1 hr with hr | hr
    · exact h.lt r hr
    · simp at hr; omega
  · rcases List.mem_append.1 hr with hr | hr
    · exact h.least r hr u hu
    · simp at hr
      subst hr
      refine Classical.byContradiction fun hn => ?_
      have := h3 u (by omega)
      rw [hu, h2] at this
      cases this
  · rcases List.eq_nil_or_concat T2 with rfl | ⟨T3, b, rfl⟩
    · obtain ⟨rfl, rfl⟩ : T = T1 ∧ v = r := by
        have := List.append_inj' hT rfl
        simpa using this
      simp only [rdyC, Bool.and_eq_true, List.all_eq_true, Bool.or_eq_true, Bool.not_eq_true', decide_eq_false_iff_not, decide_eq_true_eq] at h2
      exact (h2.2 e he).resolve_left fun hn => hn hd
    · rw [List.concat_eq_append, ← List.cons_append, ← List.append_assoc] at hT
      have := List.append_inj' hT rfl
      exact h.ord T1 r T3 this.1 e he hd

theorem InvS.nd' (h : InvS N E cl T) : T.Nodup := by
  have h2 := h.nd
  unfold List.Nodup at h2 ⊢
  rw [List.pairwise_map] at h2
  exact h2.imp fun hab e => hab (congrArg cl e)
theorem InvS.len (h : InvS N E cl T) : T.length ≤ N := nodup_le N T h.nd' h.lt

/-- Not all were taken: one is ready. -/
theorem pickS_none (hC : CL N E cc cl) (hv : VE N E) (h : pickS N E cl T = none) : ∀ c : Int, 0 ≤ c → c < cc → tkB cl T c = true := by
  have key : ∀ (k : Nat) (c : Int), 0 ≤ c → c < cc → cc - c ≤ (k : Int) → tkB cl T c = true := by
    intro k
    induction k with
    | zero => intro c h0 h1 h2; omega
    | succ k ih =>
      intro c h0 h1 h2
      obtain ⟨u, hu, rfl⟩ := hC.sur c h0 h1
      have hr := range_none h u hu
      refine Classical.byContradiction fun hn => ?_
      have hn' : tkB cl T (cl u) = false := by simpa using hn
      have : rdyC E cl T (cl u) = true := by
        unfold rdyC
        rw [hn']
        simp only [Bool.not_false, Bool.true_and, List.all_eq_true, Bool.or_eq_true, Bool.not_eq_true', decide_eq_false_iff_not, decide_eq_true_eq]
        intro e he
        by_cases h3 : cl (dst e) = cl u
        · by_cases h4 : cl (src e) = cl u
          · exact .inr (.inl h4)
          · obtain ⟨v1, v2, v3, v4⟩ := hv.mem he
            have hs : src e < N := by show Int.toNat e.1 < N; omega
            have h5 := hC.ord (src e) (dst e) hs ⟨e, he, rfl, rfl⟩
            have h6 := hC.rng (src e) hs
            exact .inr (.inr (ih _ h6.1 h6.2 (by omega)))
        · exact .inl h3
      rw [this] at hr
      cases hr
  intro c h0 h1
  exact key (Int.toNat (cc - c)) c h0 h1 (by omega)

theorem InvS.full (hC : CL N E cc cl) (hT : ∀ c : Int, 0 ≤ c → c < cc → tkB cl T c = true) : cc ≤ (T.length : Int) := by
  have := cover_le (Int.toNat cc) (T.map cl) (fun c hc => by
    obtain ⟨r, hr, h⟩ := tkB_iff.1 (hT c (by omega) (by omega))
    rw [← h]
    exact List.mem_map_of_mem hr)
  simp at this
  omega
theorem InvS.ccl (h : InvS N E cl T) (hC : CL N E cc cl) : (T.length : Int) ≤ cc := by
  have h1 := nodup_le (Int.toNat cc) (T.map fun r => Int.toNat (cl r)) (by
    have h2 := h.nd
    unfold List.Nodup at h2 ⊢
    rw [List.pairwise_map] at h2 ⊢
    refine h2.imp_of_mem fun {a b} ha hb hab => ?_
    have := hC.rng a (h.lt a ha)
    have := hC.rng b (h.lt b hb)
    omega) (fun x hx => by
      obtain ⟨r, hr, rfl⟩ := List.mem_map.1 hx
      have := hC.rng r (h.lt r hr)
      omega)
  simp at h1
  have := hC.cc0
  omega

/-- All classes are taken in the end. -/
theorem finS_inv (hC : CL N E cc cl) (hv : VE N E) : ∀ (k : Nat) (T : List Nat), InvS N E cl T → (k : Int) + T.length = cc → InvS N E cl (finS N E cl k T) ∧ ((finS N E cl k T).length : Int) = cc
  | 0, T, h, hk => ⟨h, by simp [finS]; omega⟩
  | k + 1, T, h, hk => by
    unfold finS
    split
    · rename_i hp
      have := InvS.full hC (pickS_none hC hv hp)
      omega
    · rename_i v hp
      exact finS_inv hC hv k (T ++ [v]) (h.add hp) (by simp; omega)

end
end Go.Proofs.Ytmcmlloigphbeaa
