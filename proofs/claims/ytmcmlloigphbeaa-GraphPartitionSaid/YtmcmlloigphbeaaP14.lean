/-
  Graphs: strong components in order: the program takes the classes in this order.
-/
import Derived.Test.YtmcmlloigphbeaaP13
set_option linter.all false
namespace Go.Proofs.Ytmcmlloigphbeaa
open Go.K Go.M

section
variable {N n : Nat} {E : List St4} {cl : Nat → Int}

abbrev mems (N : Nat) (cl : Nat → Int) (c : Int) : List Int := casts (mem N cl c)

/-- What holds of the class numbers. -/
structure CB (N n : Nat) (cl : Nat → Int) : Prop where
  rng : ∀ u, u < N → 0 ≤ cl u ∧ cl u < (n : Int)
  n : n ≤ N

theorem StrongL0_eq (hN : N ≤ 1000) (hB : CB N n cl) (a : Int) (b : List St4) :
    graph_StrongL0 (tab N cl) (n : Int) (tab N cl) ((tab N cl).length : Int) a b (0, List.replicate n ([] : List Int)) = some (.inl (tab n fun c => mems N cl c)) := by
  refine loop_to (fun i : Nat => ((i : Int), tab n fun c => casts ((List.range i).filter fun v => decide (cl v = c)))) N (many_of (by omega)) _ ?_ ?_ _ ?_
  · intro i hi
    obtain ⟨h1, h2⟩ := hB.rng i hi
    have k2 : Int.toNat (cl i) < n := by omega
    have l1 : (casts ((List.range i).filter fun v => decide (cl v = ((Int.toNat (cl i) : Nat) : Int)))).length ≤ i := by
      have := List.length_filter_le (fun v => decide (cl v = ((Int.toNat (cl i) : Nat) : Int))) (List.range i)
      simpa using this
    simp (disch := omega) only [graph_StrongL0K, tab_len, List.length_set, tab_getD hi, tab_getD k2, decide_true, ckB_true, ckB_ix, ckB_inR, ckB_room, ckB_cut, ckB_mk, ckB_ne, bif_lt, bif_nlt, bif_le, bif_nle, bif_eq, bif_neq, bif_ne, bif_nne, bif_not, bif_true', bif_false', bnd_ok, lk_inl, lk_inr, Int.toNat_natCast]
    simp only [tab_set, Option.some.injEq, LR.next.injEq, Prod.mk.injEq]
    refine ⟨by omega, tab_congr fun c hc => ?_⟩
    rw [List.range_succ, List.filter_append]
    by_cases e : c = Int.toNat (cl i)
    · have e' : cl i = (c : Int) := by omega
      simp [e']
    · have e' : ¬ cl i = (c : Int) := by omega
      simp [e, e']
  · simp (disch := omega) only [graph_StrongL0K, tab_len, ckB_ix, ckB_inR, ckB_room, ckB_cut, ckB_mk, ckB_ne, bif_lt, bif_nlt, bif_le, bif_nle, bif_eq, bif_neq, bif_ne, bif_nne, bif_not, bif_true', bif_false', bnd_ok, lk_inl, lk_inr, Int.toNat_natCast]
    rfl
  · rw [tab_rep]
    refine Prod.ext rfl (tab_congr fun c _ => ?_)
    simp

theorem StrongL1_eq (hN : N ≤ 1000) (hE : E.length ≤ 20000) (hv : VE N E) (hB : CB N n cl) (ms : List (List Int)) (a : Int) (b : List St4) :
    graph_StrongL1 (tab N cl) (n : Int) ms E (E.length : Int) a b (0, List.replicate n (0 : Int)) = some (.inl (tab n fun c => (cntS E cl [] c : Int))) := by
  refine loop_to (fun i : Nat => ((i : Int), tab n fun c => (cntS (E.take i) cl [] c : Int))) E.length (many_of (by omega)) _ ?_ ?_ _ ?_
  · intro i hi
    obtain ⟨h1, h2, h3, h4⟩ := hv i hi
    have k1 : Int.toNat (E.getD i St4.z).1 < N := by omega
    have k2 : Int.toNat (E.getD i St4.z).2.1 < N := by omega
    obtain ⟨h5, h6⟩ := hB.rng _ k1
    obtain ⟨h7, h8⟩ := hB.rng _ k2
    have k3 : Int.toNat (cl (Int.toNat (E.getD i St4.z).2.1)) < n := by omega
    have l1 : cntS (E.take i) cl [] (Int.toNat (cl (Int.toNat (E.getD i St4.z).2.1)) : Nat) ≤ i := by
      have h1 : cntS (E.take i) cl [] (Int.toNat (cl (Int.toNat (E.getD i St4.z).2.1)) : Nat) ≤ (E.take i).length := List.countP_le_length
      have h2 : (E.take i).length ≤ i := by simp; omega
      omega
    have hs : ∀ c : Nat, cntS (E.take (i + 1)) cl [] c = cntS (E.take i) cl [] c + if cl (dst (E.getD i St4.z)) = c ∧ ¬ cl (src (E.getD i St4.z)) = c then 1 else 0 := fun c => by
      unfold cntS
      rw [take_succ_getD E i St4.z hi, List.countP_append]
      generalize E.getD i St4.z = x
      by_cases e : cl (dst x) = c <;> by_cases e' : cl (src x) = c <;> simp [e, e', tkB]
    by_cases hne : cl (Int.toNat (E.getD i St4.z).1) = cl (Int.toNat (E.getD i St4.z).2.1)
    · simp (disch := omega) only [graph_StrongL1K, tab_len, tab_getD k1, tab_getD k2, ckB_ix, ckB_inR, ckB_room, ckB_cut, ckB_mk, ckB_ne, bif_lt, bif_nlt, bif_le, bif_nle, bif_eq, bif_neq, bif_ne, bif_nne, bif_not, bif_true', bif_false', bnd_ok, lk_inl, lk_inr, Int.toNat_natCast]
      simp only [Option.some.injEq, LR.next.injEq, Prod.mk.injEq]
      refine ⟨by omega, tab_congr fun c _ => ?_⟩
      rw [hs, if_neg (by intro h; exact h.2 (hne.trans h.1))]
      rfl
    · simp (disch := omega) only [graph_StrongL1K, tab_len, tab_getD k1, tab_getD k2, tab_getD k3, ckB_ix, ckB_inR, ckB_room, ckB_cut, ckB_mk, ckB_ne, bif_lt, bif_nlt, bif_le, bif_nle, bif_eq, bif_neq, bif_ne, bif_nne, bif_not, bif_true', bif_false', bnd_ok, lk_inl, lk_inr, Int.toNat_natCast]
      simp only [tab_set, Option.some.injEq, LR.next.injEq, Prod.mk.injEq]
      refine ⟨by omega, tab_congr fun c _ => ?_⟩
      rw [hs]
      by_cases e : c = Int.toNat (cl (Int.toNat (E.getD i St4.z).2.1))
      · rw [if_pos e, if_pos ⟨by show cl (Int.toNat (E.getD i St4.z).2.1) = _; omega, by show ¬ cl (Int.toNat (E.getD i St4.z).1) = _; omega⟩, ← e]
        omega
      · rw [if_neg e, if_neg (fun h => e (by have : cl (Int.toNat (E.getD i St4.z).2.1) = _ := h.1; omega))]
        rfl
  · simp (disch := omega) only [graph_StrongL1K, ckB_ix, ckB_inR, ckB_room, ckB_cut, ckB_mk, ckB_ne, bif_lt, bif_nlt, bif_le, bif_nle, bif_eq, bif_neq, bif_ne, bif_nne, bif_not, bif_true', bif_false', bnd_ok, lk_inl, lk_inr, Int.toNat_natCast]
    rw [List.take_length]
  · rw [tab_rep]
    refine Prod.ext rfl (tab_congr fun c _ => ?_)
    simp [cntS]

/-- How many of a list are in a class. -/
def cntC (cl : Nat → Int) (ws : List Int) (c : Int) : Nat := ws.countP fun w => decide (cl (Int.toNat w) = c)
theorem cntC_succ (ws : List Int) (c : Int) (i : Nat) (h : i < ws.length) : cntC cl (ws.take (i + 1)) c = cntC cl (ws.take i) c + if cl (Int.toNat (ws.getD i 0)) = c then 1 else 0 := by
  unfold cntC
  rw [take_succ_getD ws i 0 h, List.countP_append]
  generalize ws.getD i 0 = x
  by_cases e : cl (Int.toNat x) = c <;> simp [e]
theorem cntC_le (ws : List Int) (c : Int) (i : Nat) : cntC cl (ws.take i) c ≤ i := by
  have h1 : cntC cl (ws.take i) c ≤ (ws.take i).length := List.countP_le_length
  have h2 : (ws.take i).length ≤ i := by simp; omega
  omega

theorem StrongL3_eq (hB : CB N n cl) {ws : List Int} (hl : ws.length ≤ 40000) (hw : ∀ i, i < ws.length → 0 ≤ ws.getD i 0 ∧ ws.getD i 0 < (N : Int)) (f : Nat → Int) (hf : ∀ v, -100000 ≤ f v ∧ f v ≤ 100000) (best : Int)
    (ms nx : List (List Int)) (v84 v85 v138 v139 : Int) (l137 : List Int) (tk : List Bool) (out : List (List Int)) :
    graph_StrongL3 (tab N cl) (n : Int) ms nx best v84 v85 l137 v138 v139 ws (ws.length : Int) tk out (0, tab n f) = some (.inl (tab n fun c => f c - if (c : Int) = best then 0 else (cntC cl ws c : Int))) := by
  refine loop_to (fun i : Nat => ((i : Int), tab n fun c => f c - if (c : Int) = best then 0 else (cntC cl (ws.take i) c : Int))) ws.length (many_of (by omega)) _ ?_ ?_ _ ?_
  · intro i hi
    obtain ⟨h1, h2⟩ := hw i hi
    have k1 : Int.toNat (ws.getD i 0) < N := by omega
    obtain ⟨h5, h6⟩ := hB.rng _ k1
    have k3 : Int.toNat (cl (Int.toNat (ws.getD i 0))) < n := by omega
    have l1 := cntC_le (cl := cl) ws (Int.toNat (cl (Int.toNat (ws.getD i 0))) : Nat) i
    have l2 := hf (Int.toNat (cl (Int.toNat (ws.getD i 0))))
    have l3 : (0 : Int) ≤ (if ((Int.toNat (cl (Int.toNat (ws.getD i 0))) : Nat) : Int) = best then 0 else (cntC cl (ws.take i) (Int.toNat (cl (Int.toNat (ws.getD i 0))) : Nat) : Int)) ∧ (if ((Int.toNat (cl (Int.toNat (ws.getD i 0))) : Nat) : Int) = best then 0 else (cntC cl (ws.take i) (Int.toNat (cl (Int.toNat (ws.getD i 0))) : Nat) : Int)) ≤ (i : Int) := by
      split <;> omega
    by_cases hb : cl (Int.toNat (ws.getD i 0)) = best
    · simp (disch := omega) only [graph_StrongL3K, tab_len, tab_getD k1, ckB_ix, ckB_inR, ckB_room, ckB_cut, ckB_mk, ckB_ne, bif_lt, bif_nlt, bif_le, bif_nle, bif_eq, bif_neq, bif_ne, bif_nne, bif_not, bif_true', bif_false', bnd_ok, lk_inl, lk_inr, Int.toNat_natCast]
      simp only [Option.some.injEq, LR.next.injEq, Prod.mk.injEq]
      refine ⟨by omega, tab_congr fun c _ => ?_⟩
      rw [cntC_succ ws c i hi]
      by_cases e : (c : Int) = best
      · simp [e]
      · rw [if_neg e, if_neg e, if_neg (fun h => e (h.symm.trans hb))]
        rfl
    · simp (disch := omega) only [graph_StrongL3K, tab_len, tab_getD k1, tab_getD k3, ckB_ix, ckB_inR, ckB_room, ckB_cut, ckB_mk, ckB_ne, bif_lt, bif_nlt, bif_le, bif_nle, bif_eq, bif_neq, bif_ne, bif_nne, bif_not, bif_true', bif_false', bnd_ok, lk_inl, lk_inr, Int.toNat_natCast]
      simp only [tab_set, Option.some.injEq, LR.next.injEq, Prod.mk.injEq]
      refine ⟨by omega, tab_congr fun c _ => ?_⟩
      rw [cntC_succ ws c i hi]
      by_cases e : c = Int.toNat (cl (Int.toNat (ws.getD i 0)))
      · have e' : cl (Int.toNat (ws.getD i 0)) = (c : Int) := by omega
        rw [if_pos e, ← e, if_neg (by omega), if_neg (by omega), if_pos e']
        omega
      · have e' : ¬ cl (Int.toNat (ws.getD i 0)) = (c : Int) := by omega
        rw [if_neg e, if_neg e']
        rfl
  · simp (disch := omega) only [graph_StrongL3K, ckB_ix, ckB_inR, ckB_room, ckB_cut, ckB_mk, ckB_ne, bif_lt, bif_nlt, bif_le, bif_nle, bif_eq, bif_neq, bif_ne, bif_nne, bif_not, bif_true', bif_false', bnd_ok, lk_inl, lk_inr, Int.toNat_natCast]
    rw [List.take_length]
  · refine Prod.ext rfl (tab_congr fun c _ => ?_)
    simp [cntC]

theorem cntC_nxt (v0 : Nat) (c : Int) : ∀ E : List St4, cntC cl (nxt false E v0) c = E.countP fun e => decide (src e = v0) && decide (cl (dst e) = c)
  | [] => by simp [cntC, nxt]
  | e :: E => by
    have ih := cntC_nxt v0 c E
    unfold cntC nxt at ih ⊢
    simp only [List.flatMap_cons, List.countP_append, ih, List.countP_cons]
    by_cases h : src e = v0 <;> by_cases h' : cl (dst e) = c <;> simp [ng, h, h'] <;> omega

/-- Edges from a list into a class. -/
def cntL (E : List St4) (cl : Nat → Int) (l : List Nat) (c : Int) : Nat := E.countP fun e => decide (src e ∈ l) && decide (cl (dst e) = c)
theorem cntL_succ {l : List Nat} {v : Nat} (hn : v ∉ l) (c : Int) : cntL E cl (l ++ [v]) c = cntL E cl l c + cntC cl (nxt false E v) c := by
  rw [cntC_nxt]
  unfold cntL
  induction E with
  | nil => rfl
  | cons e E ih =>
    simp only [List.countP_cons, ih]
    by_cases h : cl (dst e) = c
    · by_cases h1 : src e = v
      · have : src e ∉ l := fun hm => hn (h1 ▸ hm)
        simp only [List.mem_append, List.mem_singleton, h1, or_true, hn, decide_true, decide_false, h, Bool.and_true]
        simp
        omega
      · by_cases h2 : src e ∈ l
        · simp [h, h1, h2]
          omega
        · simp [h, h1, h2]
    · simp [h]
theorem cntL_le (l : List Nat) (c : Int) : cntL E cl l c ≤ E.length := List.countP_le_length
theorem cntS_le (T : List Nat) (c : Int) : cntS E cl T c ≤ E.length := List.countP_le_length

theorem StrongL4_eq (hE : E.length ≤ 20000) (hv : VE N E) (hB : CB N n cl) (f : Nat → Int) (hf : ∀ v, -20000 ≤ f v ∧ f v ≤ 20000) (best : Int) (l : List Nat) (hl : l.Nodup) (hlN : ∀ v ∈ l, v < N) (hlen : l.length ≤ 1000)
    (ms : List (List Int)) (v84 v85 : Int) (tk : List Bool) (out : List (List Int)) :
    graph_StrongL4 (tab N cl) (n : Int) ms (tab N (nxt false E)) best v84 v85 (casts l) ((casts l).length : Int) tk out (0, tab n f) = some (.inl (tab n fun c => f c - if (c : Int) = best then 0 else (cntL E cl l c : Int))) := by
  have hcl : (casts l).length = l.length := by simp
  rw [hcl]
  refine loop_to (fun i : Nat => ((i : Int), tab n fun c => f c - if (c : Int) = best then 0 else (cntL E cl (l.take i) c : Int))) l.length (many_of (by omega)) _ ?_ ?_ _ ?_
  · intro i hi
    have hg : (casts l).getD i 0 = ((l.getD i 0 : Nat) : Int) := casts_getD l i
    have hvN : l.getD i 0 < N := hlN _ (getD_mem 0 hi)
    have hwl := nxt_len false E (l.getD i 0)
    have hL3 := StrongL3_eq hB (ws := nxt false E (l.getD i 0)) (by omega) (fun j hj => nxt_in hv false _ (getD_mem 0 hj)) (fun c => f c - if (c : Int) = best then 0 else (cntL E cl (l.take i) c : Int)) (fun c => by
      have := hf c
      have := cntL_le (E := E) (cl := cl) (l.take i) c
      split <;> omega) best ms (tab N (nxt false E)) v84 v85 (l.length : Int) (i : Int) (casts l) tk out
    simp (disch := omega) only [graph_StrongL4K, hg, hcl, tab_len, tab_getD hvN, hL3, ckB_ix, ckB_inR, ckB_room, ckB_cut, ckB_mk, ckB_ne, bif_lt, bif_nlt, bif_le, bif_nle, bif_eq, bif_neq, bif_ne, bif_nne, bif_not, bif_true', bif_false', bnd_ok, lk_inl, lk_inr, Int.toNat_natCast]
    simp only [Option.some.injEq, LR.next.injEq, Prod.mk.injEq]
    refine ⟨by omega, tab_congr fun c _ => ?_⟩
    have hnd : l.getD i 0 ∉ l.take i := by
      have h1 := take_succ_getD l i 0 hi
      have h2 : (l.take (i + 1)).Nodup := (List.take_sublist _ _).nodup hl
      rw [h1, List.nodup_append] at h2
      intro hm
      exact h2.2.2 _ hm _ (by simp) rfl
    rw [take_succ_getD l i 0 hi, cntL_succ hnd]
    split <;> omega
  · simp (disch := omega) only [graph_StrongL4K, ckB_ix, ckB_inR, ckB_room, ckB_cut, ckB_mk, ckB_ne, bif_lt, bif_nlt, bif_le, bif_nle, bif_eq, bif_neq, bif_ne, bif_nne, bif_not, bif_true', bif_false', bnd_ok, lk_inl, lk_inr, Int.toNat_natCast]
    rw [List.take_length]
  · refine Prod.ext rfl (tab_congr fun c _ => ?_)
    simp [cntL]

theorem cntS_step (hC : VE N E) {T : List Nat} {v : Nat} (hnt : tkB cl T (cl v) = false) (c : Int) :
    (cntS E cl T c : Int) - (if c = cl v then 0 else (cntL E cl (mem N cl (cl v)) c : Int)) = cntS E cl (T ++ [v]) c := by
  have key : cntS E cl T c = cntS E cl (T ++ [v]) c + if c = cl v then 0 else cntL E cl (mem N cl (cl v)) c := by
    unfold cntS cntL
    by_cases e : c = cl v
    · rw [if_pos e, Nat.add_zero]
      refine List.countP_congr fun x hx => ?_
      simp only [tkB_add]
      by_cases h1 : cl (src x) = c
      · simp [h1]
      · have : ¬ cl v = cl (src x) := fun h => h1 (by rw [e, h])
        simp [this]
    · rw [if_neg e, countP_split _ (fun x => !decide (cl v = cl (src x))) E]
      refine congr (congrArg HAdd.hAdd (List.countP_congr fun x hx => ?_)) (List.countP_congr fun x hx => ?_)
      · simp only [tkB_add]
        by_cases h1 : cl v = cl (src x) <;> simp [h1]
      · obtain ⟨v1, v2, v3, v4⟩ := hC.mem hx
        have hs : src x < N := by show Int.toNat x.1 < N; omega
        by_cases h1 : cl (src x) = cl v
        · have h2 : ¬ cl v = c := fun h => e h.symm
          simp [mem_mem, h1, hs, hnt, h2]
        · have h2 : ¬ cl v = cl (src x) := fun h => h1 h.symm
          simp [mem_mem, h1, h2]
  rw [key]
  split <;> omega

end
end Go.Proofs.Ytmcmlloigphbeaa
