/-
  Graphs: Order. Both the program and the reference take, again and again, the first vertex that is free.
-/
import Derived.Test.YtmcmlloigphbeaaP2
set_option linter.all false
namespace Go.Proofs.Ytmcmlloigphbeaa
open Go.K Go.M

def cntD (E : List St4) (v : Nat) : Nat := E.countP fun e => decide (dst e = v)
theorem cntD_succ (E : List St4) (v i : Nat) (h : i < E.length) : cntD (E.take (i + 1)) v = cntD (E.take i) v + if dst (E.getD i St4.z) = v then 1 else 0 := by
  unfold cntD
  rw [take_succ_getD E i St4.z h, List.countP_append]
  generalize E.getD i St4.z = x
  by_cases e : dst x = v <;> simp [e]
theorem cntD_le (E : List St4) (v i : Nat) : cntD (E.take i) v ≤ i := by
  have h1 : cntD (E.take i) v ≤ (E.take i).length := List.countP_le_length
  have h2 : (E.take i).length ≤ i := by simp; omega
  omega

theorem OrderL0_eq {N : Nat} {E : List St4} (hN : N ≤ 1000) (hE : E.length ≤ 20000) (hv : VE N E) (a : Int) (b : List St4) :
    graph_OrderL0 E (E.length : Int) a b (0, List.replicate (Int.toNat (N : Int)) (0 : Int)) = some (.inl (tab N fun v => (cntD E v : Int))) := by
  refine loop_to (fun i : Nat => ((i : Int), tab N fun v => (cntD (E.take i) v : Int))) E.length (many_of (by omega)) _ ?_ ?_ _ ?_
  · intro i hi
    obtain ⟨h1, h2, h3, h4⟩ := hv i hi
    have l1 := cntD_le E (Int.toNat (E.getD i St4.z).2.1) i
    have k2 : Int.toNat (E.getD i St4.z).2.1 < N := by omega
    simp (disch := omega) only [graph_OrderL0K, tab_len, tab_getD k2, ckB_ix, ckB_inR, ckB_room, ckB_cut, ckB_mk, ckB_ne, bif_lt, bif_nlt, bif_le, bif_nle, bif_eq, bif_neq, bif_ne, bif_nne, bif_not, bif_true', bif_false', bnd_ok, lk_inl, lk_inr, Int.toNat_natCast]
    simp only [tab_set, Option.some.injEq, LR.next.injEq, Prod.mk.injEq]
    refine ⟨by omega, tab_congr fun v hv' => ?_⟩
    rw [cntD_succ E v i hi]
    generalize E.getD i St4.z = x at *
    by_cases e : v = Int.toNat x.2.1
    · subst e; simp
    · simp [e, Ne.symm e]
  · simp (disch := omega) only [graph_OrderL0K, ckB_ix, ckB_inR, ckB_room, ckB_cut, ckB_mk, ckB_ne, bif_lt, bif_nlt, bif_le, bif_nle, bif_eq, bif_neq, bif_ne, bif_nne, bif_not, bif_true', bif_false', bnd_ok, lk_inl, lk_inr, Int.toNat_natCast]
    rw [List.take_length]
  · simp only [Int.toNat_natCast, tab_rep]
    refine Prod.ext rfl (tab_congr fun v _ => ?_)
    simp [cntD]

def cntW (ws : List Int) (v : Nat) : Nat := ws.countP fun w => decide (Int.toNat w = v)
theorem cntW_succ (ws : List Int) (v i : Nat) (h : i < ws.length) : cntW (ws.take (i + 1)) v = cntW (ws.take i) v + if Int.toNat (ws.getD i 0) = v then 1 else 0 := by
  unfold cntW
  rw [take_succ_getD ws i 0 h, List.countP_append]
  generalize ws.getD i 0 = x
  by_cases e : Int.toNat x = v <;> simp [e]
theorem cntW_le (ws : List Int) (v i : Nat) : cntW (ws.take i) v ≤ i := by
  have h1 : cntW (ws.take i) v ≤ (ws.take i).length := List.countP_le_length
  have h2 : (ws.take i).length ≤ i := by simp; omega
  omega

theorem OrderL1_eq {N : Nat} {ws : List Int} (hl : ws.length ≤ 40000) (hw : ∀ i, i < ws.length → 0 ≤ ws.getD i 0 ∧ ws.getD i 0 < (N : Int)) (f : Nat → Int) (hf : ∀ v, -100000 ≤ f v ∧ f v ≤ 100000) (a : List (List Int)) (b c : Int) (d : List Int) :
    graph_OrderL1 a b c ws (ws.length : Int) d (0, tab N f) = some (.inl (tab N fun v => f v - (cntW ws v : Int))) := by
  refine loop_to (fun i : Nat => ((i : Int), tab N fun v => f v - (cntW (ws.take i) v : Int))) ws.length (many_of (by omega)) _ ?_ ?_ _ ?_
  · intro i hi
    obtain ⟨h1, h2⟩ := hw i hi
    have l1 := cntW_le ws (Int.toNat (ws.getD i 0)) i
    have l2 := hf (Int.toNat (ws.getD i 0))
    have k2 : Int.toNat (ws.getD i 0) < N := by omega
    simp (disch := omega) only [graph_OrderL1K, tab_len, tab_getD k2, ckB_ix, ckB_inR, ckB_room, ckB_cut, ckB_mk, ckB_ne, bif_lt, bif_nlt, bif_le, bif_nle, bif_eq, bif_neq, bif_ne, bif_nne, bif_not, bif_true', bif_false', bnd_ok, lk_inl, lk_inr, Int.toNat_natCast]
    simp only [tab_set, Option.some.injEq, LR.next.injEq, Prod.mk.injEq]
    refine ⟨by omega, tab_congr fun v hv' => ?_⟩
    rw [cntW_succ ws v i hi]
    generalize ws.getD i 0 = x at *
    by_cases e : v = Int.toNat x
    · subst e; simp; omega
    · simp [e, Ne.symm e]
  · simp (disch := omega) only [graph_OrderL1K, ckB_ix, ckB_inR, ckB_room, ckB_cut, ckB_mk, ckB_ne, bif_lt, bif_nlt, bif_le, bif_nle, bif_eq, bif_neq, bif_ne, bif_nne, bif_not, bif_true', bif_false', bnd_ok, lk_inl, lk_inr, Int.toNat_natCast]
    rw [List.take_length]
  · refine Prod.ext rfl (tab_congr fun v _ => ?_)
    simp [cntW]

/-! What is open, when 'out' was taken. -/
def cntO (E : List St4) (out : List Nat) (v : Nat) : Nat := E.countP fun e => decide (dst e = v) && !decide (src e ∈ out)
def opn (E : List St4) (out : List Nat) (v : Nat) : Int := if v ∈ out then -1 else (cntO E out v : Int)
def freeB (E : List St4) (out : List Nat) (v : Nat) : Bool := !decide (v ∈ out) && E.all fun e => !decide (dst e = v) || decide (src e ∈ out)
def pick (N : Nat) (E : List St4) (out : List Nat) : Option Nat := (List.range N).find? (freeB E out)

theorem opn_zero (E : List St4) (out : List Nat) (v : Nat) : opn E out v = 0 ↔ freeB E out v = true := by
  unfold opn freeB cntO
  by_cases h : v ∈ out
  · simp [h]
  · simp only [h, if_false, decide_false, Bool.not_false, Bool.true_and, Int.natCast_eq_zero, List.countP_eq_zero, List.all_eq_true, Bool.and_eq_true, decide_eq_true_eq, Bool.not_eq_true', decide_eq_false_iff_not, Bool.or_eq_true, not_and, Classical.not_not]
    constructor
    · intro h1 e he
      by_cases hd : dst e = v
      · exact .inr (h1 e he hd)
      · exact .inl hd
    · intro h1 e he hd
      exact (h1 e he).resolve_left fun hn => hn hd

structure InvO (N : Nat) (E : List St4) (out : List Nat) : Prop where
  nd : out.Nodup
  lt : ∀ v ∈ out, v < N
  cl : ∀ v ∈ out, ∀ e ∈ E, dst e = v → src e ∈ out

theorem pick_some {N : Nat} {E : List St4} {out : List Nat} {v : Nat} (h : pick N E out = some v) : v < N ∧ freeB E out v = true ∧ ∀ i, i < v → freeB E out i = false := by
  unfold pick at h
  have h1 := List.find?_some h
  have h2 := List.mem_range.1 (List.mem_of_find?_eq_some h)
  refine ⟨h2, h1, fun i hi => ?_⟩
  obtain ⟨_, as, bs, hab, hn⟩ := List.find?_eq_some_iff_append.1 h
  have hlen : as.length = v := by
    have h3 : (List.range N)[as.length]? = some v := by rw [hab]; simp
    rw [List.getElem?_range (by
      have := congrArg List.length hab
      simp at this
      omega)] at h3
    exact Option.some.inj h3
  have hmem : i ∈ as := by
    have h3 : (List.range N)[i]? = some i := List.getElem?_range (by omega)
    rw [hab, List.getElem?_append_left (by omega)] at h3
    exact List.mem_of_getElem? h3
  simpa using hn i hmem
theorem pick_none {N : Nat} {E : List St4} {out : List Nat} (h : pick N E out = none) : ∀ i, i < N → freeB E out i = false := by
  unfold pick at h
  intro i hi
  have := List.find?_eq_none.1 h i (List.mem_range.2 hi)
  simpa using this

theorem InvO.add {N : Nat} {E : List St4} {out : List Nat} (h : InvO N E out) {v : Nat} (hv : pick N E out = some v) : InvO N E (out ++ [v]) := by
  obtain ⟨h1, h2, _⟩ := pick_some hv
  simp only [freeB, Bool.and_eq_true, Bool.not_eq_true', decide_eq_false_iff_not, List.all_eq_true, Bool.or_eq_true, decide_eq_true_eq] at h2
  refine ⟨?_, fun w hw => ?_, fun w hw e he hd => ?_⟩
  · rw [List.nodup_append]
    refine ⟨h.nd, by simp, fun a ha b hb => ?_⟩
    simp at hb
    subst hb
    exact fun e => h2.1 (e ▸ ha)
  · rcases List.mem_append.1 hw with hw | hw
    · exact h.lt w hw
    · simp at hw; omega
  · rcases List.mem_append.1 hw with hw | hw
    · exact List.mem_append_left _ (h.cl w hw e he hd)
    · simp at hw
      subst hw
      exact List.mem_append_left _ ((h2.2 e he).resolve_left fun hn => hn hd)

theorem cntW_nxt (v0 v : Nat) : ∀ E : List St4, cntW (nxt false E v0) v = E.countP fun e => decide (src e = v0) && decide (dst e = v)
  | [] => by simp [cntW, nxt]
  | e :: E => by
    have ih := cntW_nxt v0 v E
    unfold cntW nxt at ih ⊢
    simp only [List.flatMap_cons, List.countP_append, ih, List.countP_cons]
    by_cases h : src e = v0 <;> by_cases h' : dst e = v <;> simp [ng, h, h'] <;> omega

theorem countP_split {α : Type} (p q : α → Bool) : ∀ l : List α, l.countP p = (l.countP fun x => p x && q x) + l.countP fun x => p x && !q x
  | [] => by simp
  | x :: l => by
    have ih := countP_split p q l
    simp only [List.countP_cons]
    cases p x <;> cases q x <;> simp <;> omega

theorem opn_step {N : Nat} {E : List St4} {out : List Nat} (h : InvO N E out) {v0 : Nat} (hv : pick N E out = some v0) (v : Nat) :
    (if v = v0 then -1 else opn E out v) - (cntW (nxt false E v0) v : Int) = opn E (out ++ [v0]) v := by
  obtain ⟨_, h2, _⟩ := pick_some hv
  simp only [freeB, Bool.and_eq_true, Bool.not_eq_true', decide_eq_false_iff_not, List.all_eq_true, Bool.or_eq_true, decide_eq_true_eq] at h2
  rw [cntW_nxt]
  by_cases hin : v ∈ out ++ [v0]
  · have hz : (E.countP fun e => decide (src e = v0) && decide (dst e = v)) = 0 := by
      rw [List.countP_eq_zero]
      intro e he hc
      simp only [Bool.and_eq_true, decide_eq_true_eq] at hc
      rcases List.mem_append.1 hin with hw | hw
      · exact h2.1 (hc.1 ▸ h.cl v hw e he hc.2)
      · simp at hw
        subst hw
        rcases h2.2 e he with hn | hn
        · exact hn hc.2
        · exact h2.1 (hc.1 ▸ hn)
    rw [hz]
    unfold opn
    rw [if_pos hin]
    by_cases e : v = v0
    · simp [e]
    · have : v ∈ out := by simpa [e] using hin
      simp [e, this]
  · have hne : v ≠ v0 := fun e => hin (by simp [e])
    have hno : v ∉ out := fun e => hin (List.mem_append_left _ e)
    unfold opn
    rw [if_neg hne, if_neg hno, if_neg hin]
    unfold cntO
    have hs := countP_split (fun e => decide (dst e = v) && !decide (src e ∈ out)) (fun e => decide (src e = v0)) E
    have e1 : (E.countP fun e => (decide (dst e = v) && !decide (src e ∈ out)) && decide (src e = v0)) = E.countP fun e => decide (src e = v0) && decide (dst e = v) := by
      refine List.countP_congr fun e _ => ?_
      simp only [Bool.and_eq_true, decide_eq_true_eq, Bool.not_eq_true', decide_eq_false_iff_not]
      constructor
      · rintro ⟨⟨h3, _⟩, h5⟩; exact ⟨h5, h3⟩
      · rintro ⟨h3, h4⟩; exact ⟨⟨h4, fun hm => h2.1 (h3 ▸ hm)⟩, h3⟩
    have e2 : (E.countP fun e => (decide (dst e = v) && !decide (src e ∈ out)) && !decide (src e = v0)) = E.countP fun e => decide (dst e = v) && !decide (src e ∈ out ++ [v0]) := by
      refine List.countP_congr fun e _ => ?_
      simp only [Bool.and_eq_true, decide_eq_true_eq, Bool.not_eq_true', decide_eq_false_iff_not, List.mem_append, List.mem_singleton, not_or]
      constructor
      · rintro ⟨⟨h3, h4⟩, h5⟩; exact ⟨h3, h4, h5⟩
      · rintro ⟨h3, h4, h5⟩; exact ⟨⟨h3, h4⟩, h5⟩
    rw [e1, e2] at hs
    omega

/-- What is taken in the end; k more may be taken. -/
def fin (N : Nat) (E : List St4) : Nat → List Nat → List Nat
  | 0, out => out
  | k + 1, out => match pick N E out with | none => out | some v => fin N E k (out ++ [v])

abbrev casts (l : List Nat) : List Int := l.map fun (v : Nat) => (v : Int)

theorem cntO_le (E : List St4) (out : List Nat) (v : Nat) : cntO E out v ≤ E.length := List.countP_le_length
theorem opn_bd {E : List St4} (hE : E.length ≤ 20000) (out : List Nat) (v : Nat) : -1 ≤ opn E out v ∧ opn E out v ≤ 20000 := by
  have := cntO_le E out v
  unfold opn
  split <;> omega

theorem nxt_in {N : Nat} {E : List St4} (hv : VE N E) (both : Bool) (v : Nat) {w : Int} (hw : w ∈ nxt both E v) : 0 ≤ w ∧ w < (N : Int) := by
  unfold nxt at hw
  obtain ⟨e, he, hw⟩ := List.mem_flatMap.1 hw
  obtain ⟨h1, h2, h3, h4⟩ := hv.mem he
  unfold ng at hw
  rcases List.mem_append.1 hw with hw | hw
  · split at hw
    · simp at hw; subst hw; exact ⟨h3, h4⟩
    · simp at hw
  · split at hw
    · simp at hw; subst hw; exact ⟨h1, h2⟩
    · simp at hw

def opStep (N : Nat) (E : List St4) (a : Int × List Int × List Int) : Option (LR (Int × List Int × List Int) (List Int) (Int × List Int)) :=
  graph_OrderL2K (tab N (nxt false E)) (N : Int) a.1 a.2.1 a.2.2 (fun a' => some (.next a')) (fun e => some (.done e)) (fun r => some (.ret r))

theorem OrderL2_eq {N : Nat} {E : List St4} (hN : N ≤ 1000) (hE : E.length ≤ 20000) (hv : VE N E) : ∀ (k : Nat) (out : List Nat), k + out.length = N → InvO N E out → ∀ m, k < m →
    iter (opStep N E) m ((out.length : Int), tab N (opn E out), casts out) =
      some (if (fin N E k out).length = N then (.inl (casts (fin N E k out)) : List Int ⊕ (Int × List Int)) else .inr (16, [])) := by
  intro k
  induction k with
  | zero =>
    intro out hk hI m hm
    obtain ⟨m, rfl⟩ : ∃ q, m = q + 1 := ⟨m - 1, by omega⟩
    have hl : (out.length : Int) = (N : Int) := by omega
    have hs : opStep N E ((out.length : Int), tab N (opn E out), casts out) = some (.done (casts out)) := by
      simp (disch := omega) only [opStep, graph_OrderL2K, ckB_ix, ckB_inR, ckB_room, ckB_cut, ckB_mk, ckB_ne, bif_lt, bif_nlt, bif_le, bif_nle, bif_eq, bif_neq, bif_ne, bif_nne, bif_not, bif_true', bif_false', bnd_ok, lk_inl, lk_inr, Int.toNat_natCast]
    rw [iter_succ, hs, bnd_ok]
    have hf : (if (fin N E 0 out).length = N then (.inl (casts (fin N E 0 out)) : List Int ⊕ (Int × List Int)) else .inr (16, [])) = .inl (casts out) := if_pos (show out.length = N by omega)
    rw [hf]
    rfl
  | succ k ih =>
    intro out hk hI m hm
    obtain ⟨m, rfl⟩ : ∃ q, m = q + 1 := ⟨m - 1, by omega⟩
    cases hp : pick N E out with
    | none =>
      have hnone := index_none (tab N (opn E out)) 0 (by rw [tab_len]; omega) (fun i hi => by
        rw [tab_len] at hi
        rw [tab_getD hi]
        intro h0
        have h1 := pick_none hp i hi
        rw [(opn_zero E out i).1 h0] at h1
        cases h1)
      have hs : opStep N E ((out.length : Int), tab N (opn E out), casts out) = some (.ret (16, [])) := by
        simp (disch := omega) only [opStep, graph_OrderL2K, hnone, ckB_ix, ckB_inR, ckB_room, ckB_cut, ckB_mk, ckB_ne, bif_lt, bif_nlt, bif_le, bif_nle, bif_eq, bif_neq, bif_ne, bif_nne, bif_not, bif_true', bif_false', bnd_ok, lk_inl, lk_inr, Int.toNat_natCast]
      rw [iter_succ, hs, bnd_ok]
      simp only [fin, hp]
      rw [if_neg (by omega)]
      rfl
    | some v =>
      obtain ⟨h1, h2, h3⟩ := pick_some hp
      have hsome := index_first (tab N (opn E out)) 0 (by rw [tab_len]; omega) (k := v) (by rw [tab_len]; exact h1) (by rw [tab_getD h1]; exact (opn_zero E out v).2 h2) (fun i hi => by
        rw [tab_getD (show i < N by omega)]
        intro h0
        have h1 := h3 i hi
        rw [(opn_zero E out i).1 h0] at h1
        cases h1)
      have hlen : (casts out).length = out.length := by simp
      have hL1 := OrderL1_eq (N := N) (ws := nxt false E v) (by have := nxt_len false E v; omega) (fun i hi => nxt_in hv false v (getD_mem 0 hi)) (fun w => if w = v then -1 else opn E out w) (fun w => by
        have := opn_bd hE out w
        split <;> omega) (tab N (nxt false E)) (N : Int) (out.length : Int) (casts out ++ [(v : Int)])
      have hs : opStep N E ((out.length : Int), tab N (opn E out), casts out) = some (.next ((out.length : Int) + 1, tab N (fun w => (if w = v then -1 else opn E out w) - (cntW (nxt false E v) w : Int)), casts out ++ [(v : Int)])) := by
        simp (disch := omega) only [opStep, graph_OrderL2K, hsome, tab_len, tab_set, tab_getD h1, hL1, hlen, ckB_ix, ckB_inR, ckB_room, ckB_cut, ckB_mk, ckB_ne, bif_lt, bif_nlt, bif_le, bif_nle, bif_eq, bif_neq, bif_ne, bif_nne, bif_not, bif_true', bif_false', bnd_ok, lk_inl, lk_inr, Int.toNat_natCast]
      have hst : (((out.length : Int) + 1, tab N (fun w => (if w = v then -1 else opn E out w) - (cntW (nxt false E v) w : Int)), casts out ++ [(v : Int)]) : Int × List Int × List Int) = (((out ++ [v]).length : Int), tab N (opn E (out ++ [v])), casts (out ++ [v])) := by
        refine Prod.ext (by simp) (Prod.ext (tab_congr fun w _ => ?_) (by simp))
        exact opn_step hI hp w
      rw [iter_succ, hs, bnd_ok, hst]
      simp only [fin, hp]
      exact ih (out ++ [v]) (by simp; omega) (hI.add hp) m (by omega)

/-! The reference. -/
theorem free_eq {N : Nat} {E : List St4} (hE : E.length ≤ 20000) (hv : VE N E) (out : List Nat) (v : Nat) (a : Int) : ref04_free (a, E, ()) (v : Int) (tab N fun w => decide (w ∈ out)) = some (E.all fun e => !decide (dst e = v) || decide (src e ∈ out)) := by
  unfold ref04_free
  simp only
  have hloop : ref04_freeL0 (v : Int) (tab N fun w => decide (w ∈ out)) a E 0 = some (bif (List.range E.length).all (fun i => !decide (dst (E.getD i St4.z) = v) || decide (src (E.getD i St4.z) ∈ out)) then .inl () else .inr false) := by
    refine loop_all (fun i : Nat => (i : Int)) E.length (many_of (by omega)) _ () false ?_ ?_ ?_
    · intro i hi hp
      obtain ⟨h1, h2, h3, h4⟩ := hv i hi
      have k1 : Int.toNat (E.getD i St4.z).1 < N := by omega
      by_cases hd : (E.getD i St4.z).2.1 = (v : Int)
      · have hs : src (E.getD i St4.z) ∈ out := by
          have hd' : dst (E.getD i St4.z) = v := by simp only [dst]; omega
          simp only [Bool.or_eq_true, Bool.not_eq_true', decide_eq_false_iff_not, decide_eq_true_eq] at hp
          exact hp.resolve_left fun hn => hn hd'
        simp (disch := omega) only [ref04_freeL0K, tab_len, tab_getD k1, hs, decide_true, Bool.not_true, ckB_ix, ckB_inR, ckB_room, ckB_cut, ckB_mk, ckB_ne, bif_lt, bif_nlt, bif_le, bif_nle, bif_eq, bif_neq, bif_ne, bif_nne, bif_not, bif_true', bif_false', bnd_ok, lk_inl, lk_inr, Int.toNat_natCast]
        rw [cast_succ]
      · simp (disch := omega) only [ref04_freeL0K, ckB_ix, ckB_inR, ckB_room, ckB_cut, ckB_mk, ckB_ne, bif_lt, bif_nlt, bif_le, bif_nle, bif_eq, bif_neq, bif_ne, bif_nne, bif_not, bif_true', bif_false', bnd_ok, lk_inl, lk_inr, Int.toNat_natCast]
        rw [cast_succ]
    · intro i hi hp
      obtain ⟨h1, h2, h3, h4⟩ := hv i hi
      have k1 : Int.toNat (E.getD i St4.z).1 < N := by omega
      simp only [Bool.or_eq_false_iff, Bool.not_eq_false', decide_eq_true_eq, decide_eq_false_iff_not] at hp
      have hd : (E.getD i St4.z).2.1 = (v : Int) := by have := hp.1; simp only [dst] at this; omega
      have hs : decide (src (E.getD i St4.z) ∈ out) = false := by simpa using hp.2
      simp (disch := omega) only [ref04_freeL0K, tab_len, tab_getD k1, hs, Bool.not_false, ckB_ix, ckB_inR, ckB_room, ckB_cut, ckB_mk, ckB_ne, bif_lt, bif_nlt, bif_le, bif_nle, bif_eq, bif_neq, bif_ne, bif_nne, bif_not, bif_true', bif_false', bnd_ok, lk_inl, lk_inr, Int.toNat_natCast]
    · simp (disch := omega) only [ref04_freeL0K, ckB_ix, ckB_inR, ckB_room, ckB_cut, ckB_mk, ckB_ne, bif_lt, bif_nlt, bif_le, bif_nle, bif_eq, bif_neq, bif_ne, bif_nne, bif_not, bif_true', bif_false', bnd_ok, lk_inl, lk_inr, Int.toNat_natCast]
  rw [hloop, bnd_ok]
  have hall : (List.range E.length).all (fun i => !decide (dst (E.getD i St4.z) = v) || decide (src (E.getD i St4.z) ∈ out)) = E.all fun e => !decide (dst e = v) || decide (src e ∈ out) := by
    rw [Bool.eq_iff_iff, List.all_eq_true, List.all_eq_true]
    constructor
    · intro h e he
      obtain ⟨i, hi, rfl⟩ := mem_getD St4.z he
      exact h i (List.mem_range.2 hi)
    · intro h i hi
      exact h _ (getD_mem St4.z (List.mem_range.1 hi))
  rw [hall]
  cases (E.all fun e => !decide (dst e = v) || decide (src e ∈ out)) <;> rfl

abbrev tk (N : Nat) (out : List Nat) : List Bool := tab N fun w => decide (w ∈ out)
theorem tk_add (N : Nat) (out : List Nat) (v : Nat) : (tk N out).set v true = tk N (out ++ [v]) := by
  rw [tab_set]
  refine tab_congr fun w _ => ?_
  by_cases e : w = v <;> simp [e]

theorem refStep_no {N : Nat} {E : List St4} (hN : N ≤ 1000) (hE : E.length ≤ 20000) (hv : VE N E) (out : List Nat) {i : Nat} (hi : i < N) (hf : freeB E out i = false) (o : List Int) :
    ref04_OrderL0K (R := LR (Bool × Int × List Int × List Bool) (Bool × List Int × List Bool) (Bool × List Int)) (N : Int) E false (i : Int) o (tk N out) (fun a' => some (.next a')) (fun e => some (.done e)) (fun r => some (.ret r)) = some (.next (false, ((i + 1 : Nat) : Int), o, tk N out)) := by
  have hfr := free_eq hE hv out i (N : Int)
  unfold freeB at hf
  by_cases hin : i ∈ out
  · have hd : decide (i ∈ out) = true := by simpa using hin
    simp (disch := omega) only [ref04_OrderL0K, tab_len, tab_getD hi, hd, Bool.not_true, Bool.not_false, ckB_ix, ckB_inR, ckB_room, ckB_cut, ckB_mk, ckB_ne, bif_lt, bif_nlt, bif_le, bif_nle, bif_eq, bif_neq, bif_ne, bif_nne, bif_not, bif_true', bif_false', bnd_ok, lk_inl, lk_inr, Int.toNat_natCast]
    rw [cast_succ]
  · have hd : decide (i ∈ out) = false := by simpa using hin
    rw [hd] at hf
    simp only [Bool.not_false, Bool.true_and] at hf
    rw [hf] at hfr
    simp (disch := omega) only [ref04_OrderL0K, tab_len, tab_getD hi, hd, hfr, Bool.not_false, ckB_ix, ckB_inR, ckB_room, ckB_cut, ckB_mk, ckB_ne, bif_lt, bif_nlt, bif_le, bif_nle, bif_eq, bif_neq, bif_ne, bif_nne, bif_not, bif_true', bif_false', bnd_ok, lk_inl, lk_inr, Int.toNat_natCast]
    rw [cast_succ]
theorem refStep_yes {N : Nat} {E : List St4} (hN : N ≤ 1000) (hE : E.length ≤ 20000) (hv : VE N E) (out : List Nat) (hl : out.length ≤ 1000) {i : Nat} (hi : i < N) (hf : freeB E out i = true) :
    ref04_OrderL0K (R := LR (Bool × Int × List Int × List Bool) (Bool × List Int × List Bool) (Bool × List Int)) (N : Int) E false (i : Int) (casts out) (tk N out) (fun a' => some (.next a')) (fun e => some (.done e)) (fun r => some (.ret r)) = some (.next (true, ((i + 1 : Nat) : Int), casts (out ++ [i]), tk N (out ++ [i]))) := by
  have hfr := free_eq hE hv out i (N : Int)
  unfold freeB at hf
  simp only [Bool.and_eq_true, Bool.not_eq_true'] at hf
  rw [hf.2] at hfr
  have hlen : (casts out).length = out.length := by simp
  have hd := hf.1
  simp (disch := omega) only [ref04_OrderL0K, tab_len, tab_getD hi, hd, hfr, Bool.not_false, hlen, ckB_ix, ckB_inR, ckB_room, ckB_cut, ckB_mk, ckB_ne, bif_lt, bif_nlt, bif_le, bif_nle, bif_eq, bif_neq, bif_ne, bif_nne, bif_not, bif_true', bif_false', bnd_ok, lk_inl, lk_inr, Int.toNat_natCast]
  rw [cast_succ, tk_add]
  simp

theorem refL0_eq {N : Nat} {E : List St4} (hN : N ≤ 1000) (hE : E.length ≤ 20000) (hv : VE N E) (out : List Nat) (hl : out.length ≤ 1000) :
    ref04_OrderL0 (N : Int) E (false, 0, casts out, tk N out) = some (.inl (match pick N E out with | none => (false, casts out, tk N out) | some v => (true, casts (out ++ [v]), tk N (out ++ [v])))) := by
  cases hp : pick N E out with
  | none =>
    refine loop_to (fun i : Nat => (false, (i : Int), casts out, tk N out)) N (many_of (by omega)) _ ?_ ?_ _ rfl
    · intro i hi
      exact refStep_no hN hE hv out hi (pick_none hp i hi) _
    · simp (disch := omega) only [ref04_OrderL0K, ckB_ix, ckB_inR, ckB_room, ckB_cut, ckB_mk, ckB_ne, bif_lt, bif_nlt, bif_le, bif_nle, bif_eq, bif_neq, bif_ne, bif_nne, bif_not, bif_true', bif_false', bnd_ok, lk_inl, lk_inr, Int.toNat_natCast]
  | some v =>
    obtain ⟨h1, h2, h3⟩ := pick_some hp
    refine loop_to (fun i : Nat => if i ≤ v then (false, (i : Int), casts out, tk N out) else (true, (i : Int), casts (out ++ [v]), tk N (out ++ [v]))) (v + 1) (many_of (by omega)) _ ?_ ?_ _ (by simp)
    · intro i hi
      have hle : i ≤ v := by omega
      simp only [if_pos hle]
      by_cases e : i = v
      · subst e
        rw [if_neg (by omega)]
        exact refStep_yes hN hE hv out hl h1 h2
      · rw [if_pos (by omega)]
        exact refStep_no hN hE hv out (by omega) (h3 i (by omega)) _
    · rw [if_neg (by omega)]
      by_cases hlt : v + 1 < N
      · simp (disch := omega) only [ref04_OrderL0K, Bool.not_true, ckB_ix, ckB_inR, ckB_room, ckB_cut, ckB_mk, ckB_ne, bif_lt, bif_nlt, bif_le, bif_nle, bif_eq, bif_neq, bif_ne, bif_nne, bif_not, bif_true', bif_false', bnd_ok, lk_inl, lk_inr, Int.toNat_natCast]
      · simp (disch := omega) only [ref04_OrderL0K, ckB_ix, ckB_inR, ckB_room, ckB_cut, ckB_mk, ckB_ne, bif_lt, bif_nlt, bif_le, bif_nle, bif_eq, bif_neq, bif_ne, bif_nne, bif_not, bif_true', bif_false', bnd_ok, lk_inl, lk_inr, Int.toNat_natCast]

def rfStep (N : Nat) (E : List St4) (a : Bool × List Int × List Bool) : Option (LR (Bool × List Int × List Bool) (List Int) (Bool × List Int)) :=
  ref04_OrderL1K (N : Int) E a.1 a.2.1 a.2.2 (fun a' => some (.next a')) (fun e => some (.done e)) (fun r => some (.ret r))

theorem refL1_eq {N : Nat} {E : List St4} (hN : N ≤ 1000) (hE : E.length ≤ 20000) (hv : VE N E) : ∀ (k : Nat) (out : List Nat), k + out.length = N → InvO N E out → ∀ m, k + 1 < m →
    iter (rfStep N E) m (true, casts out, tk N out) = some (.inl (casts (fin N E k out)) : List Int ⊕ (Bool × List Int)) := by
  intro k
  have stop : ∀ (out : List Nat), out.length ≤ 1000 → pick N E out = none → ∀ m, 1 < m → iter (rfStep N E) m (true, casts out, tk N out) = some (.inl (casts out) : List Int ⊕ (Bool × List Int)) := by
    intro out hl hp m hm
    obtain ⟨m, rfl⟩ : ∃ q, m = q + 2 := ⟨m - 2, by omega⟩
    have h0 := refL0_eq hN hE hv out hl
    rw [hp] at h0
    have hs : rfStep N E (true, casts out, tk N out) = some (.next (false, casts out, tk N out)) := by
      simp (disch := omega) only [rfStep, ref04_OrderL1K, h0, ckB_ix, ckB_inR, ckB_room, ckB_cut, ckB_mk, ckB_ne, bif_lt, bif_nlt, bif_le, bif_nle, bif_eq, bif_neq, bif_ne, bif_nne, bif_not, bif_true', bif_false', bnd_ok, lk_inl, lk_inr, Int.toNat_natCast]
    have hs2 : rfStep N E (false, casts out, tk N out) = some (.done (casts out)) := by
      simp (disch := omega) only [rfStep, ref04_OrderL1K, ckB_ix, ckB_inR, ckB_room, ckB_cut, ckB_mk, ckB_ne, bif_lt, bif_nlt, bif_le, bif_nle, bif_eq, bif_neq, bif_ne, bif_nne, bif_not, bif_true', bif_false', bnd_ok, lk_inl, lk_inr, Int.toNat_natCast]
    rw [iter_succ, hs, bnd_ok]
    change iter (rfStep N E) (m + 1) (false, casts out, tk N out) = _
    rw [iter_succ, hs2, bnd_ok]
    rfl
  induction k with
  | zero =>
    intro out hk hI m hm
    have hp : pick N E out = none := by
      cases hp : pick N E out with
      | none => rfl
      | some v =>
        obtain ⟨h1, h2, _⟩ := pick_some hp
        have := nodup_full hI.nd hI.lt (by omega) h1
        simp [freeB, this] at h2
    exact stop out (by omega) hp m (by omega)
  | succ k ih =>
    intro out hk hI m hm
    cases hp : pick N E out with
    | none =>
      simp only [fin, hp]
      exact stop out (by omega) hp m (by omega)
    | some v =>
      obtain ⟨m, rfl⟩ : ∃ q, m = q + 1 := ⟨m - 1, by omega⟩
      have h0 := refL0_eq hN hE hv out (by omega)
      rw [hp] at h0
      have hs : rfStep N E (true, casts out, tk N out) = some (.next (true, casts (out ++ [v]), tk N (out ++ [v]))) := by
        simp (disch := omega) only [rfStep, ref04_OrderL1K, h0, ckB_ix, ckB_inR, ckB_room, ckB_cut, ckB_mk, ckB_ne, bif_lt, bif_nlt, bif_le, bif_nle, bif_eq, bif_neq, bif_ne, bif_nne, bif_not, bif_true', bif_false', bnd_ok, lk_inl, lk_inr, Int.toNat_natCast]
      rw [iter_succ, hs, bnd_ok]
      simp only [fin, hp]
      exact ih (out ++ [v]) (by simp; omega) (hI.add hp) m (by omega)

theorem InvO.nil (N : Nat) (E : List St4) : InvO N E [] := ⟨List.nodup_nil, fun v h => by simp at h, fun v h => by simp at h⟩

theorem Order_eq {g : Graph} {N : Nat} (hg : g.1 = (N : Int)) (hN : N ≤ 1000) (hE : g.2.1.length ≤ 20000) (hv : VE N g.2.1) (hval : validB g = true) :
    graph_Order g = some (if (fin N g.2.1 N []).length = N then (0, casts (fin N g.2.1 N [])) else (16, [])) := by
  have hga := gathered_eq g hg hN hE hv false
  obtain ⟨n, E, u⟩ := g
  simp only at hg hE hv hga
  subst hg
  unfold graph_Order
  rw [graph_Valid_eq, hval]
  simp only [bnd_ok]
  have h0 := OrderL0_eq hN hE hv (N : Int) E
  have h2 := OrderL2_eq hN hE hv N [] (by simp) (InvO.nil N E) many (many_of (by omega))
  have e0 : tab N (fun v => (cntD E v : Int)) = tab N (opn E []) := tab_congr fun v _ => by simp [opn, cntO, cntD]
  rw [bif_neg (c := !true) rfl, ckB_mk (by omega) (by omega) (by omega) (by omega), h0, bnd_ok, lk_inl, hga, bnd_ok, e0]
  show bnd (iter (opStep N E) many ((([] : List Nat).length : Int), tab N (opn E []), casts [])) _ = _
  rw [h2, bnd_ok]
  split <;> rfl
theorem refOrder_eq {g : Graph} {N : Nat} (hg : g.1 = (N : Int)) (hN : N ≤ 1000) (hE : g.2.1.length ≤ 20000) (hv : VE N g.2.1) :
    ref04_Order g = some (decide ((fin N g.2.1 N []).length = N), casts (fin N g.2.1 N [])) := by
  obtain ⟨n, E, u⟩ := g
  simp only at hg hE hv
  subst hg
  unfold ref04_Order
  simp only
  have h2 := refL1_eq hN hE hv N [] (by simp) (InvO.nil N E) many (by unfold many; omega)
  have e0 : List.replicate (Int.toNat (N : Int)) (false : Bool) = tk N [] := by
    rw [Int.toNat_natCast, tab_rep]
    exact tab_congr fun v _ => by simp
  rw [ckB_mk (by omega) (by omega) (by omega) (by omega), e0]
  show bnd (iter (rfStep N E) many (true, casts [], tk N [])) _ = _
  rw [h2, bnd_ok, lk_inl]
  simp only [List.length_map, Option.some.injEq, Prod.mk.injEq, and_true]
  rw [Bool.eq_iff_iff]
  simp only [decide_eq_true_eq]
  constructor <;> intro h <;> omega

theorem fin_len (N : Nat) (E : List St4) : ∀ (k : Nat) (out : List Nat), (fin N E k out).length ≤ out.length + k
  | 0, out => by simp [fin]
  | k + 1, out => by
    unfold fin
    split
    · omega
    · have := fin_len N E k (out ++ [‹Nat›])
      simp at this
      omega

theorem GraphOrders_true (g : Graph) : law04_GraphOrders g = some true := by
  unfold law04_GraphOrders
  simp only [awake_true, bnd_ok]
  rw [bif_neg (c := !true) rfl]
  obtain ⟨b, hb⟩ := small_some g
  rw [hb, bnd_ok]
  cases b with
  | false => rfl
  | true =>
    rw [bif_neg (c := !true) rfl, ref04_Valid_eq]
    cases hval : validB g with
    | false =>
      have : graph_Order g = some (1, []) := by
        unfold graph_Order
        rw [graph_Valid_eq, hval]
        rfl
      rw [this]
      rfl
    | true =>
      obtain ⟨N, hg, hN, hE, hv⟩ := valid_at hval
      rw [Order_eq hg hN hE hv hval, refOrder_eq hg hN hE hv]
      simp only [bnd_ok]
      rw [bif_neg (c := !true) rfl]
      by_cases hl : (fin N g.2.1 N []).length = N
      · rw [if_pos hl, bif_neg (by simpa using hl), equal_self _ (by have := fin_len N g.2.1 N []; simp at this ⊢; omega)]
        rfl
      · rw [if_neg hl, bif_pos (by simpa using hl)]
        rfl

end Go.Proofs.Ytmcmlloigphbeaa
