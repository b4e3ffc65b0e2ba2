/-
  Graphs: strong components by a search in depth: what holds on the way.
-/
import Derived.Test.YtmcmlloigphbeaaP10
set_option linter.all false
namespace Go.Proofs.Ytmcmlloigphbeaa
open Go.K Go.M

def Adj (E : List St4) (u w : Nat) : Prop := ∃ e ∈ E, src e = u ∧ dst e = w
inductive Rch (E : List St4) : Nat → Nat → Prop
  | refl (u : Nat) : Rch E u u
  | step {u w x : Nat} : Rch E u w → Adj E w x → Rch E u x
theorem Rch.one {E : List St4} {u w : Nat} (h : Adj E u w) : Rch E u w := .step (.refl u) h
theorem Rch.trans {E : List St4} {u w x : Nat} (h : Rch E u w) (h' : Rch E w x) : Rch E u x := by
  induction h' with
  | refl => exact h
  | step _ ha ih => exact .step ih ha

/-- What holds between visits. -/
structure TI (N : Nat) (E : List St4) (cnt cc : Int) (ix cl : Nat → Int) (q : List Nat) : Prop where
  vis : ∃ l : List Nat, l.Nodup ∧ (l.length : Int) = cnt ∧ ∀ u, u ∈ l ↔ ix u ≠ 0
  inN : ∀ u, ix u ≠ 0 → u < N
  ixb : ∀ u, 0 ≤ ix u ∧ ix u ≤ cnt
  clb : ∀ u, cl u = -1 ∨ (0 ≤ cl u ∧ cl u < cc)
  cli : ∀ u, 0 ≤ cl u → ix u ≠ 0
  stk : ∀ u, u ∈ q ↔ (ix u ≠ 0 ∧ cl u < 0)
  nd : q.Nodup
  clo : ∀ u w, Adj E u w → 0 ≤ cl u → 0 ≤ cl w ∧ cl w ≤ cl u
  scc : ∀ u w, 0 ≤ cl u → 0 ≤ cl w → (cl u = cl w ↔ Rch E u w ∧ Rch E w u)
  sur : ∀ c : Int, 0 ≤ c → c < cc → ∃ u, cl u = c
  cc0 : 0 ≤ cc
  ccn : cc ≤ cnt

theorem TI.cntN {N : Nat} {E : List St4} {cnt cc : Int} {ix cl : Nat → Int} {q : List Nat} (h : TI N E cnt cc ix cl q) : 0 ≤ cnt ∧ cnt ≤ (N : Int) := by
  obtain ⟨l, h1, h2, h3⟩ := h.vis
  have := nodup_le N l h1 (fun u hu => h.inN u ((h3 u).1 hu))
  omega
theorem TI.white {N : Nat} {E : List St4} {cnt cc : Int} {ix cl : Nat → Int} {q : List Nat} (h : TI N E cnt cc ix cl q) {v : Nat} (hv : v < N) (hi : ix v = 0) : cnt < (N : Int) := by
  obtain ⟨l, h1, h2, h3⟩ := h.vis
  have := nodup_le N (v :: l) (List.nodup_cons.2 ⟨fun hm => (h3 v).1 hm hi, h1⟩) (fun u hu => by
    rcases List.mem_cons.1 hu with rfl | hu
    · exact hv
    · exact h.inN u ((h3 u).1 hu))
  simp only [List.length_cons] at this
  omega
theorem TI.stkl {N : Nat} {E : List St4} {cnt cc : Int} {ix cl : Nat → Int} {q : List Nat} (h : TI N E cnt cc ix cl q) : q.length ≤ N :=
  nodup_le N q h.nd fun u hu => h.inN u ((h.stk u).1 hu).1
theorem TI.closed {N : Nat} {E : List St4} {cnt cc : Int} {ix cl : Nat → Int} {q : List Nat} (h : TI N E cnt cc ix cl q) {u w : Nat} (hr : Rch E u w) (hu : 0 ≤ cl u) : 0 ≤ cl w := by
  induction hr with
  | refl => exact hu
  | step _ ha ih => exact (h.clo _ _ ha ih).1

/-- What a visit does. -/
structure TP (N : Nat) (E : List St4) (v : Nat) (cnt cc : Int) (ix lw cl : Nat → Int) (q : List Nat) (cnt' cc' : Int) (ix' lw' cl' : Nat → Int) (A : List Nat) : Prop where
  inv : TI N E cnt' cc' ix' cl' (q ++ A)
  old : ∀ u, ix u ≠ 0 → ix' u = ix u ∧ lw' u = lw u ∧ cl' u = cl u
  new : ∀ u, ix u = 0 → ix' u ≠ 0 → cnt < ix' u
  ixv : ix' v ≠ 0
  up : cnt < cnt'
  ccb : cc ≤ cc' ∧ cc' - cc ≤ cnt' - cnt
  exp : ∀ u, ix u = 0 → ix' u ≠ 0 → ∀ w, Adj E u w → ix' w ≠ 0
  lob : ∀ u ∈ A, ∀ w ∈ q, Adj E u w → lw' v ≤ ix w
  rz : ∀ u ∈ A, ∃ z ∈ q, Rch E u z ∧ lw' v ≤ ix z
  rv : ∀ u ∈ A, Rch E v u
  emp : A = [] → lw' v = ix' v
  non : A ≠ [] → ∃ z ∈ q, Rch E v z ∧ lw' v = ix z

/-- On the way of a visit: l edges were gone along. -/
structure TL (N : Nat) (E : List St4) (v : Nat) (cnt0 cc0 : Int) (ix0 lw0 cl0 : Nat → Int) (q0 : List Nat) (l : Nat) (cnt cc : Int) (ix lw cl : Nat → Int) (B : List Nat) : Prop where
  inv : TI N E cnt cc ix cl (q0 ++ v :: B)
  old : ∀ u, ix0 u ≠ 0 → ix u = ix0 u ∧ lw u = lw0 u ∧ cl u = cl0 u
  ixv : ix v = cnt0 + 1
  new : ∀ u, ix0 u = 0 → ix u ≠ 0 → cnt0 < ix u
  up : cnt0 < cnt
  ccb : cc0 ≤ cc ∧ cc - cc0 ≤ cnt - cnt0 - 1
  exp : ∀ u, ix0 u = 0 → ix u ≠ 0 → u ≠ v → ∀ w, Adj E u w → ix w ≠ 0
  expv : ∀ x, x < l → ix (Int.toNat ((nxt false E v).getD x 0)) ≠ 0
  lob : ∀ u ∈ v :: B, u ≠ v → ∀ w ∈ q0, Adj E u w → lw v ≤ ix0 w
  lobv : ∀ x, x < l → Int.toNat ((nxt false E v).getD x 0) ∈ q0 → lw v ≤ ix0 (Int.toNat ((nxt false E v).getD x 0))
  rz : ∀ u ∈ v :: B, Rch E u v ∨ ∃ z ∈ q0, Rch E u z ∧ lw v ≤ ix0 z
  rv : ∀ u ∈ v :: B, Rch E v u
  lwv : lw v = ix v ∨ ∃ z ∈ q0, Rch E v z ∧ lw v = ix0 z

section
variable {N : Nat} {E : List St4} {v : Nat} {cnt0 cc0 : Int} {ix0 lw0 cl0 : Nat → Int} {q0 : List Nat}

theorem TL.start (h : TI N E cnt0 cc0 ix0 cl0 q0) (hv : v < N) (hi : ix0 v = 0) :
    TL N E v cnt0 cc0 ix0 lw0 cl0 q0 0 (cnt0 + 1) cc0 (fun u => if u = v then cnt0 + 1 else ix0 u) (fun u => if u = v then cnt0 + 1 else lw0 u) cl0 [] := by
  have hc := h.cntN
  have hcl : cl0 v = -1 := by
    rcases h.clb v with h1 | h1
    · exact h1
    · exact absurd hi (h.cli v h1.1)
  have hvq : v ∉ q0 := fun hm => ((h.stk v).1 hm).1 hi
  refine ⟨?_, fun u hu => ?_, by simp, fun u hu hu' => ?_, by omega, by omega, fun u hu hu' hne => ?_, fun x hx => absurd hx (by omega), fun u hu hne => ?_, fun x hx => absurd hx (by omega), fun u hu => ?_, fun u hu => ?_, .inl (by simp)⟩
  · refine ⟨?_, fun u hu => ?_, fun u => ?_, h.clb, fun u hu => ?_, fun u => ?_, ?_, h.clo, h.scc, h.sur, h.cc0, by have := h.ccn; omega⟩
    · obtain ⟨l, h1, h2, h3⟩ := h.vis
      refine ⟨v :: l, List.nodup_cons.2 ⟨fun hm => (h3 v).1 hm hi, h1⟩, by simp only [List.length_cons]; omega, fun u => ?_⟩
      by_cases e : u = v
      · subst e
        simp
        omega
      · simp [e, h3]
    · by_cases e : u = v
      · omega
      · simp only [if_neg e] at hu
        exact h.inN u hu
    · by_cases e : u = v
      · simp only [if_pos e]; omega
      · simp only [if_neg e]
        have := h.ixb u
        omega
    · by_cases e : u = v
      · simp only [if_pos e]; omega
      · simp only [if_neg e]
        exact h.cli u hu
    · by_cases e : u = v
      · subst e
        simp [hcl]
        omega
      · simp [e, h.stk]
    · rw [List.nodup_append]
      exact ⟨h.nd, by simp, fun a ha b hb => by simp at hb; subst hb; exact fun e => hvq (e ▸ ha)⟩
  · have e : u ≠ v := fun e => hu (e ▸ hi)
    simp [e]
  · by_cases e : u = v
    · simp only [if_pos e]; omega
    · simp only [if_neg e] at hu'
      exact absurd hu hu'
  · simp only [if_neg hne] at hu'
    exact absurd hu hu'
  · simp at hu
    exact absurd hu hne
  · simp at hu
    subst hu
    exact .inl (.refl _)
  · simp at hu
    subst hu
    exact .refl _

variable {l : Nat} {cnt cc : Int} {ix lw cl : Nat → Int} {B : List Nat}

theorem TL.q0ix (h : TL N E v cnt0 cc0 ix0 lw0 cl0 q0 l cnt cc ix lw cl B) (h0 : TI N E cnt0 cc0 ix0 cl0 q0) {z : Nat} (hz : z ∈ q0) : ix0 z ≠ 0 ∧ ix z = ix0 z ∧ ix0 z ≤ cnt0 := by
  have := ((h0.stk z).1 hz).1
  exact ⟨this, (h.old z this).1, (h0.ixb z).2⟩
theorem TL.le (h : TL N E v cnt0 cc0 ix0 lw0 cl0 q0 l cnt cc ix lw cl B) (h0 : TI N E cnt0 cc0 ix0 cl0 q0) : lw v ≤ ix v := by
  rcases h.lwv with e | ⟨z, hz, _, e⟩
  · omega
  · have := h.q0ix h0 hz
    have := h.ixv
    omega
theorem TL.memA (h : TL N E v cnt0 cc0 ix0 lw0 cl0 q0 l cnt cc ix lw cl B) (h0 : TI N E cnt0 cc0 ix0 cl0 q0) (hi : ix0 v = 0) {u : Nat} (hu : u ∈ v :: B) : ix0 u = 0 ∧ ix u ≠ 0 ∧ cl u < 0 := by
  have hs := (h.inv.stk u).1 (List.mem_append_right _ hu)
  refine ⟨?_, hs⟩
  by_cases e : ix0 u = 0
  · exact e
  · have ho := h.old u e
    have hq : u ∈ q0 := (h0.stk u).2 ⟨e, by rw [← ho.2.2]; exact hs.2⟩
    exact absurd rfl ((List.nodup_append.1 h.inv.nd).2.2 u hq u hu)

theorem TL.skip (h : TL N E v cnt0 cc0 ix0 lw0 cl0 q0 l cnt cc ix lw cl B) (h0 : TI N E cnt0 cc0 ix0 cl0 q0) (hx : ix (Int.toNat ((nxt false E v).getD l 0)) ≠ 0) (hc : ¬ cl (Int.toNat ((nxt false E v).getD l 0)) < 0) :
    TL N E v cnt0 cc0 ix0 lw0 cl0 q0 (l + 1) cnt cc ix lw cl B := by
  refine ⟨h.inv, h.old, h.ixv, h.new, h.up, h.ccb, h.exp, fun x hxl => ?_, h.lob, fun x hxl hq => ?_, h.rz, h.rv, h.lwv⟩
  · by_cases e : x < l
    · exact h.expv x e
    · obtain rfl : x = l := by omega
      exact hx
  · by_cases e : x < l
    · exact h.lobv x e hq
    · obtain rfl : x = l := by omega
      exact absurd ((h.inv.stk _).1 (List.mem_append_left _ hq)).2 hc

theorem TL.back (h : TL N E v cnt0 cc0 ix0 lw0 cl0 q0 l cnt cc ix lw cl B) (h0 : TI N E cnt0 cc0 ix0 cl0 q0) (hi : ix0 v = 0) (ha : Adj E v (Int.toNat ((nxt false E v).getD l 0))) (hx : ix (Int.toNat ((nxt false E v).getD l 0)) ≠ 0) (hc : cl (Int.toNat ((nxt false E v).getD l 0)) < 0) :
    TL N E v cnt0 cc0 ix0 lw0 cl0 q0 (l + 1) cnt cc ix (fun u => if u = v then min (lw v) (ix (Int.toNat ((nxt false E v).getD l 0))) else lw u) cl B := by
  generalize hw : Int.toNat ((nxt false E v).getD l 0) = w at *
  have hm : w ∈ q0 ++ v :: B := (h.inv.stk w).2 ⟨hx, hc⟩
  have hle := h.le h0
  refine ⟨h.inv, fun u hu => ?_, h.ixv, h.new, h.up, h.ccb, h.exp, fun x hxl => ?_, fun u hu hne y hy hadj => ?_, fun x hxl hq => ?_, fun u hu => ?_, h.rv, ?_⟩
  · have e : u ≠ v := fun e => hu (e ▸ hi)
    simp only [if_neg e]
    exact h.old u hu
  · by_cases e : x < l
    · exact h.expv x e
    · obtain rfl : x = l := by omega
      rw [hw]; exact hx
  · simp only [if_true]
    have := h.lob u hu hne y hy hadj
    omega
  · simp only [if_true]
    by_cases e : x < l
    · have := h.lobv x e hq
      omega
    · obtain rfl : x = l := by omega
      rw [hw] at hq ⊢
      have := h.q0ix h0 hq
      omega
  · simp only [if_true]
    rcases h.rz u hu with h1 | ⟨z, hz, h1, h2⟩
    · exact .inl h1
    · exact .inr ⟨z, hz, h1, by omega⟩
  · simp only [if_true]
    rcases List.mem_append.1 hm with hq | hA
    · have hq0 := h.q0ix h0 hq
      by_cases e : lw v ≤ ix w
      · rw [Int.min_eq_left e]
        exact h.lwv
      · rw [Int.min_eq_right (by omega)]
        exact .inr ⟨w, hq, .one ha, hq0.2.1⟩
    · have hn := h.new w (h.memA h0 hi hA).1 hx
      have hxv := h.ixv
      rw [Int.min_eq_left (by omega)]
      exact h.lwv

theorem TL.child {w : Nat} {cnt' cc' : Int} {ix' lw' cl' : Nat → Int} {A : List Nat} (h : TL N E v cnt0 cc0 ix0 lw0 cl0 q0 l cnt cc ix lw cl B) (h0 : TI N E cnt0 cc0 ix0 cl0 q0) (hi : ix0 v = 0) (hw : Int.toNat ((nxt false E v).getD l 0) = w) (ha : Adj E v w) (hx : ix w = 0)
    (p : TP N E w cnt cc ix lw cl (q0 ++ v :: B) cnt' cc' ix' lw' cl' A) :
    TL N E v cnt0 cc0 ix0 lw0 cl0 q0 (l + 1) cnt' cc' ix' (fun u => if u = v then min (lw' v) (lw' w) else lw' u) cl' (B ++ A) := by
  have hle := h.le h0
  have hxv := h.ixv
  have hvne : ix v ≠ 0 := by have := h0.cntN; omega
  have hov := p.old v hvne
  have hqA : q0 ++ v :: (B ++ A) = (q0 ++ v :: B) ++ A := by simp
  have hup := p.up
  have hup0 := h.up
  have hccb := p.ccb
  have hccb0 := h.ccb
  have hixw : cnt < ix' w := p.new w hx p.ixv
  have hcntb := (h.inv.ixb v).2
  have hmin : min (lw' v) (lw' w) ≤ lw v := by rw [hov.2.1]; omega
  have hmin2 : min (lw' v) (lw' w) ≤ lw' w := by omega
  refine ⟨by rw [hqA]; exact p.inv, fun u hu => ?_, by rw [hov.1]; exact hxv, fun u hu hu' => ?_, by omega, by omega, fun u hu hu' hne y hy => ?_, fun x hxl => ?_, fun u hu hne y hy hadj => ?_, fun x hxl hq => ?_, fun u hu => ?_, fun u hu => ?_, ?_⟩
  · have e : u ≠ v := fun e => hu (e ▸ hi)
    simp only [if_neg e]
    have h1 := h.old u hu
    have h2 := p.old u (by rw [h1.1]; exact hu)
    exact ⟨h2.1.trans h1.1, h2.2.1.trans h1.2.1, h2.2.2.trans h1.2.2⟩
  · by_cases e : ix u = 0
    · have := p.new u e hu'
      omega
    · rw [(p.old u e).1]
      exact h.new u hu e
  · by_cases e : ix u = 0
    · exact p.exp u e hu' y hy
    · have h1 := h.exp u hu e hne y hy
      rw [(p.old y h1).1]
      exact h1
  · by_cases e : x < l
    · have h1 := h.expv x e
      rw [(p.old _ h1).1]
      exact h1
    · obtain rfl : x = l := by omega
      rw [hw]; exact p.ixv
  · simp only [if_true]
    rw [← List.cons_append] at hu
    rcases List.mem_append.1 hu with hu | hu
    · have := h.lob u hu hne y hy hadj
      omega
    · have := p.lob u hu y (List.mem_append_left _ hy) hadj
      have := h.q0ix h0 hy
      omega
  · simp only [if_true]
    by_cases e : x < l
    · have := h.lobv x e hq
      omega
    · obtain rfl : x = l := by omega
      rw [hw] at hq
      have := h.q0ix h0 hq
      omega
  · simp only [if_true]
    rw [← List.cons_append] at hu
    have hold : ∀ u ∈ v :: B, Rch E u v ∨ ∃ z ∈ q0, Rch E u z ∧ min (lw' v) (lw' w) ≤ ix0 z := by
      intro u hu
      rcases h.rz u hu with h1 | ⟨z, hz, h1, h2⟩
      · exact .inl h1
      · exact .inr ⟨z, hz, h1, by omega⟩
    rcases List.mem_append.1 hu with hu | hu
    · exact hold u hu
    · obtain ⟨z, hz, h1, h2⟩ := p.rz u hu
      rcases List.mem_append.1 hz with hz | hz
      · have := h.q0ix h0 hz
        exact .inr ⟨z, hz, h1, by omega⟩
      · rcases hold z hz with h3 | ⟨z', hz', h3, h4⟩
        · exact .inl (h1.trans h3)
        · exact .inr ⟨z', hz', h1.trans h3, h4⟩
  · rw [← List.cons_append] at hu
    rcases List.mem_append.1 hu with hu | hu
    · exact h.rv u hu
    · exact (Rch.one ha).trans (p.rv u hu)
  · simp only [if_true]
    rw [hov.2.1, hov.1]
    by_cases e : lw v ≤ lw' w
    · rw [Int.min_eq_left e]
      exact h.lwv
    · rw [Int.min_eq_right (by omega)]
      have hA : A ≠ [] := fun hA => by
        have := p.emp hA
        omega
      obtain ⟨z, hz, h1, h2⟩ := p.non hA
      rcases List.mem_append.1 hz with hz | hz
      · have := h.q0ix h0 hz
        exact .inr ⟨z, hz, (Rch.one ha).trans h1, by omega⟩
      · have hm := h.memA h0 hi hz
        have := h.new z hm.1 hm.2.1
        omega

/-- All edges were gone along. -/
theorem TL.expd (h : TL N E v cnt0 cc0 ix0 lw0 cl0 q0 (nxt false E v).length cnt cc ix lw cl B) {w : Nat} (ha : Adj E v w) : ix w ≠ 0 ∧ (w ∈ q0 → lw v ≤ ix0 w) := by
  obtain ⟨e, he, h1, h2⟩ := ha
  obtain ⟨x, hx, hxe⟩ := mem_getD 0 (mem_nxt he h1)
  have h3 : Int.toNat ((nxt false E v).getD x 0) = w := by rw [hxe]; exact h2
  have h4 := h.expv x hx
  have h5 := h.lobv x hx
  rw [h3] at h4 h5
  exact ⟨h4, h5⟩
theorem TL.expa (h : TL N E v cnt0 cc0 ix0 lw0 cl0 q0 (nxt false E v).length cnt cc ix lw cl B) {u : Nat} (hu : ix0 u = 0) (hu' : ix u ≠ 0) {w : Nat} (ha : Adj E u w) : ix w ≠ 0 := by
  by_cases e : u = v
  · subst e; exact (h.expd ha).1
  · exact h.exp u hu hu' e w ha
theorem TL.loba (h : TL N E v cnt0 cc0 ix0 lw0 cl0 q0 (nxt false E v).length cnt cc ix lw cl B) {u : Nat} (hu : u ∈ v :: B) {w : Nat} (hw : w ∈ q0) (ha : Adj E u w) : lw v ≤ ix0 w := by
  by_cases e : u = v
  · subst e; exact (h.expd ha).2 hw
  · exact h.lob u hu e w hw ha

theorem TL.leave (h : TL N E v cnt0 cc0 ix0 lw0 cl0 q0 (nxt false E v).length cnt cc ix lw cl B) (h0 : TI N E cnt0 cc0 ix0 cl0 q0) (hi : ix0 v = 0) (hlt : lw v < ix v) :
    TP N E v cnt0 cc0 ix0 lw0 cl0 q0 cnt cc ix lw cl (v :: B) := by
  have hc := h0.cntN
  have hxv := h.ixv
  have hccb := h.ccb
  obtain ⟨z0, hz0, hr0, he0⟩ : ∃ z ∈ q0, Rch E v z ∧ lw v = ix0 z := by
    rcases h.lwv with e | e
    · omega
    · exact e
  refine ⟨h.inv, h.old, h.new, by omega, h.up, by omega, fun u hu hu' w ha => h.expa hu hu' ha, fun u hu w hw ha => h.loba hu hw ha, fun u hu => ?_, h.rv, fun e => by simp at e, fun _ => ⟨z0, hz0, hr0, he0⟩⟩
  rcases h.rz u hu with h1 | h1
  · exact ⟨z0, hz0, h1.trans hr0, by omega⟩
  · exact h1

theorem TL.pop (h : TL N E v cnt0 cc0 ix0 lw0 cl0 q0 (nxt false E v).length cnt cc ix lw cl B) (h0 : TI N E cnt0 cc0 ix0 cl0 q0) (hi : ix0 v = 0) (hge : ¬ lw v < ix v) :
    TP N E v cnt0 cc0 ix0 lw0 cl0 q0 cnt (cc + 1) ix lw (fun u => if u ∈ v :: B then cc else cl u) [] := by
  have hc := h0.cntN
  have hxv := h.ixv
  have hccb := h.ccb
  have hup := h.up
  have hle := h.le h0
  have hcc := h.inv.cc0
  have hq0 : ∀ z ∈ q0, ix0 z < lw v := fun z hz => by have := h.q0ix h0 hz; omega
  have hrv : ∀ u ∈ v :: B, Rch E u v := fun u hu => by
    rcases h.rz u hu with h1 | ⟨z, hz, _, h2⟩
    · exact h1
    · have := hq0 z hz
      omega
  have hclA : ∀ u ∈ v :: B, cl u < 0 := fun u hu => (h.memA h0 hi hu).2.2
  have hclo : ∀ u w, u ∈ v :: B → Adj E u w → w ∈ v :: B ∨ 0 ≤ cl w := by
    intro u w hu ha
    have hA := h.memA h0 hi hu
    have h1 := h.expa hA.1 hA.2.1 ha
    by_cases e : 0 ≤ cl w
    · exact .inr e
    · have h2 := (h.inv.stk w).2 ⟨h1, by omega⟩
      rcases List.mem_append.1 h2 with h3 | h3
      · have := h.loba hu h3 ha
        have := hq0 w h3
        omega
      · exact .inl h3
  have hnd := List.nodup_append.1 h.inv.nd
  have hq0A : ∀ u ∈ q0, u ∉ v :: B := fun u hu hA => hnd.2.2 u hu u hA rfl
  refine ⟨?_, fun u hu => ?_, h.new, by omega, h.up, by omega, fun u hu hu' w ha => h.expa hu hu' ha, fun u hu => by simp at hu, fun u hu => by simp at hu, fun u hu => by simp at hu, fun _ => by omega, fun e => absurd rfl e⟩
  · rw [List.append_nil]
    refine ⟨h.inv.vis, h.inv.inN, h.inv.ixb, fun u => ?_, fun u hu => ?_, fun u => ?_, hnd.1, fun u w ha hu => ?_, fun u w hu hw => ?_, fun c h1 h2 => ?_, by omega, by have := h0.ccn; omega⟩
    · by_cases e : u ∈ v :: B
      · simp only [if_pos e]; omega
      · simp only [if_neg e]
        have := h.inv.clb u
        omega
    · by_cases e : u ∈ v :: B
      · exact (h.memA h0 hi e).2.1
      · simp only [if_neg e] at hu
        exact h.inv.cli u hu
    · by_cases e : u ∈ v :: B
      · simp only [if_pos e]
        exact ⟨fun hm => absurd e (hq0A u hm), fun hm => by omega⟩
      · simp only [if_neg e]
        rw [← h.inv.stk u, List.mem_append]
        exact ⟨fun hm => .inl hm, fun hm => hm.resolve_right e⟩
    · by_cases e : u ∈ v :: B
      · simp only [if_pos e]
        rcases hclo u w e ha with h1 | h1
        · simp only [if_pos h1]; omega
        · by_cases e' : w ∈ v :: B
          · simp only [if_pos e']; omega
          · simp only [if_neg e']
            have := h.inv.clb w
            omega
      · simp only [if_neg e] at hu ⊢
        have h2 := h.inv.clo u w ha hu
        by_cases e' : w ∈ v :: B
        · have := hclA w e'
          omega
        · simp only [if_neg e']; exact h2
    · by_cases e : u ∈ v :: B
      · by_cases e' : w ∈ v :: B
        · simp only [if_pos e, if_pos e', true_iff]
          exact ⟨(hrv u e).trans (h.rv w e'), (hrv w e').trans (h.rv u e)⟩
        · simp only [if_neg e'] at hw
          simp only [if_pos e, if_neg e']
          have h1 := h.inv.clb w
          refine ⟨fun h2 => by omega, fun h2 => ?_⟩
          have := h.inv.closed h2.2 hw
          have := hclA u e
          omega
      · by_cases e' : w ∈ v :: B
        · simp only [if_neg e] at hu
          simp only [if_neg e, if_pos e']
          have h1 := h.inv.clb u
          refine ⟨fun h2 => by omega, fun h2 => ?_⟩
          have := h.inv.closed h2.1 hu
          have := hclA w e'
          omega
        · simp only [if_neg e] at hu
          simp only [if_neg e'] at hw
          simp only [if_neg e, if_neg e']
          exact h.inv.scc u w hu hw
    · by_cases e : c < cc
      · obtain ⟨u, hu⟩ := h.inv.sur c h1 e
        have : u ∉ v :: B := fun hm => by have := hclA u hm; omega
        exact ⟨u, by simp only [if_neg this]; exact hu⟩
      · exact ⟨v, by simp only [List.mem_cons, true_or, if_true]; omega⟩
  · have h1 := h.old u hu
    have : u ∉ v :: B := fun hm => hu (h.memA h0 hi hm).1
    simp only [if_neg this]
    exact h1

end
end Go.Proofs.Ytmcmlloigphbeaa
