/-
  Graphs: strong components by a search in depth: the program does it.
-/
import Derived.Test.YtmcmlloigphbeaaP11
set_option linter.all false
namespace Go.Proofs.Ytmcmlloigphbeaa
open Go.K Go.M

abbrev VA : Type := ((Int × Unit × Unit × Unit × Unit × Unit × Unit × Unit × Unit × Unit) × ((Int × Unit) × (Unit × Unit) × (Unit × Unit) × (Unit × Unit) × ((List (List Int)) × Unit) × ((Unit × Unit × Unit × Unit × Unit × Unit × Unit × Unit × Unit) × Unit) × (Unit × Unit) × (Int × Unit) × (List Int) × (List Int) × (List Int) × (List Int) × Unit))
abbrev VB : Type := Int × (List (List Int)) × Int × (List Int) × (List Int) × (List Int) × (List Int)
def vstep (rec : VA → Option VB) (a : VA) : Option VB := graph_classes_1_64F rec a.1.1 a.2.1.1 a.2.2.2.2.2.1.1 a.2.2.2.2.2.2.2.2.1.1 a.2.2.2.2.2.2.2.2.2.1 a.2.2.2.2.2.2.2.2.2.2.1 a.2.2.2.2.2.2.2.2.2.2.2.1 a.2.2.2.2.2.2.2.2.2.2.2.2.1
abbrev va (v cnt : Int) (nx : List (List Int)) (cc : Int) (ix lw q cl : List Int) : VA := ((v, (), (), (), (), (), (), (), (), ()), ((cnt, ()), ((), ()), ((), ()), ((), ()), (nx, ()), (((), (), (), (), (), (), (), (), ()), ()), ((), ()), (cc, ()), ix, lw, q, cl, ()))

theorem last_getD (Q : List Nat) (b : Nat) : (casts (Q ++ [b])).getD (Int.toNat (((casts (Q ++ [b])).length : Int) - 1)) 0 = (b : Int) := by
  have : Int.toNat (((casts (Q ++ [b])).length : Int) - 1) = Q.length := by simp
  rw [this, casts_getD, getD_app_eq]
theorem last_take (Q : List Nat) (b : Nat) : ((casts (Q ++ [b])).drop 0).take (Int.toNat (((casts (Q ++ [b])).length : Int) - 1) - 0) = casts Q := by
  have : Int.toNat (((casts (Q ++ [b])).length : Int) - 1) - 0 = (casts Q).length := by simp
  rw [this, List.drop_zero]
  simp [casts, List.map_append]

theorem popK {N : Nat} {R : Type} (rec : VA → Option VB) (v : Int) (k0 : Int) (k4 : List (List Int)) (cc : Int) (k1 k2 : List Int) (Q : List Nat) (b : Nat) (cl : Nat → Int) (hb : b < N) (hQ : Q.length ≤ 1000) (nx dn : List Int × List Int → Option R) (rt : VB → Option R) :
    graph_classes_1_64L1K rec v k0 k4 cc k1 k2 (casts (Q ++ [b])) (tab N cl) nx dn rt = bif decide ((b : Int) = v) then dn (casts Q, tab N (fun u => if u = b then cc else cl u)) else nx (casts Q, tab N (fun u => if u = b then cc else cl u)) := by
  have hl : (casts (Q ++ [b])).length = Q.length + 1 := by simp
  unfold graph_classes_1_64L1K
  rw [last_getD, last_take]
  simp (disch := omega) only [hl, tab_len, tab_set, ckB_ix, ckB_inR, ckB_room, ckB_cut, ckB_mk, ckB_ne, bif_lt, bif_nlt, bif_le, bif_nle, bif_eq, bif_neq, bif_ne, bif_nne, bif_not, bif_true', bif_false', bnd_ok, lk_inl, lk_inr, Int.toNat_natCast]

theorem popL {N : Nat} (rec : VA → Option VB) (v : Nat) (k0 : Int) (k4 : List (List Int)) (cc : Int) (k1 k2 : List Int) (q0 : List Nat) (hv : v < N) : ∀ (n : Nat) (B : List Nat) (cl : Nat → Int) (m : Nat), B.length = n → n < m → (q0 ++ v :: B).length ≤ 1000 → v ∉ B → (∀ u ∈ B, u < N) →
    iter (fun a : List Int × List Int => graph_classes_1_64L1K rec v k0 k4 cc k1 k2 a.1 a.2 (fun a' => some (LR.next a')) (fun e => some (LR.done e)) (fun r => some (LR.ret r))) m (casts (q0 ++ v :: B), tab N cl) = some (.inl (casts q0, tab N (fun u => if u ∈ v :: B then cc else cl u))) := by
  intro n
  induction n with
  | zero =>
    intro B cl m hB hm hl hvB hlt
    obtain ⟨m, rfl⟩ : ∃ q, m = q + 1 := ⟨m - 1, by omega⟩
    obtain rfl := List.eq_nil_of_length_eq_zero hB
    simp only [List.length_append, List.length_cons, List.length_nil] at hl
    rw [iter_succ]
    simp only []
    rw [popK rec v k0 k4 cc k1 k2 q0 v cl hv (by omega), bif_pos (by simp)]
    simp only [bnd_ok, lr, List.mem_singleton]
  | succ n ih =>
    intro B cl m hB hm hl hvB hlt
    obtain ⟨m, rfl⟩ : ∃ q, m = q + 1 := ⟨m - 1, by omega⟩
    rcases List.eq_nil_or_concat B with rfl | ⟨B', b, hBe⟩
    · simp at hB
    · rw [List.concat_eq_append] at hBe
      subst hBe
      simp only [List.length_append, List.length_cons, List.length_nil] at hB hl
      simp only [List.mem_append, List.mem_singleton, not_or] at hvB
      have e : q0 ++ v :: (B' ++ [b]) = (q0 ++ v :: B') ++ [b] := by simp
      rw [iter_succ, e]
      simp only []
      rw [popK rec v k0 k4 cc k1 k2 (q0 ++ v :: B') b cl (hlt b (by simp)) (by simp; omega), bif_neg (decide_eq_false (fun e : ((b : Nat) : Int) = (v : Int) => hvB.2 (by omega)))]
      simp only [bnd_ok, lr]
      rw [ih B' _ m (by omega) (by omega) (by simp only [List.length_append, List.length_cons]; omega) hvB.1 (fun u hu => hlt u (by simp [hu]))]
      refine congrArg (fun z => some (Sum.inl (casts q0, z))) (tab_congr fun u _ => ?_)
      by_cases h1 : u ∈ v :: B'
      · have h2 : u ∈ v :: (B' ++ [b]) := by rw [← List.cons_append]; exact List.mem_append_left _ h1
        simp only [if_pos h1, if_pos h2]
      · simp only [if_neg h1]
        by_cases h3 : u = b
        · have h2 : u ∈ v :: (B' ++ [b]) := by simp [h3]
          simp only [if_pos h3, if_pos h2]
        · have h2 : u ∉ v :: (B' ++ [b]) := by
            rw [← List.cons_append, List.mem_append]
            simp [h3] at h1 ⊢
            exact h1
          simp only [if_neg h3, if_neg h2]

section
variable {N : Nat} {E : List St4}

/-- What a call of visit returns. -/
def VOk (N : Nat) (E : List St4) (rec : VA → Option VB) (v : Nat) (cnt cc : Int) (ix lw cl : Nat → Int) (q : List Nat) : Prop :=
  ∃ cnt' cc' ix' lw' cl' A, TP N E v cnt cc ix lw cl q cnt' cc' ix' lw' cl' A ∧ rec (va v cnt (tab N (nxt false E)) cc (tab N ix) (tab N lw) (casts q) (tab N cl)) = some (cnt', tab N (nxt false E), cc', tab N ix', tab N lw', casts (q ++ A), tab N cl')

theorem visitL0 (hN : N ≤ 1000) (hE : E.length ≤ 20000) (hve : VE N E) {v : Nat} (hv : v < N) {cnt0 cc0 : Int} {ix0 lw0 cl0 : Nat → Int} {q0 : List Nat} (h0 : TI N E cnt0 cc0 ix0 cl0 q0) (hi : ix0 v = 0) (rec : VA → Option VB)
    (hrec : ∀ w cnt cc ix lw cl q, TI N E cnt cc ix cl q → cnt0 < cnt → ix w = 0 → w < N → VOk N E rec w cnt cc ix lw cl q) {cnt1 cc1 : Int} {ix1 lw1 cl1 : Nat → Int} (h1 : TL N E v cnt0 cc0 ix0 lw0 cl0 q0 0 cnt1 cc1 ix1 lw1 cl1 []) :
    ∃ cnt cc ix lw cl B, TL N E v cnt0 cc0 ix0 lw0 cl0 q0 (nxt false E v).length cnt cc ix lw cl B ∧
      graph_classes_1_64L0 rec v (nxt false E v) ((nxt false E v).length : Int) (0, cnt1, tab N (nxt false E), cc1, tab N ix1, tab N lw1, casts (q0 ++ [v]), tab N cl1) = some (.inl (cnt, tab N (nxt false E), cc, tab N ix, tab N lw, casts (q0 ++ v :: B), tab N cl)) := by
  have hwl := nxt_len false E v
  obtain ⟨o, ho, cnt, cc, ix, lw, cl, B, hTL, hoe⟩ := loop_inv (step := fun a : Int × Int × (List (List Int)) × Int × (List Int) × (List Int) × (List Int) × (List Int) => graph_classes_1_64L0K rec v (nxt false E v) ((nxt false E v).length : Int) a.1 a.2.1 a.2.2.1 a.2.2.2.1 a.2.2.2.2.1 a.2.2.2.2.2.1 a.2.2.2.2.2.2.1 a.2.2.2.2.2.2.2 (fun a' => some (LR.next a')) (fun e => some (LR.done e)) (fun r => some (LR.ret r)))
    (fun s => ∃ (l : Nat) (cnt cc : Int) (ix lw cl : Nat → Int) (B : List Nat), s = ((l : Int), cnt, tab N (nxt false E), cc, tab N ix, tab N lw, casts (q0 ++ v :: B), tab N cl) ∧ l ≤ (nxt false E v).length ∧ TL N E v cnt0 cc0 ix0 lw0 cl0 q0 l cnt cc ix lw cl B)
    (fun s => (nxt false E v).length - Int.toNat s.1)
    (fun o => ∃ cnt cc ix lw cl B, TL N E v cnt0 cc0 ix0 lw0 cl0 q0 (nxt false E v).length cnt cc ix lw cl B ∧ o = .inl (cnt, tab N (nxt false E), cc, tab N ix, tab N lw, casts (q0 ++ v :: B), tab N cl))
    ((0 : Int), cnt1, tab N (nxt false E), cc1, tab N ix1, tab N lw1, casts (q0 ++ [v]), tab N cl1) ⟨0, cnt1, cc1, ix1, lw1, cl1, [], rfl, Nat.zero_le _, h1⟩ (by show (nxt false E v).length - Int.toNat 0 < many; unfold many; omega) (by
    rintro s ⟨l, cnt, cc, ix, lw, cl, B, rfl, hl, hT⟩
    by_cases hlt : l < (nxt false E v).length
    · obtain ⟨w1, w2⟩ := nxt_in hve false v (getD_mem 0 hlt)
      obtain ⟨e, he, he1, he2⟩ := nxt_mem (getD_mem 0 hlt)
      have kw : Int.toNat ((nxt false E v).getD l 0) < N := by omega
      have ha : Adj E v (Int.toNat ((nxt false E v).getD l 0)) := ⟨e, he, he1, by simp only [dst, he2]⟩
      have hcast : ((Int.toNat ((nxt false E v).getD l 0) : Nat) : Int) = (nxt false E v).getD l 0 := by omega
      by_cases hx : ix (Int.toNat ((nxt false E v).getD l 0)) = 0
      · obtain ⟨cnt', cc', ix', lw', cl', A, hp, hr⟩ := hrec _ cnt cc ix lw cl _ hT.inv hT.up hx kw
        rw [hcast] at hr
        refine ⟨.next ((l : Int) + 1, cnt', tab N (nxt false E), cc', tab N ix', tab N (fun u => if u = v then min (lw' v) (lw' (Int.toNat ((nxt false E v).getD l 0))) else lw' u), casts (q0 ++ v :: (B ++ A)), tab N cl'), ?_, ?_⟩
        · have hq : q0 ++ v :: (B ++ A) = (q0 ++ v :: B) ++ A := by simp
          rw [hq]
          simp (disch := omega) only [graph_classes_1_64L0K, tab_len, tab_getD kw, tab_getD hv, tab_set, hr, decide_true, ckB_true, ckB_ix, ckB_inR, ckB_room, ckB_cut, ckB_mk, ckB_ne, bif_lt, bif_nlt, bif_le, bif_nle, bif_eq, bif_neq, bif_ne, bif_nne, bif_not, bif_true', bif_false', bnd_ok, lk_inl, lk_inr, Int.toNat_natCast]
        · exact ⟨⟨l + 1, _, _, _, _, _, _, by rw [cast_succ], hlt, hT.child h0 hi rfl ha hx hp⟩, by simp only []; omega⟩
      · by_cases hc : cl (Int.toNat ((nxt false E v).getD l 0)) < 0
        · refine ⟨.next ((l : Int) + 1, cnt, tab N (nxt false E), cc, tab N ix, tab N (fun u => if u = v then min (lw v) (ix (Int.toNat ((nxt false E v).getD l 0))) else lw u), casts (q0 ++ v :: B), tab N cl), ?_, ?_⟩
          · simp (disch := omega) only [graph_classes_1_64L0K, tab_len, tab_getD kw, tab_getD hv, tab_set, ckB_ix, ckB_inR, ckB_room, ckB_cut, ckB_mk, ckB_ne, bif_lt, bif_nlt, bif_le, bif_nle, bif_eq, bif_neq, bif_ne, bif_nne, bif_not, bif_true', bif_false', bnd_ok, lk_inl, lk_inr, Int.toNat_natCast]
          · exact ⟨⟨l + 1, _, _, _, _, _, _, by rw [cast_succ], hlt, hT.back h0 hi ha hx hc⟩, by simp only []; omega⟩
        · refine ⟨.next ((l : Int) + 1, cnt, tab N (nxt false E), cc, tab N ix, tab N lw, casts (q0 ++ v :: B), tab N cl), ?_, ?_⟩
          · simp (disch := omega) only [graph_classes_1_64L0K, tab_len, tab_getD kw, tab_getD hv, tab_set, ckB_ix, ckB_inR, ckB_room, ckB_cut, ckB_mk, ckB_ne, bif_lt, bif_nlt, bif_le, bif_nle, bif_eq, bif_neq, bif_ne, bif_nne, bif_not, bif_true', bif_false', bnd_ok, lk_inl, lk_inr, Int.toNat_natCast]
          · exact ⟨⟨l + 1, _, _, _, _, _, _, by rw [cast_succ], hlt, hT.skip h0 hx hc⟩, by simp only []; omega⟩
    · obtain rfl : l = (nxt false E v).length := by omega
      refine ⟨.done (cnt, tab N (nxt false E), cc, tab N ix, tab N lw, casts (q0 ++ v :: B), tab N cl), ?_, cnt, cc, ix, lw, cl, B, hT, rfl⟩
      simp (disch := omega) only [graph_classes_1_64L0K, ckB_ix, ckB_inR, ckB_room, ckB_cut, ckB_mk, ckB_ne, bif_lt, bif_nlt, bif_le, bif_nle, bif_eq, bif_neq, bif_ne, bif_nne, bif_not, bif_true', bif_false', bnd_ok, lk_inl, lk_inr, Int.toNat_natCast])
  exact ⟨cnt, cc, ix, lw, cl, B, hTL, by rw [← hoe]; exact ho⟩

theorem visit_eq (hN : N ≤ 1000) (hE : E.length ≤ 20000) (hve : VE N E) : ∀ (k : Nat) (v : Nat) (cnt cc : Int) (ix lw cl : Nat → Int) (q : List Nat), TI N E cnt cc ix cl q → (N : Int) - cnt < (k : Int) → ix v = 0 → v < N → VOk N E (recM vstep k) v cnt cc ix lw cl q := by
  intro k
  induction k with
  | zero =>
    intro v cnt cc ix lw cl q h hk
    have := h.cntN
    omega
  | succ k ih =>
    intro v cnt0 cc0 ix0 lw0 cl0 q0 h0 hk hi hv
    have hc := h0.cntN
    have hw := h0.white hv hi
    have hql := h0.stkl
    have hqc := casts_len q0
    obtain ⟨cnt, cc, ix, lw, cl, B, hTL, hL⟩ := visitL0 hN hE hve hv h0 hi (recM vstep k) (fun w cnt cc ix lw cl q hTI hlt hw0 hwN => ih w cnt cc ix lw cl q hTI (by omega) hw0 hwN) (TL.start (lw0 := lw0) h0 hv hi)
    have hcc := hTL.inv.ccn
    have hcc0 := hTL.inv.cc0
    have hcn := hTL.inv.cntN
    have hcl := hTL.inv.stkl
    have hnd := List.nodup_append.1 hTL.inv.nd
    have hres : recM vstep (k + 1) (va v cnt0 (tab N (nxt false E)) cc0 (tab N ix0) (tab N lw0) (casts q0) (tab N cl0)) = graph_classes_1_64F (recM vstep k) v cnt0 (tab N (nxt false E)) cc0 (tab N ix0) (tab N lw0) (casts q0) (tab N cl0) := rfl
    have hcast1 : casts q0 ++ [(v : Int)] = casts (q0 ++ [v]) := by simp
    unfold VOk
    rw [hres]
    unfold graph_classes_1_64F
    by_cases hlt : lw v < ix v
    · refine ⟨cnt, cc, ix, lw, cl, v :: B, hTL.leave h0 hi hlt, ?_⟩
      simp (disch := omega) only [tab_len, tab_getD hv, tab_set, hcast1, hqc, hL, ckB_ix, ckB_inR, ckB_room, ckB_cut, ckB_mk, ckB_ne, bif_lt, bif_nlt, bif_le, bif_nle, bif_eq, bif_neq, bif_ne, bif_nne, bif_not, bif_true', bif_false', bnd_ok, lk_inl, lk_inr, Int.toNat_natCast]
    · refine ⟨cnt, cc + 1, ix, lw, _, [], hTL.pop h0 hi hlt, ?_⟩
      have hp : graph_classes_1_64L1 (recM vstep k) v cnt (tab N (nxt false E)) cc (tab N ix) (tab N lw) (casts (q0 ++ v :: B), tab N cl) = some (.inl (casts q0, tab N (fun u => if u ∈ v :: B then cc else cl u))) :=
        popL (recM vstep k) v cnt (tab N (nxt false E)) cc (tab N ix) (tab N lw) q0 hv B.length B cl many rfl (by simp at hcl; unfold many; omega) (by omega) (List.nodup_cons.1 hnd.2.1).1 (fun u hu => hTL.inv.inN u ((hTL.inv.stk u).1 (List.mem_append_right _ (List.mem_cons_of_mem _ hu))).1)
      rw [List.append_nil]
      simp (disch := omega) only [tab_len, tab_getD hv, tab_set, hcast1, hqc, hL, hp, ckB_ix, ckB_inR, ckB_room, ckB_cut, ckB_mk, ckB_ne, bif_lt, bif_nlt, bif_le, bif_nle, bif_eq, bif_neq, bif_ne, bif_nne, bif_not, bif_true', bif_false', bnd_ok, lk_inl, lk_inr, Int.toNat_natCast]

/-- The classes. -/
structure CL (N : Nat) (E : List St4) (cc : Int) (cl : Nat → Int) : Prop where
  rng : ∀ u, u < N → 0 ≤ cl u ∧ cl u < cc
  scc : ∀ u w, u < N → w < N → (cl u = cl w ↔ Rch E u w ∧ Rch E w u)
  sur : ∀ c : Int, 0 ≤ c → c < cc → ∃ u, u < N ∧ cl u = c
  cc0 : 0 ≤ cc
  ccN : cc ≤ (N : Int)
  ord : ∀ u w, u < N → Adj E u w → cl w ≤ cl u

theorem classesL1 (hN : N ≤ 1000) (hE : E.length ≤ 20000) (hve : VE N E) {ix0 lw0 cl0 : Nat → Int} (h0 : TI N E 0 0 ix0 cl0 []) :
    ∃ cc cl, CL N E cc cl ∧ graph_classesL1 (N : Int) (0, 0, tab N ix0, tab N cl0, 0, tab N (nxt false E), tab N lw0, []) = some (.inl (cc, tab N cl)) := by
  obtain ⟨o, ho, cc, cl, hCL, hoe⟩ := loop_inv (step := fun a : Int × Int × (List Int) × (List Int) × Int × (List (List Int)) × (List Int) × (List Int) => graph_classesL1K (N : Int) a.1 a.2.1 a.2.2.1 a.2.2.2.1 a.2.2.2.2.1 a.2.2.2.2.2.1 a.2.2.2.2.2.2.1 a.2.2.2.2.2.2.2 (fun a' => some (LR.next a')) (fun e => some (LR.done e)) (fun r => some (LR.ret r)))
    (fun s => ∃ (v : Nat) (cnt cc : Int) (ix lw cl : Nat → Int), s = ((v : Int), cc, tab N ix, tab N cl, cnt, tab N (nxt false E), tab N lw, []) ∧ v ≤ N ∧ TI N E cnt cc ix cl [] ∧ ∀ u, u < v → ix u ≠ 0)
    (fun s => N - Int.toNat s.1)
    (fun o => ∃ cc cl, CL N E cc cl ∧ o = .inl (cc, tab N cl))
    ((0 : Int), (0 : Int), tab N ix0, tab N cl0, (0 : Int), tab N (nxt false E), tab N lw0, []) ⟨0, 0, 0, ix0, lw0, cl0, rfl, Nat.zero_le _, h0, fun u hu => absurd hu (by omega)⟩ (by show N - Int.toNat 0 < many; unfold many; omega) (by
    rintro s ⟨v, cnt, cc, ix, lw, cl, rfl, hv, hT, hd⟩
    by_cases hlt : v < N
    · by_cases hx : ix v = 0
      · obtain ⟨cnt', cc', ix', lw', cl', A, hp, hr⟩ := visit_eq hN hE hve many v cnt cc ix lw cl [] hT (by have := hT.cntN; unfold many; omega) hx hlt
        have hA : A = [] := by
          cases A with
          | nil => rfl
          | cons a A =>
            obtain ⟨z, hz, _⟩ := hp.rz a (by simp)
            simp at hz
        subst hA
        have hr' : graph_classes_1_64 (v : Int) cnt (tab N (nxt false E)) cc (tab N ix) (tab N lw) [] (tab N cl) = some (cnt', tab N (nxt false E), cc', tab N ix', tab N lw', [], tab N cl') := hr
        refine ⟨.next ((v : Int) + 1, cc', tab N ix', tab N cl', cnt', tab N (nxt false E), tab N lw', []), ?_, ⟨v + 1, cnt', cc', ix', lw', cl', by rw [cast_succ], hlt, hp.inv, fun u hu => ?_⟩, by simp only []; omega⟩
        · simp (disch := omega) only [graph_classesL1K, tab_len, tab_getD hlt, hr', decide_true, ckB_true, ckB_ix, ckB_inR, ckB_room, ckB_cut, ckB_mk, ckB_ne, bif_lt, bif_nlt, bif_le, bif_nle, bif_eq, bif_neq, bif_ne, bif_nne, bif_not, bif_true', bif_false', bnd_ok, lk_inl, lk_inr, Int.toNat_natCast]
        · by_cases e : u < v
          · have := hd u e
            rw [(hp.old u this).1]
            exact this
          · obtain rfl : u = v := by omega
            exact hp.ixv
      · refine ⟨.next ((v : Int) + 1, cc, tab N ix, tab N cl, cnt, tab N (nxt false E), tab N lw, []), ?_, ⟨v + 1, cnt, cc, ix, lw, cl, by rw [cast_succ], hlt, hT, fun u hu => ?_⟩, by simp only []; omega⟩
        · simp (disch := omega) only [graph_classesL1K, tab_len, tab_getD hlt, ckB_ix, ckB_inR, ckB_room, ckB_cut, ckB_mk, ckB_ne, bif_lt, bif_nlt, bif_le, bif_nle, bif_eq, bif_neq, bif_ne, bif_nne, bif_not, bif_true', bif_false', bnd_ok, lk_inl, lk_inr, Int.toNat_natCast]
        · by_cases e : u < v
          · exact hd u e
          · obtain rfl : u = v := by omega
            exact hx
    · obtain rfl : v = N := by omega
      have hall : ∀ u, u < v → 0 ≤ cl u := fun u hu => by
        refine Classical.byContradiction fun hn => ?_
        have := (hT.stk u).2 ⟨hd u hu, by omega⟩
        simp at this
      refine ⟨.done (cc, tab v cl), ?_, cc, cl, ⟨fun u hu => ?_, fun u w hu hw => hT.scc u w (hall u hu) (hall w hw), fun c h1 h2 => ?_, hT.cc0, ?_, fun u w hu ha => (hT.clo u w ha (hall u hu)).2⟩, rfl⟩
      · simp (disch := omega) only [graph_classesL1K, ckB_ix, ckB_inR, ckB_room, ckB_cut, ckB_mk, ckB_ne, bif_lt, bif_nlt, bif_le, bif_nle, bif_eq, bif_neq, bif_ne, bif_nne, bif_not, bif_true', bif_false', bnd_ok, lk_inl, lk_inr, Int.toNat_natCast]
      · have := hall u hu
        have := hT.clb u
        omega
      · obtain ⟨u, hu⟩ := hT.sur c h1 h2
        exact ⟨u, hT.inN u (hT.cli u (by omega)), hu⟩
      · have := hT.ccn
        have := hT.cntN
        omega)
  exact ⟨cc, cl, hCL, by rw [← hoe]; exact ho⟩

theorem classesL0 (hN : N ≤ 1000) (a : Int) (b : List St4) (c : List (List Int)) (d e : List Int) (f : Nat → Int) : graph_classesL0 (N : Int) a b c d e (0, tab N f) = some (.inl (tab N fun _ => -1)) := by
  refine loop_to (fun i : Nat => ((i : Int), tab N fun u => if u < i then -1 else f u)) N (many_of (by omega)) _ ?_ ?_ _ ?_
  · intro i hi
    simp (disch := omega) only [graph_classesL0K, tab_len, tab_set, ckB_ix, ckB_inR, ckB_room, ckB_cut, ckB_mk, ckB_ne, bif_lt, bif_nlt, bif_le, bif_nle, bif_eq, bif_neq, bif_ne, bif_nne, bif_not, bif_true', bif_false', bnd_ok, lk_inl, lk_inr, Int.toNat_natCast]
    refine congrArg some (congrArg LR.next (Prod.ext (cast_succ i) (tab_congr fun u _ => ?_)))
    by_cases e : u = i
    · simp [e]
    · by_cases e' : u < i
      · have : u < i + 1 := by omega
        simp [e, e', this]
      · have : ¬ u < i + 1 := by omega
        simp [e, e', this]
  · simp (disch := omega) only [graph_classesL0K, ckB_ix, ckB_inR, ckB_room, ckB_cut, ckB_mk, ckB_ne, bif_lt, bif_nlt, bif_le, bif_nle, bif_eq, bif_neq, bif_ne, bif_nne, bif_not, bif_true', bif_false', bnd_ok, lk_inl, lk_inr, Int.toNat_natCast]
    refine congrArg some (congrArg LR.done (tab_congr fun u hu => ?_))
    simp [hu]
  · simp

theorem classes_eq {g : Graph} (hg : g.1 = (N : Int)) (hN : N ≤ 1000) (hE : g.2.1.length ≤ 20000) (hve : VE N g.2.1) : ∃ cc cl, CL N g.2.1 cc cl ∧ graph_classes g = some (cc, tab N cl) := by
  have h0 : TI N g.2.1 0 0 (fun _ => 0) (fun _ => -1) [] := by
    refine ⟨⟨[], List.nodup_nil, rfl, fun u => by simp⟩, fun u hu => absurd rfl hu, fun u => by simp, fun u => .inl rfl, fun u hu => by simp at hu, fun u => by simp, List.nodup_nil, fun u w _ hu => by simp at hu, fun u w hu => by simp at hu, fun c h1 h2 => by omega, by omega, by omega⟩
  obtain ⟨cc, cl, hCL, hL⟩ := classesL1 (lw0 := fun _ => 0) hN hE hve h0
  refine ⟨cc, cl, hCL, ?_⟩
  unfold graph_classes
  rw [gathered_eq g hg hN hE hve false, hg]
  simp only [Int.toNat_natCast, List.length_replicate, tab_rep, tab_len]
  simp (disch := omega) only [classesL0 hN, hL, ckB_ix, ckB_inR, ckB_room, ckB_cut, ckB_mk, ckB_ne, bif_lt, bif_nlt, bif_le, bif_nle, bif_eq, bif_neq, bif_ne, bif_nne, bif_not, bif_true', bif_false', bnd_ok, lk_inl, lk_inr, Int.toNat_natCast]

end
end Go.Proofs.Ytmcmlloigphbeaa
