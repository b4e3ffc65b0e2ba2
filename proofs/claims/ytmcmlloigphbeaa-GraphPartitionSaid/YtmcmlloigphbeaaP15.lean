/-
  Graphs: strong components in order: the program's list.
-/
import Derived.Test.YtmcmlloigphbeaaP14
set_option linter.all false
namespace Go.Proofs.Ytmcmlloigphbeaa
open Go.K Go.M

section
variable {N n : Nat} {E : List St4} {cl : Nat → Int} {T : List Nat}

/-- The first vertex of a class. -/
theorem first_of {c : Int} {u : Nat} (hu : u < N) (h : cl u = c) : ∃ r, r < N ∧ cl r = c ∧ (mems N cl c).getD 0 0 = (r : Int) ∧ 0 < (mems N cl c).length ∧ ∀ w, w < N → cl w = c → r ≤ w := by
  have hm : u ∈ mem N cl c := mem_mem.2 ⟨hu, h⟩
  cases hl : mem N cl c with
  | nil => rw [hl] at hm; simp at hm
  | cons r l =>
    have hr : r ∈ mem N cl c := by rw [hl]; simp
    have h1 := mem_mem.1 hr
    refine ⟨r, h1.1, h1.2, by simp [mems, hl], by simp [mems, hl], fun w hw hc => ?_⟩
    have hs : (mem N cl c).Pairwise (· < ·) := List.pairwise_lt_range.filter _
    have hw' : w ∈ mem N cl c := mem_mem.2 ⟨hw, hc⟩
    rw [hl] at hs hw'
    rcases List.mem_cons.1 hw' with rfl | hw'
    · exact Nat.le_refl _
    · exact Nat.le_of_lt ((List.pairwise_cons.1 hs).1 w hw')

theorem StrongL2_eq (hN : N ≤ 1000) (hB : CB N n cl) (hsur : ∀ c : Int, 0 ≤ c → c < (n : Int) → ∃ u, u < N ∧ cl u = c) {v : Nat} (hp : pickS N E cl T = some v) (nx : List (List Int)) (v84 v85 : Int) (out : List (List Int)) :
    graph_StrongL2 (tab N cl) (n : Int) (tab n fun c => mems N cl c) nx v84 v85 (n : Int) (tab n fun c => (cntS E cl T c : Int)) (tab n fun c => tkB cl T c) out (-1, 0) = some (.inl (cl v)) := by
  obtain ⟨hvN, hvr, hvm⟩ := pickS_some hp
  have hn := hB.n
  have hvc := hB.rng v hvN
  obtain ⟨o, ho, hoe⟩ := loop_inv (step := fun a : Int × Int => graph_StrongL2K (tab N cl) (n : Int) (tab n fun c => mems N cl c) nx v84 v85 (n : Int) (tab n fun c => (cntS E cl T c : Int)) (tab n fun c => tkB cl T c) out a.1 a.2 (fun a' => some (LR.next a')) (fun e => some (LR.done e)) (fun r => some (LR.ret r)))
    (fun s => ∃ i : Nat, s.2 = (i : Int) ∧ i ≤ n ∧ ((s.1 = -1 ∧ ∀ c : Nat, c < i → rdyC E cl T c = false) ∨ ∃ b r : Nat, s.1 = (b : Int) ∧ b < i ∧ rdyC E cl T b = true ∧ cl r = (b : Int) ∧ r < N ∧ ∀ c w : Nat, c < i → rdyC E cl T c = true → w < N → cl w = (c : Int) → r ≤ w))
    (fun s => n - Int.toNat s.2)
    (fun o => o = .inl (cl v))
    ((-1 : Int), (0 : Int)) ⟨0, rfl, Nat.zero_le _, .inl ⟨rfl, fun c hc => absurd hc (by omega)⟩⟩ (by show n - Int.toNat 0 < many; unfold many; omega) (by
    rintro ⟨best, j⟩ ⟨i, hj, hi, hinv⟩
    simp only at hj
    subst hj
    by_cases hlt : i < n
    · have hr : rdyC E cl T i = true ↔ tkB cl T i = false ∧ cntS E cl T i = 0 := rdyC_iff
      obtain ⟨u, hu, hcu⟩ := hsur i (by omega) (by omega)
      obtain ⟨r', hr1, hr2, hr3, hr4, hr5⟩ := first_of hu hcu
      -- the class i is not ready: nothing changes
      have no : rdyC E cl T i = false → ∃ k : Nat, ((i : Int) + 1) = (k : Int) ∧ k ≤ n ∧ ((best = -1 ∧ ∀ c : Nat, c < k → rdyC E cl T c = false) ∨ ∃ b r : Nat, best = (b : Int) ∧ b < k ∧ rdyC E cl T b = true ∧ cl r = (b : Int) ∧ r < N ∧ ∀ c w : Nat, c < k → rdyC E cl T c = true → w < N → cl w = (c : Int) → r ≤ w) := by
        intro hno
        refine ⟨i + 1, by omega, by omega, ?_⟩
        rcases hinv with ⟨h1, h2⟩ | ⟨b, r, h1, h2, h3, h4, h5, h6⟩
        · refine .inl ⟨h1, fun c hc => ?_⟩
          by_cases e : c = i
          · rw [e]; exact hno
          · exact h2 c (by omega)
        · refine .inr ⟨b, r, h1, by omega, h3, h4, h5, fun c w hc hrc => ?_⟩
          by_cases e : c = i
          · rw [e, hno] at hrc; cases hrc
          · exact h6 c w (by omega) hrc
      have hμ : n - Int.toNat ((i : Int) + 1) < n - Int.toNat (i : Int) := by omega
      cases htk : tkB cl T i with
      | true =>
        refine ⟨.next (best, (i : Int) + 1), ?_, no ?_, hμ⟩
        · simp (disch := omega) only [graph_StrongL2K, tab_len, tab_getD hlt, htk, Bool.not_true, ckB_ix, ckB_inR, ckB_room, ckB_cut, ckB_mk, ckB_ne, bif_lt, bif_nlt, bif_le, bif_nle, bif_eq, bif_neq, bif_ne, bif_nne, bif_not, bif_true', bif_false', bnd_ok, lk_inl, lk_inr, Int.toNat_natCast]
        · cases hc : rdyC E cl T i with
          | false => rfl
          | true => rw [(hr.1 hc).1] at htk; cases htk
      | false =>
        by_cases hcn : cntS E cl T i = 0
        · have hyes := hr.2 ⟨htk, hcn⟩
          have hcn' : ((cntS E cl T i : Nat) : Int) = 0 := by omega
          rcases hinv with ⟨h1, h2⟩ | ⟨b, r, h1, h2, h3, h4, h5, h6⟩
          · subst h1
            refine ⟨.next ((i : Int), (i : Int) + 1), ?_, ⟨i + 1, by simp, by omega, .inr ⟨i, r', rfl, by omega, hyes, hr2, hr1, fun c w hc hrc hw hcw => ?_⟩⟩, hμ⟩
            · simp (disch := omega) only [graph_StrongL2K, tab_len, tab_getD hlt, htk, Bool.not_false, ckB_ix, ckB_inR, ckB_room, ckB_cut, ckB_mk, ckB_ne, bif_lt, bif_nlt, bif_le, bif_nle, bif_eq, bif_neq, bif_ne, bif_nne, bif_not, bif_true', bif_false', bnd_ok, lk_inl, lk_inr, Int.toNat_natCast]
            · by_cases e : c = i
              · subst e; exact hr5 w hw hcw
              · rw [h2 c (by omega)] at hrc; cases hrc
          · subst h1
            have hbn : b < n := by omega
            obtain ⟨q, hq1, hq2, hq3, hq4, hq5⟩ := first_of h5 h4
            have hqr : q = r := Nat.le_antisymm (hq5 r h5 h4) (h6 b q h2 h3 hq1 hq2)
            subst hqr
            by_cases hlt2 : r' < q
            · refine ⟨.next ((i : Int), (i : Int) + 1), ?_, ⟨i + 1, by simp, by omega, .inr ⟨i, r', rfl, by omega, hyes, hr2, hr1, fun c w hc hrc hw hcw => ?_⟩⟩, hμ⟩
              · simp (disch := omega) only [graph_StrongL2K, tab_len, tab_getD hlt, tab_getD hbn, htk, hr3, hq3, Bool.not_false, ckB_ix, ckB_inR, ckB_room, ckB_cut, ckB_mk, ckB_ne, bif_lt, bif_nlt, bif_le, bif_nle, bif_eq, bif_neq, bif_ne, bif_nne, bif_not, bif_true', bif_false', bnd_ok, lk_inl, lk_inr, Int.toNat_natCast]
              · by_cases e : c = i
                · subst e; exact hr5 w hw hcw
                · have := h6 c w (by omega) hrc hw hcw
                  omega
            · refine ⟨.next ((b : Int), (i : Int) + 1), ?_, ⟨i + 1, by simp, by omega, .inr ⟨b, q, rfl, by omega, h3, h4, h5, fun c w hc hrc hw hcw => ?_⟩⟩, hμ⟩
              · simp (disch := omega) only [graph_StrongL2K, tab_len, tab_getD hlt, tab_getD hbn, htk, hr3, hq3, Bool.not_false, ckB_ix, ckB_inR, ckB_room, ckB_cut, ckB_mk, ckB_ne, bif_lt, bif_nlt, bif_le, bif_nle, bif_eq, bif_neq, bif_ne, bif_nne, bif_not, bif_true', bif_false', bnd_ok, lk_inl, lk_inr, Int.toNat_natCast]
              · by_cases e : c = i
                · subst e
                  have := hr5 w hw hcw
                  omega
                · exact h6 c w (by omega) hrc hw hcw
        · refine ⟨.next (best, (i : Int) + 1), ?_, no ?_, hμ⟩
          · simp (disch := omega) only [graph_StrongL2K, tab_len, tab_getD hlt, htk, Bool.not_false, ckB_ix, ckB_inR, ckB_room, ckB_cut, ckB_mk, ckB_ne, bif_lt, bif_nlt, bif_le, bif_nle, bif_eq, bif_neq, bif_ne, bif_nne, bif_not, bif_true', bif_false', bnd_ok, lk_inl, lk_inr, Int.toNat_natCast]
          · cases hc : rdyC E cl T i with
            | false => rfl
            | true => exact absurd (hr.1 hc).2 hcn
    · obtain rfl : i = n := by omega
      refine ⟨.done best, ?_, ?_⟩
      · simp (disch := omega) only [graph_StrongL2K, ckB_ix, ckB_inR, ckB_room, ckB_cut, ckB_mk, ckB_ne, bif_lt, bif_nlt, bif_le, bif_nle, bif_eq, bif_neq, bif_ne, bif_nne, bif_not, bif_true', bif_false', bnd_ok, lk_inl, lk_inr, Int.toNat_natCast]
      · have hcv : ((Int.toNat (cl v) : Nat) : Int) = cl v := by omega
        rcases hinv with ⟨h1, h2⟩ | ⟨b, r, h1, h2, h3, h4, h5, h6⟩
        · have := h2 (Int.toNat (cl v)) (by omega)
          rw [hcv, hvr] at this
          cases this
        · have h7 := h6 (Int.toNat (cl v)) v (by omega) (by rw [hcv]; exact hvr) hvN hcv.symm
          have h8 : ¬ r < v := fun hlt => by
            have := hvm r hlt
            rw [h4, h3] at this
            cases this
          obtain rfl : r = v := by omega
          rw [show best = (b : Int) from h1, h4])
  rw [← hoe]
  exact ho

/-- The list of the classes that were taken. -/
abbrev outS (N : Nat) (cl : Nat → Int) (T : List Nat) : List (List Int) := T.map fun r => mems N cl (cl r)

def sgStep (N n : Nat) (E : List St4) (cl : Nat → Int) (a : Int × List Int × List Bool × List (List Int)) : Option (LR (Int × List Int × List Bool × List (List Int)) (List (List Int)) (Int × List (List Int))) :=
  graph_StrongL5K (tab N cl) (n : Int) (tab n fun c => mems N cl c) (tab N (nxt false E)) (n : Int) a.1 a.2.1 a.2.2.1 a.2.2.2 (fun a' => some (.next a')) (fun e => some (.done e)) (fun r => some (.ret r))

theorem StrongL5_eq (hN : N ≤ 1000) (hE : E.length ≤ 20000) (hv : VE N E) (hC : CL N E (n : Int) cl) : ∀ (k : Nat) (T : List Nat), k + T.length = n → InvS N E cl T → ∀ m, k < m →
    iter (sgStep N n E cl) m ((T.length : Int), tab n (fun c => (cntS E cl T c : Int)), tab n (fun c => tkB cl T c), outS N cl T) = some (.inl (outS N cl (finS N E cl k T))) := by
  have hB : CB N n cl := ⟨hC.rng, by have := hC.ccN; omega⟩
  have hnN := hB.n
  intro k
  induction k with
  | zero =>
    intro T hk hI m hm
    obtain ⟨m, rfl⟩ : ∃ q, m = q + 1 := ⟨m - 1, by omega⟩
    have hl : (T.length : Int) = (n : Int) := by omega
    have hs : sgStep N n E cl ((T.length : Int), tab n (fun c => (cntS E cl T c : Int)), tab n (fun c => tkB cl T c), outS N cl T) = some (.done (outS N cl T)) := by
      simp (disch := omega) only [sgStep, graph_StrongL5K, hl, ckB_ix, ckB_inR, ckB_room, ckB_cut, ckB_mk, ckB_ne, bif_lt, bif_nlt, bif_le, bif_nle, bif_eq, bif_neq, bif_ne, bif_nne, bif_not, bif_true', bif_false', bnd_ok, lk_inl, lk_inr, Int.toNat_natCast]
    rw [iter_succ, hs]
    rfl
  | succ k ih =>
    intro T hk hI m hm
    obtain ⟨m, rfl⟩ : ∃ q, m = q + 1 := ⟨m - 1, by omega⟩
    cases hp : pickS N E cl T with
    | none =>
      have := InvS.full hC (pickS_none hC hv hp)
      omega
    | some v =>
      obtain ⟨hvN, hvr, hvm⟩ := pickS_some hp
      have hvc := hB.rng v hvN
      have hL2 := StrongL2_eq hN hB hC.sur hp (tab N (nxt false E)) (n : Int) (T.length : Int) (outS N cl T)
      have hcv : ((Int.toNat (cl v) : Nat) : Int) = cl v := by omega
      have kv : Int.toNat (cl v) < n := by omega
      have hlen : (mem N cl (cl v)).length ≤ 1000 := by have := mem_len (N := N) (cl := cl) (c := cl v); omega
      have hL4 := StrongL4_eq hE hv hB (fun c => (cntS E cl T c : Int)) (fun c => by have := cntS_le (E := E) (cl := cl) T c; omega) (cl v) (mem N cl (cl v)) mem_nodup (fun w hw => (mem_mem.1 hw).1) hlen (tab n fun c => mems N cl c) (n : Int) (T.length : Int) ((tab n fun c => tkB cl T c).set (Int.toNat (cl v)) true) (outS N cl T ++ [mems N cl (cl v)])
      have hol : (outS N cl T).length = T.length := by simp
      have hs : sgStep N n E cl ((T.length : Int), tab n (fun c => (cntS E cl T c : Int)), tab n (fun c => tkB cl T c), outS N cl T) = some (.next ((T.length : Int) + 1, tab n (fun c => (cntS E cl (T ++ [v]) c : Int)), tab n (fun c => tkB cl (T ++ [v]) c), outS N cl (T ++ [v]))) := by
        simp (disch := omega) only [sgStep, graph_StrongL5K, hL2, tab_len, tab_getD kv, hcv, hol, hL4, ckB_ix, ckB_inR, ckB_room, ckB_cut, ckB_mk, ckB_ne, bif_lt, bif_nlt, bif_le, bif_nle, bif_eq, bif_neq, bif_ne, bif_nne, bif_not, bif_true', bif_false', bnd_ok, lk_inl, lk_inr, Int.toNat_natCast]
        refine congrArg some (congrArg LR.next (Prod.ext rfl (Prod.ext (tab_congr fun c _ => cntS_step hv (rdyC_iff.1 hvr).1 c) (Prod.ext ?_ ?_))))
        · simp only [tab_set]
          refine tab_congr fun c _ => ?_
          rw [tkB_add]
          by_cases e : c = Int.toNat (cl v)
          · have : cl v = (c : Int) := by omega
            rw [if_pos e, this]
            simp
          · have : ¬ cl v = (c : Int) := by omega
            rw [if_neg e]
            simp [this]
        · simp [outS]
      rw [iter_succ, hs, bnd_ok]
      simp only [lr, finS, hp]
      have := ih (T ++ [v]) (by simp; omega) (hI.add hp) m (by omega)
      rw [List.length_append, List.length_singleton] at this
      exact this

/-- The program's list. -/
theorem graph_Strong_eq {g : Graph} (hg : g.1 = (N : Int)) (hN : N ≤ 1000) (hE : g.2.1.length ≤ 20000) (hve : VE N g.2.1) (hval : validB g = true) :
    ∃ (n : Nat) (cl : Nat → Int), CL N g.2.1 (n : Int) cl ∧ graph_Strong g = some (0, outS N cl (finS N g.2.1 cl n [])) := by
  obtain ⟨cc, cl, hC, hcl⟩ := classes_eq hg hN hE hve
  obtain ⟨n, rfl⟩ : ∃ n : Nat, cc = (n : Int) := ⟨Int.toNat cc, by have := hC.cc0; omega⟩
  have hB : CB N n cl := ⟨hC.rng, by have := hC.ccN; omega⟩
  have hnN := hB.n
  refine ⟨n, cl, hC, ?_⟩
  have hga := gathered_eq g hg hN hE hve false
  have hL0 := StrongL0_eq hN hB g.1 g.2.1
  have hL1 := StrongL1_eq hN hE hve hB (tab n fun c => mems N cl c) g.1 g.2.1
  have hL5 : graph_StrongL5 (tab N cl) (n : Int) (tab n fun c => mems N cl c) (tab N (nxt false g.2.1)) (n : Int) (0, tab n (fun c => (cntS g.2.1 cl [] c : Int)), tab n (fun c => tkB cl [] c), []) = some (.inl (outS N cl (finS N g.2.1 cl n []))) :=
    StrongL5_eq hN hE hve hC n [] (by simp) InvS.nil many (many_of (by omega))
  have e0 : List.replicate n (false : Bool) = tab n (fun c => tkB cl [] c) := by rw [tab_rep]; exact tab_congr fun c _ => by simp [tkB]
  unfold graph_Strong
  simp (disch := omega) only [graph_Valid_eq, hval, Bool.not_true, hcl, hL0, hL1, hga, e0, hL5, ckB_ix, ckB_inR, ckB_room, ckB_cut, ckB_mk, ckB_ne, bif_lt, bif_nlt, bif_le, bif_nle, bif_eq, bif_neq, bif_ne, bif_nne, bif_not, bif_true', bif_false', bnd_ok, lk_inl, lk_inr, Int.toNat_natCast]

end
end Go.Proofs.Ytmcmlloigphbeaa
