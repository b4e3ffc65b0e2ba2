/-
  Graphs: the program's path is the reference's.
-/
import Derived.Test.YtmcmlloigphbeaaP6
set_option linter.all false
namespace Go.Proofs.Ytmcmlloigphbeaa
open Go.K Go.M

theorem PathL3_eq {N : Nat} {E : List St4} (hN : N ≤ 1000) (hE : E.length ≤ 20000) (hv : VE N E) {fb : Nat → Int} (hbd : ∀ v, 0 ≤ fb v ∧ fb v ≤ (N : Int)) {v : Nat} (hvN : v < N) {k : Nat} (hk : k < N) (hfv : fb v = (k : Int) + 1) (hex : ∃ w, Cand E fb v (k : Int) w) (b : Int) (o0 : List Int) :
    ∃ w : Nat, Least (Cand E fb v (k : Int)) w ∧ ref04_PathL3 (v : Int) b (tab N fb) (N : Int) E o0 ((N : Int), 0) = some (.inl (w : Int)) := by
  have main : ∃ o, loopM (fun s : Int × Int => ref04_PathL3K (v : Int) b (tab N fb) (N : Int) E o0 s.1 s.2 (fun a' => some (LR.next a')) (fun e => some (LR.done e)) (fun r => some (LR.ret r))) ((N : Int), 0) = some o ∧
      ∃ w : Nat, Least (Cand E fb v (k : Int)) w ∧ o = .inl (w : Int) := by
    refine loop_inv (fun s => ∃ i : Nat, s.2 = (i : Int) ∧ i ≤ E.length ∧ ((s.1 = (N : Int) ∧ ∀ x, x < i → ¬ (src (E.getD x St4.z) = v ∧ fb (dst (E.getD x St4.z)) = (k : Int))) ∨ ∃ w : Nat, s.1 = (w : Int) ∧ Cand E fb v (k : Int) w ∧ ∀ x, x < i → (src (E.getD x St4.z) = v ∧ fb (dst (E.getD x St4.z)) = (k : Int)) → w ≤ dst (E.getD x St4.z)))
      (fun s => E.length + 1 - Int.toNat s.2) _ _ ⟨0, rfl, Nat.zero_le _, .inl ⟨rfl, fun x hx => by omega⟩⟩ (by show E.length + 1 - Int.toNat 0 < many; unfold many; omega) ?_
    rintro ⟨nx, i'⟩ ⟨i, hi', hi, hst⟩
    simp only at hi' hst
    subst hi'
    by_cases hlt : i < E.length
    · obtain ⟨h1, h2, h3, h4⟩ := hv i hlt
      have k2 : Int.toNat (E.getD i St4.z).2.1 < N := by omega
      have hem : E.getD i St4.z ∈ E := getD_mem _ hlt
      have b2 := hbd (Int.toNat (E.getD i St4.z).2.1)
      have hμ : E.length + 1 - Int.toNat ((i : Int) + 1) < E.length + 1 - Int.toNat (i : Int) := by omega
      by_cases hs : (E.getD i St4.z).1 = (v : Int)
      · have hs' : src (E.getD i St4.z) = v := by simp only [src]; omega
        by_cases hc : fb (Int.toNat (E.getD i St4.z).2.1) = (k : Int)
        · have hcand : Cand E fb v (k : Int) (Int.toNat (E.getD i St4.z).2.1) := ⟨_, hem, hs', rfl, hc⟩
          rcases hst with ⟨hb, hno⟩ | ⟨w, hb, hcw, hmin⟩
          · refine ⟨.next ((E.getD i St4.z).2.1, (i : Int) + 1), ?_, ⟨i + 1, by simp only; omega, hlt, .inr ⟨_, (Int.toNat_of_nonneg h3).symm, hcand, fun x hx hxc => ?_⟩⟩, hμ⟩
            · rw [hb]
              simp (disch := omega) only [ref04_PathL3K, tab_len, tab_getD k2, tab_getD hvN, hfv, ckB_ix, ckB_inR, ckB_room, ckB_cut, ckB_mk, ckB_ne, bif_lt, bif_nlt, bif_le, bif_nle, bif_eq, bif_neq, bif_ne, bif_nne, bif_not, bif_true', bif_false', bnd_ok, lk_inl, lk_inr, Int.toNat_natCast]
            · by_cases hxi : x < i
              · exact absurd hxc (hno x hxi)
              · obtain rfl : x = i := by omega
                exact Nat.le_refl _
          · by_cases hlw : (E.getD i St4.z).2.1 < (w : Int)
            · refine ⟨.next ((E.getD i St4.z).2.1, (i : Int) + 1), ?_, ⟨i + 1, by simp only; omega, hlt, .inr ⟨_, (Int.toNat_of_nonneg h3).symm, hcand, fun x hx hxc => ?_⟩⟩, hμ⟩
              · rw [hb]
                simp (disch := omega) only [ref04_PathL3K, tab_len, tab_getD k2, tab_getD hvN, hfv, ckB_ix, ckB_inR, ckB_room, ckB_cut, ckB_mk, ckB_ne, bif_lt, bif_nlt, bif_le, bif_nle, bif_eq, bif_neq, bif_ne, bif_nne, bif_not, bif_true', bif_false', bnd_ok, lk_inl, lk_inr, Int.toNat_natCast]
              · by_cases hxi : x < i
                · have := hmin x hxi hxc
                  omega
                · obtain rfl : x = i := by omega
                  exact Nat.le_refl _
            · refine ⟨.next ((w : Int), (i : Int) + 1), ?_, ⟨i + 1, by simp only; omega, hlt, .inr ⟨w, rfl, hcw, fun x hx hxc => ?_⟩⟩, hμ⟩
              · rw [hb]
                simp (disch := omega) only [ref04_PathL3K, tab_len, tab_getD k2, tab_getD hvN, hfv, ckB_ix, ckB_inR, ckB_room, ckB_cut, ckB_mk, ckB_ne, bif_lt, bif_nlt, bif_le, bif_nle, bif_eq, bif_neq, bif_ne, bif_nne, bif_not, bif_true', bif_false', bnd_ok, lk_inl, lk_inr, Int.toNat_natCast]
              · by_cases hxi : x < i
                · exact hmin x hxi hxc
                · obtain rfl : x = i := by omega
                  simp only [dst]
                  omega
        · refine ⟨.next (nx, (i : Int) + 1), ?_, ⟨i + 1, by simp only; omega, hlt, ?_⟩, hμ⟩
          · simp (disch := omega) only [ref04_PathL3K, tab_len, tab_getD k2, tab_getD hvN, hfv, ckB_ix, ckB_inR, ckB_room, ckB_cut, ckB_mk, ckB_ne, bif_lt, bif_nlt, bif_le, bif_nle, bif_eq, bif_neq, bif_ne, bif_nne, bif_not, bif_true', bif_false', bnd_ok, lk_inl, lk_inr, Int.toNat_natCast]
          · rcases hst with ⟨hb, hno⟩ | ⟨w, hb, hcw, hmin⟩
            · refine .inl ⟨hb, fun x hx => ?_⟩
              by_cases hxi : x < i
              · exact hno x hxi
              · obtain rfl : x = i := by omega
                exact fun h => hc h.2
            · refine .inr ⟨w, hb, hcw, fun x hx hxc => ?_⟩
              by_cases hxi : x < i
              · exact hmin x hxi hxc
              · obtain rfl : x = i := by omega
                exact absurd hxc.2 hc
      · have hs' : src (E.getD i St4.z) ≠ v := by simp only [src]; omega
        refine ⟨.next (nx, (i : Int) + 1), ?_, ⟨i + 1, by simp only; omega, hlt, ?_⟩, hμ⟩
        · simp (disch := omega) only [ref04_PathL3K, ckB_ix, ckB_inR, ckB_room, ckB_cut, ckB_mk, ckB_ne, bif_lt, bif_nlt, bif_le, bif_nle, bif_eq, bif_neq, bif_ne, bif_nne, bif_not, bif_true', bif_false', bnd_ok, lk_inl, lk_inr, Int.toNat_natCast]
        · rcases hst with ⟨hb, hno⟩ | ⟨w, hb, hcw, hmin⟩
          · refine .inl ⟨hb, fun x hx => ?_⟩
            by_cases hxi : x < i
            · exact hno x hxi
            · obtain rfl : x = i := by omega
              exact fun h => hs' h.1
          · refine .inr ⟨w, hb, hcw, fun x hx hxc => ?_⟩
            by_cases hxi : x < i
            · exact hmin x hxi hxc
            · obtain rfl : x = i := by omega
              exact absurd hxc.1 hs'
    · rcases hst with ⟨hb, hno⟩ | ⟨w, hb, hcw, hmin⟩
      · exfalso
        obtain ⟨w, e, he, h1, h2, h3⟩ := hex
        obtain ⟨x, hx, hxe⟩ := mem_getD St4.z he
        refine hno x (by omega) ?_
        rw [hxe]
        exact ⟨h1, by rw [h2]; exact h3⟩
      · refine ⟨.done (w : Int), ?_, w, ⟨hcw, fun w' hw' => ?_⟩, rfl⟩
        · rw [hb]
          simp (disch := omega) only [ref04_PathL3K, ckB_ix, ckB_inR, ckB_room, ckB_cut, ckB_mk, ckB_ne, bif_lt, bif_nlt, bif_le, bif_nle, bif_eq, bif_neq, bif_ne, bif_nne, bif_not, bif_true', bif_false', bnd_ok, lk_inl, lk_inr, Int.toNat_natCast]
        · obtain ⟨e, he, h1, h2, h3⟩ := hw'
          obtain ⟨x, hx, hxe⟩ := mem_getD St4.z he
          have := hmin x (by omega) (by rw [hxe]; exact ⟨h1, by rw [h2]; exact h3⟩)
          rw [hxe, h2] at this
          exact this
  obtain ⟨o, ho, w, hw, rfl⟩ := main
  exact ⟨w, hw, ho⟩

def pgStep (N : Nat) (E : List St4) (fr : Nat → Int) (s : Int × List Int) : Option (LR (Int × List Int) (List Int) (Int × List Int)) :=
  graph_PathL1K (tab N fr) (tab N (nxt false E)) s.1 s.2 (fun a' => some (.next a')) (fun e => some (.done e)) (fun r => some (.ret r))
def rpStep (N : Nat) (E : List St4) (fb : Nat → Int) (b : Int) (s : Int × List Int) : Option (LR (Int × List Int) (List Int) (Bool × List Int)) :=
  ref04_PathL4K b (tab N fb) (N : Int) E s.1 s.2 (fun a' => some (.next a')) (fun e => some (.done e)) (fun r => some (.ret r))

/-- Both tables tell how far it is to b. -/
structure Far (N : Nat) (E : List St4) (b : Int) (fr fb : Nat → Int) : Prop where
  ff : ∀ v, (fr v = -1 ∧ fb v = (N : Int)) ∨ ∃ k : Nat, k < N ∧ fr v = (k : Int) ∧ fb v = (k : Int)
  zero : ∀ v, fr v = 0 ↔ v = Int.toNat b
  next : ∀ v (k : Nat), fr v = (k : Int) + 1 → ∃ w, Cand E fr v (k : Int) w

theorem Far.bd {N : Nat} {E : List St4} {b : Int} {fr fb : Nat → Int} (h : Far N E b fr fb) (v : Nat) : 0 ≤ fb v ∧ fb v ≤ (N : Int) := by
  rcases h.ff v with ⟨_, e⟩ | ⟨k, h1, _, h2⟩ <;> omega
theorem Far.eq {N : Nat} {E : List St4} {b : Int} {fr fb : Nat → Int} (h : Far N E b fr fb) {k : Nat} (hk : k < N) (w : Nat) : fr w = (k : Int) ↔ fb w = (k : Int) := by
  rcases h.ff w with ⟨e1, e2⟩ | ⟨j, h1, h2, h3⟩ <;> omega

theorem paths_both {N : Nat} {E : List St4} (hN : N ≤ 1000) (hE : E.length ≤ 20000) (hv : VE N E) {b : Int} (hb0 : 0 ≤ b) {fr fb : Nat → Int} (h : Far N E b fr fb) : ∀ (k v : Nat) (out : List Nat), v < N → fr v = (k : Int) → out.length + k ≤ 2000 →
    ∃ tail : List Nat, tail.length = k ∧ (∀ m, k < m → iter (pgStep N E fr) m ((v : Int), casts out) = some (.inl (casts (out ++ tail)))) ∧ ∀ m, k < m → iter (rpStep N E fb b) m ((v : Int), casts out) = some (.inl (casts (out ++ tail))) := by
  intro k
  induction k with
  | zero =>
    intro v out hvN hf hl
    have hvb : (v : Int) = b := by
      have := (h.zero v).1 hf
      omega
    refine ⟨[], rfl, fun m hm => ?_, fun m hm => ?_⟩
    · obtain ⟨m, rfl⟩ : ∃ q, m = q + 1 := ⟨m - 1, by omega⟩
      have hs : pgStep N E fr ((v : Int), casts out) = some (.done (casts out)) := by
        simp (disch := omega) only [pgStep, graph_PathL1K, tab_len, tab_getD hvN, hf, ckB_ix, ckB_inR, ckB_room, ckB_cut, ckB_mk, ckB_ne, bif_lt, bif_nlt, bif_le, bif_nle, bif_eq, bif_neq, bif_ne, bif_nne, bif_not, bif_true', bif_false', bnd_ok, lk_inl, lk_inr, Int.toNat_natCast]
      rw [iter_succ, hs, bnd_ok, List.append_nil]
      rfl
    · obtain ⟨m, rfl⟩ : ∃ q, m = q + 1 := ⟨m - 1, by omega⟩
      have hs : rpStep N E fb b ((v : Int), casts out) = some (.done (casts out)) := by
        simp (disch := omega) only [rpStep, ref04_PathL4K, ckB_ix, ckB_inR, ckB_room, ckB_cut, ckB_mk, ckB_ne, bif_lt, bif_nlt, bif_le, bif_nle, bif_eq, bif_neq, bif_ne, bif_nne, bif_not, bif_true', bif_false', bnd_ok, lk_inl, lk_inr, Int.toNat_natCast]
      rw [iter_succ, hs, bnd_ok, List.append_nil]
      rfl
  | succ k ih =>
    intro v out hvN hf hl
    have hf' : fr v = (k : Int) + 1 := by rw [hf]; omega
    have hkN : k + 1 < N := by
      rcases h.ff v with ⟨e1, e2⟩ | ⟨j, h1, h2, h3⟩ <;> omega
    have hfb : fb v = (k : Int) + 1 := by
      have := (h.eq hkN v).1 hf
      omega
    have hvb : (v : Int) ≠ b := by
      intro e
      have := (h.zero v).2 (by omega)
      omega
    obtain ⟨w, hw, hL0⟩ := PathL0_eq hN hE hv hvN (show k < N by omega) hf' (h.next v k hf') (tab N (nxt false E)) (casts out)
    have hexb : ∃ w, Cand E fb v (k : Int) w := by
      obtain ⟨w, e, he, h1, h2, h3⟩ := h.next v k hf'
      exact ⟨w, e, he, h1, h2, (h.eq (by omega) w).1 h3⟩
    obtain ⟨w', hw', hL3⟩ := PathL3_eq hN hE hv h.bd hvN (show k < N by omega) hfb hexb b (casts out)
    have hww : w' = w := by
      refine Least.uniq hw' ⟨?_, fun x hx => hw.2 x ?_⟩
      · obtain ⟨e, he, h1, h2, h3⟩ := hw.1
        exact ⟨e, he, h1, h2, (h.eq (by omega) w).1 h3⟩
      · obtain ⟨e, he, h1, h2, h3⟩ := hx
        exact ⟨e, he, h1, h2, (h.eq (by omega) x).2 h3⟩
    subst hww
    have hwN : w' < N := by
      obtain ⟨e, he, h1, h2, h3⟩ := hw.1
      obtain ⟨q1, q2, q3, q4⟩ := hv.mem he
      simp only [dst] at h2
      omega
    have hwf : fr w' = (k : Int) := by
      obtain ⟨e, he, h1, h2, h3⟩ := hw.1
      exact h3
    obtain ⟨tail, ht, hp, hr⟩ := ih w' (out ++ [w']) hwN hwf (by simp; omega)
    have hclen := casts_len out
    have happ : casts out ++ [(w' : Int)] = casts (out ++ [w']) := by simp
    refine ⟨w' :: tail, by simp [ht], fun m hm => ?_, fun m hm => ?_⟩
    · obtain ⟨m, rfl⟩ : ∃ q, m = q + 1 := ⟨m - 1, by omega⟩
      have hs : pgStep N E fr ((v : Int), casts out) = some (.next ((w' : Int), casts (out ++ [w']))) := by
        rw [← happ]
        simp (disch := omega) only [pgStep, graph_PathL1K, tab_len, tab_getD hvN, hf', hL0, hclen, ckB_ix, ckB_inR, ckB_room, ckB_cut, ckB_mk, ckB_ne, bif_lt, bif_nlt, bif_le, bif_nle, bif_eq, bif_neq, bif_ne, bif_nne, bif_not, bif_true', bif_false', bnd_ok, lk_inl, lk_inr, Int.toNat_natCast]
      rw [iter_succ, hs, bnd_ok]
      have := hp m (by omega)
      rw [List.append_assoc] at this
      exact this
    · obtain ⟨m, rfl⟩ : ∃ q, m = q + 1 := ⟨m - 1, by omega⟩
      have hs : rpStep N E fb b ((v : Int), casts out) = some (.next ((w' : Int), casts (out ++ [w']))) := by
        rw [← happ]
        simp (disch := omega) only [rpStep, ref04_PathL4K, hL3, hclen, ckB_ix, ckB_inR, ckB_room, ckB_cut, ckB_mk, ckB_ne, bif_lt, bif_nlt, bif_le, bif_nle, bif_eq, bif_neq, bif_ne, bif_nne, bif_not, bif_true', bif_false', bnd_ok, lk_inl, lk_inr, Int.toNat_natCast]
      rw [iter_succ, hs, bnd_ok]
      have := hr m (by omega)
      rw [List.append_assoc] at this
      exact this

theorem refPathL0_eq {N : Nat} (hN : N ≤ 1000) (a b : Int) (E : List St4) (f : Nat → Int) : ref04_PathL0 a b (N : Int) E (0, tab N f) = some (.inl (tab N fun _ => (N : Int))) := by
  refine loop_to (fun i : Nat => ((i : Int), tab N fun v => if v < i then (N : Int) else f v)) N (many_of (by omega)) _ ?_ ?_ _ (by simp)
  · intro i hi
    simp (disch := omega) only [ref04_PathL0K, tab_len, tab_set, ckB_ix, ckB_inR, ckB_room, ckB_cut, ckB_mk, ckB_ne, bif_lt, bif_nlt, bif_le, bif_nle, bif_eq, bif_neq, bif_ne, bif_nne, bif_not, bif_true', bif_false', bnd_ok, lk_inl, lk_inr, Int.toNat_natCast]
    simp only [Option.some.injEq, LR.next.injEq, Prod.mk.injEq]
    refine ⟨by omega, tab_congr fun v _ => ?_⟩
    by_cases e : v = i
    · rw [if_pos e, if_pos (by omega)]
    · rw [if_neg e]
      by_cases e2 : v < i
      · rw [if_pos e2, if_pos (by omega)]
      · rw [if_neg e2, if_neg (by omega)]
  · simp (disch := omega) only [ref04_PathL0K, ckB_ix, ckB_inR, ckB_room, ckB_cut, ckB_mk, ckB_ne, bif_lt, bif_nlt, bif_le, bif_nle, bif_eq, bif_neq, bif_ne, bif_nne, bif_not, bif_true', bif_false', bnd_ok, lk_inl, lk_inr, Int.toNat_natCast]
    congr 2
    exact tab_congr fun v hv => if_pos hv

/-- **The two paths.** -/
theorem Path_both {g : Graph} {N : Nat} (hg : g.1 = (N : Int)) (hN : N ≤ 1000) (hE : g.2.1.length ≤ 20000) (hv : VE N g.2.1) (hval : validB g = true) {a b : Int} (ha0 : 0 ≤ a) (ha : a < (N : Int)) (hb0 : 0 ≤ b) (hb : b < (N : Int)) :
    ∃ res : Option (List Nat), (∀ p, res = some p → p.length ≤ 1001) ∧ graph_Path g a b = some (match res with | none => (10, []) | some p => (0, casts p)) ∧ ref04_Path g a b = some (match res with | none => (false, []) | some p => (true, casts p)) := by
  have hga := gathered_eq g hg hN hE hv false
  have hgr := gathered_eq (g.1, g.2.1.map swapE, ()) hg hN (by simpa using hE) hv.swap false
  obtain ⟨fr, h2, s2⟩ := reached_eq hN (E := g.2.1.map swapE) (by simpa using hE) hv.swap (l := [b]) (by simp) (fun x hx => by rw [List.mem_singleton] at hx; omega)
  have va : (decide (0 ≤ a) && decide (a < g.1)) = true := by rw [hg]; simp [ha0, ha]
  have vb : (decide (0 ≤ b) && decide (b < g.1)) = true := by rw [hg]; simp [hb0, hb]
  have hS0 : Sd N (g.2.1.map swapE) (SF [b]) (fun v => if v = Int.toNat b then 0 else (N : Int)) := by
    intro v
    by_cases e : v = Int.toNat b
    · exact .inr ⟨0, by omega, by simp only [if_pos e]; rfl, SF_one.2 e⟩
    · exact .inl (if_neg e)
  obtain ⟨fb, hL2, hSd, hmin⟩ := PathL2_eq hN hE hv hS0 (fun v hs => if_pos (SF_one.1 hs)) a b (N : Int)
  have hfar : Far N g.2.1 b fr fb := by
    refine ⟨fun v => ?_, fun v => ?_, fun v k hk => ?_⟩
    · rcases s2 v with ⟨q1, q2⟩ | ⟨k, q0, q1, q2, q3⟩
      · refine .inl ⟨q1, ?_⟩
        rcases hSd v with e | ⟨j, _, _, hW⟩
        · exact e
        · exact absurd hW (q2 j)
      · refine .inr ⟨k, q0, q1, ?_⟩
        have h1 := hmin k v q2
        rcases hSd v with e | ⟨j, j1, j2, hW⟩
        · omega
        · have := q3 j hW
          omega
    · rcases s2 v with ⟨q1, q2⟩ | ⟨k, q0, q1, q2, q3⟩
      · constructor
        · intro e; omega
        · intro e; exact absurd (SF_one.2 e) (q2 0)
      · constructor
        · intro e
          have hk : k = 0 := by omega
          subst hk
          exact SF_one.1 q2
        · intro e
          have := q3 0 (SF_one.2 e)
          omega
    · rcases s2 v with ⟨q1, q2⟩ | ⟨j, q0, q1, q2, q3⟩
      · omega
      · have hj : j = k + 1 := by omega
        subst hj
        obtain ⟨e', he', hW, hd⟩ := q2
        obtain ⟨e, he, rfl⟩ := List.mem_map.1 he'
        refine ⟨dst e, e, he, hd, rfl, ?_⟩
        have hW' : W (g.2.1.map swapE) (SF [b]) k (dst e) := hW
        rcases s2 (dst e) with ⟨p1, p2⟩ | ⟨i, p0, p1, p2, p3⟩
        · exact absurd hW' (p2 k)
        · have h1 := p3 k hW'
          have h2 := q3 (i + 1) ⟨swapE e, he', p2, hd⟩
          omega
  have hav : (a : Int) = ((Int.toNat a : Nat) : Int) := (Int.toNat_of_nonneg ha0).symm
  have haN : Int.toNat a < N := by omega
  have hbN : Int.toNat b < N := by omega
  have e0 : List.replicate (Int.toNat g.1) (0 : Int) = tab N (fun _ => (0 : Int)) := by rw [hg, Int.toNat_natCast, tab_rep]
  have hset : (tab N fun _ => (N : Int)).set (Int.toNat b) 0 = tab N (fun v => if v = Int.toNat b then 0 else (N : Int)) := tab_set
  have hP0 := refPathL0_eq hN a b g.2.1 (fun _ => 0)
  by_cases hneg : fr (Int.toNat a) < 0
  · refine ⟨none, (fun p h => by cases h), ?_, ?_⟩
    · unfold graph_Path
      rw [graph_Valid_eq, hval, bnd_ok, bif_neg (c := !true) rfl, graph_vertex_eq, va, bnd_ok, bif_neg (c := !true) rfl, graph_vertex_eq, vb, bnd_ok, bif_neg (c := !true) rfl, graph_reversed_eq g hE, bnd_ok, hgr, bnd_ok]
      simp only
      rw [h2, bnd_ok]
      simp (disch := omega) only [tab_len, tab_getD haN, ckB_ix, ckB_inR, ckB_room, ckB_cut, ckB_mk, ckB_ne, bif_lt, bif_nlt, bif_le, bif_nle, bif_eq, bif_neq, bif_ne, bif_nne, bif_not, bif_true', bif_false', bnd_ok, lk_inl, lk_inr, Int.toNat_natCast]
    · have hfa : fb (Int.toNat a) = (N : Int) := by
        rcases hfar.ff (Int.toNat a) with ⟨_, e⟩ | ⟨k, _, h1, _⟩
        · exact e
        · omega
      unfold ref04_Path
      rw [e0, hg]
      simp (disch := omega) only [hP0, tab_len, hset, hL2, tab_getD haN, ckB_ix, ckB_inR, ckB_room, ckB_cut, ckB_mk, ckB_ne, bif_lt, bif_nlt, bif_le, bif_nle, bif_eq, bif_neq, bif_ne, bif_nne, bif_not, bif_true', bif_false', bnd_ok, lk_inl, lk_inr, Int.toNat_natCast]
  · obtain ⟨k, hk⟩ : ∃ k : Nat, fr (Int.toNat a) = (k : Int) := ⟨Int.toNat (fr (Int.toNat a)), by omega⟩
    have hkN : k < N := by
      rcases hfar.ff (Int.toNat a) with ⟨e, _⟩ | ⟨j, h0, h1, _⟩ <;> omega
    obtain ⟨tail, ht, hp, hr⟩ := paths_both hN hE hv hb0 hfar k (Int.toNat a) [Int.toNat a] haN hk (by simp; omega)
    have hp := hp many (by unfold many; omega)
    have hr := hr many (by unfold many; omega)
    have hca : casts [Int.toNat a] = [a] := by simp only [casts, List.map_cons, List.map_nil]; rw [← hav]
    rw [hca, ← hav] at hp hr
    refine ⟨some ([Int.toNat a] ++ tail), fun p h => ?_, ?_, ?_⟩
    · cases h
      simp
      omega
    · unfold graph_Path
      rw [graph_Valid_eq, hval, bnd_ok, bif_neg (c := !true) rfl, graph_vertex_eq, va, bnd_ok, bif_neg (c := !true) rfl, graph_vertex_eq, vb, bnd_ok, bif_neg (c := !true) rfl, graph_reversed_eq g hE, bnd_ok, hgr, bnd_ok]
      simp only
      rw [h2, bnd_ok]
      simp (disch := omega) only [tab_len, tab_getD haN, hga, ckB_ix, ckB_inR, ckB_room, ckB_cut, ckB_mk, ckB_ne, bif_lt, bif_nlt, bif_le, bif_nle, bif_eq, bif_neq, bif_ne, bif_nne, bif_not, bif_true', bif_false', bnd_ok, lk_inl, lk_inr, Int.toNat_natCast]
      show bnd (iter (pgStep N g.2.1 fr) many (a, [a])) _ = _
      rw [hp]
      rfl
    · have hfa : fb (Int.toNat a) = (k : Int) := (hfar.eq hkN _).1 hk
      unfold ref04_Path
      rw [e0, hg]
      simp (disch := omega) only [hP0, tab_len, hset, hL2, tab_getD haN, ckB_ix, ckB_inR, ckB_room, ckB_cut, ckB_mk, ckB_ne, bif_lt, bif_nlt, bif_le, bif_nle, bif_eq, bif_neq, bif_ne, bif_nne, bif_not, bif_true', bif_false', bnd_ok, lk_inl, lk_inr, Int.toNat_natCast]
      show bnd (iter (rpStep N g.2.1 fb b) many (a, [a])) _ = _
      rw [hr]
      rfl

theorem GraphPaths_true (g : Graph) (a b : Int) : law04_GraphPaths g a b = some true := by
  unfold law04_GraphPaths
  simp only [awake_true, bnd_ok]
  rw [bif_neg (c := !true) rfl]
  obtain ⟨b0, hb0⟩ := small_some g
  rw [hb0, bnd_ok]
  cases b0 with
  | false => rfl
  | true =>
    rw [bif_neg (c := !true) rfl, ref04_Valid_eq]
    cases hval : validB g with
    | false =>
      have h1 : graph_Between g a b = some (1, []) := by
        unfold graph_Between
        rw [graph_Valid_eq, hval]
        rfl
      have h2 : graph_Path g a b = some (1, []) := by
        unfold graph_Path
        rw [graph_Valid_eq, hval]
        rfl
      rw [h1, h2]
      rfl
    | true =>
      obtain ⟨N, hg, hN, hE, hv⟩ := valid_at hval
      simp only [ref04_Vertex_eq]
      cases va : (decide (0 ≤ a) && decide (a < g.1)) with
      | false =>
        have h1 : graph_Between g a b = some (2, []) := by
          unfold graph_Between
          rw [graph_Valid_eq, hval, bnd_ok, bif_neg (c := !true) rfl, graph_vertex_eq, va]
          rfl
        have h2 : graph_Path g a b = some (2, []) := by
          unfold graph_Path
          rw [graph_Valid_eq, hval, bnd_ok, bif_neg (c := !true) rfl, graph_vertex_eq, va]
          rfl
        rw [h1, h2]
        rfl
      | true =>
        cases vb : (decide (0 ≤ b) && decide (b < g.1)) with
        | false =>
          have h1 : graph_Between g a b = some (2, []) := by
            unfold graph_Between
            rw [graph_Valid_eq, hval, bnd_ok, bif_neg (c := !true) rfl, graph_vertex_eq, va, bnd_ok, bif_neg (c := !true) rfl, graph_vertex_eq, vb]
            rfl
          have h2 : graph_Path g a b = some (2, []) := by
            unfold graph_Path
            rw [graph_Valid_eq, hval, bnd_ok, bif_neg (c := !true) rfl, graph_vertex_eq, va, bnd_ok, bif_neg (c := !true) rfl, graph_vertex_eq, vb]
            rfl
          rw [h1, h2]
          rfl
        | true =>
          simp only [Bool.and_eq_true, decide_eq_true_eq, hg] at va vb
          obtain ⟨p, hp, hpi⟩ := graph_Between_eq hg hN hE hv hval va.1 va.2 vb.1 vb.2
          obtain ⟨q, hq, hqi⟩ := ref_Between_eq hg hN hE hv va.1 va.2 vb.1 vb.2
          obtain ⟨res, hres, hP, hR⟩ := Path_both hg hN hE hv hval va.1 va.2 vb.1 vb.2
          have hpq : (List.range N).filter p = (List.range N).filter q := filter_same fun v hv' => by rw [hpi v, hqi v hv']
          have hlen := casts_filter_len (N := N) q
          rw [hp, hP]
          simp only [bnd_ok, bif_not, bif_true']
          rw [hq, bnd_ok, hpq, equal_self _ (Nat.le_trans hlen (by omega)), bnd_ok, hR, bnd_ok]
          cases res with
          | none => rfl
          | some p =>
            have hl := hres p rfl
            have hl2 : (casts p).length ≤ 9223372036854775806 := by rw [casts_len]; omega
            simp only
            rw [equal_self _ hl2]
            rfl

end Go.Proofs.Ytmcmlloigphbeaa
