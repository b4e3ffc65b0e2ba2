/-
  Valid; Serve, Valid and Waits return what is specified: the contract of the statement.
-/
import Derived.Test.YtocpeankecaabaaW8
set_option linter.all false
namespace Go.Proofs.Ytocpeankecaabaa
open Go.Abs Go.RowKit

/-- What Valid returns. -/
def validO (l : List Cust) (s : Int) : Bool := decide ((serveO l s).2 = 0) && sameC (serveO l s).1 l

theorem St_congr (endF : Int → Int → Int × Int) (l m : List Cust) (n : Nat) : ∀ i, (∀ j, j < i → (l.getD j .z).arrive = (m.getD j .z).arrive ∧ (l.getD j .z).service = (m.getD j .z).service) → St endF l n i = St endF m n i := by
  intro i
  induction i with
  | zero => intro _; rfl
  | succ i ih =>
    intro h
    have ih := ih fun j hj => h j (by omega)
    have hi := h i (by omega)
    rw [St_succ, St_succ]
    simp only [resAt, stAt, ih, hi.1, hi.2]

theorem St_at' (endF : Int → Int → Int × Int) (l : List Cust) (n : Nat) (j : Nat) : ∀ i, j < i → ((St endF l n i).2.getD j .z).arrive = (l.getD j .z).arrive ∧ ((St endF l n i).2.getD j .z).service = (l.getD j .z).service := by
  intro i
  induction i with
  | zero => intro h; omega
  | succ i ih =>
    intro h
    have hl := St_len2 endF l n i
    rw [St_succ]
    simp only [List.getD_eq_getElem?_getD]
    rcases Nat.lt_or_eq_of_le (Nat.le_of_lt_succ h) with h' | h'
    · rw [List.getElem?_append_left (by omega)]
      have := ih h'
      rw [List.getD_eq_getElem?_getD] at this
      exact this
    · subst h'
      rw [List.getElem?_append_right (by omega)]
      simp [hl]

theorem serveO_len (l : List Cust) (s : Int) : (serveO l s).1.length ≤ l.length := by
  unfold serveO
  split
  · split
    · simp
    · rw [plain_ok]; rw [St_len2]; exact Nat.le_refl _
  · simp

theorem serve_again {l : List Cust} {s : Int} (h : (serveO l s).2 = 0) : validO (serveO l s).1 s = true := by
  have hp : properB l = true ∧ 1 ≤ s ∧ s ≤ 20 := by
    unfold serveO at h
    split at h
    · split at h
      · simp at h
      · rename_i h1 h2; simp at h2; exact ⟨h1, by omega, by omega⟩
    · simp at h
  rw [serveO_ok hp.1 hp.2.1 hp.2.2]
  have hat : ∀ j, j < l.length → ((St plainF l s.toNat l.length).2.getD j .z).arrive = (l.getD j .z).arrive ∧ ((St plainF l s.toNat l.length).2.getD j .z).service = (l.getD j .z).service := fun j hj => St_at' _ _ _ _ _ hj
  have hx := St_len2 plainF l s.toNat l.length
  have hst := St_congr plainF (St plainF l s.toNat l.length).2 l s.toNat l.length hat
  generalize hxx : (St plainF l s.toNat l.length).2 = x at *
  have hpx : properB x = true := by
    obtain ⟨h1, h2⟩ := properB_at hp.1
    rw [properB_yes (fun j hj => ?_)]
    · rw [hx]; simp; omega
    · have a := h2 j (by omega)
      have b := hat j (by omega)
      have c : 0 < j → (x.getD (j - 1) .z).arrive = (l.getD (j - 1) .z).arrive := fun h0 => (hat (j - 1) (by omega)).1
      simp only [badAt, b.1, b.2, Bool.or_eq_false_iff, Bool.and_eq_false_iff, decide_eq_false_iff_not]
      by_cases h0 : 0 < j
      · have c := c h0
        refine ⟨?_, ?_, ?_, ?_, .inr ?_⟩ <;> omega
      · refine ⟨?_, ?_, ?_, ?_, .inl ?_⟩ <;> omega
  unfold validO
  rw [serveO_ok hpx hp.2.1 hp.2.2, hx, hst, hxx]
  simp [sameC]

set_option maxRecDepth 10000

theorem valid_con (l : List Cust) (servers : Int) (hl : l.length ≤ 9223372036854775807) : Con Try.prog 19 [encC false l, .int .i64 servers] (isV (resA [.bool (validO l servers)])) := by
  refine Con.of_goes Try.func19 (by rfl) rfl (by simp [NoFresh, noFresh_encC]) (by simp only [Try.ntmps19, List.length_cons, List.length_nil, Nat.reduceAdd, Nat.reduceSub, List.replicate, List.cons_append, List.nil_append]; rfl) fun w0 => ?_
  have hsl := serveO_len l servers
  unfold encC
  refine G.seq ?_
  -- region 0
  refine G.run fits (by simp only [go_sem, Nat.reduceAdd, Nat.reduceSub, Nat.reduceMul, Nat.reduceMod, Nat.reduceDiv, Nat.reduceLT, Nat.reduceLeDiff, Nat.reduceEqDiff, Int.reduceToNat, Int.reduceAdd, Int.reduceSub, Int.reduceMul, Int.reduceLT, Int.reduceLE, Int.reduceNeg, ↓reduceIte, reduceCtorEq]; with_reducible rfl) (by (first | exact trivial | omega | (simp; done) | (simp; omega) | (refine ⟨?_, ?_⟩ <;> omega))) ?_
  refine G.keep [0, 0] (by simp only [keepG]; rfl) ?_
  refine G.seq ?_
  -- region 1
  refine G.ops fits ?_
  refine O.run 2 (by simp only [go_sem, Nat.reduceAdd, Nat.reduceSub, Nat.reduceMul, Nat.reduceMod, Nat.reduceDiv, Nat.reduceLT, Nat.reduceLeDiff, Nat.reduceEqDiff, Int.reduceToNat, Int.reduceAdd, Int.reduceSub, Int.reduceMul, Int.reduceLT, Int.reduceLE, Int.reduceNeg, ↓reduceIte, reduceCtorEq]; with_reducible rfl) (by (first | exact trivial | omega | (simp; done) | (simp; omega) | (refine ⟨?_, ?_⟩ <;> omega))) ?_
  refine O.call (by simp only [go_sem, Nat.reduceAdd, Nat.reduceSub, Nat.reduceMul, Nat.reduceMod, Nat.reduceDiv, Nat.reduceLT, Nat.reduceLeDiff, Nat.reduceEqDiff, Int.reduceToNat, Int.reduceAdd, Int.reduceSub, Int.reduceMul, Int.reduceLT, Int.reduceLE, Int.reduceNeg, ↓reduceIte, reduceCtorEq]; with_reducible rfl) (simulate_Serve_con l servers hl) (by simp [go_sem, Nat.reduceAdd, Nat.reduceSub, Nat.reduceMul, Nat.reduceMod, Nat.reduceDiv, Nat.reduceLT, Nat.reduceLeDiff, Nat.reduceEqDiff, Int.reduceToNat, Int.reduceAdd, Int.reduceSub, Int.reduceMul, Int.reduceLT, Int.reduceLE, Int.reduceNeg, ↓reduceIte, reduceCtorEq]) (by simp only [SubL, go_sem, Nat.reduceAdd, Nat.reduceSub, Nat.reduceMul, Nat.reduceMod, Nat.reduceDiv, Nat.reduceLT, Nat.reduceLeDiff, Nat.reduceEqDiff, Int.reduceToNat, Int.reduceAdd, Int.reduceSub, Int.reduceMul, Int.reduceLT, Int.reduceLE, Int.reduceNeg, ↓reduceIte, reduceCtorEq]; (first | exact trivial | (repeat' (first | exact trivial | refine ⟨?_, ?_⟩ | exact Sub.int _ _ | exact Sub.bool _ | exact Sub.val _ | exact Sub.nil _ _ _ | exact Sub.ro (by simp) (fun _ _ _ _ => rfl) | exact Sub.own rfl rfl (Nat.le_refl _) (fun _ _ _ _ => Sub.int _ _) | exact Sub.fn (fun j hj => absurd hj (by omega)))))) ?_
  simp only [go_sem, Nat.reduceAdd, Nat.reduceSub, Nat.reduceMul, Nat.reduceMod, Nat.reduceDiv, Nat.reduceLT, Nat.reduceLeDiff, Nat.reduceEqDiff, Int.reduceToNat, Int.reduceAdd, Int.reduceSub, Int.reduceMul, Int.reduceLT, Int.reduceLE, Int.reduceNeg, ↓reduceIte, reduceCtorEq]
  unfold encC; try simp only [go_sem, Nat.reduceAdd, Nat.reduceSub, Nat.reduceMul, Nat.reduceMod, Nat.reduceDiv, Nat.reduceLT, Nat.reduceLeDiff, Nat.reduceEqDiff, Int.reduceToNat, Int.reduceAdd, Int.reduceSub, Int.reduceMul, Int.reduceLT, Int.reduceLE, Int.reduceNeg, ↓reduceIte, reduceCtorEq]
  refine O.run 5 (by simp only [go_sem, Nat.reduceAdd, Nat.reduceSub, Nat.reduceMul, Nat.reduceMod, Nat.reduceDiv, Nat.reduceLT, Nat.reduceLeDiff, Nat.reduceEqDiff, Int.reduceToNat, Int.reduceAdd, Int.reduceSub, Int.reduceMul, Int.reduceLT, Int.reduceLE, Int.reduceNeg, ↓reduceIte, reduceCtorEq]; with_reducible rfl) (by (first | exact trivial | omega | (simp; done) | (simp; omega) | (refine ⟨?_, ?_⟩ <;> omega))) ?_
  refine O.nil ?_
  refine G.keep [0, 4, 0] (by simp only [keepG]; rfl) ?_
  refine G.seq ?_
  -- region 2
  refine G.ops fits ?_
  refine O.run 5 (by simp only [go_sem, Nat.reduceAdd, Nat.reduceSub, Nat.reduceMul, Nat.reduceMod, Nat.reduceDiv, Nat.reduceLT, Nat.reduceLeDiff, Nat.reduceEqDiff, Int.reduceToNat, Int.reduceAdd, Int.reduceSub, Int.reduceMul, Int.reduceLT, Int.reduceLE, Int.reduceNeg, ↓reduceIte, reduceCtorEq]; with_reducible rfl) (by (first | exact trivial | omega | (simp; done) | (simp; omega) | (refine ⟨?_, ?_⟩ <;> omega))) ?_
  refine O.callG (by simp only [go_sem, Nat.reduceAdd, Nat.reduceSub, Nat.reduceMul, Nat.reduceMod, Nat.reduceDiv, Nat.reduceLT, Nat.reduceLeDiff, Nat.reduceEqDiff, Int.reduceToNat, Int.reduceAdd, Int.reduceSub, Int.reduceMul, Int.reduceLT, Int.reduceLE, Int.reduceNeg, ↓reduceIte, reduceCtorEq]; with_reducible rfl) (by simp only [go_sem, Nat.reduceAdd, Nat.reduceSub, Nat.reduceMul, Nat.reduceMod, Nat.reduceDiv, Nat.reduceLT, Nat.reduceLeDiff, Nat.reduceEqDiff, Int.reduceToNat, Int.reduceAdd, Int.reduceSub, Int.reduceMul, Int.reduceLT, Int.reduceLE, Int.reduceNeg, ↓reduceIte, reduceCtorEq]; with_reducible rfl) (fun hg => equalC_con (serveO l servers).1 l (by omega) hl) (fun hg => by first | (simp [go_sem, Nat.reduceAdd, Nat.reduceSub, Nat.reduceMul, Nat.reduceMod, Nat.reduceDiv, Nat.reduceLT, Nat.reduceLeDiff, Nat.reduceEqDiff, Int.reduceToNat, Int.reduceAdd, Int.reduceSub, Int.reduceMul, Int.reduceLT, Int.reduceLE, Int.reduceNeg, ↓reduceIte, reduceCtorEq]; done) | (simpa [go_sem, Nat.reduceAdd, Nat.reduceSub, Nat.reduceMul, Nat.reduceMod, Nat.reduceDiv, Nat.reduceLT, Nat.reduceLeDiff, Nat.reduceEqDiff, Int.reduceToNat, Int.reduceAdd, Int.reduceSub, Int.reduceMul, Int.reduceLT, Int.reduceLE, Int.reduceNeg, ↓reduceIte, reduceCtorEq] using hg)) (fun hg => by simp only [SubL, go_sem, Nat.reduceAdd, Nat.reduceSub, Nat.reduceMul, Nat.reduceMod, Nat.reduceDiv, Nat.reduceLT, Nat.reduceLeDiff, Nat.reduceEqDiff, Int.reduceToNat, Int.reduceAdd, Int.reduceSub, Int.reduceMul, Int.reduceLT, Int.reduceLE, Int.reduceNeg, ↓reduceIte, reduceCtorEq]; (first | exact trivial | (repeat' (first | exact trivial | refine ⟨?_, ?_⟩ | exact Sub.int _ _ | exact Sub.bool _ | exact Sub.val _ | exact Sub.nil _ _ _ | exact Sub.ro (by simp) (fun _ _ _ _ => rfl) | exact Sub.own rfl rfl (Nat.le_refl _) (fun _ _ _ _ => Sub.int _ _) | exact Sub.fn (fun j hj => absurd hj (by omega)))))) ?_
  simp only [go_sem, Nat.reduceAdd, Nat.reduceSub, Nat.reduceMul, Nat.reduceMod, Nat.reduceDiv, Nat.reduceLT, Nat.reduceLeDiff, Nat.reduceEqDiff, Int.reduceToNat, Int.reduceAdd, Int.reduceSub, Int.reduceMul, Int.reduceLT, Int.reduceLE, Int.reduceNeg, ↓reduceIte, reduceCtorEq]
  refine O.run 2 (by simp only [go_sem, Nat.reduceAdd, Nat.reduceSub, Nat.reduceMul, Nat.reduceMod, Nat.reduceDiv, Nat.reduceLT, Nat.reduceLeDiff, Nat.reduceEqDiff, Int.reduceToNat, Int.reduceAdd, Int.reduceSub, Int.reduceMul, Int.reduceLT, Int.reduceLE, Int.reduceNeg, ↓reduceIte, reduceCtorEq]; with_reducible rfl) (by (first | exact trivial | omega | (simp; done) | (simp; omega) | (refine ⟨?_, ?_⟩ <;> omega))) ?_
  refine O.nil ?_
  refine G.keep [4] (by simp only [keepG]; rfl) ?_
  refine G.ret ?_
  -- return 0
  refine Ret.of_sub fits [.tmp 4] rfl [.bool (validO l servers)] ?_ (by simp [AllFresh]) ⟨rfl, rfl⟩
  simp only [resSub, go_sem, Nat.reduceAdd, Nat.reduceSub, Nat.reduceMul, Nat.reduceMod, Nat.reduceDiv, Nat.reduceLT, Nat.reduceLeDiff, Nat.reduceEqDiff, Int.reduceToNat, Int.reduceAdd, Int.reduceSub, Int.reduceMul, Int.reduceLT, Int.reduceLE, Int.reduceNeg, ↓reduceIte, reduceCtorEq]
  exact Sub.bool _


theorem ref_valid_con (l : List Cust) (servers : Int) (hl : l.length ≤ 9223372036854775807) : Con Try.prog 20 [encC false l, .int .i64 servers] (isV (resA [.bool (validO l servers)])) := by
  refine Con.of_goes Try.func20 (by rfl) rfl (by simp [NoFresh, noFresh_encC]) (by simp only [Try.ntmps20, List.length_cons, List.length_nil, Nat.reduceAdd, Nat.reduceSub, List.replicate, List.cons_append, List.nil_append]; rfl) fun w0 => ?_
  have hsl := serveO_len l servers
  unfold encC
  refine G.seq ?_
  -- region 0
  refine G.run fits (by simp only [go_sem, Nat.reduceAdd, Nat.reduceSub, Nat.reduceMul, Nat.reduceMod, Nat.reduceDiv, Nat.reduceLT, Nat.reduceLeDiff, Nat.reduceEqDiff, Int.reduceToNat, Int.reduceAdd, Int.reduceSub, Int.reduceMul, Int.reduceLT, Int.reduceLE, Int.reduceNeg, ↓reduceIte, reduceCtorEq]; with_reducible rfl) (by (first | exact trivial | omega | (simp; done) | (simp; omega) | (refine ⟨?_, ?_⟩ <;> omega))) ?_
  refine G.keep [0, 0] (by simp only [keepG]; rfl) ?_
  refine G.seq ?_
  -- region 1
  refine G.ops fits ?_
  refine O.run 2 (by simp only [go_sem, Nat.reduceAdd, Nat.reduceSub, Nat.reduceMul, Nat.reduceMod, Nat.reduceDiv, Nat.reduceLT, Nat.reduceLeDiff, Nat.reduceEqDiff, Int.reduceToNat, Int.reduceAdd, Int.reduceSub, Int.reduceMul, Int.reduceLT, Int.reduceLE, Int.reduceNeg, ↓reduceIte, reduceCtorEq]; with_reducible rfl) (by (first | exact trivial | omega | (simp; done) | (simp; omega) | (refine ⟨?_, ?_⟩ <;> omega))) ?_
  refine O.call (by simp only [go_sem, Nat.reduceAdd, Nat.reduceSub, Nat.reduceMul, Nat.reduceMod, Nat.reduceDiv, Nat.reduceLT, Nat.reduceLeDiff, Nat.reduceEqDiff, Int.reduceToNat, Int.reduceAdd, Int.reduceSub, Int.reduceMul, Int.reduceLT, Int.reduceLE, Int.reduceNeg, ↓reduceIte, reduceCtorEq]; with_reducible rfl) (ref_Serve_con l servers hl) (by simp [go_sem, Nat.reduceAdd, Nat.reduceSub, Nat.reduceMul, Nat.reduceMod, Nat.reduceDiv, Nat.reduceLT, Nat.reduceLeDiff, Nat.reduceEqDiff, Int.reduceToNat, Int.reduceAdd, Int.reduceSub, Int.reduceMul, Int.reduceLT, Int.reduceLE, Int.reduceNeg, ↓reduceIte, reduceCtorEq]) (by simp only [SubL, go_sem, Nat.reduceAdd, Nat.reduceSub, Nat.reduceMul, Nat.reduceMod, Nat.reduceDiv, Nat.reduceLT, Nat.reduceLeDiff, Nat.reduceEqDiff, Int.reduceToNat, Int.reduceAdd, Int.reduceSub, Int.reduceMul, Int.reduceLT, Int.reduceLE, Int.reduceNeg, ↓reduceIte, reduceCtorEq]; (first | exact trivial | (repeat' (first | exact trivial | refine ⟨?_, ?_⟩ | exact Sub.int _ _ | exact Sub.bool _ | exact Sub.val _ | exact Sub.nil _ _ _ | exact Sub.ro (by simp) (fun _ _ _ _ => rfl) | exact Sub.own rfl rfl (Nat.le_refl _) (fun _ _ _ _ => Sub.int _ _) | exact Sub.fn (fun j hj => absurd hj (by omega)))))) ?_
  simp only [go_sem, Nat.reduceAdd, Nat.reduceSub, Nat.reduceMul, Nat.reduceMod, Nat.reduceDiv, Nat.reduceLT, Nat.reduceLeDiff, Nat.reduceEqDiff, Int.reduceToNat, Int.reduceAdd, Int.reduceSub, Int.reduceMul, Int.reduceLT, Int.reduceLE, Int.reduceNeg, ↓reduceIte, reduceCtorEq]
  unfold encC; try simp only [go_sem, Nat.reduceAdd, Nat.reduceSub, Nat.reduceMul, Nat.reduceMod, Nat.reduceDiv, Nat.reduceLT, Nat.reduceLeDiff, Nat.reduceEqDiff, Int.reduceToNat, Int.reduceAdd, Int.reduceSub, Int.reduceMul, Int.reduceLT, Int.reduceLE, Int.reduceNeg, ↓reduceIte, reduceCtorEq]
  refine O.run 5 (by simp only [go_sem, Nat.reduceAdd, Nat.reduceSub, Nat.reduceMul, Nat.reduceMod, Nat.reduceDiv, Nat.reduceLT, Nat.reduceLeDiff, Nat.reduceEqDiff, Int.reduceToNat, Int.reduceAdd, Int.reduceSub, Int.reduceMul, Int.reduceLT, Int.reduceLE, Int.reduceNeg, ↓reduceIte, reduceCtorEq]; with_reducible rfl) (by (first | exact trivial | omega | (simp; done) | (simp; omega) | (refine ⟨?_, ?_⟩ <;> omega))) ?_
  refine O.nil ?_
  refine G.keep [0, 4, 0] (by simp only [keepG]; rfl) ?_
  refine G.seq ?_
  -- region 2
  refine G.ops fits ?_
  refine O.run 5 (by simp only [go_sem, Nat.reduceAdd, Nat.reduceSub, Nat.reduceMul, Nat.reduceMod, Nat.reduceDiv, Nat.reduceLT, Nat.reduceLeDiff, Nat.reduceEqDiff, Int.reduceToNat, Int.reduceAdd, Int.reduceSub, Int.reduceMul, Int.reduceLT, Int.reduceLE, Int.reduceNeg, ↓reduceIte, reduceCtorEq]; with_reducible rfl) (by (first | exact trivial | omega | (simp; done) | (simp; omega) | (refine ⟨?_, ?_⟩ <;> omega))) ?_
  refine O.callG (by simp only [go_sem, Nat.reduceAdd, Nat.reduceSub, Nat.reduceMul, Nat.reduceMod, Nat.reduceDiv, Nat.reduceLT, Nat.reduceLeDiff, Nat.reduceEqDiff, Int.reduceToNat, Int.reduceAdd, Int.reduceSub, Int.reduceMul, Int.reduceLT, Int.reduceLE, Int.reduceNeg, ↓reduceIte, reduceCtorEq]; with_reducible rfl) (by simp only [go_sem, Nat.reduceAdd, Nat.reduceSub, Nat.reduceMul, Nat.reduceMod, Nat.reduceDiv, Nat.reduceLT, Nat.reduceLeDiff, Nat.reduceEqDiff, Int.reduceToNat, Int.reduceAdd, Int.reduceSub, Int.reduceMul, Int.reduceLT, Int.reduceLE, Int.reduceNeg, ↓reduceIte, reduceCtorEq]; with_reducible rfl) (fun hg => ref_Same_con (serveO l servers).1 l (by omega) hl) (fun hg => by first | (simp [go_sem, Nat.reduceAdd, Nat.reduceSub, Nat.reduceMul, Nat.reduceMod, Nat.reduceDiv, Nat.reduceLT, Nat.reduceLeDiff, Nat.reduceEqDiff, Int.reduceToNat, Int.reduceAdd, Int.reduceSub, Int.reduceMul, Int.reduceLT, Int.reduceLE, Int.reduceNeg, ↓reduceIte, reduceCtorEq]; done) | (simpa [go_sem, Nat.reduceAdd, Nat.reduceSub, Nat.reduceMul, Nat.reduceMod, Nat.reduceDiv, Nat.reduceLT, Nat.reduceLeDiff, Nat.reduceEqDiff, Int.reduceToNat, Int.reduceAdd, Int.reduceSub, Int.reduceMul, Int.reduceLT, Int.reduceLE, Int.reduceNeg, ↓reduceIte, reduceCtorEq] using hg)) (fun hg => by simp only [SubL, go_sem, Nat.reduceAdd, Nat.reduceSub, Nat.reduceMul, Nat.reduceMod, Nat.reduceDiv, Nat.reduceLT, Nat.reduceLeDiff, Nat.reduceEqDiff, Int.reduceToNat, Int.reduceAdd, Int.reduceSub, Int.reduceMul, Int.reduceLT, Int.reduceLE, Int.reduceNeg, ↓reduceIte, reduceCtorEq]; (first | exact trivial | (repeat' (first | exact trivial | refine ⟨?_, ?_⟩ | exact Sub.int _ _ | exact Sub.bool _ | exact Sub.val _ | exact Sub.nil _ _ _ | exact Sub.ro (by simp) (fun _ _ _ _ => rfl) | exact Sub.own rfl rfl (Nat.le_refl _) (fun _ _ _ _ => Sub.int _ _) | exact Sub.fn (fun j hj => absurd hj (by omega)))))) ?_
  simp only [go_sem, Nat.reduceAdd, Nat.reduceSub, Nat.reduceMul, Nat.reduceMod, Nat.reduceDiv, Nat.reduceLT, Nat.reduceLeDiff, Nat.reduceEqDiff, Int.reduceToNat, Int.reduceAdd, Int.reduceSub, Int.reduceMul, Int.reduceLT, Int.reduceLE, Int.reduceNeg, ↓reduceIte, reduceCtorEq]
  refine O.run 2 (by simp only [go_sem, Nat.reduceAdd, Nat.reduceSub, Nat.reduceMul, Nat.reduceMod, Nat.reduceDiv, Nat.reduceLT, Nat.reduceLeDiff, Nat.reduceEqDiff, Int.reduceToNat, Int.reduceAdd, Int.reduceSub, Int.reduceMul, Int.reduceLT, Int.reduceLE, Int.reduceNeg, ↓reduceIte, reduceCtorEq]; with_reducible rfl) (by (first | exact trivial | omega | (simp; done) | (simp; omega) | (refine ⟨?_, ?_⟩ <;> omega))) ?_
  refine O.nil ?_
  refine G.keep [4] (by simp only [keepG]; rfl) ?_
  refine G.ret ?_
  -- return 0
  refine Ret.of_sub fits [.tmp 4] rfl [.bool (validO l servers)] ?_ (by simp [AllFresh]) ⟨rfl, rfl⟩
  simp only [resSub, go_sem, Nat.reduceAdd, Nat.reduceSub, Nat.reduceMul, Nat.reduceMod, Nat.reduceDiv, Nat.reduceLT, Nat.reduceLeDiff, Nat.reduceEqDiff, Int.reduceToNat, Int.reduceAdd, Int.reduceSub, Int.reduceMul, Int.reduceLT, Int.reduceLE, Int.reduceNeg, ↓reduceIte, reduceCtorEq]
  exact Sub.bool _


set_option maxHeartbeats 800000 in
theorem serves_con (l : List Cust) (servers : Int) (hl : l.length ≤ 9223372036854775807) : Con Try.prog 5 [encC false l, .int .i64 servers] (isV (resA [.bool true])) := by
  refine Con.of_goes Try.func5 (by rfl) rfl (by simp [NoFresh, noFresh_encC]) (by simp only [Try.ntmps5, List.length_cons, List.length_nil, Nat.reduceAdd, Nat.reduceSub, List.replicate, List.cons_append, List.nil_append]; rfl) fun w0 => ?_
  have hsl := serveO_len l servers
  have hwl : (waitsO l).1.length ≤ l.length := by unfold waitsO; split <;> simp
  unfold encC
  refine G.seq ?_
  -- region 0
  refine G.run fits (by simp only [go_sem, Nat.reduceAdd, Nat.reduceSub, Nat.reduceMul, Nat.reduceMod, Nat.reduceDiv, Nat.reduceLT, Nat.reduceLeDiff, Nat.reduceEqDiff, Int.reduceToNat, Int.reduceAdd, Int.reduceSub, Int.reduceMul, Int.reduceLT, Int.reduceLE, Int.reduceNeg, ↓reduceIte, reduceCtorEq]; with_reducible rfl) (by (first | exact trivial | omega | (simp; done) | (simp; omega) | (refine ⟨?_, ?_⟩ <;> omega))) ?_
  refine G.keep [0, 0] (by simp only [keepG]; rfl) ?_
  refine G.seq ?_
  refine G.seq ?_
  -- region 1
  refine G.ops fits ?_
  refine O.call (by simp only [go_sem, Nat.reduceAdd, Nat.reduceSub, Nat.reduceMul, Nat.reduceMod, Nat.reduceDiv, Nat.reduceLT, Nat.reduceLeDiff, Nat.reduceEqDiff, Int.reduceToNat, Int.reduceAdd, Int.reduceSub, Int.reduceMul, Int.reduceLT, Int.reduceLE, Int.reduceNeg, ↓reduceIte, reduceCtorEq]; with_reducible rfl) (awake_con) (by simp [go_sem, Nat.reduceAdd, Nat.reduceSub, Nat.reduceMul, Nat.reduceMod, Nat.reduceDiv, Nat.reduceLT, Nat.reduceLeDiff, Nat.reduceEqDiff, Int.reduceToNat, Int.reduceAdd, Int.reduceSub, Int.reduceMul, Int.reduceLT, Int.reduceLE, Int.reduceNeg, ↓reduceIte, reduceCtorEq]) (by simp only [SubL, go_sem, Nat.reduceAdd, Nat.reduceSub, Nat.reduceMul, Nat.reduceMod, Nat.reduceDiv, Nat.reduceLT, Nat.reduceLeDiff, Nat.reduceEqDiff, Int.reduceToNat, Int.reduceAdd, Int.reduceSub, Int.reduceMul, Int.reduceLT, Int.reduceLE, Int.reduceNeg, ↓reduceIte, reduceCtorEq]; (first | exact trivial | (repeat' (first | exact trivial | refine ⟨?_, ?_⟩ | exact Sub.int _ _ | exact Sub.bool _ | exact Sub.val _ | exact Sub.nil _ _ _ | exact Sub.ro (by simp) (fun _ _ _ _ => rfl) | exact Sub.own rfl rfl (Nat.le_refl _) (fun _ _ _ _ => Sub.int _ _) | exact Sub.fn (fun j hj => absurd hj (by omega)))))) ?_
  simp only [go_sem, Nat.reduceAdd, Nat.reduceSub, Nat.reduceMul, Nat.reduceMod, Nat.reduceDiv, Nat.reduceLT, Nat.reduceLeDiff, Nat.reduceEqDiff, Int.reduceToNat, Int.reduceAdd, Int.reduceSub, Int.reduceMul, Int.reduceLT, Int.reduceLE, Int.reduceNeg, ↓reduceIte, reduceCtorEq]
  refine O.run 1 (by simp only [go_sem, Nat.reduceAdd, Nat.reduceSub, Nat.reduceMul, Nat.reduceMod, Nat.reduceDiv, Nat.reduceLT, Nat.reduceLeDiff, Nat.reduceEqDiff, Int.reduceToNat, Int.reduceAdd, Int.reduceSub, Int.reduceMul, Int.reduceLT, Int.reduceLE, Int.reduceNeg, ↓reduceIte, reduceCtorEq]; with_reducible rfl) (by (first | exact trivial | omega | (simp; done) | (simp; omega) | (refine ⟨?_, ?_⟩ <;> omega))) ?_
  refine O.nil ?_
  refine G.keep [0, 0, 12] (by simp only [keepG]; rfl) ?_
  refine G.cond (by simp only [go_sem, Nat.reduceAdd, Nat.reduceSub, Nat.reduceMul, Nat.reduceMod, Nat.reduceDiv, Nat.reduceLT, Nat.reduceLeDiff, Nat.reduceEqDiff, Int.reduceToNat, Int.reduceAdd, Int.reduceSub, Int.reduceMul, Int.reduceLT, Int.reduceLE, Int.reduceNeg, ↓reduceIte, reduceCtorEq]; with_reducible rfl) (fun hc14 => ?_) (fun hc14 => ?_)
  ·
    simp at hc14
  ·
    refine G.skip ?_
    refine G.seq ?_
    refine G.seq ?_
    -- region 3
    refine G.ops fits ?_
    refine O.run 1 (by simp only [go_sem, Nat.reduceAdd, Nat.reduceSub, Nat.reduceMul, Nat.reduceMod, Nat.reduceDiv, Nat.reduceLT, Nat.reduceLeDiff, Nat.reduceEqDiff, Int.reduceToNat, Int.reduceAdd, Int.reduceSub, Int.reduceMul, Int.reduceLT, Int.reduceLE, Int.reduceNeg, ↓reduceIte, reduceCtorEq]; with_reducible rfl) (by (first | exact trivial | omega | (simp; done) | (simp; omega) | (refine ⟨?_, ?_⟩ <;> omega))) ?_
    refine O.call (by simp only [go_sem, Nat.reduceAdd, Nat.reduceSub, Nat.reduceMul, Nat.reduceMod, Nat.reduceDiv, Nat.reduceLT, Nat.reduceLeDiff, Nat.reduceEqDiff, Int.reduceToNat, Int.reduceAdd, Int.reduceSub, Int.reduceMul, Int.reduceLT, Int.reduceLE, Int.reduceNeg, ↓reduceIte, reduceCtorEq]; with_reducible rfl) (many_con l hl) (by simp [go_sem, Nat.reduceAdd, Nat.reduceSub, Nat.reduceMul, Nat.reduceMod, Nat.reduceDiv, Nat.reduceLT, Nat.reduceLeDiff, Nat.reduceEqDiff, Int.reduceToNat, Int.reduceAdd, Int.reduceSub, Int.reduceMul, Int.reduceLT, Int.reduceLE, Int.reduceNeg, ↓reduceIte, reduceCtorEq]) (by simp only [SubL, go_sem, Nat.reduceAdd, Nat.reduceSub, Nat.reduceMul, Nat.reduceMod, Nat.reduceDiv, Nat.reduceLT, Nat.reduceLeDiff, Nat.reduceEqDiff, Int.reduceToNat, Int.reduceAdd, Int.reduceSub, Int.reduceMul, Int.reduceLT, Int.reduceLE, Int.reduceNeg, ↓reduceIte, reduceCtorEq]; (first | exact trivial | (repeat' (first | exact trivial | refine ⟨?_, ?_⟩ | exact Sub.int _ _ | exact Sub.bool _ | exact Sub.val _ | exact Sub.nil _ _ _ | exact Sub.ro (by simp) (fun _ _ _ _ => rfl) | exact Sub.own rfl rfl (Nat.le_refl _) (fun _ _ _ _ => Sub.int _ _) | exact Sub.fn (fun j hj => absurd hj (by omega)))))) ?_
    simp only [go_sem, Nat.reduceAdd, Nat.reduceSub, Nat.reduceMul, Nat.reduceMod, Nat.reduceDiv, Nat.reduceLT, Nat.reduceLeDiff, Nat.reduceEqDiff, Int.reduceToNat, Int.reduceAdd, Int.reduceSub, Int.reduceMul, Int.reduceLT, Int.reduceLE, Int.reduceNeg, ↓reduceIte, reduceCtorEq]
    refine O.nil ?_
    refine G.keep [0, 0, 14] (by simp only [keepG]; rfl) ?_
    refine G.cond (by simp only [go_sem, Nat.reduceAdd, Nat.reduceSub, Nat.reduceMul, Nat.reduceMod, Nat.reduceDiv, Nat.reduceLT, Nat.reduceLeDiff, Nat.reduceEqDiff, Int.reduceToNat, Int.reduceAdd, Int.reduceSub, Int.reduceMul, Int.reduceLT, Int.reduceLE, Int.reduceNeg, ↓reduceIte, reduceCtorEq]; with_reducible rfl) (fun hc16 => ?_) (fun hc16 => ?_)
    ·
      refine G.seq ?_
      -- region 4
      refine G.run fits (by simp only [go_sem, Nat.reduceAdd, Nat.reduceSub, Nat.reduceMul, Nat.reduceMod, Nat.reduceDiv, Nat.reduceLT, Nat.reduceLeDiff, Nat.reduceEqDiff, Int.reduceToNat, Int.reduceAdd, Int.reduceSub, Int.reduceMul, Int.reduceLT, Int.reduceLE, Int.reduceNeg, ↓reduceIte, reduceCtorEq]; with_reducible rfl) (by (first | exact trivial | omega | (simp; done) | (simp; omega) | (refine ⟨?_, ?_⟩ <;> omega))) ?_
      refine G.keep [4] (by simp only [keepG]; rfl) ?_
      refine G.ret ?_
      -- return 0
      refine Ret.of_sub fits [.tmp 4] rfl [.bool true] ?_ (by simp [AllFresh]) ⟨rfl, rfl⟩
      simp only [resSub, go_sem, Nat.reduceAdd, Nat.reduceSub, Nat.reduceMul, Nat.reduceMod, Nat.reduceDiv, Nat.reduceLT, Nat.reduceLeDiff, Nat.reduceEqDiff, Int.reduceToNat, Int.reduceAdd, Int.reduceSub, Int.reduceMul, Int.reduceLT, Int.reduceLE, Int.reduceNeg, ↓reduceIte, reduceCtorEq]
      (first | exact trivial | (repeat' (first | exact trivial | refine ⟨?_, ?_⟩ | exact Sub.int _ _ | exact Sub.bool _ | exact Sub.val _ | exact Sub.nil _ _ _ | exact Sub.ro (by simp) (fun _ _ _ _ => rfl))))
    ·
      refine G.skip ?_
      refine G.seq ?_
      -- region 5
      refine G.ops fits ?_
      refine O.run 2 (by simp only [go_sem, Nat.reduceAdd, Nat.reduceSub, Nat.reduceMul, Nat.reduceMod, Nat.reduceDiv, Nat.reduceLT, Nat.reduceLeDiff, Nat.reduceEqDiff, Int.reduceToNat, Int.reduceAdd, Int.reduceSub, Int.reduceMul, Int.reduceLT, Int.reduceLE, Int.reduceNeg, ↓reduceIte, reduceCtorEq]; with_reducible rfl) (by (first | exact trivial | omega | (simp; done) | (simp; omega) | (refine ⟨?_, ?_⟩ <;> omega))) ?_
      refine O.call (by simp only [go_sem, Nat.reduceAdd, Nat.reduceSub, Nat.reduceMul, Nat.reduceMod, Nat.reduceDiv, Nat.reduceLT, Nat.reduceLeDiff, Nat.reduceEqDiff, Int.reduceToNat, Int.reduceAdd, Int.reduceSub, Int.reduceMul, Int.reduceLT, Int.reduceLE, Int.reduceNeg, ↓reduceIte, reduceCtorEq]; with_reducible rfl) (simulate_Serve_con l servers hl) (by simp [go_sem, Nat.reduceAdd, Nat.reduceSub, Nat.reduceMul, Nat.reduceMod, Nat.reduceDiv, Nat.reduceLT, Nat.reduceLeDiff, Nat.reduceEqDiff, Int.reduceToNat, Int.reduceAdd, Int.reduceSub, Int.reduceMul, Int.reduceLT, Int.reduceLE, Int.reduceNeg, ↓reduceIte, reduceCtorEq]) (by simp only [SubL, go_sem, Nat.reduceAdd, Nat.reduceSub, Nat.reduceMul, Nat.reduceMod, Nat.reduceDiv, Nat.reduceLT, Nat.reduceLeDiff, Nat.reduceEqDiff, Int.reduceToNat, Int.reduceAdd, Int.reduceSub, Int.reduceMul, Int.reduceLT, Int.reduceLE, Int.reduceNeg, ↓reduceIte, reduceCtorEq]; (first | exact trivial | (repeat' (first | exact trivial | refine ⟨?_, ?_⟩ | exact Sub.int _ _ | exact Sub.bool _ | exact Sub.val _ | exact Sub.nil _ _ _ | exact Sub.ro (by simp) (fun _ _ _ _ => rfl) | exact Sub.own rfl rfl (Nat.le_refl _) (fun _ _ _ _ => Sub.int _ _) | exact Sub.fn (fun j hj => absurd hj (by omega)))))) ?_
      simp only [go_sem, Nat.reduceAdd, Nat.reduceSub, Nat.reduceMul, Nat.reduceMod, Nat.reduceDiv, Nat.reduceLT, Nat.reduceLeDiff, Nat.reduceEqDiff, Int.reduceToNat, Int.reduceAdd, Int.reduceSub, Int.reduceMul, Int.reduceLT, Int.reduceLE, Int.reduceNeg, ↓reduceIte, reduceCtorEq]
      unfold encC; try simp only [go_sem, Nat.reduceAdd, Nat.reduceSub, Nat.reduceMul, Nat.reduceMod, Nat.reduceDiv, Nat.reduceLT, Nat.reduceLeDiff, Nat.reduceEqDiff, Int.reduceToNat, Int.reduceAdd, Int.reduceSub, Int.reduceMul, Int.reduceLT, Int.reduceLE, Int.reduceNeg, ↓reduceIte, reduceCtorEq]
      refine O.run 5 (by simp only [go_sem, Nat.reduceAdd, Nat.reduceSub, Nat.reduceMul, Nat.reduceMod, Nat.reduceDiv, Nat.reduceLT, Nat.reduceLeDiff, Nat.reduceEqDiff, Int.reduceToNat, Int.reduceAdd, Int.reduceSub, Int.reduceMul, Int.reduceLT, Int.reduceLE, Int.reduceNeg, ↓reduceIte, reduceCtorEq]; with_reducible rfl) (by (first | exact trivial | omega | (simp; done) | (simp; omega) | (refine ⟨?_, ?_⟩ <;> omega))) ?_
      refine O.nil ?_
      refine G.keep [0, 0, 3, 0] (by simp only [keepG]; rfl) ?_
      refine G.seq ?_
      -- region 6
      refine G.ops fits ?_
      refine O.run 2 (by simp only [go_sem, Nat.reduceAdd, Nat.reduceSub, Nat.reduceMul, Nat.reduceMod, Nat.reduceDiv, Nat.reduceLT, Nat.reduceLeDiff, Nat.reduceEqDiff, Int.reduceToNat, Int.reduceAdd, Int.reduceSub, Int.reduceMul, Int.reduceLT, Int.reduceLE, Int.reduceNeg, ↓reduceIte, reduceCtorEq]; with_reducible rfl) (by (first | exact trivial | omega | (simp; done) | (simp; omega) | (refine ⟨?_, ?_⟩ <;> omega))) ?_
      refine O.call (by simp only [go_sem, Nat.reduceAdd, Nat.reduceSub, Nat.reduceMul, Nat.reduceMod, Nat.reduceDiv, Nat.reduceLT, Nat.reduceLeDiff, Nat.reduceEqDiff, Int.reduceToNat, Int.reduceAdd, Int.reduceSub, Int.reduceMul, Int.reduceLT, Int.reduceLE, Int.reduceNeg, ↓reduceIte, reduceCtorEq]; with_reducible rfl) (ref_Serve_con l servers hl) (by simp [go_sem, Nat.reduceAdd, Nat.reduceSub, Nat.reduceMul, Nat.reduceMod, Nat.reduceDiv, Nat.reduceLT, Nat.reduceLeDiff, Nat.reduceEqDiff, Int.reduceToNat, Int.reduceAdd, Int.reduceSub, Int.reduceMul, Int.reduceLT, Int.reduceLE, Int.reduceNeg, ↓reduceIte, reduceCtorEq]) (by simp only [SubL, go_sem, Nat.reduceAdd, Nat.reduceSub, Nat.reduceMul, Nat.reduceMod, Nat.reduceDiv, Nat.reduceLT, Nat.reduceLeDiff, Nat.reduceEqDiff, Int.reduceToNat, Int.reduceAdd, Int.reduceSub, Int.reduceMul, Int.reduceLT, Int.reduceLE, Int.reduceNeg, ↓reduceIte, reduceCtorEq]; (first | exact trivial | (repeat' (first | exact trivial | refine ⟨?_, ?_⟩ | exact Sub.int _ _ | exact Sub.bool _ | exact Sub.val _ | exact Sub.nil _ _ _ | exact Sub.ro (by simp) (fun _ _ _ _ => rfl) | exact Sub.own rfl rfl (Nat.le_refl _) (fun _ _ _ _ => Sub.int _ _) | exact Sub.fn (fun j hj => absurd hj (by omega)))))) ?_
      simp only [go_sem, Nat.reduceAdd, Nat.reduceSub, Nat.reduceMul, Nat.reduceMod, Nat.reduceDiv, Nat.reduceLT, Nat.reduceLeDiff, Nat.reduceEqDiff, Int.reduceToNat, Int.reduceAdd, Int.reduceSub, Int.reduceMul, Int.reduceLT, Int.reduceLE, Int.reduceNeg, ↓reduceIte, reduceCtorEq]
      unfold encC; try simp only [go_sem, Nat.reduceAdd, Nat.reduceSub, Nat.reduceMul, Nat.reduceMod, Nat.reduceDiv, Nat.reduceLT, Nat.reduceLeDiff, Nat.reduceEqDiff, Int.reduceToNat, Int.reduceAdd, Int.reduceSub, Int.reduceMul, Int.reduceLT, Int.reduceLE, Int.reduceNeg, ↓reduceIte, reduceCtorEq]
      refine O.run 5 (by simp only [go_sem, Nat.reduceAdd, Nat.reduceSub, Nat.reduceMul, Nat.reduceMod, Nat.reduceDiv, Nat.reduceLT, Nat.reduceLeDiff, Nat.reduceEqDiff, Int.reduceToNat, Int.reduceAdd, Int.reduceSub, Int.reduceMul, Int.reduceLT, Int.reduceLE, Int.reduceNeg, ↓reduceIte, reduceCtorEq]; with_reducible rfl) (by (first | exact trivial | omega | (simp; done) | (simp; omega) | (refine ⟨?_, ?_⟩ <;> omega))) ?_
      refine O.nil ?_
      refine G.keep [0, 0, 3, 0, 0, 0] (by simp only [keepG]; rfl) ?_
      refine G.seq ?_
      -- region 7
      refine G.ops fits ?_
      refine O.run 1 (by simp only [go_sem, Nat.reduceAdd, Nat.reduceSub, Nat.reduceMul, Nat.reduceMod, Nat.reduceDiv, Nat.reduceLT, Nat.reduceLeDiff, Nat.reduceEqDiff, Int.reduceToNat, Int.reduceAdd, Int.reduceSub, Int.reduceMul, Int.reduceLT, Int.reduceLE, Int.reduceNeg, ↓reduceIte, reduceCtorEq]; with_reducible rfl) (by (first | exact trivial | omega | (simp; done) | (simp; omega) | (refine ⟨?_, ?_⟩ <;> omega))) ?_
      refine O.call (by simp only [go_sem, Nat.reduceAdd, Nat.reduceSub, Nat.reduceMul, Nat.reduceMod, Nat.reduceDiv, Nat.reduceLT, Nat.reduceLeDiff, Nat.reduceEqDiff, Int.reduceToNat, Int.reduceAdd, Int.reduceSub, Int.reduceMul, Int.reduceLT, Int.reduceLE, Int.reduceNeg, ↓reduceIte, reduceCtorEq]; with_reducible rfl) (waits_con l hl) (by simp [go_sem, Nat.reduceAdd, Nat.reduceSub, Nat.reduceMul, Nat.reduceMod, Nat.reduceDiv, Nat.reduceLT, Nat.reduceLeDiff, Nat.reduceEqDiff, Int.reduceToNat, Int.reduceAdd, Int.reduceSub, Int.reduceMul, Int.reduceLT, Int.reduceLE, Int.reduceNeg, ↓reduceIte, reduceCtorEq]) (by simp only [SubL, go_sem, Nat.reduceAdd, Nat.reduceSub, Nat.reduceMul, Nat.reduceMod, Nat.reduceDiv, Nat.reduceLT, Nat.reduceLeDiff, Nat.reduceEqDiff, Int.reduceToNat, Int.reduceAdd, Int.reduceSub, Int.reduceMul, Int.reduceLT, Int.reduceLE, Int.reduceNeg, ↓reduceIte, reduceCtorEq]; (first | exact trivial | (repeat' (first | exact trivial | refine ⟨?_, ?_⟩ | exact Sub.int _ _ | exact Sub.bool _ | exact Sub.val _ | exact Sub.nil _ _ _ | exact Sub.ro (by simp) (fun _ _ _ _ => rfl) | exact Sub.own rfl rfl (Nat.le_refl _) (fun _ _ _ _ => Sub.int _ _) | exact Sub.fn (fun j hj => absurd hj (by omega)))))) ?_
      simp only [go_sem, Nat.reduceAdd, Nat.reduceSub, Nat.reduceMul, Nat.reduceMod, Nat.reduceDiv, Nat.reduceLT, Nat.reduceLeDiff, Nat.reduceEqDiff, Int.reduceToNat, Int.reduceAdd, Int.reduceSub, Int.reduceMul, Int.reduceLT, Int.reduceLE, Int.reduceNeg, ↓reduceIte, reduceCtorEq]
      unfold encI; try simp only [go_sem, Nat.reduceAdd, Nat.reduceSub, Nat.reduceMul, Nat.reduceMod, Nat.reduceDiv, Nat.reduceLT, Nat.reduceLeDiff, Nat.reduceEqDiff, Int.reduceToNat, Int.reduceAdd, Int.reduceSub, Int.reduceMul, Int.reduceLT, Int.reduceLE, Int.reduceNeg, ↓reduceIte, reduceCtorEq]
      refine O.run 5 (by simp only [go_sem, Nat.reduceAdd, Nat.reduceSub, Nat.reduceMul, Nat.reduceMod, Nat.reduceDiv, Nat.reduceLT, Nat.reduceLeDiff, Nat.reduceEqDiff, Int.reduceToNat, Int.reduceAdd, Int.reduceSub, Int.reduceMul, Int.reduceLT, Int.reduceLE, Int.reduceNeg, ↓reduceIte, reduceCtorEq]; with_reducible rfl) (by (first | exact trivial | omega | (simp; done) | (simp; omega) | (refine ⟨?_, ?_⟩ <;> omega))) ?_
      refine O.nil ?_
      refine G.keep [0, 0, 3, 0, 0, 0, 0, 0] (by simp only [keepG]; rfl) ?_
      refine G.seq ?_
      -- region 8
      refine G.ops fits ?_
      refine O.run 1 (by simp only [go_sem, Nat.reduceAdd, Nat.reduceSub, Nat.reduceMul, Nat.reduceMod, Nat.reduceDiv, Nat.reduceLT, Nat.reduceLeDiff, Nat.reduceEqDiff, Int.reduceToNat, Int.reduceAdd, Int.reduceSub, Int.reduceMul, Int.reduceLT, Int.reduceLE, Int.reduceNeg, ↓reduceIte, reduceCtorEq]; with_reducible rfl) (by (first | exact trivial | omega | (simp; done) | (simp; omega) | (refine ⟨?_, ?_⟩ <;> omega))) ?_
      refine O.call (by simp only [go_sem, Nat.reduceAdd, Nat.reduceSub, Nat.reduceMul, Nat.reduceMod, Nat.reduceDiv, Nat.reduceLT, Nat.reduceLeDiff, Nat.reduceEqDiff, Int.reduceToNat, Int.reduceAdd, Int.reduceSub, Int.reduceMul, Int.reduceLT, Int.reduceLE, Int.reduceNeg, ↓reduceIte, reduceCtorEq]; with_reducible rfl) (ref_waits_con l hl) (by simp [go_sem, Nat.reduceAdd, Nat.reduceSub, Nat.reduceMul, Nat.reduceMod, Nat.reduceDiv, Nat.reduceLT, Nat.reduceLeDiff, Nat.reduceEqDiff, Int.reduceToNat, Int.reduceAdd, Int.reduceSub, Int.reduceMul, Int.reduceLT, Int.reduceLE, Int.reduceNeg, ↓reduceIte, reduceCtorEq]) (by simp only [SubL, go_sem, Nat.reduceAdd, Nat.reduceSub, Nat.reduceMul, Nat.reduceMod, Nat.reduceDiv, Nat.reduceLT, Nat.reduceLeDiff, Nat.reduceEqDiff, Int.reduceToNat, Int.reduceAdd, Int.reduceSub, Int.reduceMul, Int.reduceLT, Int.reduceLE, Int.reduceNeg, ↓reduceIte, reduceCtorEq]; (first | exact trivial | (repeat' (first | exact trivial | refine ⟨?_, ?_⟩ | exact Sub.int _ _ | exact Sub.bool _ | exact Sub.val _ | exact Sub.nil _ _ _ | exact Sub.ro (by simp) (fun _ _ _ _ => rfl) | exact Sub.own rfl rfl (Nat.le_refl _) (fun _ _ _ _ => Sub.int _ _) | exact Sub.fn (fun j hj => absurd hj (by omega)))))) ?_
      simp only [go_sem, Nat.reduceAdd, Nat.reduceSub, Nat.reduceMul, Nat.reduceMod, Nat.reduceDiv, Nat.reduceLT, Nat.reduceLeDiff, Nat.reduceEqDiff, Int.reduceToNat, Int.reduceAdd, Int.reduceSub, Int.reduceMul, Int.reduceLT, Int.reduceLE, Int.reduceNeg, ↓reduceIte, reduceCtorEq]
      unfold encI; try simp only [go_sem, Nat.reduceAdd, Nat.reduceSub, Nat.reduceMul, Nat.reduceMod, Nat.reduceDiv, Nat.reduceLT, Nat.reduceLeDiff, Nat.reduceEqDiff, Int.reduceToNat, Int.reduceAdd, Int.reduceSub, Int.reduceMul, Int.reduceLT, Int.reduceLE, Int.reduceNeg, ↓reduceIte, reduceCtorEq]
      refine O.run 5 (by simp only [go_sem, Nat.reduceAdd, Nat.reduceSub, Nat.reduceMul, Nat.reduceMod, Nat.reduceDiv, Nat.reduceLT, Nat.reduceLeDiff, Nat.reduceEqDiff, Int.reduceToNat, Int.reduceAdd, Int.reduceSub, Int.reduceMul, Int.reduceLT, Int.reduceLE, Int.reduceNeg, ↓reduceIte, reduceCtorEq]; with_reducible rfl) (by (first | exact trivial | omega | (simp; done) | (simp; omega) | (refine ⟨?_, ?_⟩ <;> omega))) ?_
      refine O.nil ?_
      refine G.keep [0, 0, 3, 0, 0, 0, 0, 0, 0, 0] (by simp only [keepG]; rfl) ?_
      refine G.seq ?_
      -- region 9
      refine G.ops fits ?_
      refine O.run 2 (by simp only [go_sem, Nat.reduceAdd, Nat.reduceSub, Nat.reduceMul, Nat.reduceMod, Nat.reduceDiv, Nat.reduceLT, Nat.reduceLeDiff, Nat.reduceEqDiff, Int.reduceToNat, Int.reduceAdd, Int.reduceSub, Int.reduceMul, Int.reduceLT, Int.reduceLE, Int.reduceNeg, ↓reduceIte, reduceCtorEq]; with_reducible rfl) (by first | exact trivial | (intro h; refine ⟨h, fun h2 => ?_⟩; rw [h]; simpa using h2) | (first | exact trivial | omega | (simp; done) | (simp; omega) | (refine ⟨?_, ?_⟩ <;> omega))) ?_
      refine O.call (by simp only [go_sem, Nat.reduceAdd, Nat.reduceSub, Nat.reduceMul, Nat.reduceMod, Nat.reduceDiv, Nat.reduceLT, Nat.reduceLeDiff, Nat.reduceEqDiff, Int.reduceToNat, Int.reduceAdd, Int.reduceSub, Int.reduceMul, Int.reduceLT, Int.reduceLE, Int.reduceNeg, ↓reduceIte, reduceCtorEq]; with_reducible rfl) (ref_Same_con (serveO l servers).1 (serveO l servers).1 (by omega) (by omega)) (by simp [go_sem, Nat.reduceAdd, Nat.reduceSub, Nat.reduceMul, Nat.reduceMod, Nat.reduceDiv, Nat.reduceLT, Nat.reduceLeDiff, Nat.reduceEqDiff, Int.reduceToNat, Int.reduceAdd, Int.reduceSub, Int.reduceMul, Int.reduceLT, Int.reduceLE, Int.reduceNeg, ↓reduceIte, reduceCtorEq]) (by simp only [SubL, go_sem, Nat.reduceAdd, Nat.reduceSub, Nat.reduceMul, Nat.reduceMod, Nat.reduceDiv, Nat.reduceLT, Nat.reduceLeDiff, Nat.reduceEqDiff, Int.reduceToNat, Int.reduceAdd, Int.reduceSub, Int.reduceMul, Int.reduceLT, Int.reduceLE, Int.reduceNeg, ↓reduceIte, reduceCtorEq]; (first | exact trivial | (repeat' (first | exact trivial | refine ⟨?_, ?_⟩ | exact Sub.int _ _ | exact Sub.bool _ | exact Sub.val _ | exact Sub.nil _ _ _ | exact Sub.ro (by simp) (fun _ _ _ _ => rfl) | exact Sub.own rfl rfl (Nat.le_refl _) (fun _ _ _ _ => Sub.int _ _) | exact Sub.fn (fun j hj => absurd hj (by omega)))))) ?_
      simp only [go_sem, Nat.reduceAdd, Nat.reduceSub, Nat.reduceMul, Nat.reduceMod, Nat.reduceDiv, Nat.reduceLT, Nat.reduceLeDiff, Nat.reduceEqDiff, Int.reduceToNat, Int.reduceAdd, Int.reduceSub, Int.reduceMul, Int.reduceLT, Int.reduceLE, Int.reduceNeg, ↓reduceIte, reduceCtorEq]
      refine O.run 8 (by simp only [go_sem, Nat.reduceAdd, Nat.reduceSub, Nat.reduceMul, Nat.reduceMod, Nat.reduceDiv, Nat.reduceLT, Nat.reduceLeDiff, Nat.reduceEqDiff, Int.reduceToNat, Int.reduceAdd, Int.reduceSub, Int.reduceMul, Int.reduceLT, Int.reduceLE, Int.reduceNeg, ↓reduceIte, reduceCtorEq]; with_reducible rfl) (by first | exact trivial | (intro h; refine ⟨h, fun h2 => ?_⟩; rw [h]; simpa using h2) | (first | exact trivial | omega | (simp; done) | (simp; omega) | (refine ⟨?_, ?_⟩ <;> omega))) ?_
      refine O.callG (by simp only [go_sem, Nat.reduceAdd, Nat.reduceSub, Nat.reduceMul, Nat.reduceMod, Nat.reduceDiv, Nat.reduceLT, Nat.reduceLeDiff, Nat.reduceEqDiff, Int.reduceToNat, Int.reduceAdd, Int.reduceSub, Int.reduceMul, Int.reduceLT, Int.reduceLE, Int.reduceNeg, ↓reduceIte, reduceCtorEq]; with_reducible rfl) (by simp only [go_sem, Nat.reduceAdd, Nat.reduceSub, Nat.reduceMul, Nat.reduceMod, Nat.reduceDiv, Nat.reduceLT, Nat.reduceLeDiff, Nat.reduceEqDiff, Int.reduceToNat, Int.reduceAdd, Int.reduceSub, Int.reduceMul, Int.reduceLT, Int.reduceLE, Int.reduceNeg, ↓reduceIte, reduceCtorEq]; with_reducible rfl) (fun hg => valid_con l servers hl) (fun hg => by first | (simp [go_sem, Nat.reduceAdd, Nat.reduceSub, Nat.reduceMul, Nat.reduceMod, Nat.reduceDiv, Nat.reduceLT, Nat.reduceLeDiff, Nat.reduceEqDiff, Int.reduceToNat, Int.reduceAdd, Int.reduceSub, Int.reduceMul, Int.reduceLT, Int.reduceLE, Int.reduceNeg, ↓reduceIte, reduceCtorEq]; done) | (simpa [go_sem, Nat.reduceAdd, Nat.reduceSub, Nat.reduceMul, Nat.reduceMod, Nat.reduceDiv, Nat.reduceLT, Nat.reduceLeDiff, Nat.reduceEqDiff, Int.reduceToNat, Int.reduceAdd, Int.reduceSub, Int.reduceMul, Int.reduceLT, Int.reduceLE, Int.reduceNeg, ↓reduceIte, reduceCtorEq] using hg)) (fun hg => by simp only [SubL, go_sem, Nat.reduceAdd, Nat.reduceSub, Nat.reduceMul, Nat.reduceMod, Nat.reduceDiv, Nat.reduceLT, Nat.reduceLeDiff, Nat.reduceEqDiff, Int.reduceToNat, Int.reduceAdd, Int.reduceSub, Int.reduceMul, Int.reduceLT, Int.reduceLE, Int.reduceNeg, ↓reduceIte, reduceCtorEq]; (first | exact trivial | (repeat' (first | exact trivial | refine ⟨?_, ?_⟩ | exact Sub.int _ _ | exact Sub.bool _ | exact Sub.val _ | exact Sub.nil _ _ _ | exact Sub.ro (by simp) (fun _ _ _ _ => rfl) | exact Sub.own rfl rfl (Nat.le_refl _) (fun _ _ _ _ => Sub.int _ _) | exact Sub.fn (fun j hj => absurd hj (by omega)))))) ?_
      simp only [go_sem, Nat.reduceAdd, Nat.reduceSub, Nat.reduceMul, Nat.reduceMod, Nat.reduceDiv, Nat.reduceLT, Nat.reduceLeDiff, Nat.reduceEqDiff, Int.reduceToNat, Int.reduceAdd, Int.reduceSub, Int.reduceMul, Int.reduceLT, Int.reduceLE, Int.reduceNeg, ↓reduceIte, reduceCtorEq]
      refine O.run 2 (by simp only [go_sem, Nat.reduceAdd, Nat.reduceSub, Nat.reduceMul, Nat.reduceMod, Nat.reduceDiv, Nat.reduceLT, Nat.reduceLeDiff, Nat.reduceEqDiff, Int.reduceToNat, Int.reduceAdd, Int.reduceSub, Int.reduceMul, Int.reduceLT, Int.reduceLE, Int.reduceNeg, ↓reduceIte, reduceCtorEq]; with_reducible rfl) (by first | exact trivial | (intro h; refine ⟨h, fun h2 => ?_⟩; rw [h]; simpa using h2) | (first | exact trivial | omega | (simp; done) | (simp; omega) | (refine ⟨?_, ?_⟩ <;> omega))) ?_
      refine O.callG (by simp only [go_sem, Nat.reduceAdd, Nat.reduceSub, Nat.reduceMul, Nat.reduceMod, Nat.reduceDiv, Nat.reduceLT, Nat.reduceLeDiff, Nat.reduceEqDiff, Int.reduceToNat, Int.reduceAdd, Int.reduceSub, Int.reduceMul, Int.reduceLT, Int.reduceLE, Int.reduceNeg, ↓reduceIte, reduceCtorEq]; with_reducible rfl) (by simp only [go_sem, Nat.reduceAdd, Nat.reduceSub, Nat.reduceMul, Nat.reduceMod, Nat.reduceDiv, Nat.reduceLT, Nat.reduceLeDiff, Nat.reduceEqDiff, Int.reduceToNat, Int.reduceAdd, Int.reduceSub, Int.reduceMul, Int.reduceLT, Int.reduceLE, Int.reduceNeg, ↓reduceIte, reduceCtorEq]; with_reducible rfl) (fun hg => ref_valid_con l servers hl) (fun hg => by first | (simp [go_sem, Nat.reduceAdd, Nat.reduceSub, Nat.reduceMul, Nat.reduceMod, Nat.reduceDiv, Nat.reduceLT, Nat.reduceLeDiff, Nat.reduceEqDiff, Int.reduceToNat, Int.reduceAdd, Int.reduceSub, Int.reduceMul, Int.reduceLT, Int.reduceLE, Int.reduceNeg, ↓reduceIte, reduceCtorEq]; done) | (simpa [go_sem, Nat.reduceAdd, Nat.reduceSub, Nat.reduceMul, Nat.reduceMod, Nat.reduceDiv, Nat.reduceLT, Nat.reduceLeDiff, Nat.reduceEqDiff, Int.reduceToNat, Int.reduceAdd, Int.reduceSub, Int.reduceMul, Int.reduceLT, Int.reduceLE, Int.reduceNeg, ↓reduceIte, reduceCtorEq] using hg)) (fun hg => by simp only [SubL, go_sem, Nat.reduceAdd, Nat.reduceSub, Nat.reduceMul, Nat.reduceMod, Nat.reduceDiv, Nat.reduceLT, Nat.reduceLeDiff, Nat.reduceEqDiff, Int.reduceToNat, Int.reduceAdd, Int.reduceSub, Int.reduceMul, Int.reduceLT, Int.reduceLE, Int.reduceNeg, ↓reduceIte, reduceCtorEq]; (first | exact trivial | (repeat' (first | exact trivial | refine ⟨?_, ?_⟩ | exact Sub.int _ _ | exact Sub.bool _ | exact Sub.val _ | exact Sub.nil _ _ _ | exact Sub.ro (by simp) (fun _ _ _ _ => rfl) | exact Sub.own rfl rfl (Nat.le_refl _) (fun _ _ _ _ => Sub.int _ _) | exact Sub.fn (fun j hj => absurd hj (by omega)))))) ?_
      simp only [go_sem, Nat.reduceAdd, Nat.reduceSub, Nat.reduceMul, Nat.reduceMod, Nat.reduceDiv, Nat.reduceLT, Nat.reduceLeDiff, Nat.reduceEqDiff, Int.reduceToNat, Int.reduceAdd, Int.reduceSub, Int.reduceMul, Int.reduceLT, Int.reduceLE, Int.reduceNeg, ↓reduceIte, reduceCtorEq]
      refine O.run 5 (by simp only [go_sem, Nat.reduceAdd, Nat.reduceSub, Nat.reduceMul, Nat.reduceMod, Nat.reduceDiv, Nat.reduceLT, Nat.reduceLeDiff, Nat.reduceEqDiff, Int.reduceToNat, Int.reduceAdd, Int.reduceSub, Int.reduceMul, Int.reduceLT, Int.reduceLE, Int.reduceNeg, ↓reduceIte, reduceCtorEq]; with_reducible rfl) (by first | exact trivial | (intro h; refine ⟨h, fun h2 => ?_⟩; rw [h]; simpa using h2) | (first | exact trivial | omega | (simp; done) | (simp; omega) | (refine ⟨?_, ?_⟩ <;> omega))) ?_
      refine O.callG (by simp only [go_sem, Nat.reduceAdd, Nat.reduceSub, Nat.reduceMul, Nat.reduceMod, Nat.reduceDiv, Nat.reduceLT, Nat.reduceLeDiff, Nat.reduceEqDiff, Int.reduceToNat, Int.reduceAdd, Int.reduceSub, Int.reduceMul, Int.reduceLT, Int.reduceLE, Int.reduceNeg, ↓reduceIte, reduceCtorEq]; with_reducible rfl) (by simp only [go_sem, Nat.reduceAdd, Nat.reduceSub, Nat.reduceMul, Nat.reduceMod, Nat.reduceDiv, Nat.reduceLT, Nat.reduceLeDiff, Nat.reduceEqDiff, Int.reduceToNat, Int.reduceAdd, Int.reduceSub, Int.reduceMul, Int.reduceLT, Int.reduceLE, Int.reduceNeg, ↓reduceIte, reduceCtorEq]; with_reducible rfl) (fun hg => equalI_con (waitsO l).1 (waitsO l).1 (by omega) (by omega)) (fun hg => by first | (simp [go_sem, Nat.reduceAdd, Nat.reduceSub, Nat.reduceMul, Nat.reduceMod, Nat.reduceDiv, Nat.reduceLT, Nat.reduceLeDiff, Nat.reduceEqDiff, Int.reduceToNat, Int.reduceAdd, Int.reduceSub, Int.reduceMul, Int.reduceLT, Int.reduceLE, Int.reduceNeg, ↓reduceIte, reduceCtorEq]; done) | (simpa [go_sem, Nat.reduceAdd, Nat.reduceSub, Nat.reduceMul, Nat.reduceMod, Nat.reduceDiv, Nat.reduceLT, Nat.reduceLeDiff, Nat.reduceEqDiff, Int.reduceToNat, Int.reduceAdd, Int.reduceSub, Int.reduceMul, Int.reduceLT, Int.reduceLE, Int.reduceNeg, ↓reduceIte, reduceCtorEq] using hg)) (fun hg => by simp only [SubL, go_sem, Nat.reduceAdd, Nat.reduceSub, Nat.reduceMul, Nat.reduceMod, Nat.reduceDiv, Nat.reduceLT, Nat.reduceLeDiff, Nat.reduceEqDiff, Int.reduceToNat, Int.reduceAdd, Int.reduceSub, Int.reduceMul, Int.reduceLT, Int.reduceLE, Int.reduceNeg, ↓reduceIte, reduceCtorEq]; (first | exact trivial | (repeat' (first | exact trivial | refine ⟨?_, ?_⟩ | exact Sub.int _ _ | exact Sub.bool _ | exact Sub.val _ | exact Sub.nil _ _ _ | exact Sub.ro (by simp) (fun _ _ _ _ => rfl) | exact Sub.own rfl rfl (Nat.le_refl _) (fun _ _ _ _ => Sub.int _ _) | exact Sub.fn (fun j hj => absurd hj (by omega)))))) ?_
      simp only [go_sem, Nat.reduceAdd, Nat.reduceSub, Nat.reduceMul, Nat.reduceMod, Nat.reduceDiv, Nat.reduceLT, Nat.reduceLeDiff, Nat.reduceEqDiff, Int.reduceToNat, Int.reduceAdd, Int.reduceSub, Int.reduceMul, Int.reduceLT, Int.reduceLE, Int.reduceNeg, ↓reduceIte, reduceCtorEq]
      refine O.run 8 (by simp only [go_sem, Nat.reduceAdd, Nat.reduceSub, Nat.reduceMul, Nat.reduceMod, Nat.reduceDiv, Nat.reduceLT, Nat.reduceLeDiff, Nat.reduceEqDiff, Int.reduceToNat, Int.reduceAdd, Int.reduceSub, Int.reduceMul, Int.reduceLT, Int.reduceLE, Int.reduceNeg, ↓reduceIte, reduceCtorEq]; with_reducible rfl) (by first | exact trivial | (intro h; refine ⟨h, fun h2 => ?_⟩; rw [h]; simpa using h2) | (first | exact trivial | omega | (simp; done) | (simp; omega) | (refine ⟨?_, ?_⟩ <;> omega))) ?_
      refine O.run 4 (by simp only [go_sem, Nat.reduceAdd, Nat.reduceSub, Nat.reduceMul, Nat.reduceMod, Nat.reduceDiv, Nat.reduceLT, Nat.reduceLeDiff, Nat.reduceEqDiff, Int.reduceToNat, Int.reduceAdd, Int.reduceSub, Int.reduceMul, Int.reduceLT, Int.reduceLE, Int.reduceNeg, ↓reduceIte, reduceCtorEq]; with_reducible rfl) (by first | exact trivial | (intro h; refine ⟨h, fun h2 => ?_⟩; rw [h]; simpa using h2) | (first | exact trivial | omega | (simp; done) | (simp; omega) | (refine ⟨?_, ?_⟩ <;> omega))) ?_
      refine O.callG (by simp only [go_sem, Nat.reduceAdd, Nat.reduceSub, Nat.reduceMul, Nat.reduceMod, Nat.reduceDiv, Nat.reduceLT, Nat.reduceLeDiff, Nat.reduceEqDiff, Int.reduceToNat, Int.reduceAdd, Int.reduceSub, Int.reduceMul, Int.reduceLT, Int.reduceLE, Int.reduceNeg, ↓reduceIte, reduceCtorEq]; with_reducible rfl) (by simp only [go_sem, Nat.reduceAdd, Nat.reduceSub, Nat.reduceMul, Nat.reduceMod, Nat.reduceDiv, Nat.reduceLT, Nat.reduceLeDiff, Nat.reduceEqDiff, Int.reduceToNat, Int.reduceAdd, Int.reduceSub, Int.reduceMul, Int.reduceLT, Int.reduceLE, Int.reduceNeg, ↓reduceIte, reduceCtorEq]; with_reducible rfl) (fun hg => valid_con (serveO l servers).1 servers (by omega)) (fun hg => by first | (simp [go_sem, Nat.reduceAdd, Nat.reduceSub, Nat.reduceMul, Nat.reduceMod, Nat.reduceDiv, Nat.reduceLT, Nat.reduceLeDiff, Nat.reduceEqDiff, Int.reduceToNat, Int.reduceAdd, Int.reduceSub, Int.reduceMul, Int.reduceLT, Int.reduceLE, Int.reduceNeg, ↓reduceIte, reduceCtorEq]; done) | (simpa [go_sem, Nat.reduceAdd, Nat.reduceSub, Nat.reduceMul, Nat.reduceMod, Nat.reduceDiv, Nat.reduceLT, Nat.reduceLeDiff, Nat.reduceEqDiff, Int.reduceToNat, Int.reduceAdd, Int.reduceSub, Int.reduceMul, Int.reduceLT, Int.reduceLE, Int.reduceNeg, ↓reduceIte, reduceCtorEq] using hg)) (fun hg => by simp only [SubL, go_sem, Nat.reduceAdd, Nat.reduceSub, Nat.reduceMul, Nat.reduceMod, Nat.reduceDiv, Nat.reduceLT, Nat.reduceLeDiff, Nat.reduceEqDiff, Int.reduceToNat, Int.reduceAdd, Int.reduceSub, Int.reduceMul, Int.reduceLT, Int.reduceLE, Int.reduceNeg, ↓reduceIte, reduceCtorEq]; (first | exact trivial | (repeat' (first | exact trivial | refine ⟨?_, ?_⟩ | exact Sub.int _ _ | exact Sub.bool _ | exact Sub.val _ | exact Sub.nil _ _ _ | exact Sub.ro (by simp) (fun _ _ _ _ => rfl) | exact Sub.own rfl rfl (Nat.le_refl _) (fun _ _ _ _ => Sub.int _ _) | exact Sub.fn (fun j hj => absurd hj (by omega)))))) ?_
      simp only [go_sem, Nat.reduceAdd, Nat.reduceSub, Nat.reduceMul, Nat.reduceMod, Nat.reduceDiv, Nat.reduceLT, Nat.reduceLeDiff, Nat.reduceEqDiff, Int.reduceToNat, Int.reduceAdd, Int.reduceSub, Int.reduceMul, Int.reduceLT, Int.reduceLE, Int.reduceNeg, ↓reduceIte, reduceCtorEq]
      refine O.run 3 (by simp only [go_sem, Nat.reduceAdd, Nat.reduceSub, Nat.reduceMul, Nat.reduceMod, Nat.reduceDiv, Nat.reduceLT, Nat.reduceLeDiff, Nat.reduceEqDiff, Int.reduceToNat, Int.reduceAdd, Int.reduceSub, Int.reduceMul, Int.reduceLT, Int.reduceLE, Int.reduceNeg, ↓reduceIte, reduceCtorEq]; with_reducible rfl) (by first | exact trivial | (intro h; refine ⟨h, fun h2 => ?_⟩; rw [h]; simpa using h2) | (first | exact trivial | omega | (simp; done) | (simp; omega) | (refine ⟨?_, ?_⟩ <;> omega))) ?_
      refine O.nil ?_
      refine G.keep [4] (by simp only [keepG]; rfl) ?_
      refine G.ret ?_
      -- return 1
      refine Ret.of_sub fits [.tmp 4] rfl [.bool true] ?_ (by simp [AllFresh]) ⟨rfl, rfl⟩
      simp only [resSub, go_sem, Nat.reduceAdd, Nat.reduceSub, Nat.reduceMul, Nat.reduceMod, Nat.reduceDiv, Nat.reduceLT, Nat.reduceLeDiff, Nat.reduceEqDiff, Int.reduceToNat, Int.reduceAdd, Int.reduceSub, Int.reduceMul, Int.reduceLT, Int.reduceLE, Int.reduceNeg, ↓reduceIte, reduceCtorEq]
      refine (Sub.bool _).of_eq ?_
      congr 1
      by_cases h0 : (serveO l servers).2 = 0
      · simp [sameC, sameI, serve_again h0]
      · simp [sameC, sameI, h0]


end Go.Proofs.Ytocpeankecaabaa
