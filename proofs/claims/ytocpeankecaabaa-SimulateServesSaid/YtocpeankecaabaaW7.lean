/-
  Contracts of the reference's Number, first and Serve.
-/
import Derived.Test.YtocpeankecaabaaW3
set_option linter.all false
namespace Go.Proofs.Ytocpeankecaabaa
open Go.Abs Go.RowKit

theorem minL_eq {xs : List Int} {v : Int} (hm : v ∈ xs) (hle : ∀ x ∈ xs, v ≤ x) : minL xs = v := by
  have h1 := minL_le xs v hm
  have h2 := hle _ (minL_mem xs (List.length_pos_of_mem hm))
  omega

/-- The first place of the least number. -/
theorem kOf_eq {xs : List Int} {k : Nat} (hk : k < xs.length) (hle : ∀ j, j < xs.length → xs.getD k 0 ≤ xs.getD j 0) (hlt : ∀ j, j < k → xs.getD k 0 < xs.getD j 0) : kOf xs = k := by
  have hmin : minL xs = xs.getD k 0 := by
    refine minL_eq (mem_of_getD xs k hk) fun x hx => ?_
    obtain ⟨j, hj, rfl⟩ := List.getElem_of_mem hx
    have := hle j hj
    simpa [List.getD_eq_getElem?_getD, hj] using this
  unfold kOf
  rw [hmin, idxI_at hk (fun j hj => by have := hlt j hj; omega) rfl]
  omega

theorem kOf_spec2 (xs : List Int) (h : 0 < xs.length) : kOf xs < xs.length ∧ (∀ j, j < xs.length → xs.getD (kOf xs) 0 ≤ xs.getD j 0) ∧ ∀ j, j < kOf xs → xs.getD (kOf xs) 0 < xs.getD j 0 := by
  obtain ⟨k, h1, h2, h3⟩ := first_at xs (minL xs) (minL_mem xs h)
  have hle : ∀ j, j < xs.length → minL xs ≤ xs.getD j 0 := fun j hj => minL_le xs _ (mem_of_getD xs j hj)
  have e : kOf xs = k := kOf_eq h1 (fun j hj => by rw [h2]; exact hle j hj) (fun j hj => by have a := h3 j hj; have b := hle j (by omega); rw [h2]; omega)
  rw [e, h2]
  exact ⟨h1, hle, fun j hj => by have a := h3 j hj; have b := hle j (by omega); omega⟩

theorem getD_take (xs : List Int) (i j : Nat) (h : j < i) : (xs.take i).getD j 0 = xs.getD j 0 := by
  simp [List.getD_eq_getElem?_getD, List.getElem?_take, h]

theorem kOf_succ (xs : List Int) (i : Nat) (h0 : 0 < i) (hi : i < xs.length) : kOf (xs.take (i + 1)) = if xs.getD i 0 < xs.getD (kOf (xs.take i)) 0 then i else kOf (xs.take i) := by
  have hl : (xs.take i).length = i := by simp; omega
  have hl' : (xs.take (i + 1)).length = i + 1 := by simp; omega
  obtain ⟨a1, a2, a3⟩ := kOf_spec2 (xs.take i) (by omega)
  rw [hl] at a1 a2
  rw [getD_take _ _ _ a1] at a2 a3
  have a2' : ∀ j, j < i → xs.getD (kOf (xs.take i)) 0 ≤ xs.getD j 0 := fun j hj => by have := a2 j hj; rwa [getD_take _ _ _ hj] at this
  have a3' : ∀ j, j < kOf (xs.take i) → xs.getD (kOf (xs.take i)) 0 < xs.getD j 0 := fun j hj => by have := a3 j hj; rwa [getD_take _ _ _ (by omega)] at this
  split
  · rename_i h
    refine kOf_eq (by omega) (fun j hj => ?_) (fun j hj => ?_)
    · rw [hl'] at hj
      rw [getD_take _ _ _ (by omega), getD_take _ _ _ hj]
      rcases Nat.lt_or_eq_of_le (Nat.le_of_lt_succ hj) with h' | h'
      · have := a2' j h'; omega
      · subst h'; omega
    · rw [getD_take _ _ _ (by omega), getD_take _ _ _ (by omega)]
      have := a2' j hj; omega
  · rename_i h
    refine kOf_eq (by omega) (fun j hj => ?_) (fun j hj => ?_)
    · rw [hl'] at hj
      rw [getD_take _ _ _ (by omega), getD_take _ _ _ hj]
      rcases Nat.lt_or_eq_of_le (Nat.le_of_lt_succ hj) with h' | h'
      · exact a2' j h'
      · subst h'; omega
    · rw [getD_take _ _ _ (by omega), getD_take _ _ _ (by omega)]
      exact a3' j hj

set_option maxRecDepth 10000

theorem ref_Number_con (s : Int) : Con Try.prog 39 [.int .i64 s] (isV (resA [.bool (decide (1 ≤ s) && decide (s ≤ 20))])) := by
  refine Con.of_goes Try.func39 (by rfl) rfl (by simp [NoFresh]) (by simp only [Try.ntmps39, List.length_cons, List.length_nil, Nat.reduceAdd, Nat.reduceSub, List.replicate, List.cons_append, List.nil_append]; rfl) fun w0 => ?_
  refine G.seq ?_
  -- region 0
  refine G.run fits (by simp only [go_sem, Nat.reduceAdd, Nat.reduceSub, Nat.reduceMul, Nat.reduceMod, Nat.reduceDiv, Nat.reduceLT, Nat.reduceLeDiff, Nat.reduceEqDiff, Int.reduceToNat, Int.reduceAdd, Int.reduceSub, Int.reduceMul, Int.reduceLT, Int.reduceLE, Int.reduceNeg, ↓reduceIte, reduceCtorEq]; with_reducible rfl) (by (first | exact trivial | omega | (simp; done) | (simp; omega) | (refine ⟨?_, ?_⟩ <;> omega))) ?_
  refine G.keep [0] (by simp only [keepG]; rfl) ?_
  refine G.seq ?_
  -- region 1
  refine G.run fits (by simp only [go_sem, Nat.reduceAdd, Nat.reduceSub, Nat.reduceMul, Nat.reduceMod, Nat.reduceDiv, Nat.reduceLT, Nat.reduceLeDiff, Nat.reduceEqDiff, Int.reduceToNat, Int.reduceAdd, Int.reduceSub, Int.reduceMul, Int.reduceLT, Int.reduceLE, Int.reduceNeg, ↓reduceIte, reduceCtorEq]; with_reducible rfl) (by (first | exact trivial | omega | (simp; done) | (simp; omega) | (refine ⟨?_, ?_⟩ <;> omega))) ?_
  refine G.keep [2] (by simp only [keepG]; rfl) ?_
  refine G.ret ?_
  -- return 0
  refine Ret.of_sub fits [.tmp 2] rfl [.bool (decide (1 ≤ s) && decide (s ≤ 20))] ?_ (by simp [AllFresh]) ⟨rfl, rfl⟩
  simp only [resSub, go_sem, Nat.reduceAdd, Nat.reduceSub, Nat.reduceMul, Nat.reduceMod, Nat.reduceDiv, Nat.reduceLT, Nat.reduceLeDiff, Nat.reduceEqDiff, Int.reduceToNat, Int.reduceAdd, Int.reduceSub, Int.reduceMul, Int.reduceLT, Int.reduceLE, Int.reduceNeg, ↓reduceIte, reduceCtorEq]
  exact Sub.bool _


theorem ref_first_con (xs : List Int) (h1 : 0 < xs.length) (hl : xs.length ≤ 9223372036854775807) : Con Try.prog 40 [encI false xs] (isV (resA [.int .i64 (kOf xs)])) := by
  refine Con.of_goes Try.func40 (by rfl) rfl (by simp [NoFresh, noFresh_encI]) (by simp only [Try.ntmps40, List.length_cons, List.length_nil, Nat.reduceAdd, Nat.reduceSub, List.replicate, List.cons_append, List.nil_append]; rfl) fun w0 => ?_
  unfold encI
  refine G.seq ?_
  -- region 0
  refine G.run fits (by simp only [go_sem, Nat.reduceAdd, Nat.reduceSub, Nat.reduceMul, Nat.reduceMod, Nat.reduceDiv, Nat.reduceLT, Nat.reduceLeDiff, Nat.reduceEqDiff, Int.reduceToNat, Int.reduceAdd, Int.reduceSub, Int.reduceMul, Int.reduceLT, Int.reduceLE, Int.reduceNeg, ↓reduceIte, reduceCtorEq]; with_reducible rfl) (by (first | exact trivial | omega | (simp; done) | (simp; omega) | (refine ⟨?_, ?_⟩ <;> omega))) ?_
  refine G.keep [0] (by simp only [keepG]; rfl) ?_
  refine G.seq ?_
  -- region 1
  refine G.run fits (by simp only [go_sem, Nat.reduceAdd, Nat.reduceSub, Nat.reduceMul, Nat.reduceMod, Nat.reduceDiv, Nat.reduceLT, Nat.reduceLeDiff, Nat.reduceEqDiff, Int.reduceToNat, Int.reduceAdd, Int.reduceSub, Int.reduceMul, Int.reduceLT, Int.reduceLE, Int.reduceNeg, ↓reduceIte, reduceCtorEq]; with_reducible rfl) (by (first | exact trivial | omega | (simp; done) | (simp; omega) | (refine ⟨?_, ?_⟩ <;> omega))) ?_
  refine G.keep [0, 2] (by simp only [keepG]; rfl) ?_
  refine G.seq ?_
  refine G.seq ?_
  -- region 2
  refine G.run fits (by simp only [go_sem, Nat.reduceAdd, Nat.reduceSub, Nat.reduceMul, Nat.reduceMod, Nat.reduceDiv, Nat.reduceLT, Nat.reduceLeDiff, Nat.reduceEqDiff, Int.reduceToNat, Int.reduceAdd, Int.reduceSub, Int.reduceMul, Int.reduceLT, Int.reduceLE, Int.reduceNeg, ↓reduceIte, reduceCtorEq]; with_reducible rfl) (by (first | exact trivial | omega | (simp; done) | (simp; omega) | (refine ⟨?_, ?_⟩ <;> omega))) ?_
  refine G.keep [0, 2, 0] (by simp only [keepG]; rfl) ?_
  refine G.block ?_
  refine G.loop (ι := Nat) (fun i => ⟨[encI false xs, .any, .any, .int .i64 (kOf (xs.take i)), .int .i64 i, .any, .any, .any, .any, .any, .any, .any, .any, .any, .any, .any, .any, .any, .any, .any, .any, .any], []⟩) (fun i => 0 < i ∧ i ≤ xs.length) (fun i => xs.length - i) 1 (by omega) ?_ fun i hi => ?_
  ·
    have e1 : kOf (xs.take 1) = 0 := by
      refine kOf_eq (by simp; omega) (fun j hj => ?_) (fun j hj => by omega)
      obtain rfl : j = 0 := by simp at hj; omega
      exact Int.le_refl _
    rw [e1]
    unfold encI; (refine SLe.of (by simp only [SlotsLe]; (simp (disch := omega) [Int.natCast_add])) (by simp [HeapLe]) (by simp [TagsIn]) (by simp [TagsIn]))
  ·
    obtain ⟨hi0, hi⟩ := hi
    have hk := (kOf_spec2 (xs.take i) (by simp; omega)).1
    rw [List.length_take] at hk
    unfold encI
    refine G.seq ?_
    refine G.seq ?_
    -- region 3
    refine G.run fits (by simp only [go_sem, Nat.reduceAdd, Nat.reduceSub, Nat.reduceMul, Nat.reduceMod, Nat.reduceDiv, Nat.reduceLT, Nat.reduceLeDiff, Nat.reduceEqDiff, Int.reduceToNat, Int.reduceAdd, Int.reduceSub, Int.reduceMul, Int.reduceLT, Int.reduceLE, Int.reduceNeg, ↓reduceIte, reduceCtorEq]; with_reducible rfl) (by (first | exact trivial | omega | (simp; done) | (simp; omega) | (refine ⟨?_, ?_⟩ <;> omega))) ?_
    refine G.keep [0, 2, 0, 3] (by simp only [keepG]; rfl) ?_
    refine G.cond (by simp only [go_sem, Nat.reduceAdd, Nat.reduceSub, Nat.reduceMul, Nat.reduceMod, Nat.reduceDiv, Nat.reduceLT, Nat.reduceLeDiff, Nat.reduceEqDiff, Int.reduceToNat, Int.reduceAdd, Int.reduceSub, Int.reduceMul, Int.reduceLT, Int.reduceLE, Int.reduceNeg, ↓reduceIte, reduceCtorEq]; with_reducible rfl) (fun hc8 => ?_) (fun hc8 => ?_)
    ·
      have hlt : i < xs.length := by simpa using hc8
      have hsucc := kOf_succ xs i hi0 hlt
      refine G.skip ?_
      refine G.seq ?_
      refine G.block ?_
      refine G.seq ?_
      -- region 5
      refine G.draw fits mixed 9 (drawN_ok (by decide +kernel)) (by simp only [List.take_succ_cons, List.take_zero]; with_reducible rfl) (by simp only [List.drop_succ_cons, List.drop_zero]; with_reducible rfl) ?_
      refine D.run 9 (by simp only [go_sem, Nat.reduceAdd, Nat.reduceSub, Nat.reduceMul, Nat.reduceMod, Nat.reduceDiv, Nat.reduceLT, Nat.reduceLeDiff, Nat.reduceEqDiff, Int.reduceToNat, Int.reduceAdd, Int.reduceSub, Int.reduceMul, Int.reduceLT, Int.reduceLE, Int.reduceNeg, ↓reduceIte, reduceCtorEq]; with_reducible rfl) (by (first | exact trivial | omega | (simp; done) | (simp; omega) | (refine ⟨?_, ?_⟩ <;> omega))) ?_
      refine D.nil ?_
      refine O.nil ?_
      refine G.keep [0, 2, 0, 14] (by simp only [keepG]; rfl) ?_
      refine G.cond (by simp only [go_sem, Nat.reduceAdd, Nat.reduceSub, Nat.reduceMul, Nat.reduceMod, Nat.reduceDiv, Nat.reduceLT, Nat.reduceLeDiff, Nat.reduceEqDiff, Int.reduceToNat, Int.reduceAdd, Int.reduceSub, Int.reduceMul, Int.reduceLT, Int.reduceLE, Int.reduceNeg, ↓reduceIte, reduceCtorEq]; with_reducible rfl) (fun hc19 => ?_) (fun hc19 => ?_)
      ·
        rw [if_pos (by simpa [-List.getD_eq_getElem?_getD] using hc19)] at hsucc
        -- region 6
        refine G.run fits (by simp only [go_sem, Nat.reduceAdd, Nat.reduceSub, Nat.reduceMul, Nat.reduceMod, Nat.reduceDiv, Nat.reduceLT, Nat.reduceLeDiff, Nat.reduceEqDiff, Int.reduceToNat, Int.reduceAdd, Int.reduceSub, Int.reduceMul, Int.reduceLT, Int.reduceLE, Int.reduceNeg, ↓reduceIte, reduceCtorEq]; with_reducible rfl) (by (first | exact trivial | omega | (simp; done) | (simp; omega) | (refine ⟨?_, ?_⟩ <;> omega))) ?_
        refine G.endBlock ?_
        -- region 4
        refine G.run fits (by simp only [go_sem, Nat.reduceAdd, Nat.reduceSub, Nat.reduceMul, Nat.reduceMod, Nat.reduceDiv, Nat.reduceLT, Nat.reduceLeDiff, Nat.reduceEqDiff, Int.reduceToNat, Int.reduceAdd, Int.reduceSub, Int.reduceMul, Int.reduceLT, Int.reduceLE, Int.reduceNeg, ↓reduceIte, reduceCtorEq]; with_reducible rfl) (by (first | exact trivial | omega | (simp; done) | (simp; omega) | (refine ⟨?_, ?_⟩ <;> omega))) ?_
        refine G.endLoop ⟨i + 1, by omega, by omega, ?_⟩
        rw [hsucc]
        (refine SLe.of (by simp only [SlotsLe]; (simp (disch := omega) [Int.natCast_add])) (by simp [HeapLe]) (by simp [TagsIn]) (by simp [TagsIn]))
      ·
        rw [if_neg (by simpa [-List.getD_eq_getElem?_getD] using hc19)] at hsucc
        refine G.skip ?_
        refine G.endBlock ?_
        -- region 4
        refine G.run fits (by simp only [go_sem, Nat.reduceAdd, Nat.reduceSub, Nat.reduceMul, Nat.reduceMod, Nat.reduceDiv, Nat.reduceLT, Nat.reduceLeDiff, Nat.reduceEqDiff, Int.reduceToNat, Int.reduceAdd, Int.reduceSub, Int.reduceMul, Int.reduceLT, Int.reduceLE, Int.reduceNeg, ↓reduceIte, reduceCtorEq]; with_reducible rfl) (by (first | exact trivial | omega | (simp; done) | (simp; omega) | (refine ⟨?_, ?_⟩ <;> omega))) ?_
        refine G.endLoop ⟨i + 1, by omega, by omega, ?_⟩
        rw [hsucc]
        (refine SLe.of (by simp only [SlotsLe]; (simp (disch := omega) [Int.natCast_add])) (by simp [HeapLe]) (by simp [TagsIn]) (by simp [TagsIn]))
    ·
      refine G.exit rfl ?_
      refine G.seq ?_
      -- region 7
      refine G.run fits (by simp only [go_sem, Nat.reduceAdd, Nat.reduceSub, Nat.reduceMul, Nat.reduceMod, Nat.reduceDiv, Nat.reduceLT, Nat.reduceLeDiff, Nat.reduceEqDiff, Int.reduceToNat, Int.reduceAdd, Int.reduceSub, Int.reduceMul, Int.reduceLT, Int.reduceLE, Int.reduceNeg, ↓reduceIte, reduceCtorEq]; with_reducible rfl) (by (first | exact trivial | omega | (simp; done) | (simp; omega) | (refine ⟨?_, ?_⟩ <;> omega))) ?_
      refine G.keep [2] (by simp only [keepG]; rfl) ?_
      refine G.ret ?_
      -- return 0
      refine Ret.of_sub fits [.tmp 2] rfl [.int .i64 (kOf xs)] ?_ (by simp [AllFresh]) ⟨rfl, rfl⟩
      simp only [resSub, go_sem, Nat.reduceAdd, Nat.reduceSub, Nat.reduceMul, Nat.reduceMod, Nat.reduceDiv, Nat.reduceLT, Nat.reduceLeDiff, Nat.reduceEqDiff, Int.reduceToNat, Int.reduceAdd, Int.reduceSub, Int.reduceMul, Int.reduceLT, Int.reduceLE, Int.reduceNeg, ↓reduceIte, reduceCtorEq]
      have hge : xs.length ≤ i := by simpa using hc8
      rw [List.take_of_length_le hge]
      exact Sub.int _ _


theorem ref_Serve_con (l : List Cust) (servers : Int) (hl : l.length ≤ 9223372036854775807) : Con Try.prog 15 [encC false l, .int .i64 servers] (isV (resA [encC true (serveO l servers).1, .int .i64 (serveO l servers).2])) := by
  refine Con.of_goes Try.func15 (by rfl) rfl (by simp [NoFresh, noFresh_encC]) (by simp only [Try.ntmps15, List.length_cons, List.length_nil, Nat.reduceAdd, Nat.reduceSub, List.replicate, List.cons_append, List.nil_append]; rfl) fun w0 => ?_
  unfold encC
  refine G.seq ?_
  -- region 0
  refine G.run fits (by simp only [go_sem, Nat.reduceAdd, Nat.reduceSub, Nat.reduceMul, Nat.reduceMod, Nat.reduceDiv, Nat.reduceLT, Nat.reduceLeDiff, Nat.reduceEqDiff, Int.reduceToNat, Int.reduceAdd, Int.reduceSub, Int.reduceMul, Int.reduceLT, Int.reduceLE, Int.reduceNeg, ↓reduceIte, reduceCtorEq]; with_reducible rfl) (by (first | exact trivial | omega | (simp; done) | (simp; omega) | (refine ⟨?_, ?_⟩ <;> omega))) ?_
  refine G.keep [0, 0] (by simp only [keepG]; rfl) ?_
  refine G.seq ?_
  refine G.seq ?_
  -- region 1
  refine G.ops fits ?_
  refine O.run 1 (by simp only [go_sem, Nat.reduceAdd, Nat.reduceSub, Nat.reduceMul, Nat.reduceMod, Nat.reduceDiv, Nat.reduceLT, Nat.reduceLeDiff, Nat.reduceEqDiff, Int.reduceToNat, Int.reduceAdd, Int.reduceSub, Int.reduceMul, Int.reduceLT, Int.reduceLE, Int.reduceNeg, ↓reduceIte, reduceCtorEq]; with_reducible rfl) (by (first | exact trivial | omega | (simp; done) | (simp; omega) | (refine ⟨?_, ?_⟩ <;> omega))) ?_
  refine O.call (by simp only [go_sem, Nat.reduceAdd, Nat.reduceSub, Nat.reduceMul, Nat.reduceMod, Nat.reduceDiv, Nat.reduceLT, Nat.reduceLeDiff, Nat.reduceEqDiff, Int.reduceToNat, Int.reduceAdd, Int.reduceSub, Int.reduceMul, Int.reduceLT, Int.reduceLE, Int.reduceNeg, ↓reduceIte, reduceCtorEq]; with_reducible rfl) (ref_Proper_con l hl) (by simp [go_sem, Nat.reduceAdd, Nat.reduceSub, Nat.reduceMul, Nat.reduceMod, Nat.reduceDiv, Nat.reduceLT, Nat.reduceLeDiff, Nat.reduceEqDiff, Int.reduceToNat, Int.reduceAdd, Int.reduceSub, Int.reduceMul, Int.reduceLT, Int.reduceLE, Int.reduceNeg, ↓reduceIte, reduceCtorEq]) (by simp only [SubL, go_sem, Nat.reduceAdd, Nat.reduceSub, Nat.reduceMul, Nat.reduceMod, Nat.reduceDiv, Nat.reduceLT, Nat.reduceLeDiff, Nat.reduceEqDiff, Int.reduceToNat, Int.reduceAdd, Int.reduceSub, Int.reduceMul, Int.reduceLT, Int.reduceLE, Int.reduceNeg, ↓reduceIte, reduceCtorEq]; (first | exact trivial | (repeat' (first | exact trivial | refine ⟨?_, ?_⟩ | exact Sub.int _ _ | exact Sub.bool _ | exact Sub.val _ | exact Sub.nil _ _ _ | exact Sub.ro (by simp) (fun _ _ _ _ => rfl) | exact Sub.own rfl rfl (Nat.le_refl _) (fun _ _ _ _ => Sub.int _ _) | exact Sub.fn (fun j hj => absurd hj (by omega)))))) ?_
  simp only [go_sem, Nat.reduceAdd, Nat.reduceSub, Nat.reduceMul, Nat.reduceMod, Nat.reduceDiv, Nat.reduceLT, Nat.reduceLeDiff, Nat.reduceEqDiff, Int.reduceToNat, Int.reduceAdd, Int.reduceSub, Int.reduceMul, Int.reduceLT, Int.reduceLE, Int.reduceNeg, ↓reduceIte, reduceCtorEq]
  refine O.run 1 (by simp only [go_sem, Nat.reduceAdd, Nat.reduceSub, Nat.reduceMul, Nat.reduceMod, Nat.reduceDiv, Nat.reduceLT, Nat.reduceLeDiff, Nat.reduceEqDiff, Int.reduceToNat, Int.reduceAdd, Int.reduceSub, Int.reduceMul, Int.reduceLT, Int.reduceLE, Int.reduceNeg, ↓reduceIte, reduceCtorEq]; with_reducible rfl) (by (first | exact trivial | omega | (simp; done) | (simp; omega) | (refine ⟨?_, ?_⟩ <;> omega))) ?_
  refine O.nil ?_
  refine G.keep [0, 0, 11] (by simp only [keepG]; rfl) ?_
  refine G.cond (by simp only [go_sem, Nat.reduceAdd, Nat.reduceSub, Nat.reduceMul, Nat.reduceMod, Nat.reduceDiv, Nat.reduceLT, Nat.reduceLeDiff, Nat.reduceEqDiff, Int.reduceToNat, Int.reduceAdd, Int.reduceSub, Int.reduceMul, Int.reduceLT, Int.reduceLE, Int.reduceNeg, ↓reduceIte, reduceCtorEq]; with_reducible rfl) (fun hc13 => ?_) (fun hc13 => ?_)
  ·
    refine G.seq ?_
    -- region 2
    refine G.run fits (by simp only [go_sem, Nat.reduceAdd, Nat.reduceSub, Nat.reduceMul, Nat.reduceMod, Nat.reduceDiv, Nat.reduceLT, Nat.reduceLeDiff, Nat.reduceEqDiff, Int.reduceToNat, Int.reduceAdd, Int.reduceSub, Int.reduceMul, Int.reduceLT, Int.reduceLE, Int.reduceNeg, ↓reduceIte, reduceCtorEq]; with_reducible rfl) (by (first | exact trivial | omega | (simp; done) | (simp; omega) | (refine ⟨?_, ?_⟩ <;> omega))) ?_
    refine G.keep [4, 0] (by simp only [keepG]; rfl) ?_
    refine G.ret ?_
    -- return 0
    refine Ret.of_sub fits [.tmp 4, .tmp 5] rfl [encC true (serveO l servers).1, .int .i64 (serveO l servers).2] ?_ (by simp [AllFresh, encC]) ⟨rfl, rfl⟩
    simp only [resSub, go_sem, Nat.reduceAdd, Nat.reduceSub, Nat.reduceMul, Nat.reduceMod, Nat.reduceDiv, Nat.reduceLT, Nat.reduceLeDiff, Nat.reduceEqDiff, Int.reduceToNat, Int.reduceAdd, Int.reduceSub, Int.reduceMul, Int.reduceLT, Int.reduceLE, Int.reduceNeg, ↓reduceIte, reduceCtorEq]
    have hp : properB l = false := by simpa using hc13
    rw [show serveO l servers = ([], 1) by simp [serveO, hp]]
    exact ⟨Sub.nil _ _ _, Sub.int _ _⟩
  ·
    have hp : properB l = true := by simpa using hc13
    have hl1 := (properB_at hp).1
    refine G.skip ?_
    refine G.seq ?_
    refine G.seq ?_
    -- region 3
    refine G.ops fits ?_
    refine O.run 1 (by simp only [go_sem, Nat.reduceAdd, Nat.reduceSub, Nat.reduceMul, Nat.reduceMod, Nat.reduceDiv, Nat.reduceLT, Nat.reduceLeDiff, Nat.reduceEqDiff, Int.reduceToNat, Int.reduceAdd, Int.reduceSub, Int.reduceMul, Int.reduceLT, Int.reduceLE, Int.reduceNeg, ↓reduceIte, reduceCtorEq]; with_reducible rfl) (by (first | exact trivial | omega | (simp; done) | (simp; omega) | (refine ⟨?_, ?_⟩ <;> omega))) ?_
    refine O.call (by simp only [go_sem, Nat.reduceAdd, Nat.reduceSub, Nat.reduceMul, Nat.reduceMod, Nat.reduceDiv, Nat.reduceLT, Nat.reduceLeDiff, Nat.reduceEqDiff, Int.reduceToNat, Int.reduceAdd, Int.reduceSub, Int.reduceMul, Int.reduceLT, Int.reduceLE, Int.reduceNeg, ↓reduceIte, reduceCtorEq]; with_reducible rfl) (ref_Number_con servers) (by simp [go_sem, Nat.reduceAdd, Nat.reduceSub, Nat.reduceMul, Nat.reduceMod, Nat.reduceDiv, Nat.reduceLT, Nat.reduceLeDiff, Nat.reduceEqDiff, Int.reduceToNat, Int.reduceAdd, Int.reduceSub, Int.reduceMul, Int.reduceLT, Int.reduceLE, Int.reduceNeg, ↓reduceIte, reduceCtorEq]) (by simp only [SubL, go_sem, Nat.reduceAdd, Nat.reduceSub, Nat.reduceMul, Nat.reduceMod, Nat.reduceDiv, Nat.reduceLT, Nat.reduceLeDiff, Nat.reduceEqDiff, Int.reduceToNat, Int.reduceAdd, Int.reduceSub, Int.reduceMul, Int.reduceLT, Int.reduceLE, Int.reduceNeg, ↓reduceIte, reduceCtorEq]; (first | exact trivial | (repeat' (first | exact trivial | refine ⟨?_, ?_⟩ | exact Sub.int _ _ | exact Sub.bool _ | exact Sub.val _ | exact Sub.nil _ _ _ | exact Sub.ro (by simp) (fun _ _ _ _ => rfl) | exact Sub.own rfl rfl (Nat.le_refl _) (fun _ _ _ _ => Sub.int _ _) | exact Sub.fn (fun j hj => absurd hj (by omega)))))) ?_
    simp only [go_sem, Nat.reduceAdd, Nat.reduceSub, Nat.reduceMul, Nat.reduceMod, Nat.reduceDiv, Nat.reduceLT, Nat.reduceLeDiff, Nat.reduceEqDiff, Int.reduceToNat, Int.reduceAdd, Int.reduceSub, Int.reduceMul, Int.reduceLT, Int.reduceLE, Int.reduceNeg, ↓reduceIte, reduceCtorEq]
    refine O.run 1 (by simp only [go_sem, Nat.reduceAdd, Nat.reduceSub, Nat.reduceMul, Nat.reduceMod, Nat.reduceDiv, Nat.reduceLT, Nat.reduceLeDiff, Nat.reduceEqDiff, Int.reduceToNat, Int.reduceAdd, Int.reduceSub, Int.reduceMul, Int.reduceLT, Int.reduceLE, Int.reduceNeg, ↓reduceIte, reduceCtorEq]; with_reducible rfl) (by (first | exact trivial | omega | (simp; done) | (simp; omega) | (refine ⟨?_, ?_⟩ <;> omega))) ?_
    refine O.nil ?_
    refine G.keep [0, 0, 14] (by simp only [keepG]; rfl) ?_
    refine G.cond (by simp only [go_sem, Nat.reduceAdd, Nat.reduceSub, Nat.reduceMul, Nat.reduceMod, Nat.reduceDiv, Nat.reduceLT, Nat.reduceLeDiff, Nat.reduceEqDiff, Int.reduceToNat, Int.reduceAdd, Int.reduceSub, Int.reduceMul, Int.reduceLT, Int.reduceLE, Int.reduceNeg, ↓reduceIte, reduceCtorEq]; with_reducible rfl) (fun hc16 => ?_) (fun hc16 => ?_)
    ·
      refine G.seq ?_
      -- region 4
      refine G.run fits (by simp only [go_sem, Nat.reduceAdd, Nat.reduceSub, Nat.reduceMul, Nat.reduceMod, Nat.reduceDiv, Nat.reduceLT, Nat.reduceLeDiff, Nat.reduceEqDiff, Int.reduceToNat, Int.reduceAdd, Int.reduceSub, Int.reduceMul, Int.reduceLT, Int.reduceLE, Int.reduceNeg, ↓reduceIte, reduceCtorEq]; with_reducible rfl) (by (first | exact trivial | omega | (simp; done) | (simp; omega) | (refine ⟨?_, ?_⟩ <;> omega))) ?_
      refine G.keep [4, 0] (by simp only [keepG]; rfl) ?_
      refine G.ret ?_
      -- return 1
      refine Ret.of_sub fits [.tmp 4, .tmp 5] rfl [encC true (serveO l servers).1, .int .i64 (serveO l servers).2] ?_ (by simp [AllFresh, encC]) ⟨rfl, rfl⟩
      simp only [resSub, go_sem, Nat.reduceAdd, Nat.reduceSub, Nat.reduceMul, Nat.reduceMod, Nat.reduceDiv, Nat.reduceLT, Nat.reduceLeDiff, Nat.reduceEqDiff, Int.reduceToNat, Int.reduceAdd, Int.reduceSub, Int.reduceMul, Int.reduceLT, Int.reduceLE, Int.reduceNeg, ↓reduceIte, reduceCtorEq]
      have hs : ¬ (1 ≤ servers ∧ servers ≤ 20) := by simp at hc16; omega
      have e : (decide (servers < 1) || decide (20 < servers)) = true := by simp; omega
      rw [show serveO l servers = ([], 2) by simp only [serveO, hp, e]; rfl]
      exact ⟨Sub.nil _ _ _, Sub.int _ _⟩
    ·
      have hs : 1 ≤ servers ∧ servers ≤ 20 := by simpa using hc16
      have hserve := serveO_ok hp hs.1 hs.2
      have hBst := stAt_bound l servers.toNat (by omega) hp
      generalize hn : servers.toNat = n at *
      refine G.skip ?_
      refine G.seq ?_
      -- region 5
      refine G.run fits (by simp only [go_sem, Nat.reduceAdd, Nat.reduceSub, Nat.reduceMul, Nat.reduceMod, Nat.reduceDiv, Nat.reduceLT, Nat.reduceLeDiff, Nat.reduceEqDiff, Int.reduceToNat, Int.reduceAdd, Int.reduceSub, Int.reduceMul, Int.reduceLT, Int.reduceLE, Int.reduceNeg, ↓reduceIte, reduceCtorEq]; with_reducible rfl) (by (first | exact trivial | omega | (simp; done) | (simp; omega) | (refine ⟨?_, ?_⟩ <;> omega))) ?_
      refine G.keep [0, 5] (by simp only [keepG]; rfl) ?_
      refine G.seq ?_
      -- region 6
      refine G.run fits (by simp only [go_sem, Nat.reduceAdd, Nat.reduceSub, Nat.reduceMul, Nat.reduceMod, Nat.reduceDiv, Nat.reduceLT, Nat.reduceLeDiff, Nat.reduceEqDiff, Int.reduceToNat, Int.reduceAdd, Int.reduceSub, Int.reduceMul, Int.reduceLT, Int.reduceLE, Int.reduceNeg, ↓reduceIte, reduceCtorEq]; with_reducible rfl) (by (first | exact trivial | omega | (simp; done) | (simp; omega) | (refine ⟨?_, ?_⟩ <;> omega))) ?_
      refine G.keep [0, 5, 0] (by simp only [keepG]; rfl) ?_
      refine G.seq ?_
      refine G.seq ?_
      -- region 7
      refine G.run fits (by simp only [go_sem, Nat.reduceAdd, Nat.reduceSub, Nat.reduceMul, Nat.reduceMod, Nat.reduceDiv, Nat.reduceLT, Nat.reduceLeDiff, Nat.reduceEqDiff, Int.reduceToNat, Int.reduceAdd, Int.reduceSub, Int.reduceMul, Int.reduceLT, Int.reduceLE, Int.reduceNeg, ↓reduceIte, reduceCtorEq]; with_reducible rfl) (by (first | exact trivial | omega | (simp; done) | (simp; omega) | (refine ⟨?_, ?_⟩ <;> omega))) ?_
      refine G.keep [0, 5, 0, 0] (by simp only [keepG]; rfl) ?_
      refine G.block ?_
      refine G.loop (ι := Nat) (fun i => ⟨[encC false l, .any, .any, .any, .any, .any, .own 0 1 (St plainF l n i).1.length, .own 1 4 (St plainF l n i).2.length, .int .i64 i, .any, .any, .any, .any, .any, .any, .any, .any, .any, .any, .any, .any, .any, .any, .any, .any, .any, .any, .any, .any, .any, .any, .any, .any, .any, .any, .any, .any, .any, .any, .any, .any, .any, .any, .any, .any, .any, .any, .any, .any, .any, .any, .any, .any, .any, .any, .any, .any, .any, .any, .any, .any, .any], [objI (St plainF l n i).1, objC (St plainF l n i).2]⟩) (fun i => i ≤ l.length) (fun i => l.length - i) 0 (by simp) ?_ fun i hi => ?_
      ·
        have e0 : St plainF l n 0 = (List.replicate n 0, []) := rfl
        rw [e0]
        refine (SLe.nil 7 (objC []) rfl rfl).trans (SLe.of ?_ ?_ ?_ ?_)
        · simp [SlotsLe, objC, hn, encC]
        · simp only [HeapLe, objC, objI]
          refine ⟨⟨rfl, rfl, by simp [hn], fun i f hi hf => .inr ?_⟩, ⟨rfl, rfl, rfl, fun i f hi hf => by simp at hi⟩, trivial⟩
          have : f = 0 := by simpa using hf
          subst this
          simp [List.getD_eq_getElem?_getD, List.getElem?_replicate]
          split <;> rfl
        · simp [TagsIn, encC]
        · simp [TagsIn, objC, objI]
      ·
        have hsucc := St_succ plainF l n i
        have hl1' := St_len1 plainF l n i
        have hl2 := St_len2 plainF l n i
        have hBi := hBst i
        have hst : stAt plainF l n i = max (l.getD i .z).arrive ((St plainF l n i).1.getD (kOf (St plainF l n i).1) 0) := rfl
        have hres : (resAt plainF l n i).1 = stAt plainF l n i + (l.getD i .z).service := rfl
        rw [hres] at hsucc
        generalize stAt plainF l n i = st at *
        generalize (St plainF l n i).1 = free at *
        generalize hout : (St plainF l n i).2 = out at *
        obtain ⟨hk1, hk2, hk3⟩ := kOf_spec free (by omega)
        unfold encC objI objC
        refine G.seq ?_
        refine G.seq ?_
        -- region 8
        refine G.run fits (by simp only [go_sem, Nat.reduceAdd, Nat.reduceSub, Nat.reduceMul, Nat.reduceMod, Nat.reduceDiv, Nat.reduceLT, Nat.reduceLeDiff, Nat.reduceEqDiff, Int.reduceToNat, Int.reduceAdd, Int.reduceSub, Int.reduceMul, Int.reduceLT, Int.reduceLE, Int.reduceNeg, ↓reduceIte, reduceCtorEq]; with_reducible rfl) (by (first | exact trivial | omega | (simp; done) | (simp; omega) | (refine ⟨?_, ?_⟩ <;> omega))) ?_
        refine G.keep [0, 5, 0, 0, 13] (by simp only [keepG]; rfl) ?_
        refine G.cond (by simp only [go_sem, Nat.reduceAdd, Nat.reduceSub, Nat.reduceMul, Nat.reduceMod, Nat.reduceDiv, Nat.reduceLT, Nat.reduceLeDiff, Nat.reduceEqDiff, Int.reduceToNat, Int.reduceAdd, Int.reduceSub, Int.reduceMul, Int.reduceLT, Int.reduceLE, Int.reduceNeg, ↓reduceIte, reduceCtorEq]; with_reducible rfl) (fun hc22 => ?_) (fun hc22 => ?_)
        ·
          have hlt : i < l.length := by simpa using hc22
          have hBi := hBi hlt
          have hpi := (properB_at hp).2 i hlt
          refine G.skip ?_
          refine G.seq ?_
          refine G.block ?_
          refine G.seq ?_
          -- region 10
          refine G.ops fits ?_
          refine O.run 1 (by simp only [go_sem, Nat.reduceAdd, Nat.reduceSub, Nat.reduceMul, Nat.reduceMod, Nat.reduceDiv, Nat.reduceLT, Nat.reduceLeDiff, Nat.reduceEqDiff, Int.reduceToNat, Int.reduceAdd, Int.reduceSub, Int.reduceMul, Int.reduceLT, Int.reduceLE, Int.reduceNeg, ↓reduceIte, reduceCtorEq]; with_reducible rfl) (by (first | exact trivial | omega | (simp; done) | (simp; omega) | (refine ⟨?_, ?_⟩ <;> omega))) ?_
          refine O.call (by simp only [go_sem, Nat.reduceAdd, Nat.reduceSub, Nat.reduceMul, Nat.reduceMod, Nat.reduceDiv, Nat.reduceLT, Nat.reduceLeDiff, Nat.reduceEqDiff, Int.reduceToNat, Int.reduceAdd, Int.reduceSub, Int.reduceMul, Int.reduceLT, Int.reduceLE, Int.reduceNeg, ↓reduceIte, reduceCtorEq]; with_reducible rfl) (ref_first_con free (by omega) (by omega)) (by simp [go_sem, Nat.reduceAdd, Nat.reduceSub, Nat.reduceMul, Nat.reduceMod, Nat.reduceDiv, Nat.reduceLT, Nat.reduceLeDiff, Nat.reduceEqDiff, Int.reduceToNat, Int.reduceAdd, Int.reduceSub, Int.reduceMul, Int.reduceLT, Int.reduceLE, Int.reduceNeg, ↓reduceIte, reduceCtorEq]) (by simp only [SubL, go_sem, Nat.reduceAdd, Nat.reduceSub, Nat.reduceMul, Nat.reduceMod, Nat.reduceDiv, Nat.reduceLT, Nat.reduceLeDiff, Nat.reduceEqDiff, Int.reduceToNat, Int.reduceAdd, Int.reduceSub, Int.reduceMul, Int.reduceLT, Int.reduceLE, Int.reduceNeg, ↓reduceIte, reduceCtorEq]; (first | exact trivial | (repeat' (first | exact trivial | refine ⟨?_, ?_⟩ | exact Sub.int _ _ | exact Sub.bool _ | exact Sub.val _ | exact Sub.nil _ _ _ | exact Sub.ro (by simp) (fun _ _ _ _ => rfl) | exact Sub.own rfl rfl (Nat.le_refl _) (fun _ _ _ _ => Sub.int _ _) | exact Sub.fn (fun j hj => absurd hj (by omega)))))) ?_
          simp only [go_sem, Nat.reduceAdd, Nat.reduceSub, Nat.reduceMul, Nat.reduceMod, Nat.reduceDiv, Nat.reduceLT, Nat.reduceLeDiff, Nat.reduceEqDiff, Int.reduceToNat, Int.reduceAdd, Int.reduceSub, Int.reduceMul, Int.reduceLT, Int.reduceLE, Int.reduceNeg, ↓reduceIte, reduceCtorEq]
          refine O.run 1 (by simp only [go_sem, Nat.reduceAdd, Nat.reduceSub, Nat.reduceMul, Nat.reduceMod, Nat.reduceDiv, Nat.reduceLT, Nat.reduceLeDiff, Nat.reduceEqDiff, Int.reduceToNat, Int.reduceAdd, Int.reduceSub, Int.reduceMul, Int.reduceLT, Int.reduceLE, Int.reduceNeg, ↓reduceIte, reduceCtorEq]; with_reducible rfl) (by (first | exact trivial | omega | (simp; done) | (simp; omega) | (refine ⟨?_, ?_⟩ <;> omega))) ?_
          refine O.nil ?_
          refine G.keep [0, 5, 0, 0, 0] (by simp only [keepG]; rfl) ?_
          refine G.seq ?_
          -- region 11
          refine G.run fits (by simp only [go_sem, Nat.reduceAdd, Nat.reduceSub, Nat.reduceMul, Nat.reduceMod, Nat.reduceDiv, Nat.reduceLT, Nat.reduceLeDiff, Nat.reduceEqDiff, Int.reduceToNat, Int.reduceAdd, Int.reduceSub, Int.reduceMul, Int.reduceLT, Int.reduceLE, Int.reduceNeg, ↓reduceIte, reduceCtorEq]; with_reducible rfl) (by (first | exact trivial | omega | (simp; done) | (simp; omega) | (refine ⟨?_, ?_⟩ <;> omega))) ?_
          refine G.keep [0, 5, 0, 0, 0, 0] (by simp only [keepG]; rfl) ?_
          refine G.seq ?_
          -- region 12
          refine G.run fits (by simp only [go_sem, Nat.reduceAdd, Nat.reduceSub, Nat.reduceMul, Nat.reduceMod, Nat.reduceDiv, Nat.reduceLT, Nat.reduceLeDiff, Nat.reduceEqDiff, Int.reduceToNat, Int.reduceAdd, Int.reduceSub, Int.reduceMul, Int.reduceLT, Int.reduceLE, Int.reduceNeg, ↓reduceIte, reduceCtorEq]; with_reducible rfl) (by (first | exact trivial | omega | (simp; done) | (simp; omega) | (refine ⟨?_, ?_⟩ <;> omega))) ?_
          refine G.keep [0, 5, 0, 0, 0, 0] (by simp only [keepG]; rfl) ?_
          refine G.seq ?_
          refine G.seq ?_
          -- region 13
          refine G.draw fits mixed 7 (drawN_ok (by decide +kernel)) (by simp only [List.take_succ_cons, List.take_zero]; with_reducible rfl) (by simp only [List.drop_succ_cons, List.drop_zero]; with_reducible rfl) ?_
          refine D.run 7 (by simp only [go_sem, Nat.reduceAdd, Nat.reduceSub, Nat.reduceMul, Nat.reduceMod, Nat.reduceDiv, Nat.reduceLT, Nat.reduceLeDiff, Nat.reduceEqDiff, Int.reduceToNat, Int.reduceAdd, Int.reduceSub, Int.reduceMul, Int.reduceLT, Int.reduceLE, Int.reduceNeg, ↓reduceIte, reduceCtorEq]; with_reducible rfl) (by (first | exact trivial | omega | (simp; done) | (simp; omega) | (refine ⟨?_, ?_⟩ <;> omega))) ?_
          refine D.nil ?_
          refine O.nil ?_
          refine G.keep [0, 5, 0, 0, 0, 0, 29] (by simp only [keepG]; rfl) ?_
          refine G.cond (by simp only [go_sem, Nat.reduceAdd, Nat.reduceSub, Nat.reduceMul, Nat.reduceMod, Nat.reduceDiv, Nat.reduceLT, Nat.reduceLeDiff, Nat.reduceEqDiff, Int.reduceToNat, Int.reduceAdd, Int.reduceSub, Int.reduceMul, Int.reduceLT, Int.reduceLE, Int.reduceNeg, ↓reduceIte, reduceCtorEq]; with_reducible rfl) (fun hc40 => ?_) (fun hc40 => ?_)
          ·
            have hst2 : st = free.getD (kOf free) 0 := by
              have : (l.getD i .z).cell 0 < free.getD (kOf free) 0 := by simpa [-List.getD_eq_getElem?_getD] using hc40
              simp only [Cust.cell] at this
              omega
            -- region 14
            refine G.run fits (by simp only [go_sem, Nat.reduceAdd, Nat.reduceSub, Nat.reduceMul, Nat.reduceMod, Nat.reduceDiv, Nat.reduceLT, Nat.reduceLeDiff, Nat.reduceEqDiff, Int.reduceToNat, Int.reduceAdd, Int.reduceSub, Int.reduceMul, Int.reduceLT, Int.reduceLE, Int.reduceNeg, ↓reduceIte, reduceCtorEq]; with_reducible rfl) (by (first | exact trivial | omega | (simp; done) | (simp; omega) | (refine ⟨?_, ?_⟩ <;> omega))) ?_
            refine G.keep [0, 5, 0, 0, 0, 0] (by simp only [keepG]; rfl) ?_
            refine G.seq ?_
            -- region 15
            refine G.run fits (by simp only [go_sem, Nat.reduceAdd, Nat.reduceSub, Nat.reduceMul, Nat.reduceMod, Nat.reduceDiv, Nat.reduceLT, Nat.reduceLeDiff, Nat.reduceEqDiff, Int.reduceToNat, Int.reduceAdd, Int.reduceSub, Int.reduceMul, Int.reduceLT, Int.reduceLE, Int.reduceNeg, ↓reduceIte, reduceCtorEq]; with_reducible rfl) (by first | exact trivial | (simp only [Cust.cell]; omega) | (first | exact trivial | omega | (simp; done) | (simp; omega) | (refine ⟨?_, ?_⟩ <;> omega))) ?_
            refine G.keep [0, 5, 0, 0, 0, 0] (by simp only [keepG]; rfl) ?_
            refine G.seq ?_
            -- region 16
            refine G.run fits (by simp only [go_sem, Nat.reduceAdd, Nat.reduceSub, Nat.reduceMul, Nat.reduceMod, Nat.reduceDiv, Nat.reduceLT, Nat.reduceLeDiff, Nat.reduceEqDiff, Int.reduceToNat, Int.reduceAdd, Int.reduceSub, Int.reduceMul, Int.reduceLT, Int.reduceLE, Int.reduceNeg, ↓reduceIte, reduceCtorEq]; with_reducible rfl) (by (first | exact trivial | omega | (simp; done) | (simp; omega) | (refine ⟨?_, ?_⟩ <;> omega))) ?_
            refine G.keep [0, 5, 0, 0, 1] (by simp only [keepG]; rfl) ?_
            -- region 17
            refine G.run fits (by simp only [go_sem, Nat.reduceAdd, Nat.reduceSub, Nat.reduceMul, Nat.reduceMod, Nat.reduceDiv, Nat.reduceLT, Nat.reduceLeDiff, Nat.reduceEqDiff, Int.reduceToNat, Int.reduceAdd, Int.reduceSub, Int.reduceMul, Int.reduceLT, Int.reduceLE, Int.reduceNeg, ↓reduceIte, reduceCtorEq]; with_reducible rfl) (by (first | exact trivial | omega | (simp; done) | (simp; omega) | (refine ⟨?_, ?_⟩ <;> omega))) ?_
            refine G.endBlock ?_
            -- region 9
            refine G.run fits (by simp only [go_sem, Nat.reduceAdd, Nat.reduceSub, Nat.reduceMul, Nat.reduceMod, Nat.reduceDiv, Nat.reduceLT, Nat.reduceLeDiff, Nat.reduceEqDiff, Int.reduceToNat, Int.reduceAdd, Int.reduceSub, Int.reduceMul, Int.reduceLT, Int.reduceLE, Int.reduceNeg, ↓reduceIte, reduceCtorEq]; with_reducible rfl) (by (first | exact trivial | omega | (simp; done) | (simp; omega) | (refine ⟨?_, ?_⟩ <;> omega))) ?_
            refine G.endLoop ⟨i + 1, by omega, by omega, ?_⟩
            rw [hsucc]
            refine SLe.of ?_ ?_ ?_ ?_
            · simp [SlotsLe]
            · simp only [HeapLe]
              refine ⟨⟨trivial, trivial, by simp, fun i f hi hf => .inr ?_⟩, ⟨trivial, trivial, by simp, fun j f hi hf => .inr ?_⟩, trivial⟩
              · have hf0 : f = 0 := by simpa using hf
                subst hf0
                have hi' : i < free.length := by simpa using hi
                simp only [getD_set free _ _ _ hi']
                by_cases h : i = kOf free <;> simp [h, hst2, Cust.cell]
              · have hj' : j ≤ out.length := by simp at hi; omega
                rcases Nat.lt_or_eq_of_le hj' with h | h
                · simp [h, List.getD_eq_getElem?_getD, List.getElem?_append_left h]
                · subst h
                  have hf4 : f = 0 ∨ f = 1 ∨ f = 2 ∨ f = 3 := by have : f < 4 := hf; omega
                  rcases hf4 with rfl | rfl | rfl | rfl <;> simp [List.getD_eq_getElem?_getD, kill, Cust.cell, hst2]
            · simp [TagsIn]
            · simp [TagsIn]
          ·
            have hst2 : st = (l.getD i .z).arrive := by
              have : ¬ (l.getD i .z).cell 0 < free.getD (kOf free) 0 := by simpa [-List.getD_eq_getElem?_getD] using hc40
              simp only [Cust.cell] at this
              omega
            refine G.skip ?_
            refine G.seq ?_
            -- region 15
            refine G.run fits (by simp only [go_sem, Nat.reduceAdd, Nat.reduceSub, Nat.reduceMul, Nat.reduceMod, Nat.reduceDiv, Nat.reduceLT, Nat.reduceLeDiff, Nat.reduceEqDiff, Int.reduceToNat, Int.reduceAdd, Int.reduceSub, Int.reduceMul, Int.reduceLT, Int.reduceLE, Int.reduceNeg, ↓reduceIte, reduceCtorEq]; with_reducible rfl) (by first | exact trivial | (simp only [Cust.cell]; omega) | (first | exact trivial | omega | (simp; done) | (simp; omega) | (refine ⟨?_, ?_⟩ <;> omega))) ?_
            refine G.keep [0, 5, 0, 0, 0, 0] (by simp only [keepG]; rfl) ?_
            refine G.seq ?_
            -- region 16
            refine G.run fits (by simp only [go_sem, Nat.reduceAdd, Nat.reduceSub, Nat.reduceMul, Nat.reduceMod, Nat.reduceDiv, Nat.reduceLT, Nat.reduceLeDiff, Nat.reduceEqDiff, Int.reduceToNat, Int.reduceAdd, Int.reduceSub, Int.reduceMul, Int.reduceLT, Int.reduceLE, Int.reduceNeg, ↓reduceIte, reduceCtorEq]; with_reducible rfl) (by (first | exact trivial | omega | (simp; done) | (simp; omega) | (refine ⟨?_, ?_⟩ <;> omega))) ?_
            refine G.keep [0, 5, 0, 0, 1] (by simp only [keepG]; rfl) ?_
            -- region 17
            refine G.run fits (by simp only [go_sem, Nat.reduceAdd, Nat.reduceSub, Nat.reduceMul, Nat.reduceMod, Nat.reduceDiv, Nat.reduceLT, Nat.reduceLeDiff, Nat.reduceEqDiff, Int.reduceToNat, Int.reduceAdd, Int.reduceSub, Int.reduceMul, Int.reduceLT, Int.reduceLE, Int.reduceNeg, ↓reduceIte, reduceCtorEq]; with_reducible rfl) (by (first | exact trivial | omega | (simp; done) | (simp; omega) | (refine ⟨?_, ?_⟩ <;> omega))) ?_
            refine G.endBlock ?_
            -- region 9
            refine G.run fits (by simp only [go_sem, Nat.reduceAdd, Nat.reduceSub, Nat.reduceMul, Nat.reduceMod, Nat.reduceDiv, Nat.reduceLT, Nat.reduceLeDiff, Nat.reduceEqDiff, Int.reduceToNat, Int.reduceAdd, Int.reduceSub, Int.reduceMul, Int.reduceLT, Int.reduceLE, Int.reduceNeg, ↓reduceIte, reduceCtorEq]; with_reducible rfl) (by (first | exact trivial | omega | (simp; done) | (simp; omega) | (refine ⟨?_, ?_⟩ <;> omega))) ?_
            refine G.endLoop ⟨i + 1, by omega, by omega, ?_⟩
            rw [hsucc]
            refine SLe.of ?_ ?_ ?_ ?_
            · simp [SlotsLe]
            · simp only [HeapLe]
              refine ⟨⟨trivial, trivial, by simp, fun i f hi hf => .inr ?_⟩, ⟨trivial, trivial, by simp, fun j f hi hf => .inr ?_⟩, trivial⟩
              · have hf0 : f = 0 := by simpa using hf
                subst hf0
                have hi' : i < free.length := by simpa using hi
                simp only [getD_set free _ _ _ hi']
                by_cases h : i = kOf free <;> simp [h, hst2, Cust.cell]
              · have hj' : j ≤ out.length := by simp at hi; omega
                rcases Nat.lt_or_eq_of_le hj' with h | h
                · simp [h, List.getD_eq_getElem?_getD, List.getElem?_append_left h]
                · subst h
                  have hf4 : f = 0 ∨ f = 1 ∨ f = 2 ∨ f = 3 := by have : f < 4 := hf; omega
                  rcases hf4 with rfl | rfl | rfl | rfl <;> simp [List.getD_eq_getElem?_getD, kill, Cust.cell, hst2]
            · simp [TagsIn]
            · simp [TagsIn]
        ·
          refine G.exit rfl ?_
          refine G.seq ?_
          -- region 18
          refine G.run fits (by simp only [go_sem, Nat.reduceAdd, Nat.reduceSub, Nat.reduceMul, Nat.reduceMod, Nat.reduceDiv, Nat.reduceLT, Nat.reduceLeDiff, Nat.reduceEqDiff, Int.reduceToNat, Int.reduceAdd, Int.reduceSub, Int.reduceMul, Int.reduceLT, Int.reduceLE, Int.reduceNeg, ↓reduceIte, reduceCtorEq]; with_reducible rfl) (by (first | exact trivial | omega | (simp; done) | (simp; omega) | (refine ⟨?_, ?_⟩ <;> omega))) ?_
          refine G.keep [4, 0] (by simp only [keepG]; rfl) ?_
          refine G.ret ?_
          -- return 2
          refine Ret.of_sub fits [.tmp 4, .tmp 5] rfl [encC true (serveO l servers).1, .int .i64 (serveO l servers).2] ?_ (by simp [AllFresh, encC]) ⟨rfl, rfl⟩
          simp only [resSub, go_sem, Nat.reduceAdd, Nat.reduceSub, Nat.reduceMul, Nat.reduceMod, Nat.reduceDiv, Nat.reduceLT, Nat.reduceLeDiff, Nat.reduceEqDiff, Int.reduceToNat, Int.reduceAdd, Int.reduceSub, Int.reduceMul, Int.reduceLT, Int.reduceLE, Int.reduceNeg, ↓reduceIte, reduceCtorEq]
          have hge : l.length ≤ i := by simpa using hc22
          obtain rfl : i = l.length := by omega
          rw [hserve, hout]
          exact ⟨Sub.own rfl rfl (Nat.le_refl _) (fun _ _ _ _ => Sub.int _ _), Sub.int _ _⟩


end Go.Proofs.Ytocpeankecaabaa
