/-
  Contracts of Waits and of Valid, the program's and the reference's.
-/
import Derived.Test.YtocpeankecaabaaW6
import Derived.Test.YtocpeankecaabaaW7
set_option linter.all false
namespace Go.Proofs.Ytocpeankecaabaa
open Go.Abs Go.RowKit

def waitBad (c : Cust) : Bool := decide (c.start < c.arrive) || decide (4503599627370496 < c.start)
/-- What Waits returns. -/
def waitsO (l : List Cust) : List Int × Int := if properB l = true ∧ l.any waitBad = false then (l.map fun c => c.start - c.arrive, 0) else ([], 1)
def idxP (p : Cust → Bool) (l : List Cust) : Int := match (List.range l.length).find? (fun i => p (l.getD i .z)) with | some k => (k : Int) | none => -1

theorem idxP_at {p : Cust → Bool} {l : List Cust} {i : Nat} (hi : i < l.length) (h : ∀ j, j < i → p (l.getD j .z) = false) (hp : p (l.getD i .z) = true) : idxP p l = i := by
  have : (List.range l.length).find? (fun i => p (l.getD i .z)) = some i := by
    rw [List.find?_eq_some_iff_getElem]
    refine ⟨hp, i, by simpa using hi, by simp, fun j hj => ?_⟩
    simpa using h j hj
  unfold idxP
  rw [this]
theorem idxP_none {p : Cust → Bool} {l : List Cust} (h : ∀ j, j < l.length → p (l.getD j .z) = false) : idxP p l = -1 := by
  have : (List.range l.length).find? (fun i => p (l.getD i .z)) = none := by
    rw [List.find?_eq_none]
    intro j hj
    simpa using h j (List.mem_range.1 hj)
  unfold idxP
  rw [this]
theorem any_getD {p : Cust → Bool} {l : List Cust} : l.any p = true ↔ ∃ i, i < l.length ∧ p (l.getD i .z) = true := by
  rw [List.any_eq_true]
  constructor
  · rintro ⟨c, hc, hp⟩
    obtain ⟨i, hi, rfl⟩ := List.getElem_of_mem hc
    exact ⟨i, hi, by simpa [List.getD_eq_getElem?_getD, hi] using hp⟩
  · rintro ⟨i, hi, hp⟩
    refine ⟨l[i], List.getElem_mem hi, by simpa [List.getD_eq_getElem?_getD, hi] using hp⟩
theorem any_getD_false {p : Cust → Bool} {l : List Cust} (h : l.any p = false) {i : Nat} (hi : i < l.length) : p (l.getD i .z) = false := by
  cases hp : p (l.getD i .z) with
  | false => rfl
  | true => rw [any_getD.2 ⟨i, hi, hp⟩] at h; cases h
theorem idxP_any (p : Cust → Bool) (l : List Cust) : decide (0 ≤ idxP p l) = l.any p := by
  cases ha : l.any p with
  | false => rw [idxP_none (fun j hj => any_getD_false ha hj)]; rfl
  | true =>
    unfold idxP
    cases hf : (List.range l.length).find? (fun i => p (l.getD i .z)) with
    | some k => simp
    | none =>
      rw [List.find?_eq_none] at hf
      obtain ⟨i, hi, hp⟩ := any_getD.1 ha
      exact absurd hp (hf i (List.mem_range.2 hi))

def waitL (l : List Cust) : Nat → List Int
  | 0 => []
  | i + 1 => waitL l i ++ [(l.getD i .z).start - (l.getD i .z).arrive]
theorem waitL_len (l : List Cust) : ∀ i, (waitL l i).length = i
  | 0 => rfl
  | i + 1 => by simp [waitL, waitL_len l i]
theorem waitL_take (l : List Cust) : ∀ i, i ≤ l.length → waitL l i = (l.take i).map fun c => c.start - c.arrive
  | 0, _ => by simp [waitL]
  | i + 1, h => by
    rw [waitL, waitL_take l i (by omega), List.take_succ_eq_append_getElem (by omega), List.map_append]
    simp [-List.map_take, List.getD_eq_getElem?_getD, List.getElem?_eq_getElem (show i < l.length by omega)]

set_option maxRecDepth 10000

theorem waits1_con (c : Cust) : Con Try.prog 43 [.agg 4 (fun f => .int .i64 (c.cell f))] (isV (resA [.bool (waitBad c)])) := by
  refine Con.of_goes Try.func43 (by rfl) rfl (by simp [NoFresh]) (by simp only [Try.ntmps43, List.length_cons, List.length_nil, Nat.reduceAdd, Nat.reduceSub, List.replicate, List.cons_append, List.nil_append]; rfl) fun w0 => ?_
  refine G.seq ?_
  -- region 0
  refine G.run fits (by simp only [go_sem, Nat.reduceAdd, Nat.reduceSub, Nat.reduceMul, Nat.reduceMod, Nat.reduceDiv, Nat.reduceLT, Nat.reduceLeDiff, Nat.reduceEqDiff, Int.reduceToNat, Int.reduceAdd, Int.reduceSub, Int.reduceMul, Int.reduceLT, Int.reduceLE, Int.reduceNeg, ↓reduceIte, reduceCtorEq]; with_reducible rfl) (by (first | exact trivial | omega | (simp; done) | (simp; omega) | (refine ⟨?_, ?_⟩ <;> omega))) ?_
  refine G.keep [1] (by simp only [keepG]; rfl) ?_
  refine G.seq ?_
  -- region 1
  refine G.run fits (by simp only [go_sem, Nat.reduceAdd, Nat.reduceSub, Nat.reduceMul, Nat.reduceMod, Nat.reduceDiv, Nat.reduceLT, Nat.reduceLeDiff, Nat.reduceEqDiff, Int.reduceToNat, Int.reduceAdd, Int.reduceSub, Int.reduceMul, Int.reduceLT, Int.reduceLE, Int.reduceNeg, ↓reduceIte, reduceCtorEq]; with_reducible rfl) (by (first | exact trivial | omega | (simp; done) | (simp; omega) | (refine ⟨?_, ?_⟩ <;> omega))) ?_
  refine G.keep [2] (by simp only [keepG]; rfl) ?_
  refine G.ret ?_
  -- return 0
  refine Ret.of_sub fits [.tmp 2] rfl [.bool (waitBad c)] ?_ (by simp [AllFresh]) ⟨rfl, rfl⟩
  simp only [resSub, go_sem, Nat.reduceAdd, Nat.reduceSub, Nat.reduceMul, Nat.reduceMod, Nat.reduceDiv, Nat.reduceLT, Nat.reduceLeDiff, Nat.reduceEqDiff, Int.reduceToNat, Int.reduceAdd, Int.reduceSub, Int.reduceMul, Int.reduceLT, Int.reduceLE, Int.reduceNeg, ↓reduceIte, reduceCtorEq]
  exact Sub.bool _


theorem indexFunc_con (p : Cust → Bool) (fe : FuncId) (caps : Nat → AV) (l : List Cust) (hl : l.length ≤ 9223372036854775807) (hf : ∀ c, Con Try.prog fe [.agg 4 (fun f => .int .i64 (c.cell f))] (isV (.bool (p c)))) : Con Try.prog 61 [encC false l, .fn fe 0 caps] (isV (resA [.int .i64 (idxP p l)])) := by
  refine Con.of_goes Try.func61 (by rfl) rfl (by simp [NoFresh, noFresh_encC]) (by simp only [Try.ntmps61, List.length_cons, List.length_nil, Nat.reduceAdd, Nat.reduceSub, List.replicate, List.cons_append, List.nil_append]; rfl) fun w0 => ?_
  unfold encC
  refine G.seq ?_
  -- region 0
  refine G.run fits (by simp only [go_sem, Nat.reduceAdd, Nat.reduceSub, Nat.reduceMul, Nat.reduceMod, Nat.reduceDiv, Nat.reduceLT, Nat.reduceLeDiff, Nat.reduceEqDiff, Int.reduceToNat, Int.reduceAdd, Int.reduceSub, Int.reduceMul, Int.reduceLT, Int.reduceLE, Int.reduceNeg, ↓reduceIte, reduceCtorEq]; with_reducible rfl) (by (first | exact trivial | omega | (simp; done) | (simp; omega) | (refine ⟨?_, ?_⟩ <;> omega))) ?_
  refine G.keep [0, 0] (by simp only [keepG]; rfl) ?_
  refine G.seq ?_
  refine G.seq ?_
  -- region 1
  refine G.run fits (by simp only [go_sem, Nat.reduceAdd, Nat.reduceSub, Nat.reduceMul, Nat.reduceMod, Nat.reduceDiv, Nat.reduceLT, Nat.reduceLeDiff, Nat.reduceEqDiff, Int.reduceToNat, Int.reduceAdd, Int.reduceSub, Int.reduceMul, Int.reduceLT, Int.reduceLE, Int.reduceNeg, ↓reduceIte, reduceCtorEq]; with_reducible rfl) (by (first | exact trivial | omega | (simp; done) | (simp; omega) | (refine ⟨?_, ?_⟩ <;> omega))) ?_
  refine G.keep [0, 0, 5, 0] (by simp only [keepG]; rfl) ?_
  refine G.block ?_
  refine G.loop (ι := Nat) (fun i => ⟨[encC false l, .fn fe 0 caps, .any, .any, .any, .any, .any, .int .i64 l.length, .int .i64 i, .any, .any, .any, .any, .any, .any, .any, .any, .any, .any], []⟩) (fun i => i ≤ l.length ∧ ∀ j, j < i → p (l.getD j .z) = false) (fun i => l.length - i) 0 (by simp) ?_ fun i hi => ?_
  ·
    unfold encC; (refine SLe.of (by simp only [SlotsLe]; (simp (disch := omega) [Int.natCast_add])) (by simp [HeapLe]) (by simp [TagsIn]) (by simp [TagsIn]))
  ·
    obtain ⟨hi, hgood⟩ := hi
    unfold encC
    refine G.seq ?_
    -- region 2
    refine G.run fits (by simp only [go_sem, Nat.reduceAdd, Nat.reduceSub, Nat.reduceMul, Nat.reduceMod, Nat.reduceDiv, Nat.reduceLT, Nat.reduceLeDiff, Nat.reduceEqDiff, Int.reduceToNat, Int.reduceAdd, Int.reduceSub, Int.reduceMul, Int.reduceLT, Int.reduceLE, Int.reduceNeg, ↓reduceIte, reduceCtorEq]; with_reducible rfl) (by (first | exact trivial | omega | (simp; done) | (simp; omega) | (refine ⟨?_, ?_⟩ <;> omega))) ?_
    refine G.keep [0, 0, 5, 0, 0] (by simp only [keepG]; rfl) ?_
    refine G.seq ?_
    refine G.cond (by simp only [go_sem, Nat.reduceAdd, Nat.reduceSub, Nat.reduceMul, Nat.reduceMod, Nat.reduceDiv, Nat.reduceLT, Nat.reduceLeDiff, Nat.reduceEqDiff, Int.reduceToNat, Int.reduceAdd, Int.reduceSub, Int.reduceMul, Int.reduceLT, Int.reduceLE, Int.reduceNeg, ↓reduceIte, reduceCtorEq]; with_reducible rfl) (fun hc9 => ?_) (fun hc9 => ?_)
    ·
      have hlt : i < l.length := by simpa using hc9
      refine G.skip ?_
      refine G.seq ?_
      refine G.block ?_
      refine G.seq ?_
      -- region 3
      refine G.run fits (by simp only [go_sem, Nat.reduceAdd, Nat.reduceSub, Nat.reduceMul, Nat.reduceMod, Nat.reduceDiv, Nat.reduceLT, Nat.reduceLeDiff, Nat.reduceEqDiff, Int.reduceToNat, Int.reduceAdd, Int.reduceSub, Int.reduceMul, Int.reduceLT, Int.reduceLE, Int.reduceNeg, ↓reduceIte, reduceCtorEq]; with_reducible rfl) (by (first | exact trivial | omega | (simp; done) | (simp; omega) | (refine ⟨?_, ?_⟩ <;> omega))) ?_
      refine G.keep [0, 0, 3, 1, 0] (by simp only [keepG]; rfl) ?_
      refine G.seq ?_
      -- region 4
      refine G.ops fits ?_
      refine O.run 5 (by simp only [go_sem, Nat.reduceAdd, Nat.reduceSub, Nat.reduceMul, Nat.reduceMod, Nat.reduceDiv, Nat.reduceLT, Nat.reduceLeDiff, Nat.reduceEqDiff, Int.reduceToNat, Int.reduceAdd, Int.reduceSub, Int.reduceMul, Int.reduceLT, Int.reduceLE, Int.reduceNeg, ↓reduceIte, reduceCtorEq]; with_reducible rfl) (by (first | exact trivial | omega | (simp; done) | (simp; omega) | (refine ⟨?_, ?_⟩ <;> omega))) ?_
      refine O.call (by simp only [go_sem, Nat.reduceAdd, Nat.reduceSub, Nat.reduceMul, Nat.reduceMod, Nat.reduceDiv, Nat.reduceLT, Nat.reduceLeDiff, Nat.reduceEqDiff, Int.reduceToNat, Int.reduceAdd, Int.reduceSub, Int.reduceMul, Int.reduceLT, Int.reduceLE, Int.reduceNeg, ↓reduceIte, reduceCtorEq]; with_reducible rfl) (hf (l.getD i .z)) (by simp [go_sem, Nat.reduceAdd, Nat.reduceSub, Nat.reduceMul, Nat.reduceMod, Nat.reduceDiv, Nat.reduceLT, Nat.reduceLeDiff, Nat.reduceEqDiff, Int.reduceToNat, Int.reduceAdd, Int.reduceSub, Int.reduceMul, Int.reduceLT, Int.reduceLE, Int.reduceNeg, ↓reduceIte, reduceCtorEq]) (by simp only [SubL, go_sem, Nat.reduceAdd, Nat.reduceSub, Nat.reduceMul, Nat.reduceMod, Nat.reduceDiv, Nat.reduceLT, Nat.reduceLeDiff, Nat.reduceEqDiff, Int.reduceToNat, Int.reduceAdd, Int.reduceSub, Int.reduceMul, Int.reduceLT, Int.reduceLE, Int.reduceNeg, ↓reduceIte, reduceCtorEq]; exact Sub.agg fun _ _ => Sub.int _ _) ?_
      simp only [go_sem, Nat.reduceAdd, Nat.reduceSub, Nat.reduceMul, Nat.reduceMod, Nat.reduceDiv, Nat.reduceLT, Nat.reduceLeDiff, Nat.reduceEqDiff, Int.reduceToNat, Int.reduceAdd, Int.reduceSub, Int.reduceMul, Int.reduceLT, Int.reduceLE, Int.reduceNeg, ↓reduceIte, reduceCtorEq]
      refine O.nil ?_
      refine G.keep [0, 0, 3, 1, 0, 7] (by simp only [keepG]; rfl) ?_
      refine G.cond (by simp only [go_sem, Nat.reduceAdd, Nat.reduceSub, Nat.reduceMul, Nat.reduceMod, Nat.reduceDiv, Nat.reduceLT, Nat.reduceLeDiff, Nat.reduceEqDiff, Int.reduceToNat, Int.reduceAdd, Int.reduceSub, Int.reduceMul, Int.reduceLT, Int.reduceLE, Int.reduceNeg, ↓reduceIte, reduceCtorEq]; with_reducible rfl) (fun hc16 => ?_) (fun hc16 => ?_)
      ·
        refine G.seq ?_
        -- region 5
        refine G.run fits (by simp only [go_sem, Nat.reduceAdd, Nat.reduceSub, Nat.reduceMul, Nat.reduceMod, Nat.reduceDiv, Nat.reduceLT, Nat.reduceLeDiff, Nat.reduceEqDiff, Int.reduceToNat, Int.reduceAdd, Int.reduceSub, Int.reduceMul, Int.reduceLT, Int.reduceLE, Int.reduceNeg, ↓reduceIte, reduceCtorEq]; with_reducible rfl) (by (first | exact trivial | omega | (simp; done) | (simp; omega) | (refine ⟨?_, ?_⟩ <;> omega))) ?_
        refine G.keep [4] (by simp only [keepG]; rfl) ?_
        refine G.ret ?_
        -- return 0
        refine Ret.of_sub fits [.tmp 4] rfl [.int .i64 (idxP p l)] ?_ (by simp [AllFresh]) ⟨rfl, rfl⟩
        simp only [resSub, go_sem, Nat.reduceAdd, Nat.reduceSub, Nat.reduceMul, Nat.reduceMod, Nat.reduceDiv, Nat.reduceLT, Nat.reduceLeDiff, Nat.reduceEqDiff, Int.reduceToNat, Int.reduceAdd, Int.reduceSub, Int.reduceMul, Int.reduceLT, Int.reduceLE, Int.reduceNeg, ↓reduceIte, reduceCtorEq]
        rw [idxP_at hlt hgood (by simpa using hc16)]
        exact Sub.int _ _
      ·
        refine G.skip ?_
        refine G.endBlock ?_
        -- region 6
        refine G.run fits (by simp only [go_sem, Nat.reduceAdd, Nat.reduceSub, Nat.reduceMul, Nat.reduceMod, Nat.reduceDiv, Nat.reduceLT, Nat.reduceLeDiff, Nat.reduceEqDiff, Int.reduceToNat, Int.reduceAdd, Int.reduceSub, Int.reduceMul, Int.reduceLT, Int.reduceLE, Int.reduceNeg, ↓reduceIte, reduceCtorEq]; with_reducible rfl) (by (first | exact trivial | omega | (simp; done) | (simp; omega) | (refine ⟨?_, ?_⟩ <;> omega))) ?_
        refine G.endLoop ⟨i + 1, ⟨by omega, fun j hj => ?_⟩, by omega, ?_⟩
        · rcases Nat.lt_or_eq_of_le (Nat.le_of_lt_succ hj) with h | h
          · exact hgood j h
          · subst h; simpa using hc16
        · (refine SLe.of (by simp only [SlotsLe]; (simp (disch := omega) [Int.natCast_add])) (by simp [HeapLe]) (by simp [TagsIn]) (by simp [TagsIn]))
    ·
      refine G.exit rfl ?_
      refine G.seq ?_
      -- region 7
      refine G.run fits (by simp only [go_sem, Nat.reduceAdd, Nat.reduceSub, Nat.reduceMul, Nat.reduceMod, Nat.reduceDiv, Nat.reduceLT, Nat.reduceLeDiff, Nat.reduceEqDiff, Int.reduceToNat, Int.reduceAdd, Int.reduceSub, Int.reduceMul, Int.reduceLT, Int.reduceLE, Int.reduceNeg, ↓reduceIte, reduceCtorEq]; with_reducible rfl) (by (first | exact trivial | omega | (simp; done) | (simp; omega) | (refine ⟨?_, ?_⟩ <;> omega))) ?_
      refine G.keep [4] (by simp only [keepG]; rfl) ?_
      refine G.ret ?_
      -- return 1
      refine Ret.of_sub fits [.tmp 4] rfl [.int .i64 (idxP p l)] ?_ (by simp [AllFresh]) ⟨rfl, rfl⟩
      simp only [resSub, go_sem, Nat.reduceAdd, Nat.reduceSub, Nat.reduceMul, Nat.reduceMod, Nat.reduceDiv, Nat.reduceLT, Nat.reduceLeDiff, Nat.reduceEqDiff, Int.reduceToNat, Int.reduceAdd, Int.reduceSub, Int.reduceMul, Int.reduceLT, Int.reduceLE, Int.reduceNeg, ↓reduceIte, reduceCtorEq]
      have hge : l.length ≤ i := by simpa using hc9
      rw [idxP_none (fun j hj => hgood j (by omega))]
      exact Sub.int _ _


theorem containsFunc_con (p : Cust → Bool) (fe : FuncId) (caps : Nat → AV) (l : List Cust) (hl : l.length ≤ 9223372036854775807) (hf : ∀ c, Con Try.prog fe [.agg 4 (fun f => .int .i64 (c.cell f))] (isV (.bool (p c)))) : Con Try.prog 42 [encC false l, .fn fe 0 caps] (isV (resA [.bool (l.any p)])) := by
  refine Con.of_goes Try.func42 (by rfl) rfl (by simp [NoFresh, noFresh_encC]) (by simp only [Try.ntmps42, List.length_cons, List.length_nil, Nat.reduceAdd, Nat.reduceSub, List.replicate, List.cons_append, List.nil_append]; rfl) fun w0 => ?_
  unfold encC
  refine G.seq ?_
  -- region 0
  refine G.run fits (by simp only [go_sem, Nat.reduceAdd, Nat.reduceSub, Nat.reduceMul, Nat.reduceMod, Nat.reduceDiv, Nat.reduceLT, Nat.reduceLeDiff, Nat.reduceEqDiff, Int.reduceToNat, Int.reduceAdd, Int.reduceSub, Int.reduceMul, Int.reduceLT, Int.reduceLE, Int.reduceNeg, ↓reduceIte, reduceCtorEq]; with_reducible rfl) (by (first | exact trivial | omega | (simp; done) | (simp; omega) | (refine ⟨?_, ?_⟩ <;> omega))) ?_
  refine G.keep [0, 0] (by simp only [keepG]; rfl) ?_
  refine G.seq ?_
  -- region 1
  refine G.ops fits ?_
  refine O.run 2 (by simp only [go_sem, Nat.reduceAdd, Nat.reduceSub, Nat.reduceMul, Nat.reduceMod, Nat.reduceDiv, Nat.reduceLT, Nat.reduceLeDiff, Nat.reduceEqDiff, Int.reduceToNat, Int.reduceAdd, Int.reduceSub, Int.reduceMul, Int.reduceLT, Int.reduceLE, Int.reduceNeg, ↓reduceIte, reduceCtorEq]; with_reducible rfl) (by (first | exact trivial | omega | (simp; done) | (simp; omega) | (refine ⟨?_, ?_⟩ <;> omega))) ?_
  refine O.call (by simp only [go_sem, Nat.reduceAdd, Nat.reduceSub, Nat.reduceMul, Nat.reduceMod, Nat.reduceDiv, Nat.reduceLT, Nat.reduceLeDiff, Nat.reduceEqDiff, Int.reduceToNat, Int.reduceAdd, Int.reduceSub, Int.reduceMul, Int.reduceLT, Int.reduceLE, Int.reduceNeg, ↓reduceIte, reduceCtorEq]; with_reducible rfl) (indexFunc_con p fe caps l hl hf) (by simp [go_sem, Nat.reduceAdd, Nat.reduceSub, Nat.reduceMul, Nat.reduceMod, Nat.reduceDiv, Nat.reduceLT, Nat.reduceLeDiff, Nat.reduceEqDiff, Int.reduceToNat, Int.reduceAdd, Int.reduceSub, Int.reduceMul, Int.reduceLT, Int.reduceLE, Int.reduceNeg, ↓reduceIte, reduceCtorEq]) (by simp only [SubL, go_sem, Nat.reduceAdd, Nat.reduceSub, Nat.reduceMul, Nat.reduceMod, Nat.reduceDiv, Nat.reduceLT, Nat.reduceLeDiff, Nat.reduceEqDiff, Int.reduceToNat, Int.reduceAdd, Int.reduceSub, Int.reduceMul, Int.reduceLT, Int.reduceLE, Int.reduceNeg, ↓reduceIte, reduceCtorEq]; (first | exact trivial | (repeat' (first | exact trivial | refine ⟨?_, ?_⟩ | exact Sub.int _ _ | exact Sub.bool _ | exact Sub.val _ | exact Sub.nil _ _ _ | exact Sub.ro (by simp) (fun _ _ _ _ => rfl) | exact Sub.own rfl rfl (Nat.le_refl _) (fun _ _ _ _ => Sub.int _ _) | exact Sub.fn (fun j hj => absurd hj (by omega)))))) ?_
  simp only [go_sem, Nat.reduceAdd, Nat.reduceSub, Nat.reduceMul, Nat.reduceMod, Nat.reduceDiv, Nat.reduceLT, Nat.reduceLeDiff, Nat.reduceEqDiff, Int.reduceToNat, Int.reduceAdd, Int.reduceSub, Int.reduceMul, Int.reduceLT, Int.reduceLE, Int.reduceNeg, ↓reduceIte, reduceCtorEq]
  refine O.run 2 (by simp only [go_sem, Nat.reduceAdd, Nat.reduceSub, Nat.reduceMul, Nat.reduceMod, Nat.reduceDiv, Nat.reduceLT, Nat.reduceLeDiff, Nat.reduceEqDiff, Int.reduceToNat, Int.reduceAdd, Int.reduceSub, Int.reduceMul, Int.reduceLT, Int.reduceLE, Int.reduceNeg, ↓reduceIte, reduceCtorEq]; with_reducible rfl) (by (first | exact trivial | omega | (simp; done) | (simp; omega) | (refine ⟨?_, ?_⟩ <;> omega))) ?_
  refine O.nil ?_
  refine G.keep [4] (by simp only [keepG]; rfl) ?_
  refine G.ret ?_
  -- return 0
  refine Ret.of_sub fits [.tmp 4] rfl [.bool (l.any p)] ?_ (by simp [AllFresh]) ⟨rfl, rfl⟩
  simp only [resSub, go_sem, Nat.reduceAdd, Nat.reduceSub, Nat.reduceMul, Nat.reduceMod, Nat.reduceDiv, Nat.reduceLT, Nat.reduceLeDiff, Nat.reduceEqDiff, Int.reduceToNat, Int.reduceAdd, Int.reduceSub, Int.reduceMul, Int.reduceLT, Int.reduceLE, Int.reduceNeg, ↓reduceIte, reduceCtorEq]
  exact (Sub.bool _).of_eq (by rw [idxP_any])


theorem waits_con (l : List Cust) (hl : l.length ≤ 9223372036854775807) : Con Try.prog 16 [encC false l] (isV (resA [encI true (waitsO l).1, .int .i64 (waitsO l).2])) := by
  refine Con.of_goes Try.func16 (by rfl) rfl (by simp [NoFresh, noFresh_encC]) (by simp only [Try.ntmps16, List.length_cons, List.length_nil, Nat.reduceAdd, Nat.reduceSub, List.replicate, List.cons_append, List.nil_append]; rfl) fun w0 => ?_
  unfold encC
  refine G.seq ?_
  -- region 0
  refine G.run fits (by simp only [go_sem, Nat.reduceAdd, Nat.reduceSub, Nat.reduceMul, Nat.reduceMod, Nat.reduceDiv, Nat.reduceLT, Nat.reduceLeDiff, Nat.reduceEqDiff, Int.reduceToNat, Int.reduceAdd, Int.reduceSub, Int.reduceMul, Int.reduceLT, Int.reduceLE, Int.reduceNeg, ↓reduceIte, reduceCtorEq]; with_reducible rfl) (by (first | exact trivial | omega | (simp; done) | (simp; omega) | (refine ⟨?_, ?_⟩ <;> omega))) ?_
  refine G.keep [0] (by simp only [keepG]; rfl) ?_
  refine G.seq ?_
  refine G.seq ?_
  -- region 1
  refine G.ops fits ?_
  refine O.run 1 (by simp only [go_sem, Nat.reduceAdd, Nat.reduceSub, Nat.reduceMul, Nat.reduceMod, Nat.reduceDiv, Nat.reduceLT, Nat.reduceLeDiff, Nat.reduceEqDiff, Int.reduceToNat, Int.reduceAdd, Int.reduceSub, Int.reduceMul, Int.reduceLT, Int.reduceLE, Int.reduceNeg, ↓reduceIte, reduceCtorEq]; with_reducible rfl) (by (first | exact trivial | omega | (simp; done) | (simp; omega) | (refine ⟨?_, ?_⟩ <;> omega))) ?_
  refine O.call (by simp only [go_sem, Nat.reduceAdd, Nat.reduceSub, Nat.reduceMul, Nat.reduceMod, Nat.reduceDiv, Nat.reduceLT, Nat.reduceLeDiff, Nat.reduceEqDiff, Int.reduceToNat, Int.reduceAdd, Int.reduceSub, Int.reduceMul, Int.reduceLT, Int.reduceLE, Int.reduceNeg, ↓reduceIte, reduceCtorEq]; with_reducible rfl) (simulate_proper_con l hl) (by simp [go_sem, Nat.reduceAdd, Nat.reduceSub, Nat.reduceMul, Nat.reduceMod, Nat.reduceDiv, Nat.reduceLT, Nat.reduceLeDiff, Nat.reduceEqDiff, Int.reduceToNat, Int.reduceAdd, Int.reduceSub, Int.reduceMul, Int.reduceLT, Int.reduceLE, Int.reduceNeg, ↓reduceIte, reduceCtorEq]) (by simp only [SubL, go_sem, Nat.reduceAdd, Nat.reduceSub, Nat.reduceMul, Nat.reduceMod, Nat.reduceDiv, Nat.reduceLT, Nat.reduceLeDiff, Nat.reduceEqDiff, Int.reduceToNat, Int.reduceAdd, Int.reduceSub, Int.reduceMul, Int.reduceLT, Int.reduceLE, Int.reduceNeg, ↓reduceIte, reduceCtorEq]; (first | exact trivial | (repeat' (first | exact trivial | refine ⟨?_, ?_⟩ | exact Sub.int _ _ | exact Sub.bool _ | exact Sub.val _ | exact Sub.nil _ _ _ | exact Sub.ro (by simp) (fun _ _ _ _ => rfl) | exact Sub.own rfl rfl (Nat.le_refl _) (fun _ _ _ _ => Sub.int _ _) | exact Sub.fn (fun j hj => absurd hj (by omega)))))) ?_
  simp only [go_sem, Nat.reduceAdd, Nat.reduceSub, Nat.reduceMul, Nat.reduceMod, Nat.reduceDiv, Nat.reduceLT, Nat.reduceLeDiff, Nat.reduceEqDiff, Int.reduceToNat, Int.reduceAdd, Int.reduceSub, Int.reduceMul, Int.reduceLT, Int.reduceLE, Int.reduceNeg, ↓reduceIte, reduceCtorEq]
  refine O.run 3 (by simp only [go_sem, Nat.reduceAdd, Nat.reduceSub, Nat.reduceMul, Nat.reduceMod, Nat.reduceDiv, Nat.reduceLT, Nat.reduceLeDiff, Nat.reduceEqDiff, Int.reduceToNat, Int.reduceAdd, Int.reduceSub, Int.reduceMul, Int.reduceLT, Int.reduceLE, Int.reduceNeg, ↓reduceIte, reduceCtorEq]; with_reducible rfl) (by (first | exact trivial | omega | (simp; done) | (simp; omega) | (refine ⟨?_, ?_⟩ <;> omega))) ?_
  refine O.callG (by simp only [go_sem, Nat.reduceAdd, Nat.reduceSub, Nat.reduceMul, Nat.reduceMod, Nat.reduceDiv, Nat.reduceLT, Nat.reduceLeDiff, Nat.reduceEqDiff, Int.reduceToNat, Int.reduceAdd, Int.reduceSub, Int.reduceMul, Int.reduceLT, Int.reduceLE, Int.reduceNeg, ↓reduceIte, reduceCtorEq]; with_reducible rfl) (by simp only [go_sem, Nat.reduceAdd, Nat.reduceSub, Nat.reduceMul, Nat.reduceMod, Nat.reduceDiv, Nat.reduceLT, Nat.reduceLeDiff, Nat.reduceEqDiff, Int.reduceToNat, Int.reduceAdd, Int.reduceSub, Int.reduceMul, Int.reduceLT, Int.reduceLE, Int.reduceNeg, ↓reduceIte, reduceCtorEq]; with_reducible rfl) (fun hg => containsFunc_con waitBad 43 (fun _ => .any) l hl waits1_con) (fun hg => by first | (simp [go_sem, Nat.reduceAdd, Nat.reduceSub, Nat.reduceMul, Nat.reduceMod, Nat.reduceDiv, Nat.reduceLT, Nat.reduceLeDiff, Nat.reduceEqDiff, Int.reduceToNat, Int.reduceAdd, Int.reduceSub, Int.reduceMul, Int.reduceLT, Int.reduceLE, Int.reduceNeg, ↓reduceIte, reduceCtorEq]; done) | (simpa [go_sem, Nat.reduceAdd, Nat.reduceSub, Nat.reduceMul, Nat.reduceMod, Nat.reduceDiv, Nat.reduceLT, Nat.reduceLeDiff, Nat.reduceEqDiff, Int.reduceToNat, Int.reduceAdd, Int.reduceSub, Int.reduceMul, Int.reduceLT, Int.reduceLE, Int.reduceNeg, ↓reduceIte, reduceCtorEq] using hg)) (fun hg => by simp only [SubL, go_sem, Nat.reduceAdd, Nat.reduceSub, Nat.reduceMul, Nat.reduceMod, Nat.reduceDiv, Nat.reduceLT, Nat.reduceLeDiff, Nat.reduceEqDiff, Int.reduceToNat, Int.reduceAdd, Int.reduceSub, Int.reduceMul, Int.reduceLT, Int.reduceLE, Int.reduceNeg, ↓reduceIte, reduceCtorEq]; (first | exact trivial | (repeat' (first | exact trivial | refine ⟨?_, ?_⟩ | exact Sub.int _ _ | exact Sub.bool _ | exact Sub.val _ | exact Sub.nil _ _ _ | exact Sub.ro (by simp) (fun _ _ _ _ => rfl) | exact Sub.own rfl rfl (Nat.le_refl _) (fun _ _ _ _ => Sub.int _ _) | exact Sub.fn (fun j hj => absurd hj (by omega)))))) ?_
  simp only [go_sem, Nat.reduceAdd, Nat.reduceSub, Nat.reduceMul, Nat.reduceMod, Nat.reduceDiv, Nat.reduceLT, Nat.reduceLeDiff, Nat.reduceEqDiff, Int.reduceToNat, Int.reduceAdd, Int.reduceSub, Int.reduceMul, Int.reduceLT, Int.reduceLE, Int.reduceNeg, ↓reduceIte, reduceCtorEq]
  refine O.run 1 (by simp only [go_sem, Nat.reduceAdd, Nat.reduceSub, Nat.reduceMul, Nat.reduceMod, Nat.reduceDiv, Nat.reduceLT, Nat.reduceLeDiff, Nat.reduceEqDiff, Int.reduceToNat, Int.reduceAdd, Int.reduceSub, Int.reduceMul, Int.reduceLT, Int.reduceLE, Int.reduceNeg, ↓reduceIte, reduceCtorEq]; with_reducible rfl) (by (first | exact trivial | omega | (simp; done) | (simp; omega) | (refine ⟨?_, ?_⟩ <;> omega))) ?_
  refine O.nil ?_
  refine G.keep [0, 12] (by simp only [keepG]; rfl) ?_
  refine G.cond (by simp only [go_sem, Nat.reduceAdd, Nat.reduceSub, Nat.reduceMul, Nat.reduceMod, Nat.reduceDiv, Nat.reduceLT, Nat.reduceLeDiff, Nat.reduceEqDiff, Int.reduceToNat, Int.reduceAdd, Int.reduceSub, Int.reduceMul, Int.reduceLT, Int.reduceLE, Int.reduceNeg, ↓reduceIte, reduceCtorEq]; with_reducible rfl) (fun hc13 => ?_) (fun hc13 => ?_)
  ·
    refine G.seq ?_
    -- region 2
    refine G.run fits (by simp only [go_sem, Nat.reduceAdd, Nat.reduceSub, Nat.reduceMul, Nat.reduceMod, Nat.reduceDiv, Nat.reduceLT, Nat.reduceLeDiff, Nat.reduceEqDiff, Int.reduceToNat, Int.reduceAdd, Int.reduceSub, Int.reduceMul, Int.reduceLT, Int.reduceLE, Int.reduceNeg, ↓reduceIte, reduceCtorEq]; with_reducible rfl) (by (first | exact trivial | omega | (simp; done) | (simp; omega) | (refine ⟨?_, ?_⟩ <;> omega))) ?_
    refine G.keep [2, 0] (by simp only [keepG]; rfl) ?_
    refine G.ret ?_
    -- return 0
    refine Ret.of_sub fits [.tmp 2, .tmp 3] rfl [encI true (waitsO l).1, .int .i64 (waitsO l).2] ?_ (by simp [AllFresh, encI]) ⟨rfl, rfl⟩
    simp only [resSub, go_sem, Nat.reduceAdd, Nat.reduceSub, Nat.reduceMul, Nat.reduceMod, Nat.reduceDiv, Nat.reduceLT, Nat.reduceLeDiff, Nat.reduceEqDiff, Int.reduceToNat, Int.reduceAdd, Int.reduceSub, Int.reduceMul, Int.reduceLT, Int.reduceLE, Int.reduceNeg, ↓reduceIte, reduceCtorEq]
    rw [show waitsO l = ([], 1) by unfold waitsO; rw [if_neg]; intro h; simp [h.1, h.2] at hc13]
    exact ⟨Sub.nil _ _ _, Sub.int _ _⟩
  ·
    have hp : properB l = true := by cases h : properB l with
      | true => rfl
      | false => rw [h] at hc13; simp at hc13
    have hnb : l.any waitBad = false := by rw [hp] at hc13; simpa [-List.any_eq_false] using hc13
    have hl1 := (properB_at hp).1
    refine G.skip ?_
    refine G.seq ?_
    -- region 3
    refine G.run fits (by simp only [go_sem, Nat.reduceAdd, Nat.reduceSub, Nat.reduceMul, Nat.reduceMod, Nat.reduceDiv, Nat.reduceLT, Nat.reduceLeDiff, Nat.reduceEqDiff, Int.reduceToNat, Int.reduceAdd, Int.reduceSub, Int.reduceMul, Int.reduceLT, Int.reduceLE, Int.reduceNeg, ↓reduceIte, reduceCtorEq]; with_reducible rfl) (by (first | exact trivial | omega | (simp; done) | (simp; omega) | (refine ⟨?_, ?_⟩ <;> omega))) ?_
    refine G.keep [0, 3] (by simp only [keepG]; rfl) ?_
    refine G.seq ?_
    refine G.seq ?_
    -- region 4
    refine G.run fits (by simp only [go_sem, Nat.reduceAdd, Nat.reduceSub, Nat.reduceMul, Nat.reduceMod, Nat.reduceDiv, Nat.reduceLT, Nat.reduceLeDiff, Nat.reduceEqDiff, Int.reduceToNat, Int.reduceAdd, Int.reduceSub, Int.reduceMul, Int.reduceLT, Int.reduceLE, Int.reduceNeg, ↓reduceIte, reduceCtorEq]; with_reducible rfl) (by (first | exact trivial | omega | (simp; done) | (simp; omega) | (refine ⟨?_, ?_⟩ <;> omega))) ?_
    refine G.keep [4, 9, 0, 0] (by simp only [keepG]; rfl) ?_
    refine G.block ?_
    refine G.loop (ι := Nat) (fun i => ⟨[.any, .any, .any, .any, .own 0 1 (waitL l i).length, .any, .any, .any, .any, .any, .any, .any, .any, .any, encC false l, .int .i64 l.length, .int .i64 i, .any, .any, .any, .any, .any, .any, .any, .any, .any, .any, .any, .any, .any], [objI (waitL l i)]⟩) (fun i => i ≤ l.length) (fun i => l.length - i) 0 (by simp) ?_ fun i hi => ?_
    ·
      refine (SLe.nil 4 (objI []) rfl rfl).trans (SLe.of ?_ ?_ ?_ ?_)
      · simp [SlotsLe, objI, encC, waitL]
      · exact ⟨⟨rfl, rfl, rfl, fun i f hi hf => by simp [objI, waitL] at hi⟩, trivial⟩
      · simp [TagsIn, encC]
      · simp [TagsIn, objI]
    ·
      have hlen := waitL_len l i
      have hsucc : waitL l (i + 1) = waitL l i ++ [(l.getD i .z).start - (l.getD i .z).arrive] := rfl
      generalize hm : waitL l i = m at *
      unfold encC objI
      refine G.seq ?_
      -- region 5
      refine G.run fits (by simp only [go_sem, Nat.reduceAdd, Nat.reduceSub, Nat.reduceMul, Nat.reduceMod, Nat.reduceDiv, Nat.reduceLT, Nat.reduceLeDiff, Nat.reduceEqDiff, Int.reduceToNat, Int.reduceAdd, Int.reduceSub, Int.reduceMul, Int.reduceLT, Int.reduceLE, Int.reduceNeg, ↓reduceIte, reduceCtorEq]; with_reducible rfl) (by (first | exact trivial | omega | (simp; done) | (simp; omega) | (refine ⟨?_, ?_⟩ <;> omega))) ?_
      refine G.keep [4, 9, 0, 0, 0] (by simp only [keepG]; rfl) ?_
      refine G.seq ?_
      refine G.cond (by simp only [go_sem, Nat.reduceAdd, Nat.reduceSub, Nat.reduceMul, Nat.reduceMod, Nat.reduceDiv, Nat.reduceLT, Nat.reduceLeDiff, Nat.reduceEqDiff, Int.reduceToNat, Int.reduceAdd, Int.reduceSub, Int.reduceMul, Int.reduceLT, Int.reduceLE, Int.reduceNeg, ↓reduceIte, reduceCtorEq]; with_reducible rfl) (fun hc17 => ?_) (fun hc17 => ?_)
      ·
        have hlt : i < l.length := by simpa using hc17
        have hb := any_getD_false hnb hlt
        have hb' : (l.getD i .z).arrive ≤ (l.getD i .z).start ∧ (l.getD i .z).start ≤ 4503599627370496 := by
          simp only [waitBad, Bool.or_eq_false_iff, decide_eq_false_iff_not] at hb
          omega
        have hpi := (properB_at hp).2 i hlt
        refine G.skip ?_
        refine G.seq ?_
        refine G.block ?_
        refine G.seq ?_
        -- region 6
        refine G.run fits (by simp only [go_sem, Nat.reduceAdd, Nat.reduceSub, Nat.reduceMul, Nat.reduceMod, Nat.reduceDiv, Nat.reduceLT, Nat.reduceLeDiff, Nat.reduceEqDiff, Int.reduceToNat, Int.reduceAdd, Int.reduceSub, Int.reduceMul, Int.reduceLT, Int.reduceLE, Int.reduceNeg, ↓reduceIte, reduceCtorEq]; with_reducible rfl) (by (first | exact trivial | omega | (simp; done) | (simp; omega) | (refine ⟨?_, ?_⟩ <;> omega))) ?_
        refine G.keep [4, 1, 7, 0, 0] (by simp only [keepG]; rfl) ?_
        -- region 7
        refine G.run fits (by simp only [go_sem, Nat.reduceAdd, Nat.reduceSub, Nat.reduceMul, Nat.reduceMod, Nat.reduceDiv, Nat.reduceLT, Nat.reduceLeDiff, Nat.reduceEqDiff, Int.reduceToNat, Int.reduceAdd, Int.reduceSub, Int.reduceMul, Int.reduceLT, Int.reduceLE, Int.reduceNeg, ↓reduceIte, reduceCtorEq]; with_reducible rfl) (by first | exact trivial | (simp only [Cust.cell]; omega) | (first | exact trivial | omega | (simp; done) | (simp; omega) | (refine ⟨?_, ?_⟩ <;> omega))) ?_
        refine G.endBlock ?_
        -- region 8
        refine G.run fits (by simp only [go_sem, Nat.reduceAdd, Nat.reduceSub, Nat.reduceMul, Nat.reduceMod, Nat.reduceDiv, Nat.reduceLT, Nat.reduceLeDiff, Nat.reduceEqDiff, Int.reduceToNat, Int.reduceAdd, Int.reduceSub, Int.reduceMul, Int.reduceLT, Int.reduceLE, Int.reduceNeg, ↓reduceIte, reduceCtorEq]; with_reducible rfl) (by (first | exact trivial | omega | (simp; done) | (simp; omega) | (refine ⟨?_, ?_⟩ <;> omega))) ?_
        refine G.endLoop ⟨i + 1, by omega, by omega, ?_⟩
        rw [hsucc]
        refine SLe.of ?_ ?_ ?_ ?_
        · simp [SlotsLe]
        · simp only [HeapLe]
          refine ⟨⟨trivial, trivial, by simp, fun j f hi hf => .inr ?_⟩, trivial⟩
          have hf0 : f = 0 := by simpa using hf
          subst hf0
          have hj' : j ≤ m.length := by simp at hi; omega
          rcases Nat.lt_or_eq_of_le hj' with h | h
          · simp [h, List.getD_eq_getElem?_getD, List.getElem?_append_left h]
          · subst h
            simp [List.getD_eq_getElem?_getD, kill, Cust.cell]
        · simp [TagsIn]
        · simp [TagsIn]
      ·
        refine G.exit rfl ?_
        refine G.seq ?_
        -- region 9
        refine G.run fits (by simp only [go_sem, Nat.reduceAdd, Nat.reduceSub, Nat.reduceMul, Nat.reduceMod, Nat.reduceDiv, Nat.reduceLT, Nat.reduceLeDiff, Nat.reduceEqDiff, Int.reduceToNat, Int.reduceAdd, Int.reduceSub, Int.reduceMul, Int.reduceLT, Int.reduceLE, Int.reduceNeg, ↓reduceIte, reduceCtorEq]; with_reducible rfl) (by (first | exact trivial | omega | (simp; done) | (simp; omega) | (refine ⟨?_, ?_⟩ <;> omega))) ?_
        refine G.keep [2, 0] (by simp only [keepG]; rfl) ?_
        refine G.ret ?_
        -- return 1
        refine Ret.of_sub fits [.tmp 2, .tmp 3] rfl [encI true (waitsO l).1, .int .i64 (waitsO l).2] ?_ (by simp [AllFresh, encI]) ⟨rfl, rfl⟩
        simp only [resSub, go_sem, Nat.reduceAdd, Nat.reduceSub, Nat.reduceMul, Nat.reduceMod, Nat.reduceDiv, Nat.reduceLT, Nat.reduceLeDiff, Nat.reduceEqDiff, Int.reduceToNat, Int.reduceAdd, Int.reduceSub, Int.reduceMul, Int.reduceLT, Int.reduceLE, Int.reduceNeg, ↓reduceIte, reduceCtorEq]
        have hge : l.length ≤ i := by simpa using hc17
        obtain rfl : i = l.length := by omega
        have e : waitsO l = (m, 0) := by
          unfold waitsO
          rw [if_pos ⟨hp, hnb⟩, ← hm, waitL_take l l.length (Nat.le_refl _), List.take_length]
        rw [e]
        exact ⟨Sub.own rfl rfl (Nat.le_refl _) (fun _ _ _ _ => Sub.int _ _), Sub.int _ _⟩


theorem ref_waits_con (l : List Cust) (hl : l.length ≤ 9223372036854775807) : Con Try.prog 17 [encC false l] (isV (resA [encI true (waitsO l).1, .int .i64 (waitsO l).2])) := by
  refine Con.of_goes Try.func17 (by rfl) rfl (by simp [NoFresh, noFresh_encC]) (by simp only [Try.ntmps17, List.length_cons, List.length_nil, Nat.reduceAdd, Nat.reduceSub, List.replicate, List.cons_append, List.nil_append]; rfl) fun w0 => ?_
  unfold encC
  refine G.seq ?_
  -- region 0
  refine G.run fits (by simp only [go_sem, Nat.reduceAdd, Nat.reduceSub, Nat.reduceMul, Nat.reduceMod, Nat.reduceDiv, Nat.reduceLT, Nat.reduceLeDiff, Nat.reduceEqDiff, Int.reduceToNat, Int.reduceAdd, Int.reduceSub, Int.reduceMul, Int.reduceLT, Int.reduceLE, Int.reduceNeg, ↓reduceIte, reduceCtorEq]; with_reducible rfl) (by (first | exact trivial | omega | (simp; done) | (simp; omega) | (refine ⟨?_, ?_⟩ <;> omega))) ?_
  refine G.keep [0] (by simp only [keepG]; rfl) ?_
  refine G.seq ?_
  refine G.seq ?_
  -- region 1
  refine G.ops fits ?_
  refine O.run 1 (by simp only [go_sem, Nat.reduceAdd, Nat.reduceSub, Nat.reduceMul, Nat.reduceMod, Nat.reduceDiv, Nat.reduceLT, Nat.reduceLeDiff, Nat.reduceEqDiff, Int.reduceToNat, Int.reduceAdd, Int.reduceSub, Int.reduceMul, Int.reduceLT, Int.reduceLE, Int.reduceNeg, ↓reduceIte, reduceCtorEq]; with_reducible rfl) (by (first | exact trivial | omega | (simp; done) | (simp; omega) | (refine ⟨?_, ?_⟩ <;> omega))) ?_
  refine O.call (by simp only [go_sem, Nat.reduceAdd, Nat.reduceSub, Nat.reduceMul, Nat.reduceMod, Nat.reduceDiv, Nat.reduceLT, Nat.reduceLeDiff, Nat.reduceEqDiff, Int.reduceToNat, Int.reduceAdd, Int.reduceSub, Int.reduceMul, Int.reduceLT, Int.reduceLE, Int.reduceNeg, ↓reduceIte, reduceCtorEq]; with_reducible rfl) (ref_Proper_con l hl) (by simp [go_sem, Nat.reduceAdd, Nat.reduceSub, Nat.reduceMul, Nat.reduceMod, Nat.reduceDiv, Nat.reduceLT, Nat.reduceLeDiff, Nat.reduceEqDiff, Int.reduceToNat, Int.reduceAdd, Int.reduceSub, Int.reduceMul, Int.reduceLT, Int.reduceLE, Int.reduceNeg, ↓reduceIte, reduceCtorEq]) (by simp only [SubL, go_sem, Nat.reduceAdd, Nat.reduceSub, Nat.reduceMul, Nat.reduceMod, Nat.reduceDiv, Nat.reduceLT, Nat.reduceLeDiff, Nat.reduceEqDiff, Int.reduceToNat, Int.reduceAdd, Int.reduceSub, Int.reduceMul, Int.reduceLT, Int.reduceLE, Int.reduceNeg, ↓reduceIte, reduceCtorEq]; (first | exact trivial | (repeat' (first | exact trivial | refine ⟨?_, ?_⟩ | exact Sub.int _ _ | exact Sub.bool _ | exact Sub.val _ | exact Sub.nil _ _ _ | exact Sub.ro (by simp) (fun _ _ _ _ => rfl) | exact Sub.own rfl rfl (Nat.le_refl _) (fun _ _ _ _ => Sub.int _ _) | exact Sub.fn (fun j hj => absurd hj (by omega)))))) ?_
  simp only [go_sem, Nat.reduceAdd, Nat.reduceSub, Nat.reduceMul, Nat.reduceMod, Nat.reduceDiv, Nat.reduceLT, Nat.reduceLeDiff, Nat.reduceEqDiff, Int.reduceToNat, Int.reduceAdd, Int.reduceSub, Int.reduceMul, Int.reduceLT, Int.reduceLE, Int.reduceNeg, ↓reduceIte, reduceCtorEq]
  refine O.run 1 (by simp only [go_sem, Nat.reduceAdd, Nat.reduceSub, Nat.reduceMul, Nat.reduceMod, Nat.reduceDiv, Nat.reduceLT, Nat.reduceLeDiff, Nat.reduceEqDiff, Int.reduceToNat, Int.reduceAdd, Int.reduceSub, Int.reduceMul, Int.reduceLT, Int.reduceLE, Int.reduceNeg, ↓reduceIte, reduceCtorEq]; with_reducible rfl) (by (first | exact trivial | omega | (simp; done) | (simp; omega) | (refine ⟨?_, ?_⟩ <;> omega))) ?_
  refine O.nil ?_
  refine G.keep [0, 7] (by simp only [keepG]; rfl) ?_
  refine G.cond (by simp only [go_sem, Nat.reduceAdd, Nat.reduceSub, Nat.reduceMul, Nat.reduceMod, Nat.reduceDiv, Nat.reduceLT, Nat.reduceLeDiff, Nat.reduceEqDiff, Int.reduceToNat, Int.reduceAdd, Int.reduceSub, Int.reduceMul, Int.reduceLT, Int.reduceLE, Int.reduceNeg, ↓reduceIte, reduceCtorEq]; with_reducible rfl) (fun hc8 => ?_) (fun hc8 => ?_)
  ·
    refine G.seq ?_
    -- region 2
    refine G.run fits (by simp only [go_sem, Nat.reduceAdd, Nat.reduceSub, Nat.reduceMul, Nat.reduceMod, Nat.reduceDiv, Nat.reduceLT, Nat.reduceLeDiff, Nat.reduceEqDiff, Int.reduceToNat, Int.reduceAdd, Int.reduceSub, Int.reduceMul, Int.reduceLT, Int.reduceLE, Int.reduceNeg, ↓reduceIte, reduceCtorEq]; with_reducible rfl) (by (first | exact trivial | omega | (simp; done) | (simp; omega) | (refine ⟨?_, ?_⟩ <;> omega))) ?_
    refine G.keep [2, 0] (by simp only [keepG]; rfl) ?_
    refine G.ret ?_
    -- return 0
    refine Ret.of_sub fits [.tmp 2, .tmp 3] rfl [encI true (waitsO l).1, .int .i64 (waitsO l).2] ?_ (by simp [AllFresh, encI]) ⟨rfl, rfl⟩
    simp only [resSub, go_sem, Nat.reduceAdd, Nat.reduceSub, Nat.reduceMul, Nat.reduceMod, Nat.reduceDiv, Nat.reduceLT, Nat.reduceLeDiff, Nat.reduceEqDiff, Int.reduceToNat, Int.reduceAdd, Int.reduceSub, Int.reduceMul, Int.reduceLT, Int.reduceLE, Int.reduceNeg, ↓reduceIte, reduceCtorEq]
    have hp : properB l = false := by simpa using hc8
    rw [show waitsO l = ([], 1) by simp [waitsO, hp]]
    exact ⟨Sub.nil _ _ _, Sub.int _ _⟩
  ·
    have hp : properB l = true := by simpa using hc8
    have hl1 := (properB_at hp).1
    refine G.skip ?_
    refine G.seq ?_
    -- region 3
    refine G.run fits (by simp only [go_sem, Nat.reduceAdd, Nat.reduceSub, Nat.reduceMul, Nat.reduceMod, Nat.reduceDiv, Nat.reduceLT, Nat.reduceLeDiff, Nat.reduceEqDiff, Int.reduceToNat, Int.reduceAdd, Int.reduceSub, Int.reduceMul, Int.reduceLT, Int.reduceLE, Int.reduceNeg, ↓reduceIte, reduceCtorEq]; with_reducible rfl) (by (first | exact trivial | omega | (simp; done) | (simp; omega) | (refine ⟨?_, ?_⟩ <;> omega))) ?_
    refine G.keep [0, 3] (by simp only [keepG]; rfl) ?_
    refine G.seq ?_
    refine G.seq ?_
    -- region 4
    refine G.run fits (by simp only [go_sem, Nat.reduceAdd, Nat.reduceSub, Nat.reduceMul, Nat.reduceMod, Nat.reduceDiv, Nat.reduceLT, Nat.reduceLeDiff, Nat.reduceEqDiff, Int.reduceToNat, Int.reduceAdd, Int.reduceSub, Int.reduceMul, Int.reduceLT, Int.reduceLE, Int.reduceNeg, ↓reduceIte, reduceCtorEq]; with_reducible rfl) (by (first | exact trivial | omega | (simp; done) | (simp; omega) | (refine ⟨?_, ?_⟩ <;> omega))) ?_
    refine G.keep [0, 3, 0] (by simp only [keepG]; rfl) ?_
    refine G.block ?_
    refine G.loop (ι := Nat) (fun i => ⟨[encC false l, .any, .any, .any, .own 0 1 (waitL l i).length, .int .i64 i, .any, .any, .any, .any, .any, .any, .any, .any, .any, .any, .any, .any, .any, .any, .any, .any, .any, .any, .any, .any, .any, .any, .any, .any, .any, .any, .any, .any, .any, .any, .any, .any, .any, .any, .any, .any, .any, .any, .any, .any, .any, .any, .any], [objI (waitL l i)]⟩) (fun i => i ≤ l.length ∧ ∀ j, j < i → waitBad (l.getD j .z) = false) (fun i => l.length - i) 0 (by simp) ?_ fun i hi => ?_
    ·
      refine (SLe.nil 4 (objI []) rfl rfl).trans (SLe.of ?_ ?_ ?_ ?_)
      · simp [SlotsLe, objI, encC, waitL]
      · exact ⟨⟨rfl, rfl, rfl, fun i f hi hf => by simp [objI, waitL] at hi⟩, trivial⟩
      · simp [TagsIn, encC]
      · simp [TagsIn, objI]
    ·
      obtain ⟨hi, hgood⟩ := hi
      have hlen := waitL_len l i
      have hsucc : waitL l (i + 1) = waitL l i ++ [(l.getD i .z).start - (l.getD i .z).arrive] := rfl
      generalize hm : waitL l i = m at *
      unfold encC objI
      refine G.seq ?_
      refine G.seq ?_
      -- region 5
      refine G.run fits (by simp only [go_sem, Nat.reduceAdd, Nat.reduceSub, Nat.reduceMul, Nat.reduceMod, Nat.reduceDiv, Nat.reduceLT, Nat.reduceLeDiff, Nat.reduceEqDiff, Int.reduceToNat, Int.reduceAdd, Int.reduceSub, Int.reduceMul, Int.reduceLT, Int.reduceLE, Int.reduceNeg, ↓reduceIte, reduceCtorEq]; with_reducible rfl) (by (first | exact trivial | omega | (simp; done) | (simp; omega) | (refine ⟨?_, ?_⟩ <;> omega))) ?_
      refine G.keep [0, 3, 0, 6] (by simp only [keepG]; rfl) ?_
      refine G.cond (by simp only [go_sem, Nat.reduceAdd, Nat.reduceSub, Nat.reduceMul, Nat.reduceMod, Nat.reduceDiv, Nat.reduceLT, Nat.reduceLeDiff, Nat.reduceEqDiff, Int.reduceToNat, Int.reduceAdd, Int.reduceSub, Int.reduceMul, Int.reduceLT, Int.reduceLE, Int.reduceNeg, ↓reduceIte, reduceCtorEq]; with_reducible rfl) (fun hc12 => ?_) (fun hc12 => ?_)
      ·
        have hlt : i < l.length := by simpa using hc12
        have hpi := (properB_at hp).2 i hlt
        refine G.skip ?_
        refine G.seq ?_
        refine G.block ?_
        refine G.seq ?_
        refine G.seq ?_
        -- region 7
        refine G.draw fits mixed 19 (drawN_ok (by decide +kernel)) (by simp only [List.take_succ_cons, List.take_zero]; with_reducible rfl) (by simp only [List.drop_succ_cons, List.drop_zero]; with_reducible rfl) ?_
        refine D.run 8 (by simp only [go_sem, Nat.reduceAdd, Nat.reduceSub, Nat.reduceMul, Nat.reduceMod, Nat.reduceDiv, Nat.reduceLT, Nat.reduceLeDiff, Nat.reduceEqDiff, Int.reduceToNat, Int.reduceAdd, Int.reduceSub, Int.reduceMul, Int.reduceLT, Int.reduceLE, Int.reduceNeg, ↓reduceIte, reduceCtorEq]; with_reducible rfl) (by (first | exact trivial | omega | (simp; done) | (simp; omega) | (refine ⟨?_, ?_⟩ <;> omega))) ?_
        refine D.run 11 (by simp only [go_sem, Nat.reduceAdd, Nat.reduceSub, Nat.reduceMul, Nat.reduceMod, Nat.reduceDiv, Nat.reduceLT, Nat.reduceLeDiff, Nat.reduceEqDiff, Int.reduceToNat, Int.reduceAdd, Int.reduceSub, Int.reduceMul, Int.reduceLT, Int.reduceLE, Int.reduceNeg, ↓reduceIte, reduceCtorEq]; with_reducible rfl) (by (first | exact trivial | omega | (simp; done) | (simp; omega) | (refine ⟨?_, ?_⟩ <;> omega))) ?_
        refine D.nil ?_
        refine O.nil ?_
        refine G.keep [0, 3, 0, 27] (by simp only [keepG]; rfl) ?_
        refine G.cond (by simp only [go_sem, Nat.reduceAdd, Nat.reduceSub, Nat.reduceMul, Nat.reduceMod, Nat.reduceDiv, Nat.reduceLT, Nat.reduceLeDiff, Nat.reduceEqDiff, Int.reduceToNat, Int.reduceAdd, Int.reduceSub, Int.reduceMul, Int.reduceLT, Int.reduceLE, Int.reduceNeg, ↓reduceIte, reduceCtorEq]; with_reducible rfl) (fun hc33 => ?_) (fun hc33 => ?_)
        ·
          refine G.seq ?_
          -- region 8
          refine G.run fits (by simp only [go_sem, Nat.reduceAdd, Nat.reduceSub, Nat.reduceMul, Nat.reduceMod, Nat.reduceDiv, Nat.reduceLT, Nat.reduceLeDiff, Nat.reduceEqDiff, Int.reduceToNat, Int.reduceAdd, Int.reduceSub, Int.reduceMul, Int.reduceLT, Int.reduceLE, Int.reduceNeg, ↓reduceIte, reduceCtorEq]; with_reducible rfl) (by (first | exact trivial | omega | (simp; done) | (simp; omega) | (refine ⟨?_, ?_⟩ <;> omega))) ?_
          refine G.keep [2, 0] (by simp only [keepG]; rfl) ?_
          refine G.ret ?_
          -- return 1
          refine Ret.of_sub fits [.tmp 2, .tmp 3] rfl [encI true (waitsO l).1, .int .i64 (waitsO l).2] ?_ (by simp [AllFresh, encI]) ⟨rfl, rfl⟩
          simp only [resSub, go_sem, Nat.reduceAdd, Nat.reduceSub, Nat.reduceMul, Nat.reduceMod, Nat.reduceDiv, Nat.reduceLT, Nat.reduceLeDiff, Nat.reduceEqDiff, Int.reduceToNat, Int.reduceAdd, Int.reduceSub, Int.reduceMul, Int.reduceLT, Int.reduceLE, Int.reduceNeg, ↓reduceIte, reduceCtorEq]
          rw [show waitsO l = ([], 1) by unfold waitsO; rw [if_neg]; intro h; rw [any_getD.2 ⟨i, hlt, hc33⟩] at h; cases h.2]
          exact ⟨Sub.nil _ _ _, Sub.int _ _⟩
        ·
          have hb : waitBad (l.getD i .z) = false := hc33
          have hb' : (l.getD i .z).arrive ≤ (l.getD i .z).start ∧ (l.getD i .z).start ≤ 4503599627370496 := by
            simp only [waitBad, Bool.or_eq_false_iff, decide_eq_false_iff_not] at hb
            omega
          refine G.skip ?_
          -- region 9
          refine G.draw fits mixed 13 (drawN_ok (by decide +kernel)) (by simp only [List.take_succ_cons, List.take_zero]; with_reducible rfl) (by simp only [List.drop_succ_cons, List.drop_zero]; with_reducible rfl) ?_
          refine D.run 8 (by simp only [go_sem, Nat.reduceAdd, Nat.reduceSub, Nat.reduceMul, Nat.reduceMod, Nat.reduceDiv, Nat.reduceLT, Nat.reduceLeDiff, Nat.reduceEqDiff, Int.reduceToNat, Int.reduceAdd, Int.reduceSub, Int.reduceMul, Int.reduceLT, Int.reduceLE, Int.reduceNeg, ↓reduceIte, reduceCtorEq]; with_reducible rfl) (by first | exact trivial | (simp only [Cust.cell]; omega) | (first | exact trivial | omega | (simp; done) | (simp; omega) | (refine ⟨?_, ?_⟩ <;> omega))) ?_
          refine D.run 5 (by simp only [go_sem, Nat.reduceAdd, Nat.reduceSub, Nat.reduceMul, Nat.reduceMod, Nat.reduceDiv, Nat.reduceLT, Nat.reduceLeDiff, Nat.reduceEqDiff, Int.reduceToNat, Int.reduceAdd, Int.reduceSub, Int.reduceMul, Int.reduceLT, Int.reduceLE, Int.reduceNeg, ↓reduceIte, reduceCtorEq]; with_reducible rfl) (by first | exact trivial | (simp only [Cust.cell]; omega) | (first | exact trivial | omega | (simp; done) | (simp; omega) | (refine ⟨?_, ?_⟩ <;> omega))) ?_
          refine D.nil ?_
          refine O.run 2 (by simp only [go_sem, Nat.reduceAdd, Nat.reduceSub, Nat.reduceMul, Nat.reduceMod, Nat.reduceDiv, Nat.reduceLT, Nat.reduceLeDiff, Nat.reduceEqDiff, Int.reduceToNat, Int.reduceAdd, Int.reduceSub, Int.reduceMul, Int.reduceLT, Int.reduceLE, Int.reduceNeg, ↓reduceIte, reduceCtorEq]; with_reducible rfl) (by first | exact trivial | (simp only [Cust.cell]; omega) | (first | exact trivial | omega | (simp; done) | (simp; omega) | (refine ⟨?_, ?_⟩ <;> omega))) ?_
          refine O.nil ?_
          refine G.endBlock ?_
          -- region 6
          refine G.run fits (by simp only [go_sem, Nat.reduceAdd, Nat.reduceSub, Nat.reduceMul, Nat.reduceMod, Nat.reduceDiv, Nat.reduceLT, Nat.reduceLeDiff, Nat.reduceEqDiff, Int.reduceToNat, Int.reduceAdd, Int.reduceSub, Int.reduceMul, Int.reduceLT, Int.reduceLE, Int.reduceNeg, ↓reduceIte, reduceCtorEq]; with_reducible rfl) (by (first | exact trivial | omega | (simp; done) | (simp; omega) | (refine ⟨?_, ?_⟩ <;> omega))) ?_
          refine G.endLoop ⟨i + 1, ⟨by omega, fun j hj => by
            rcases Nat.lt_or_eq_of_le (Nat.le_of_lt_succ hj) with h | h
            · exact hgood j h
            · subst h; exact hb⟩, by omega, ?_⟩
          rw [hsucc]
          refine SLe.of ?_ ?_ ?_ ?_
          · simp [SlotsLe]
          · simp only [HeapLe]
            refine ⟨⟨trivial, trivial, by simp, fun j f hi hf => .inr ?_⟩, trivial⟩
            have hf0 : f = 0 := by simpa using hf
            subst hf0
            have hj' : j ≤ m.length := by simp at hi; omega
            rcases Nat.lt_or_eq_of_le hj' with h | h
            · simp [h, List.getD_eq_getElem?_getD, List.getElem?_append_left h]
            · subst h
              simp [List.getD_eq_getElem?_getD, kill, Cust.cell]
          · simp [TagsIn]
          · simp [TagsIn]
      ·
        refine G.exit rfl ?_
        refine G.seq ?_
        -- region 10
        refine G.run fits (by simp only [go_sem, Nat.reduceAdd, Nat.reduceSub, Nat.reduceMul, Nat.reduceMod, Nat.reduceDiv, Nat.reduceLT, Nat.reduceLeDiff, Nat.reduceEqDiff, Int.reduceToNat, Int.reduceAdd, Int.reduceSub, Int.reduceMul, Int.reduceLT, Int.reduceLE, Int.reduceNeg, ↓reduceIte, reduceCtorEq]; with_reducible rfl) (by (first | exact trivial | omega | (simp; done) | (simp; omega) | (refine ⟨?_, ?_⟩ <;> omega))) ?_
        refine G.keep [2, 0] (by simp only [keepG]; rfl) ?_
        refine G.ret ?_
        -- return 2
        refine Ret.of_sub fits [.tmp 2, .tmp 3] rfl [encI true (waitsO l).1, .int .i64 (waitsO l).2] ?_ (by simp [AllFresh, encI]) ⟨rfl, rfl⟩
        simp only [resSub, go_sem, Nat.reduceAdd, Nat.reduceSub, Nat.reduceMul, Nat.reduceMod, Nat.reduceDiv, Nat.reduceLT, Nat.reduceLeDiff, Nat.reduceEqDiff, Int.reduceToNat, Int.reduceAdd, Int.reduceSub, Int.reduceMul, Int.reduceLT, Int.reduceLE, Int.reduceNeg, ↓reduceIte, reduceCtorEq]
        have hge : l.length ≤ i := by simpa using hc12
        obtain rfl : i = l.length := by omega
        have hnb : l.any waitBad = false := by
          cases h : l.any waitBad with
          | false => rfl
          | true => obtain ⟨j, hj, hpj⟩ := any_getD.1 h; rw [hgood j hj] at hpj; cases hpj
        have e : waitsO l = (m, 0) := by
          unfold waitsO
          rw [if_pos ⟨hp, hnb⟩, ← hm, waitL_take l l.length (Nat.le_refl _), List.take_length]
        rw [e]
        exact ⟨Sub.own rfl rfl (Nat.le_refl _) (fun _ _ _ _ => Sub.int _ _), Sub.int _ _⟩


end Go.Proofs.Ytocpeankecaabaa
