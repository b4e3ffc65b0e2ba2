/-
  Contracts of the small functions of package simulate.
-/
import Derived.Test.YtocpeankecaabaaTt
set_option linter.all false
namespace Go.Proofs.Ytocpeankecaabaa
open Go.Abs Go.RowKit

/-- A list of integers as a slice; as an owned array. -/
def encI (fr : Bool) (xs : List Int) : AV := .ro fr 1 xs.length (fun i _ => .int .i64 (xs.getD i 0))
def objI (xs : List Int) : AObj := ⟨3, 1, xs.length, fun i _ => .int .i64 (xs.getD i 0)⟩
theorem noFresh_encI (l : List Int) : NoFresh (encI false l) := ⟨rfl, fun _ _ _ _ => trivial⟩

structure Cust where
  arrive : Int
  service : Int
  start : Int
  end_ : Int
  deriving DecidableEq

def Cust.cell (c : Cust) : Nat → Int
  | 0 => c.arrive
  | 1 => c.service
  | 2 => c.start
  | _ => c.end_

abbrev Cust.z : Cust := ⟨0, 0, 0, 0⟩
/-- A list of customers as a slice; as an owned array. -/
def encC (fr : Bool) (l : List Cust) : AV := .ro fr 4 l.length (fun i f => .int .i64 ((l.getD i .z).cell f))
def objC (l : List Cust) : AObj := ⟨29, 4, l.length, fun i f => .int .i64 ((l.getD i .z).cell f)⟩
theorem noFresh_encC (l : List Cust) : NoFresh (encC false l) := ⟨rfl, fun _ _ _ _ => trivial⟩

def badAt (l : List Cust) (i : Nat) : Bool :=
  (decide ((l.getD i .z).arrive < 0) || (decide (1099511627776 < (l.getD i .z).arrive) || (decide ((l.getD i .z).service < 0) || (decide (1099511627776 < (l.getD i .z).service) || (decide (0 < i) && decide ((l.getD i .z).arrive < (l.getD (i - 1) .z).arrive))))))
def properB (l : List Cust) : Bool := !(List.range l.length).any (badAt l) && decide (l.length ≤ 1000)

theorem properB_no {l : List Cust} {i : Nat} (hlt : i < l.length) (hb : badAt l i = true) : properB l = false := by
  unfold properB
  rw [show (List.range l.length).any (badAt l) = true from List.any_eq_true.2 ⟨i, by simpa using hlt, hb⟩]
  rfl
theorem properB_yes {l : List Cust} (h : ∀ j, j < l.length → badAt l j = false) : properB l = decide ((l.length : Int) ≤ 1000) := by
  unfold properB
  have : (List.range l.length).any (badAt l) = false := by
    rw [List.any_eq_false]
    intro j hj
    simp [h j (List.mem_range.1 hj)]
  rw [this, Bool.eq_iff_iff]
  simp
  omega

/-- The least number of a list that is not empty; the first place of a number. -/
def minL (xs : List Int) : Int := (xs.tail).foldl min (xs.headD 0)
def idxFrom (v : Int) : List Int → Nat → Int
  | [], _ => -1
  | x :: xs, k => if v = x then k else idxFrom v xs (k + 1)
def idxI (xs : List Int) (v : Int) : Int := idxFrom v xs 0

theorem idxFrom_skip (v : Int) (xs : List Int) : ∀ (n k : Nat), (∀ j, j < n → xs.getD j 0 ≠ v ∧ j < xs.length) → idxFrom v xs k = idxFrom v (xs.drop n) (k + n) := by
  induction xs with
  | nil =>
    intro n k h
    cases n with
    | zero => rfl
    | succ n => have := (h 0 (by omega)).2; simp at this
  | cons x xs ih =>
    intro n k h
    cases n with
    | zero => rfl
    | succ n =>
      have h0 := (h 0 (by omega)).1
      simp only [List.getD_cons_zero] at h0
      simp only [idxFrom, if_neg (Ne.symm h0), List.drop_succ_cons]
      rw [ih n (k + 1) (fun j hj => by have := h (j + 1) (by omega); simpa using this)]
      congr 1
      omega
theorem idxI_at {xs : List Int} {v : Int} {i : Nat} (hlt : i < xs.length) (h : ∀ j, j < i → xs.getD j 0 ≠ v) (hv : xs.getD i 0 = v) : idxI xs v = i := by
  unfold idxI
  rw [idxFrom_skip v xs i 0 (fun j hj => ⟨h j hj, by omega⟩), List.drop_eq_getElem_cons hlt]
  have : xs[i] = v := by rw [← hv, List.getD_eq_getElem?_getD, List.getElem?_eq_getElem hlt]; rfl
  simp [idxFrom, this]
theorem idxI_none {xs : List Int} {v : Int} (h : ∀ j, j < xs.length → xs.getD j 0 ≠ v) : idxI xs v = -1 := by
  unfold idxI
  rw [idxFrom_skip v xs xs.length 0 (fun j hj => ⟨h j hj, hj⟩)]
  simp [idxFrom]

theorem minL_succ (xs : List Int) (i : Nat) (h0 : 0 < i) (hlt : i < xs.length) : minL (xs.take (i + 1)) = min (minL (xs.take i)) (xs.getD i 0) := by
  unfold minL
  cases xs with
  | nil => simp at hlt
  | cons x xs =>
    cases i with
    | zero => omega
    | succ i =>
      simp only [List.take_succ_cons, List.tail_cons, List.headD_cons, List.getD_cons_succ]
      have hl : i < xs.length := by simpa using hlt
      rw [List.take_succ_eq_append_getElem hl, List.foldl_append]
      simp [List.getD_eq_getElem?_getD, List.getElem?_eq_getElem hl]

set_option maxRecDepth 10000

theorem simulate_proper_con (l : List Cust) (hl : l.length ≤ 9223372036854775807) : Con Try.prog 41 [encC false l] (isV (resA [.bool (properB l)])) := by
  refine Con.of_goes Try.func41 (by rfl) rfl (by simp [NoFresh, noFresh_encC]) (by simp only [Try.ntmps41, List.length_cons, List.length_nil, Nat.reduceAdd, Nat.reduceSub, List.replicate, List.cons_append, List.nil_append]; rfl) fun w0 => ?_
  unfold encC
  refine G.seq ?_
  -- region 0
  refine G.run fits (by simp only [go_sem, Nat.reduceAdd, Nat.reduceSub, Nat.reduceMul, Nat.reduceMod, Nat.reduceDiv, Nat.reduceLT, Nat.reduceLeDiff, Nat.reduceEqDiff, Int.reduceToNat, Int.reduceAdd, Int.reduceSub, Int.reduceMul, Int.reduceLT, Int.reduceLE, Int.reduceNeg, ↓reduceIte, reduceCtorEq]; with_reducible rfl) (by (first | exact trivial | omega | (simp; done) | (simp; omega) | (refine ⟨?_, ?_⟩ <;> omega))) ?_
  refine G.keep [0] (by simp only [keepG]; rfl) ?_
  refine G.seq ?_
  refine G.seq ?_
  -- region 1
  refine G.run fits (by simp only [go_sem, Nat.reduceAdd, Nat.reduceSub, Nat.reduceMul, Nat.reduceMod, Nat.reduceDiv, Nat.reduceLT, Nat.reduceLeDiff, Nat.reduceEqDiff, Int.reduceToNat, Int.reduceAdd, Int.reduceSub, Int.reduceMul, Int.reduceLT, Int.reduceLE, Int.reduceNeg, ↓reduceIte, reduceCtorEq]; with_reducible rfl) (by (first | exact trivial | omega | (simp; done) | (simp; omega) | (refine ⟨?_, ?_⟩ <;> omega))) ?_
  refine G.keep [0, 4, 0, 0] (by simp only [keepG]; rfl) ?_
  refine G.block ?_
  refine G.loop (ι := Nat) (fun i => ⟨[encC false l, .any, .any, .any, .any, encC false l, .int .i64 l.length, .int .i64 i, .any, .any, .any, .any, .any, .any, .any, .any, .any, .any, .any, .any, .any, .any, .any, .any, .any, .any, .any, .any, .any, .any, .any, .any, .any, .any, .any, .any, .any, .any, .any, .any, .any, .any, .any, .any, .any, .any, .any, .any, .any], []⟩) (fun i => i ≤ l.length ∧ ∀ j, j < i → badAt l j = false) (fun i => l.length - i) 0 (by simp) ?_ fun i hi => ?_
  ·
    unfold encC; (refine SLe.of (by simp only [SlotsLe]; (simp (disch := omega) [Int.natCast_add])) (by simp [HeapLe]) (by simp [TagsIn]) (by simp [TagsIn]))
  ·
    obtain ⟨hi, hgood⟩ := hi
    unfold encC
    refine G.seq ?_
    -- region 2
    refine G.run fits (by simp only [go_sem, Nat.reduceAdd, Nat.reduceSub, Nat.reduceMul, Nat.reduceMod, Nat.reduceDiv, Nat.reduceLT, Nat.reduceLeDiff, Nat.reduceEqDiff, Int.reduceToNat, Int.reduceAdd, Int.reduceSub, Int.reduceMul, Int.reduceLT, Int.reduceLE, Int.reduceNeg, ↓reduceIte, reduceCtorEq]; with_reducible rfl) (by (first | exact trivial | omega | (simp; done) | (simp; omega) | (refine ⟨?_, ?_⟩ <;> omega))) ?_
    refine G.keep [0, 4, 0, 0, 0] (by simp only [keepG]; rfl) ?_
    refine G.seq ?_
    refine G.cond (by simp only [go_sem, Nat.reduceAdd, Nat.reduceSub, Nat.reduceMul, Nat.reduceMod, Nat.reduceDiv, Nat.reduceLT, Nat.reduceLeDiff, Nat.reduceEqDiff, Int.reduceToNat, Int.reduceAdd, Int.reduceSub, Int.reduceMul, Int.reduceLT, Int.reduceLE, Int.reduceNeg, ↓reduceIte, reduceCtorEq]; with_reducible rfl) (fun hc8 => ?_) (fun hc8 => ?_)
    ·
      have hlt : i < l.length := by simpa using hc8
      refine G.skip ?_
      refine G.seq ?_
      refine G.block ?_
      refine G.seq ?_
      -- region 3
      refine G.run fits (by simp only [go_sem, Nat.reduceAdd, Nat.reduceSub, Nat.reduceMul, Nat.reduceMod, Nat.reduceDiv, Nat.reduceLT, Nat.reduceLeDiff, Nat.reduceEqDiff, Int.reduceToNat, Int.reduceAdd, Int.reduceSub, Int.reduceMul, Int.reduceLT, Int.reduceLE, Int.reduceNeg, ↓reduceIte, reduceCtorEq]; with_reducible rfl) (by (first | exact trivial | omega | (simp; done) | (simp; omega) | (refine ⟨?_, ?_⟩ <;> omega))) ?_
      refine G.keep [0, 2, 0, 0, 0, 0] (by simp only [keepG]; rfl) ?_
      refine G.seq ?_
      -- region 4
      refine G.draw fits mixed 33 (drawN_ok (by decide +kernel)) (by simp only [List.take_succ_cons, List.take_zero]; with_reducible rfl) (by simp only [List.drop_succ_cons, List.drop_zero]; with_reducible rfl) ?_
      refine D.run 8 (by simp only [go_sem, Nat.reduceAdd, Nat.reduceSub, Nat.reduceMul, Nat.reduceMod, Nat.reduceDiv, Nat.reduceLT, Nat.reduceLeDiff, Nat.reduceEqDiff, Int.reduceToNat, Int.reduceAdd, Int.reduceSub, Int.reduceMul, Int.reduceLT, Int.reduceLE, Int.reduceNeg, ↓reduceIte, reduceCtorEq]; with_reducible rfl) (by (first | exact trivial | omega | (simp; done) | (simp; omega) | (refine ⟨?_, ?_⟩ <;> omega))) ?_
      refine D.run 8 (by simp only [go_sem, Nat.reduceAdd, Nat.reduceSub, Nat.reduceMul, Nat.reduceMod, Nat.reduceDiv, Nat.reduceLT, Nat.reduceLeDiff, Nat.reduceEqDiff, Int.reduceToNat, Int.reduceAdd, Int.reduceSub, Int.reduceMul, Int.reduceLT, Int.reduceLE, Int.reduceNeg, ↓reduceIte, reduceCtorEq]; with_reducible rfl) (by (first | exact trivial | omega | (simp; done) | (simp; omega) | (refine ⟨?_, ?_⟩ <;> omega))) ?_
      refine D.run 8 (by simp only [go_sem, Nat.reduceAdd, Nat.reduceSub, Nat.reduceMul, Nat.reduceMod, Nat.reduceDiv, Nat.reduceLT, Nat.reduceLeDiff, Nat.reduceEqDiff, Int.reduceToNat, Int.reduceAdd, Int.reduceSub, Int.reduceMul, Int.reduceLT, Int.reduceLE, Int.reduceNeg, ↓reduceIte, reduceCtorEq]; with_reducible rfl) (by (first | exact trivial | omega | (simp; done) | (simp; omega) | (refine ⟨?_, ?_⟩ <;> omega))) ?_
      refine D.run 9 (by simp only [go_sem, Nat.reduceAdd, Nat.reduceSub, Nat.reduceMul, Nat.reduceMod, Nat.reduceDiv, Nat.reduceLT, Nat.reduceLeDiff, Nat.reduceEqDiff, Int.reduceToNat, Int.reduceAdd, Int.reduceSub, Int.reduceMul, Int.reduceLT, Int.reduceLE, Int.reduceNeg, ↓reduceIte, reduceCtorEq]; with_reducible rfl) (by (first | exact trivial | omega | (simp; done) | (simp; omega) | (refine ⟨?_, ?_⟩ <;> omega))) ?_
      refine D.nil ?_
      refine O.nil ?_
      refine G.keep [0, 4, 0, 0, 36] (by simp only [keepG]; rfl) ?_
      refine G.cond (by simp only [go_sem, Nat.reduceAdd, Nat.reduceSub, Nat.reduceMul, Nat.reduceMod, Nat.reduceDiv, Nat.reduceLT, Nat.reduceLeDiff, Nat.reduceEqDiff, Int.reduceToNat, Int.reduceAdd, Int.reduceSub, Int.reduceMul, Int.reduceLT, Int.reduceLE, Int.reduceNeg, ↓reduceIte, reduceCtorEq]; with_reducible rfl) (fun hc44 => ?_) (fun hc44 => ?_)
      ·
        refine G.seq ?_
        -- region 5
        refine G.run fits (by simp only [go_sem, Nat.reduceAdd, Nat.reduceSub, Nat.reduceMul, Nat.reduceMod, Nat.reduceDiv, Nat.reduceLT, Nat.reduceLeDiff, Nat.reduceEqDiff, Int.reduceToNat, Int.reduceAdd, Int.reduceSub, Int.reduceMul, Int.reduceLT, Int.reduceLE, Int.reduceNeg, ↓reduceIte, reduceCtorEq]; with_reducible rfl) (by (first | exact trivial | omega | (simp; done) | (simp; omega) | (refine ⟨?_, ?_⟩ <;> omega))) ?_
        refine G.keep [2] (by simp only [keepG]; rfl) ?_
        refine G.ret ?_
        -- return 0
        refine Ret.of_sub fits [.tmp 2] rfl [.bool (properB l)] ?_ (by simp [AllFresh]) ⟨rfl, rfl⟩
        simp only [resSub, go_sem, Nat.reduceAdd, Nat.reduceSub, Nat.reduceMul, Nat.reduceMod, Nat.reduceDiv, Nat.reduceLT, Nat.reduceLeDiff, Nat.reduceEqDiff, Int.reduceToNat, Int.reduceAdd, Int.reduceSub, Int.reduceMul, Int.reduceLT, Int.reduceLE, Int.reduceNeg, ↓reduceIte, reduceCtorEq]
        have hb : badAt l i = true := by
          unfold badAt
          rw [show ((i : Int) - 1).toNat = i - 1 by omega] at hc44
          simpa [Cust.cell, Bool.or_assoc] using hc44
        rw [properB_no hlt hb]
        exact Sub.bool _
      ·
        refine G.skip ?_
        refine G.endBlock ?_
        -- region 6
        refine G.run fits (by simp only [go_sem, Nat.reduceAdd, Nat.reduceSub, Nat.reduceMul, Nat.reduceMod, Nat.reduceDiv, Nat.reduceLT, Nat.reduceLeDiff, Nat.reduceEqDiff, Int.reduceToNat, Int.reduceAdd, Int.reduceSub, Int.reduceMul, Int.reduceLT, Int.reduceLE, Int.reduceNeg, ↓reduceIte, reduceCtorEq]; with_reducible rfl) (by (first | exact trivial | omega | (simp; done) | (simp; omega) | (refine ⟨?_, ?_⟩ <;> omega))) ?_
        refine G.endLoop ⟨i + 1, ?_, by omega, ?_⟩
        · refine ⟨by omega, fun j hj => ?_⟩
          rcases Nat.lt_or_eq_of_le (Nat.le_of_lt_succ hj) with h | h
          · exact hgood j h
          · subst h
            unfold badAt
            rw [show ((j : Int) - 1).toNat = j - 1 by omega] at hc44
            simpa [Cust.cell, Bool.or_assoc] using hc44
        · (refine SLe.of (by simp only [SlotsLe]; (simp (disch := omega) [Int.natCast_add])) (by simp [HeapLe]) (by simp [TagsIn]) (by simp [TagsIn]))
    ·
      refine G.exit rfl ?_
      refine G.seq ?_
      -- region 7
      refine G.run fits (by simp only [go_sem, Nat.reduceAdd, Nat.reduceSub, Nat.reduceMul, Nat.reduceMod, Nat.reduceDiv, Nat.reduceLT, Nat.reduceLeDiff, Nat.reduceEqDiff, Int.reduceToNat, Int.reduceAdd, Int.reduceSub, Int.reduceMul, Int.reduceLT, Int.reduceLE, Int.reduceNeg, ↓reduceIte, reduceCtorEq]; with_reducible rfl) (by (first | exact trivial | omega | (simp; done) | (simp; omega) | (refine ⟨?_, ?_⟩ <;> omega))) ?_
      refine G.keep [2] (by simp only [keepG]; rfl) ?_
      refine G.ret ?_
      -- return 1
      refine Ret.of_sub fits [.tmp 2] rfl [.bool (properB l)] ?_ (by simp [AllFresh]) ⟨rfl, rfl⟩
      simp only [resSub, go_sem, Nat.reduceAdd, Nat.reduceSub, Nat.reduceMul, Nat.reduceMod, Nat.reduceDiv, Nat.reduceLT, Nat.reduceLeDiff, Nat.reduceEqDiff, Int.reduceToNat, Int.reduceAdd, Int.reduceSub, Int.reduceMul, Int.reduceLT, Int.reduceLE, Int.reduceNeg, ↓reduceIte, reduceCtorEq]
      have hge : l.length ≤ i := by simpa using hc8
      rw [properB_yes (fun j hj => hgood j (by omega))]
      exact Sub.bool _


theorem index_con (xs : List Int) (v : Int) (hl : xs.length ≤ 9223372036854775807) : Con Try.prog 59 [encI false xs, .int .i64 v] (isV (resA [.int .i64 (idxI xs v)])) := by
  refine Con.of_goes Try.func59 (by rfl) rfl (by simp [NoFresh, noFresh_encI]) (by simp only [Try.ntmps59, List.length_cons, List.length_nil, Nat.reduceAdd, Nat.reduceSub, List.replicate, List.cons_append, List.nil_append]; rfl) fun w0 => ?_
  unfold encI
  refine G.seq ?_
  -- region 0
  refine G.run fits (by simp only [go_sem, Nat.reduceAdd, Nat.reduceSub, Nat.reduceMul, Nat.reduceMod, Nat.reduceDiv, Nat.reduceLT, Nat.reduceLeDiff, Nat.reduceEqDiff, Int.reduceToNat, Int.reduceAdd, Int.reduceSub, Int.reduceMul, Int.reduceLT, Int.reduceLE, Int.reduceNeg, ↓reduceIte, reduceCtorEq]; with_reducible rfl) (by (first | exact trivial | omega | (simp; done) | (simp; omega) | (refine ⟨?_, ?_⟩ <;> omega))) ?_
  refine G.keep [0, 0] (by simp only [keepG]; rfl) ?_
  refine G.seq ?_
  refine G.seq ?_
  -- region 1
  refine G.run fits (by simp only [go_sem, Nat.reduceAdd, Nat.reduceSub, Nat.reduceMul, Nat.reduceMod, Nat.reduceDiv, Nat.reduceLT, Nat.reduceLeDiff, Nat.reduceEqDiff, Int.reduceToNat, Int.reduceAdd, Int.reduceSub, Int.reduceMul, Int.reduceLT, Int.reduceLE, Int.reduceNeg, ↓reduceIte, reduceCtorEq]; with_reducible rfl) (by (first | exact trivial | omega | (simp; done) | (simp; omega) | (refine ⟨?_, ?_⟩ <;> omega))) ?_
  refine G.keep [0, 0, 5, 0] (by simp only [keepG]; rfl) ?_
  refine G.block ?_
  refine G.loop (ι := Nat) (fun i => ⟨[encI false xs, .int .i64 v, .any, .any, .any, .any, .any, .int .i64 xs.length, .int .i64 i, .any, .any, .any, .any, .any, .any, .any, .any, .any, .any], []⟩) (fun i => i ≤ xs.length ∧ ∀ j, j < i → xs.getD j 0 ≠ v) (fun i => xs.length - i) 0 (by simp) ?_ fun i hi => ?_
  ·
    unfold encI; (refine SLe.of (by simp only [SlotsLe]; (simp (disch := omega) [Int.natCast_add])) (by simp [HeapLe]) (by simp [TagsIn]) (by simp [TagsIn]))
  ·
    obtain ⟨hi, hgood⟩ := hi
    unfold encI
    refine G.seq ?_
    -- region 2
    refine G.run fits (by simp only [go_sem, Nat.reduceAdd, Nat.reduceSub, Nat.reduceMul, Nat.reduceMod, Nat.reduceDiv, Nat.reduceLT, Nat.reduceLeDiff, Nat.reduceEqDiff, Int.reduceToNat, Int.reduceAdd, Int.reduceSub, Int.reduceMul, Int.reduceLT, Int.reduceLE, Int.reduceNeg, ↓reduceIte, reduceCtorEq]; with_reducible rfl) (by (first | exact trivial | omega | (simp; done) | (simp; omega) | (refine ⟨?_, ?_⟩ <;> omega))) ?_
    refine G.keep [0, 0, 5, 0, 0] (by simp only [keepG]; rfl) ?_
    refine G.seq ?_
    refine G.cond (by simp only [go_sem, Nat.reduceAdd, Nat.reduceSub, Nat.reduceMul, Nat.reduceMod, Nat.reduceDiv, Nat.reduceLT, Nat.reduceLeDiff, Nat.reduceEqDiff, Int.reduceToNat, Int.reduceAdd, Int.reduceSub, Int.reduceMul, Int.reduceLT, Int.reduceLE, Int.reduceNeg, ↓reduceIte, reduceCtorEq]; with_reducible rfl) (fun hc9 => ?_) (fun hc9 => ?_)
    ·
      have hlt : i < xs.length := by simpa using hc9
      refine G.skip ?_
      refine G.seq ?_
      refine G.block ?_
      refine G.seq ?_
      -- region 3
      refine G.run fits (by simp only [go_sem, Nat.reduceAdd, Nat.reduceSub, Nat.reduceMul, Nat.reduceMod, Nat.reduceDiv, Nat.reduceLT, Nat.reduceLeDiff, Nat.reduceEqDiff, Int.reduceToNat, Int.reduceAdd, Int.reduceSub, Int.reduceMul, Int.reduceLT, Int.reduceLE, Int.reduceNeg, ↓reduceIte, reduceCtorEq]; with_reducible rfl) (by (first | exact trivial | omega | (simp; done) | (simp; omega) | (refine ⟨?_, ?_⟩ <;> omega))) ?_
      refine G.keep [0, 0, 3, 1, 0] (by simp only [keepG]; rfl) ?_
      refine G.seq ?_
      -- region 4
      refine G.run fits (by simp only [go_sem, Nat.reduceAdd, Nat.reduceSub, Nat.reduceMul, Nat.reduceMod, Nat.reduceDiv, Nat.reduceLT, Nat.reduceLeDiff, Nat.reduceEqDiff, Int.reduceToNat, Int.reduceAdd, Int.reduceSub, Int.reduceMul, Int.reduceLT, Int.reduceLE, Int.reduceNeg, ↓reduceIte, reduceCtorEq]; with_reducible rfl) (by (first | exact trivial | omega | (simp; done) | (simp; omega) | (refine ⟨?_, ?_⟩ <;> omega))) ?_
      refine G.keep [0, 0, 3, 1, 0, 7] (by simp only [keepG]; rfl) ?_
      refine G.cond (by simp only [go_sem, Nat.reduceAdd, Nat.reduceSub, Nat.reduceMul, Nat.reduceMod, Nat.reduceDiv, Nat.reduceLT, Nat.reduceLeDiff, Nat.reduceEqDiff, Int.reduceToNat, Int.reduceAdd, Int.reduceSub, Int.reduceMul, Int.reduceLT, Int.reduceLE, Int.reduceNeg, ↓reduceIte, reduceCtorEq]; with_reducible rfl) (fun hc16 => ?_) (fun hc16 => ?_)
      ·
        refine G.seq ?_
        -- region 5
        refine G.run fits (by simp only [go_sem, Nat.reduceAdd, Nat.reduceSub, Nat.reduceMul, Nat.reduceMod, Nat.reduceDiv, Nat.reduceLT, Nat.reduceLeDiff, Nat.reduceEqDiff, Int.reduceToNat, Int.reduceAdd, Int.reduceSub, Int.reduceMul, Int.reduceLT, Int.reduceLE, Int.reduceNeg, ↓reduceIte, reduceCtorEq]; with_reducible rfl) (by (first | exact trivial | omega | (simp; done) | (simp; omega) | (refine ⟨?_, ?_⟩ <;> omega))) ?_
        refine G.keep [4] (by simp only [keepG]; rfl) ?_
        refine G.ret ?_
        -- return 0
        refine Ret.of_sub fits [.tmp 4] rfl [.int .i64 (idxI xs v)] ?_ (by simp [AllFresh]) ⟨rfl, rfl⟩
        simp only [resSub, go_sem, Nat.reduceAdd, Nat.reduceSub, Nat.reduceMul, Nat.reduceMod, Nat.reduceDiv, Nat.reduceLT, Nat.reduceLeDiff, Nat.reduceEqDiff, Int.reduceToNat, Int.reduceAdd, Int.reduceSub, Int.reduceMul, Int.reduceLT, Int.reduceLE, Int.reduceNeg, ↓reduceIte, reduceCtorEq]
        have hv : v = xs.getD i 0 := by simpa using hc16
        rw [idxI_at hlt hgood hv.symm]
        exact Sub.int _ _
      ·
        refine G.skip ?_
        refine G.endBlock ?_
        -- region 6
        refine G.run fits (by simp only [go_sem, Nat.reduceAdd, Nat.reduceSub, Nat.reduceMul, Nat.reduceMod, Nat.reduceDiv, Nat.reduceLT, Nat.reduceLeDiff, Nat.reduceEqDiff, Int.reduceToNat, Int.reduceAdd, Int.reduceSub, Int.reduceMul, Int.reduceLT, Int.reduceLE, Int.reduceNeg, ↓reduceIte, reduceCtorEq]; with_reducible rfl) (by (first | exact trivial | omega | (simp; done) | (simp; omega) | (refine ⟨?_, ?_⟩ <;> omega))) ?_
        refine G.endLoop ⟨i + 1, ?_, by omega, ?_⟩
        · refine ⟨by omega, fun j hj => ?_⟩
          rcases Nat.lt_or_eq_of_le (Nat.le_of_lt_succ hj) with h | h
          · exact hgood j h
          · subst h
            have : ¬ v = xs.getD j 0 := by simpa using hc16
            exact fun e => this e.symm
        · (refine SLe.of (by simp only [SlotsLe]; (simp (disch := omega) [Int.natCast_add])) (by simp [HeapLe]) (by simp [TagsIn]) (by simp [TagsIn]))
    ·
      refine G.exit rfl ?_
      refine G.seq ?_
      -- region 7
      refine G.run fits (by simp only [go_sem, Nat.reduceAdd, Nat.reduceSub, Nat.reduceMul, Nat.reduceMod, Nat.reduceDiv, Nat.reduceLT, Nat.reduceLeDiff, Nat.reduceEqDiff, Int.reduceToNat, Int.reduceAdd, Int.reduceSub, Int.reduceMul, Int.reduceLT, Int.reduceLE, Int.reduceNeg, ↓reduceIte, reduceCtorEq]; with_reducible rfl) (by (first | exact trivial | omega | (simp; done) | (simp; omega) | (refine ⟨?_, ?_⟩ <;> omega))) ?_
      refine G.keep [4] (by simp only [keepG]; rfl) ?_
      refine G.ret ?_
      -- return 1
      refine Ret.of_sub fits [.tmp 4] rfl [.int .i64 (idxI xs v)] ?_ (by simp [AllFresh]) ⟨rfl, rfl⟩
      simp only [resSub, go_sem, Nat.reduceAdd, Nat.reduceSub, Nat.reduceMul, Nat.reduceMod, Nat.reduceDiv, Nat.reduceLT, Nat.reduceLeDiff, Nat.reduceEqDiff, Int.reduceToNat, Int.reduceAdd, Int.reduceSub, Int.reduceMul, Int.reduceLT, Int.reduceLE, Int.reduceNeg, ↓reduceIte, reduceCtorEq]
      have hge : xs.length ≤ i := by simpa using hc9
      rw [idxI_none (fun j hj => hgood j (by omega))]
      exact Sub.int _ _


theorem min_con (xs : List Int) (h1 : 0 < xs.length) (hl : xs.length ≤ 9223372036854775807) : Con Try.prog 60 [encI false xs] (isV (resA [.int .i64 (minL xs)])) := by
  refine Con.of_goes Try.func60 (by rfl) rfl (by simp [NoFresh, noFresh_encI]) (by simp only [Try.ntmps60, List.length_cons, List.length_nil, Nat.reduceAdd, Nat.reduceSub, List.replicate, List.cons_append, List.nil_append]; rfl) fun w0 => ?_
  unfold encI
  refine G.seq ?_
  -- region 0
  refine G.run fits (by simp only [go_sem, Nat.reduceAdd, Nat.reduceSub, Nat.reduceMul, Nat.reduceMod, Nat.reduceDiv, Nat.reduceLT, Nat.reduceLeDiff, Nat.reduceEqDiff, Int.reduceToNat, Int.reduceAdd, Int.reduceSub, Int.reduceMul, Int.reduceLT, Int.reduceLE, Int.reduceNeg, ↓reduceIte, reduceCtorEq]; with_reducible rfl) (by (first | exact trivial | omega | (simp; done) | (simp; omega) | (refine ⟨?_, ?_⟩ <;> omega))) ?_
  refine G.keep [0] (by simp only [keepG]; rfl) ?_
  refine G.seq ?_
  refine G.seq ?_
  -- region 1
  refine G.run fits (by simp only [go_sem, Nat.reduceAdd, Nat.reduceSub, Nat.reduceMul, Nat.reduceMod, Nat.reduceDiv, Nat.reduceLT, Nat.reduceLeDiff, Nat.reduceEqDiff, Int.reduceToNat, Int.reduceAdd, Int.reduceSub, Int.reduceMul, Int.reduceLT, Int.reduceLE, Int.reduceNeg, ↓reduceIte, reduceCtorEq]; with_reducible rfl) (by (first | exact trivial | omega | (simp; done) | (simp; omega) | (refine ⟨?_, ?_⟩ <;> omega))) ?_
  refine G.keep [0, 6] (by simp only [keepG]; rfl) ?_
  refine G.cond (by simp only [go_sem, Nat.reduceAdd, Nat.reduceSub, Nat.reduceMul, Nat.reduceMod, Nat.reduceDiv, Nat.reduceLT, Nat.reduceLeDiff, Nat.reduceEqDiff, Int.reduceToNat, Int.reduceAdd, Int.reduceSub, Int.reduceMul, Int.reduceLT, Int.reduceLE, Int.reduceNeg, ↓reduceIte, reduceCtorEq]; with_reducible rfl) (fun hc7 => ?_) (fun hc7 => ?_)
  ·
    simp at hc7; omega
  ·
    refine G.skip ?_
    refine G.seq ?_
    -- region 3
    refine G.run fits (by simp only [go_sem, Nat.reduceAdd, Nat.reduceSub, Nat.reduceMul, Nat.reduceMod, Nat.reduceDiv, Nat.reduceLT, Nat.reduceLeDiff, Nat.reduceEqDiff, Int.reduceToNat, Int.reduceAdd, Int.reduceSub, Int.reduceMul, Int.reduceLT, Int.reduceLE, Int.reduceNeg, ↓reduceIte, reduceCtorEq]; with_reducible rfl) (by (first | exact trivial | omega | (simp; done) | (simp; omega) | (refine ⟨?_, ?_⟩ <;> omega))) ?_
    refine G.keep [0, 2] (by simp only [keepG]; rfl) ?_
    refine G.seq ?_
    refine G.seq ?_
    -- region 4
    refine G.run fits (by simp only [go_sem, Nat.reduceAdd, Nat.reduceSub, Nat.reduceMul, Nat.reduceMod, Nat.reduceDiv, Nat.reduceLT, Nat.reduceLeDiff, Nat.reduceEqDiff, Int.reduceToNat, Int.reduceAdd, Int.reduceSub, Int.reduceMul, Int.reduceLT, Int.reduceLE, Int.reduceNeg, ↓reduceIte, reduceCtorEq]; with_reducible rfl) (by (first | exact trivial | omega | (simp; done) | (simp; omega) | (refine ⟨?_, ?_⟩ <;> omega))) ?_
    refine G.keep [0, 2, 0] (by simp only [keepG]; rfl) ?_
    refine G.block ?_
    refine G.loop (ι := Nat) (fun i => ⟨[encI false xs, .any, .any, .int .i64 (minL (xs.take i)), .int .i64 i, .any, .any, .any, .any, .any, .any, .any, .any, .any, .any, .any, .any, .any, .any, .any, .any, .any, .any, .any, .any], []⟩) (fun i => 0 < i ∧ i ≤ xs.length) (fun i => xs.length - i) 1 (by omega) ?_ fun i hi => ?_
    ·
      have e1 : minL (xs.take 1) = xs.getD 0 0 := by
        cases xs with
        | nil => simp at h1
        | cons x xs => simp [minL]
      rw [e1]
      unfold encI; (refine SLe.of (by simp only [SlotsLe]; (simp (disch := omega) [Int.natCast_add])) (by simp [HeapLe]) (by simp [TagsIn]) (by simp [TagsIn]))
    ·
      obtain ⟨hi0, hi⟩ := hi
      unfold encI
      refine G.seq ?_
      refine G.seq ?_
      -- region 5
      refine G.run fits (by simp only [go_sem, Nat.reduceAdd, Nat.reduceSub, Nat.reduceMul, Nat.reduceMod, Nat.reduceDiv, Nat.reduceLT, Nat.reduceLeDiff, Nat.reduceEqDiff, Int.reduceToNat, Int.reduceAdd, Int.reduceSub, Int.reduceMul, Int.reduceLT, Int.reduceLE, Int.reduceNeg, ↓reduceIte, reduceCtorEq]; with_reducible rfl) (by (first | exact trivial | omega | (simp; done) | (simp; omega) | (refine ⟨?_, ?_⟩ <;> omega))) ?_
      refine G.keep [0, 2, 0, 10] (by simp only [keepG]; rfl) ?_
      refine G.cond (by simp only [go_sem, Nat.reduceAdd, Nat.reduceSub, Nat.reduceMul, Nat.reduceMod, Nat.reduceDiv, Nat.reduceLT, Nat.reduceLeDiff, Nat.reduceEqDiff, Int.reduceToNat, Int.reduceAdd, Int.reduceSub, Int.reduceMul, Int.reduceLT, Int.reduceLE, Int.reduceNeg, ↓reduceIte, reduceCtorEq]; with_reducible rfl) (fun hc15 => ?_) (fun hc15 => ?_)
      ·
        have hlt : i < xs.length := by simpa using hc15
        refine G.skip ?_
        refine G.seq ?_
        refine G.block ?_
        -- region 7
        refine G.run fits (by simp only [go_sem, Nat.reduceAdd, Nat.reduceSub, Nat.reduceMul, Nat.reduceMod, Nat.reduceDiv, Nat.reduceLT, Nat.reduceLeDiff, Nat.reduceEqDiff, Int.reduceToNat, Int.reduceAdd, Int.reduceSub, Int.reduceMul, Int.reduceLT, Int.reduceLE, Int.reduceNeg, ↓reduceIte, reduceCtorEq]; with_reducible rfl) (by (first | exact trivial | omega | (simp; done) | (simp; omega) | (refine ⟨?_, ?_⟩ <;> omega))) ?_
        refine G.endBlock ?_
        -- region 6
        refine G.run fits (by simp only [go_sem, Nat.reduceAdd, Nat.reduceSub, Nat.reduceMul, Nat.reduceMod, Nat.reduceDiv, Nat.reduceLT, Nat.reduceLeDiff, Nat.reduceEqDiff, Int.reduceToNat, Int.reduceAdd, Int.reduceSub, Int.reduceMul, Int.reduceLT, Int.reduceLE, Int.reduceNeg, ↓reduceIte, reduceCtorEq]; with_reducible rfl) (by (first | exact trivial | omega | (simp; done) | (simp; omega) | (refine ⟨?_, ?_⟩ <;> omega))) ?_
        refine G.endLoop ⟨i + 1, by omega, by omega, ?_⟩
        rw [minL_succ xs i hi0 hlt]
        (refine SLe.of (by simp only [SlotsLe]; (simp (disch := omega) [Int.natCast_add])) (by simp [HeapLe]) (by simp [TagsIn]) (by simp [TagsIn]))
      ·
        refine G.exit rfl ?_
        refine G.seq ?_
        -- region 8
        refine G.run fits (by simp only [go_sem, Nat.reduceAdd, Nat.reduceSub, Nat.reduceMul, Nat.reduceMod, Nat.reduceDiv, Nat.reduceLT, Nat.reduceLeDiff, Nat.reduceEqDiff, Int.reduceToNat, Int.reduceAdd, Int.reduceSub, Int.reduceMul, Int.reduceLT, Int.reduceLE, Int.reduceNeg, ↓reduceIte, reduceCtorEq]; with_reducible rfl) (by (first | exact trivial | omega | (simp; done) | (simp; omega) | (refine ⟨?_, ?_⟩ <;> omega))) ?_
        refine G.keep [2] (by simp only [keepG]; rfl) ?_
        refine G.ret ?_
        -- return 0
        refine Ret.of_sub fits [.tmp 2] rfl [.int .i64 (minL xs)] ?_ (by simp [AllFresh]) ⟨rfl, rfl⟩
        simp only [resSub, go_sem, Nat.reduceAdd, Nat.reduceSub, Nat.reduceMul, Nat.reduceMod, Nat.reduceDiv, Nat.reduceLT, Nat.reduceLeDiff, Nat.reduceEqDiff, Int.reduceToNat, Int.reduceAdd, Int.reduceSub, Int.reduceMul, Int.reduceLT, Int.reduceLE, Int.reduceNeg, ↓reduceIte, reduceCtorEq]
        have hge : xs.length ≤ i := by simpa using hc15
        rw [List.take_of_length_le hge]
        exact Sub.int _ _


end Go.Proofs.Ytocpeankecaabaa
