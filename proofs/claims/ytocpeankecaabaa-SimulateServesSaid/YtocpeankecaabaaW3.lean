/-
  Contracts of simulate.plain, given, Serve, of the example of the law, and of the reference's Proper.
-/
import Derived.Test.YtocpeankecaabaaW2
set_option linter.all false
namespace Go.Proofs.Ytocpeankecaabaa
open Go.Abs Go.RowKit

def plainF (a b : Int) : Int × Int := (a + b, 0)
/-- What simulate.Serve returns. -/
def serveO (l : List Cust) (servers : Int) : List Cust × Int :=
  if properB l = true then (if decide (servers < 1) || decide (20 < servers) then ([], 2) else serveF plainF l servers.toNat) else ([], 1)
def givenF (l : List Cust) (servers : Int) : Int :=
  if properB l = true then (if decide (servers < 1) || decide (20 < servers) then 2 else 0) else 1

theorem properB_at {l : List Cust} (h : properB l = true) : l.length ≤ 1000 ∧ ∀ i, i < l.length → 0 ≤ (l.getD i .z).arrive ∧ (l.getD i .z).arrive ≤ 1099511627776 ∧ 0 ≤ (l.getD i .z).service ∧ (l.getD i .z).service ≤ 1099511627776 ∧ (0 < i → (l.getD (i - 1) .z).arrive ≤ (l.getD i .z).arrive) := by
  unfold properB at h
  simp only [Bool.and_eq_true, Bool.not_eq_true', List.any_eq_false, List.mem_range, decide_eq_true_eq] at h
  refine ⟨h.2, fun i hi => ?_⟩
  have := h.1 i hi
  simp only [badAt, Bool.or_eq_true, Bool.and_eq_true, decide_eq_true_eq] at this
  omega

theorem mem_of_getD (xs : List Int) (k : Nat) (h : k < xs.length) : xs.getD k 0 ∈ xs := by
  rw [List.getD_eq_getElem?_getD, List.getElem?_eq_getElem h]; simp

theorem St_bound (l : List Cust) (n : Nat) (hn : 0 < n) (h : properB l = true) : ∀ i, i ≤ l.length → ∀ x ∈ (St plainF l n i).1, 0 ≤ x ∧ x ≤ (i + 1) * 1099511627776 := by
  obtain ⟨hl, hb⟩ := properB_at h
  intro i
  induction i with
  | zero => intro _ x hx; simp [St] at hx; omega
  | succ i ih =>
    intro hi x hx
    have hk := (kOf_spec (St plainF l n i).1 (by rw [St_len1]; exact hn)).2.1
    have hf := ih (by omega) _ (mem_of_getD _ _ hk)
    have hb := hb i (by omega)
    rw [St_succ] at hx
    rcases List.mem_or_eq_of_mem_set hx with hx | hx
    · have := ih (by omega) x hx; omega
    · simp only [resAt, stAt, plainF] at hx; omega

theorem stAt_bound (l : List Cust) (n : Nat) (hn : 0 < n) (h : properB l = true) (i : Nat) (hi : i < l.length) : 0 ≤ stAt plainF l n i ∧ stAt plainF l n i ≤ (i + 1) * 1099511627776 := by
  obtain ⟨hl, hb⟩ := properB_at h
  have hk := (kOf_spec (St plainF l n i).1 (by rw [St_len1]; exact hn)).2.1
  have hf := St_bound l n hn h i (by omega) _ (mem_of_getD _ _ hk)
  have hb := hb i (by omega)
  unfold stAt
  omega

theorem plain_ok (l : List Cust) (n : Nat) : serveF plainF l n = ((St plainF l n l.length).2, 0) := serveF_ok _ _ _ (fun _ _ => rfl)

theorem serveO_ok {l : List Cust} {k : Int} (h : properB l = true) (h1 : 1 ≤ k) (h2 : k ≤ 20) : serveO l k = ((St plainF l k.toNat l.length).2, 0) := by
  have a : ¬ k < 1 := by omega
  have b : ¬ 20 < k := by omega
  simp [serveO, h, a, b, plain_ok]

def manyB (l : List Cust) : Bool := (decide (60 < l.length) && decide (l.length ≤ 1000)) || decide (1100 < l.length)

set_option maxRecDepth 10000

theorem simulate_plain_con (a b : Int) (h1 : -9223372036854775808 ≤ a + b) (h2 : a + b ≤ 9223372036854775807) : Con Try.prog 38 [.int .i64 a, .int .i64 b] (isV (resA [.int .i64 (plainF a b).1, .int .i64 (plainF a b).2])) := by
  refine Con.of_goes Try.func38 (by rfl) rfl (by simp [NoFresh]) (by simp only [Try.ntmps38, List.length_cons, List.length_nil, Nat.reduceAdd, Nat.reduceSub, List.replicate, List.cons_append, List.nil_append]; rfl) fun w0 => ?_
  refine G.seq ?_
  -- region 0
  refine G.run fits (by simp only [go_sem, Nat.reduceAdd, Nat.reduceSub, Nat.reduceMul, Nat.reduceMod, Nat.reduceDiv, Nat.reduceLT, Nat.reduceLeDiff, Nat.reduceEqDiff, Int.reduceToNat, Int.reduceAdd, Int.reduceSub, Int.reduceMul, Int.reduceLT, Int.reduceLE, Int.reduceNeg, ↓reduceIte, reduceCtorEq]; with_reducible rfl) (by (first | exact trivial | omega | (simp; done) | (simp; omega) | (refine ⟨?_, ?_⟩ <;> omega))) ?_
  refine G.keep [0, 0] (by simp only [keepG]; rfl) ?_
  refine G.seq ?_
  -- region 1
  refine G.run fits (by simp only [go_sem, Nat.reduceAdd, Nat.reduceSub, Nat.reduceMul, Nat.reduceMod, Nat.reduceDiv, Nat.reduceLT, Nat.reduceLeDiff, Nat.reduceEqDiff, Int.reduceToNat, Int.reduceAdd, Int.reduceSub, Int.reduceMul, Int.reduceLT, Int.reduceLE, Int.reduceNeg, ↓reduceIte, reduceCtorEq]; with_reducible rfl) (by (first | exact trivial | omega | (simp; done) | (simp; omega) | (refine ⟨?_, ?_⟩ <;> omega))) ?_
  refine G.keep [4, 0] (by simp only [keepG]; rfl) ?_
  refine G.ret ?_
  -- return 0
  refine Ret.of_sub fits [.tmp 4, .tmp 5] rfl [.int .i64 (plainF a b).1, .int .i64 (plainF a b).2] ?_ (by simp [AllFresh]) ⟨rfl, rfl⟩
  simp only [resSub, go_sem, Nat.reduceAdd, Nat.reduceSub, Nat.reduceMul, Nat.reduceMod, Nat.reduceDiv, Nat.reduceLT, Nat.reduceLeDiff, Nat.reduceEqDiff, Int.reduceToNat, Int.reduceAdd, Int.reduceSub, Int.reduceMul, Int.reduceLT, Int.reduceLE, Int.reduceNeg, ↓reduceIte, reduceCtorEq]
  exact ⟨Sub.int _ _, Sub.int _ _⟩


theorem simulate_given_con (l : List Cust) (servers : Int) (hl : l.length ≤ 9223372036854775807) : Con Try.prog 36 [encC false l, .int .i64 servers] (isV (resA [.int .i64 (givenF l servers)])) := by
  refine Con.of_goes Try.func36 (by rfl) rfl (by simp [NoFresh, noFresh_encC]) (by simp only [Try.ntmps36, List.length_cons, List.length_nil, Nat.reduceAdd, Nat.reduceSub, List.replicate, List.cons_append, List.nil_append]; rfl) fun w0 => ?_
  unfold encC
  refine G.seq ?_
  -- region 0
  refine G.run fits (by simp only [go_sem, Nat.reduceAdd, Nat.reduceSub, Nat.reduceMul, Nat.reduceMod, Nat.reduceDiv, Nat.reduceLT, Nat.reduceLeDiff, Nat.reduceEqDiff, Int.reduceToNat, Int.reduceAdd, Int.reduceSub, Int.reduceMul, Int.reduceLT, Int.reduceLE, Int.reduceNeg, ↓reduceIte, reduceCtorEq]; with_reducible rfl) (by (first | exact trivial | omega | (simp; done) | (simp; omega) | (refine ⟨?_, ?_⟩ <;> omega))) ?_
  refine G.keep [0, 0] (by simp only [keepG]; rfl) ?_
  refine G.seq ?_
  refine G.block ?_
  refine G.seq ?_
  -- region 1
  refine G.ops fits ?_
  refine O.run 1 (by simp only [go_sem, Nat.reduceAdd, Nat.reduceSub, Nat.reduceMul, Nat.reduceMod, Nat.reduceDiv, Nat.reduceLT, Nat.reduceLeDiff, Nat.reduceEqDiff, Int.reduceToNat, Int.reduceAdd, Int.reduceSub, Int.reduceMul, Int.reduceLT, Int.reduceLE, Int.reduceNeg, ↓reduceIte, reduceCtorEq]; with_reducible rfl) (by (first | exact trivial | omega | (simp; done) | (simp; omega) | (refine ⟨?_, ?_⟩ <;> omega))) ?_
  refine O.call (by simp only [go_sem, Nat.reduceAdd, Nat.reduceSub, Nat.reduceMul, Nat.reduceMod, Nat.reduceDiv, Nat.reduceLT, Nat.reduceLeDiff, Nat.reduceEqDiff, Int.reduceToNat, Int.reduceAdd, Int.reduceSub, Int.reduceMul, Int.reduceLT, Int.reduceLE, Int.reduceNeg, ↓reduceIte, reduceCtorEq]; with_reducible rfl) (simulate_proper_con l hl) (by simp [go_sem, Nat.reduceAdd, Nat.reduceSub, Nat.reduceMul, Nat.reduceMod, Nat.reduceDiv, Nat.reduceLT, Nat.reduceLeDiff, Nat.reduceEqDiff, Int.reduceToNat, Int.reduceAdd, Int.reduceSub, Int.reduceMul, Int.reduceLT, Int.reduceLE, Int.reduceNeg, ↓reduceIte, reduceCtorEq]) (by simp only [SubL, go_sem, Nat.reduceAdd, Nat.reduceSub, Nat.reduceMul, Nat.reduceMod, Nat.reduceDiv, Nat.reduceLT, Nat.reduceLeDiff, Nat.reduceEqDiff, Int.reduceToNat, Int.reduceAdd, Int.reduceSub, Int.reduceMul, Int.reduceLT, Int.reduceLE, Int.reduceNeg, ↓reduceIte, reduceCtorEq]; (first | exact trivial | (repeat' (first | exact trivial | refine ⟨?_, ?_⟩ | exact Sub.int _ _ | exact Sub.bool _ | exact Sub.val _ | exact Sub.nil _ _ _ | exact Sub.ro (by simp) (fun _ _ _ _ => rfl) | exact Sub.own rfl rfl (Nat.le_refl _) (fun _ _ _ _ => Sub.int _ _) | exact Sub.fn (fun j hj => absurd hj (by omega)))))) ?_
  simp only [go_sem, Nat.reduceAdd, Nat.reduceSub, Nat.reduceMul, Nat.reduceMod, Nat.reduceDiv, Nat.reduceLT, Nat.reduceLeDiff, Nat.reduceEqDiff, Int.reduceToNat, Int.reduceAdd, Int.reduceSub, Int.reduceMul, Int.reduceLT, Int.reduceLE, Int.reduceNeg, ↓reduceIte, reduceCtorEq]
  refine O.run 2 (by simp only [go_sem, Nat.reduceAdd, Nat.reduceSub, Nat.reduceMul, Nat.reduceMod, Nat.reduceDiv, Nat.reduceLT, Nat.reduceLeDiff, Nat.reduceEqDiff, Int.reduceToNat, Int.reduceAdd, Int.reduceSub, Int.reduceMul, Int.reduceLT, Int.reduceLE, Int.reduceNeg, ↓reduceIte, reduceCtorEq]; with_reducible rfl) (by (first | exact trivial | omega | (simp; done) | (simp; omega) | (refine ⟨?_, ?_⟩ <;> omega))) ?_
  refine O.nil ?_
  refine G.keep [1, 3] (by simp only [keepG]; rfl) ?_
  refine G.cond (by simp only [go_sem, Nat.reduceAdd, Nat.reduceSub, Nat.reduceMul, Nat.reduceMod, Nat.reduceDiv, Nat.reduceLT, Nat.reduceLeDiff, Nat.reduceEqDiff, Int.reduceToNat, Int.reduceAdd, Int.reduceSub, Int.reduceMul, Int.reduceLT, Int.reduceLE, Int.reduceNeg, ↓reduceIte, reduceCtorEq]; with_reducible rfl) (fun hc5 => ?_) (fun hc5 => ?_)
  ·
    refine G.seq ?_
    -- region 2
    refine G.run fits (by simp only [go_sem, Nat.reduceAdd, Nat.reduceSub, Nat.reduceMul, Nat.reduceMod, Nat.reduceDiv, Nat.reduceLT, Nat.reduceLeDiff, Nat.reduceEqDiff, Int.reduceToNat, Int.reduceAdd, Int.reduceSub, Int.reduceMul, Int.reduceLT, Int.reduceLE, Int.reduceNeg, ↓reduceIte, reduceCtorEq]; with_reducible rfl) (by (first | exact trivial | omega | (simp; done) | (simp; omega) | (refine ⟨?_, ?_⟩ <;> omega))) ?_
    refine G.keep [4] (by simp only [keepG]; rfl) ?_
    refine G.ret ?_
    -- return 0
    refine Ret.of_sub fits [.tmp 4] rfl [.int .i64 (givenF l servers)] ?_ (by simp [AllFresh]) ⟨rfl, rfl⟩
    simp only [resSub, go_sem, Nat.reduceAdd, Nat.reduceSub, Nat.reduceMul, Nat.reduceMod, Nat.reduceDiv, Nat.reduceLT, Nat.reduceLeDiff, Nat.reduceEqDiff, Int.reduceToNat, Int.reduceAdd, Int.reduceSub, Int.reduceMul, Int.reduceLT, Int.reduceLE, Int.reduceNeg, ↓reduceIte, reduceCtorEq]
    have : properB l = false := by simpa using hc5
    exact Sub.int' (by simp [givenF, this])
  ·
    refine G.seq ?_
    -- region 3
    refine G.run fits (by simp only [go_sem, Nat.reduceAdd, Nat.reduceSub, Nat.reduceMul, Nat.reduceMod, Nat.reduceDiv, Nat.reduceLT, Nat.reduceLeDiff, Nat.reduceEqDiff, Int.reduceToNat, Int.reduceAdd, Int.reduceSub, Int.reduceMul, Int.reduceLT, Int.reduceLE, Int.reduceNeg, ↓reduceIte, reduceCtorEq]; with_reducible rfl) (by (first | exact trivial | omega | (simp; done) | (simp; omega) | (refine ⟨?_, ?_⟩ <;> omega))) ?_
    refine G.keep [9] (by simp only [keepG]; rfl) ?_
    refine G.cond (by simp only [go_sem, Nat.reduceAdd, Nat.reduceSub, Nat.reduceMul, Nat.reduceMod, Nat.reduceDiv, Nat.reduceLT, Nat.reduceLeDiff, Nat.reduceEqDiff, Int.reduceToNat, Int.reduceAdd, Int.reduceSub, Int.reduceMul, Int.reduceLT, Int.reduceLE, Int.reduceNeg, ↓reduceIte, reduceCtorEq]; with_reducible rfl) (fun hc9 => ?_) (fun hc9 => ?_)
    ·
      refine G.seq ?_
      -- region 4
      refine G.run fits (by simp only [go_sem, Nat.reduceAdd, Nat.reduceSub, Nat.reduceMul, Nat.reduceMod, Nat.reduceDiv, Nat.reduceLT, Nat.reduceLeDiff, Nat.reduceEqDiff, Int.reduceToNat, Int.reduceAdd, Int.reduceSub, Int.reduceMul, Int.reduceLT, Int.reduceLE, Int.reduceNeg, ↓reduceIte, reduceCtorEq]; with_reducible rfl) (by (first | exact trivial | omega | (simp; done) | (simp; omega) | (refine ⟨?_, ?_⟩ <;> omega))) ?_
      refine G.keep [4] (by simp only [keepG]; rfl) ?_
      refine G.ret ?_
      -- return 1
      refine Ret.of_sub fits [.tmp 4] rfl [.int .i64 (givenF l servers)] ?_ (by simp [AllFresh]) ⟨rfl, rfl⟩
      simp only [resSub, go_sem, Nat.reduceAdd, Nat.reduceSub, Nat.reduceMul, Nat.reduceMod, Nat.reduceDiv, Nat.reduceLT, Nat.reduceLeDiff, Nat.reduceEqDiff, Int.reduceToNat, Int.reduceAdd, Int.reduceSub, Int.reduceMul, Int.reduceLT, Int.reduceLE, Int.reduceNeg, ↓reduceIte, reduceCtorEq]
      have : properB l = true := by simpa using hc5
      exact Sub.int' (by simp only [givenF, this, hc9]; rfl)
    ·
      refine G.skip ?_
      refine G.endBlock ?_
      refine G.seq ?_
      -- region 5
      refine G.run fits (by simp only [go_sem, Nat.reduceAdd, Nat.reduceSub, Nat.reduceMul, Nat.reduceMod, Nat.reduceDiv, Nat.reduceLT, Nat.reduceLeDiff, Nat.reduceEqDiff, Int.reduceToNat, Int.reduceAdd, Int.reduceSub, Int.reduceMul, Int.reduceLT, Int.reduceLE, Int.reduceNeg, ↓reduceIte, reduceCtorEq]; with_reducible rfl) (by (first | exact trivial | omega | (simp; done) | (simp; omega) | (refine ⟨?_, ?_⟩ <;> omega))) ?_
      refine G.keep [4] (by simp only [keepG]; rfl) ?_
      refine G.ret ?_
      -- return 2
      refine Ret.of_sub fits [.tmp 4] rfl [.int .i64 (givenF l servers)] ?_ (by simp [AllFresh]) ⟨rfl, rfl⟩
      simp only [resSub, go_sem, Nat.reduceAdd, Nat.reduceSub, Nat.reduceMul, Nat.reduceMod, Nat.reduceDiv, Nat.reduceLT, Nat.reduceLeDiff, Nat.reduceEqDiff, Int.reduceToNat, Int.reduceAdd, Int.reduceSub, Int.reduceMul, Int.reduceLT, Int.reduceLE, Int.reduceNeg, ↓reduceIte, reduceCtorEq]
      have : properB l = true := by simpa using hc5
      exact Sub.int' (by simp only [givenF, this, hc9]; rfl)


theorem simulate_Serve_con (l : List Cust) (servers : Int) (hl : l.length ≤ 9223372036854775807) : Con Try.prog 14 [encC false l, .int .i64 servers] (isV (resA [encC true (serveO l servers).1, .int .i64 (serveO l servers).2])) := by
  refine Con.of_goes Try.func14 (by rfl) rfl (by simp [NoFresh, noFresh_encC]) (by simp only [Try.ntmps14, List.length_cons, List.length_nil, Nat.reduceAdd, Nat.reduceSub, List.replicate, List.cons_append, List.nil_append]; rfl) fun w0 => ?_
  unfold encC
  refine G.seq ?_
  -- region 0
  refine G.run fits (by simp only [go_sem, Nat.reduceAdd, Nat.reduceSub, Nat.reduceMul, Nat.reduceMod, Nat.reduceDiv, Nat.reduceLT, Nat.reduceLeDiff, Nat.reduceEqDiff, Int.reduceToNat, Int.reduceAdd, Int.reduceSub, Int.reduceMul, Int.reduceLT, Int.reduceLE, Int.reduceNeg, ↓reduceIte, reduceCtorEq]; with_reducible rfl) (by (first | exact trivial | omega | (simp; done) | (simp; omega) | (refine ⟨?_, ?_⟩ <;> omega))) ?_
  refine G.keep [0, 0] (by simp only [keepG]; rfl) ?_
  refine G.seq ?_
  refine G.seq ?_
  -- region 1
  refine G.ops fits ?_
  refine O.run 2 (by simp only [go_sem, Nat.reduceAdd, Nat.reduceSub, Nat.reduceMul, Nat.reduceMod, Nat.reduceDiv, Nat.reduceLT, Nat.reduceLeDiff, Nat.reduceEqDiff, Int.reduceToNat, Int.reduceAdd, Int.reduceSub, Int.reduceMul, Int.reduceLT, Int.reduceLE, Int.reduceNeg, ↓reduceIte, reduceCtorEq]; with_reducible rfl) (by (first | exact trivial | omega | (simp; done) | (simp; omega) | (refine ⟨?_, ?_⟩ <;> omega))) ?_
  refine O.call (by simp only [go_sem, Nat.reduceAdd, Nat.reduceSub, Nat.reduceMul, Nat.reduceMod, Nat.reduceDiv, Nat.reduceLT, Nat.reduceLeDiff, Nat.reduceEqDiff, Int.reduceToNat, Int.reduceAdd, Int.reduceSub, Int.reduceMul, Int.reduceLT, Int.reduceLE, Int.reduceNeg, ↓reduceIte, reduceCtorEq]; with_reducible rfl) (simulate_given_con l servers hl) (by simp [go_sem, Nat.reduceAdd, Nat.reduceSub, Nat.reduceMul, Nat.reduceMod, Nat.reduceDiv, Nat.reduceLT, Nat.reduceLeDiff, Nat.reduceEqDiff, Int.reduceToNat, Int.reduceAdd, Int.reduceSub, Int.reduceMul, Int.reduceLT, Int.reduceLE, Int.reduceNeg, ↓reduceIte, reduceCtorEq]) (by simp only [SubL, go_sem, Nat.reduceAdd, Nat.reduceSub, Nat.reduceMul, Nat.reduceMod, Nat.reduceDiv, Nat.reduceLT, Nat.reduceLeDiff, Nat.reduceEqDiff, Int.reduceToNat, Int.reduceAdd, Int.reduceSub, Int.reduceMul, Int.reduceLT, Int.reduceLE, Int.reduceNeg, ↓reduceIte, reduceCtorEq]; (first | exact trivial | (repeat' (first | exact trivial | refine ⟨?_, ?_⟩ | exact Sub.int _ _ | exact Sub.bool _ | exact Sub.val _ | exact Sub.nil _ _ _ | exact Sub.ro (by simp) (fun _ _ _ _ => rfl) | exact Sub.own rfl rfl (Nat.le_refl _) (fun _ _ _ _ => Sub.int _ _) | exact Sub.fn (fun j hj => absurd hj (by omega)))))) ?_
  simp only [go_sem, Nat.reduceAdd, Nat.reduceSub, Nat.reduceMul, Nat.reduceMod, Nat.reduceDiv, Nat.reduceLT, Nat.reduceLeDiff, Nat.reduceEqDiff, Int.reduceToNat, Int.reduceAdd, Int.reduceSub, Int.reduceMul, Int.reduceLT, Int.reduceLE, Int.reduceNeg, ↓reduceIte, reduceCtorEq]
  refine O.run 1 (by simp only [go_sem, Nat.reduceAdd, Nat.reduceSub, Nat.reduceMul, Nat.reduceMod, Nat.reduceDiv, Nat.reduceLT, Nat.reduceLeDiff, Nat.reduceEqDiff, Int.reduceToNat, Int.reduceAdd, Int.reduceSub, Int.reduceMul, Int.reduceLT, Int.reduceLE, Int.reduceNeg, ↓reduceIte, reduceCtorEq]; with_reducible rfl) (by (first | exact trivial | omega | (simp; done) | (simp; omega) | (refine ⟨?_, ?_⟩ <;> omega))) ?_
  refine O.nil ?_
  refine G.keep [0, 0, 4] (by simp only [keepG]; rfl) ?_
  refine G.seq ?_
  -- region 2
  refine G.run fits (by simp only [go_sem, Nat.reduceAdd, Nat.reduceSub, Nat.reduceMul, Nat.reduceMod, Nat.reduceDiv, Nat.reduceLT, Nat.reduceLeDiff, Nat.reduceEqDiff, Int.reduceToNat, Int.reduceAdd, Int.reduceSub, Int.reduceMul, Int.reduceLT, Int.reduceLE, Int.reduceNeg, ↓reduceIte, reduceCtorEq]; with_reducible rfl) (by (first | exact trivial | omega | (simp; done) | (simp; omega) | (refine ⟨?_, ?_⟩ <;> omega))) ?_
  refine G.keep [0, 0, 4, 4] (by simp only [keepG]; rfl) ?_
  refine G.cond (by simp only [go_sem, Nat.reduceAdd, Nat.reduceSub, Nat.reduceMul, Nat.reduceMod, Nat.reduceDiv, Nat.reduceLT, Nat.reduceLeDiff, Nat.reduceEqDiff, Int.reduceToNat, Int.reduceAdd, Int.reduceSub, Int.reduceMul, Int.reduceLT, Int.reduceLE, Int.reduceNeg, ↓reduceIte, reduceCtorEq]; with_reducible rfl) (fun hc11 => ?_) (fun hc11 => ?_)
  ·
    refine G.seq ?_
    -- region 3
    refine G.run fits (by simp only [go_sem, Nat.reduceAdd, Nat.reduceSub, Nat.reduceMul, Nat.reduceMod, Nat.reduceDiv, Nat.reduceLT, Nat.reduceLeDiff, Nat.reduceEqDiff, Int.reduceToNat, Int.reduceAdd, Int.reduceSub, Int.reduceMul, Int.reduceLT, Int.reduceLE, Int.reduceNeg, ↓reduceIte, reduceCtorEq]; with_reducible rfl) (by (first | exact trivial | omega | (simp; done) | (simp; omega) | (refine ⟨?_, ?_⟩ <;> omega))) ?_
    refine G.keep [4, 0] (by simp only [keepG]; rfl) ?_
    refine G.ret ?_
    -- return 0
    refine Ret.of_sub fits [.tmp 4, .tmp 5] rfl [encC true (serveO l servers).1, .int .i64 (serveO l servers).2] ?_ (by simp [AllFresh, encC]) ⟨rfl, rfl⟩
    simp only [resSub, go_sem, Nat.reduceAdd, Nat.reduceSub, Nat.reduceMul, Nat.reduceMod, Nat.reduceDiv, Nat.reduceLT, Nat.reduceLeDiff, Nat.reduceEqDiff, Int.reduceToNat, Int.reduceAdd, Int.reduceSub, Int.reduceMul, Int.reduceLT, Int.reduceLE, Int.reduceNeg, ↓reduceIte, reduceCtorEq]
    have hg : ¬ givenF l servers = 0 := by simpa using hc11
    have e : serveO l servers = ([], givenF l servers) := by
      unfold givenF at hg
      unfold serveO givenF
      split
      · split
        · rfl
        · rename_i h1 h2; simp only [h1, h2] at hg; exact absurd rfl hg
      · rfl
    rw [e]
    exact ⟨Sub.nil _ _ _, Sub.int _ _⟩
  ·
    have hg : givenF l servers = 0 := by simpa using hc11
    have hp : properB l = true ∧ 1 ≤ servers ∧ servers ≤ 20 := by
      unfold givenF at hg
      split at hg
      · split at hg
        · omega
        · rename_i h1 h2; simp at h2; exact ⟨h1, by omega, by omega⟩
      · omega
    refine G.skip ?_
    refine G.seq ?_
    -- region 4
    refine G.ops fits ?_
    refine O.run 2 (by simp only [go_sem, Nat.reduceAdd, Nat.reduceSub, Nat.reduceMul, Nat.reduceMod, Nat.reduceDiv, Nat.reduceLT, Nat.reduceLeDiff, Nat.reduceEqDiff, Int.reduceToNat, Int.reduceAdd, Int.reduceSub, Int.reduceMul, Int.reduceLT, Int.reduceLE, Int.reduceNeg, ↓reduceIte, reduceCtorEq]; with_reducible rfl) (by (first | exact trivial | omega | (simp; done) | (simp; omega) | (refine ⟨?_, ?_⟩ <;> omega))) ?_
    refine O.call (by simp only [go_sem, Nat.reduceAdd, Nat.reduceSub, Nat.reduceMul, Nat.reduceMod, Nat.reduceDiv, Nat.reduceLT, Nat.reduceLeDiff, Nat.reduceEqDiff, Int.reduceToNat, Int.reduceAdd, Int.reduceSub, Int.reduceMul, Int.reduceLT, Int.reduceLE, Int.reduceNeg, ↓reduceIte, reduceCtorEq]; with_reducible rfl) (simulate_serve_con plainF 38 0 (fun _ => .any) l servers (properB_at hp.1).1 hp.2.1 (by omega) (fun j hj => by omega) (fun _ j hj => by omega) (fun _ => rfl) (fun _ j hj => by omega) (fun i hi _ => by
        have h1 := stAt_bound l servers.toNat (by omega) hp.1 i hi
        have h2 := (properB_at hp.1).2 i hi
        have h3 := (properB_at hp.1).1
        exact simulate_plain_con _ _ (by omega) (by omega))) (by simp [go_sem, Nat.reduceAdd, Nat.reduceSub, Nat.reduceMul, Nat.reduceMod, Nat.reduceDiv, Nat.reduceLT, Nat.reduceLeDiff, Nat.reduceEqDiff, Int.reduceToNat, Int.reduceAdd, Int.reduceSub, Int.reduceMul, Int.reduceLT, Int.reduceLE, Int.reduceNeg, ↓reduceIte, reduceCtorEq]) (by simp only [SubL, go_sem, Nat.reduceAdd, Nat.reduceSub, Nat.reduceMul, Nat.reduceMod, Nat.reduceDiv, Nat.reduceLT, Nat.reduceLeDiff, Nat.reduceEqDiff, Int.reduceToNat, Int.reduceAdd, Int.reduceSub, Int.reduceMul, Int.reduceLT, Int.reduceLE, Int.reduceNeg, ↓reduceIte, reduceCtorEq]; (first | exact trivial | (repeat' (first | exact trivial | refine ⟨?_, ?_⟩ | exact Sub.int _ _ | exact Sub.bool _ | exact Sub.val _ | exact Sub.nil _ _ _ | exact Sub.ro (by simp) (fun _ _ _ _ => rfl) | exact Sub.own rfl rfl (Nat.le_refl _) (fun _ _ _ _ => Sub.int _ _) | exact Sub.fn (fun j hj => absurd hj (by omega)))))) ?_
    simp only [go_sem, Nat.reduceAdd, Nat.reduceSub, Nat.reduceMul, Nat.reduceMod, Nat.reduceDiv, Nat.reduceLT, Nat.reduceLeDiff, Nat.reduceEqDiff, Int.reduceToNat, Int.reduceAdd, Int.reduceSub, Int.reduceMul, Int.reduceLT, Int.reduceLE, Int.reduceNeg, ↓reduceIte, reduceCtorEq]
    refine O.run 4 (by simp only [go_sem, Nat.reduceAdd, Nat.reduceSub, Nat.reduceMul, Nat.reduceMod, Nat.reduceDiv, Nat.reduceLT, Nat.reduceLeDiff, Nat.reduceEqDiff, Int.reduceToNat, Int.reduceAdd, Int.reduceSub, Int.reduceMul, Int.reduceLT, Int.reduceLE, Int.reduceNeg, ↓reduceIte, reduceCtorEq]; with_reducible rfl) (by (first | exact trivial | omega | (simp; done) | (simp; omega) | (refine ⟨?_, ?_⟩ <;> omega))) ?_
    refine O.nil ?_
    refine G.keep [4, 0] (by simp only [keepG]; rfl) ?_
    refine G.ret ?_
    -- return 1
    refine Ret.of_sub fits [.tmp 4, .tmp 5] rfl [encC true (serveO l servers).1, .int .i64 (serveO l servers).2] ?_ (by simp [AllFresh, encC]) ⟨rfl, rfl⟩
    simp only [resSub, go_sem, Nat.reduceAdd, Nat.reduceSub, Nat.reduceMul, Nat.reduceMod, Nat.reduceDiv, Nat.reduceLT, Nat.reduceLeDiff, Nat.reduceEqDiff, Int.reduceToNat, Int.reduceAdd, Int.reduceSub, Int.reduceMul, Int.reduceLT, Int.reduceLE, Int.reduceNeg, ↓reduceIte, reduceCtorEq]
    have e : serveO l servers = serveF plainF l servers.toNat := by
      have h1 : ¬ servers < 1 := by omega
      have h2 : ¬ 20 < servers := by omega
      simp [serveO, hp.1, h1, h2]
    rw [e]
    exact ⟨Sub.ro (fun h => h) (fun _ _ _ _ => rfl), Sub.int _ _⟩


theorem many_con (l : List Cust) (hl : l.length ≤ 9223372036854775807) : Con Try.prog 12 [encC false l] (isV (resA [.bool (manyB l)])) := by
  refine Con.of_goes Try.func12 (by rfl) rfl (by simp [NoFresh, noFresh_encC]) (by simp only [Try.ntmps12, List.length_cons, List.length_nil, Nat.reduceAdd, Nat.reduceSub, List.replicate, List.cons_append, List.nil_append]; rfl) fun w0 => ?_
  unfold encC
  refine G.seq ?_
  -- region 0
  refine G.run fits (by simp only [go_sem, Nat.reduceAdd, Nat.reduceSub, Nat.reduceMul, Nat.reduceMod, Nat.reduceDiv, Nat.reduceLT, Nat.reduceLeDiff, Nat.reduceEqDiff, Int.reduceToNat, Int.reduceAdd, Int.reduceSub, Int.reduceMul, Int.reduceLT, Int.reduceLE, Int.reduceNeg, ↓reduceIte, reduceCtorEq]; with_reducible rfl) (by (first | exact trivial | omega | (simp; done) | (simp; omega) | (refine ⟨?_, ?_⟩ <;> omega))) ?_
  refine G.keep [0] (by simp only [keepG]; rfl) ?_
  refine G.seq ?_
  -- region 1
  refine G.ops fits ?_
  refine O.run 8 (by simp only [go_sem, Nat.reduceAdd, Nat.reduceSub, Nat.reduceMul, Nat.reduceMod, Nat.reduceDiv, Nat.reduceLT, Nat.reduceLeDiff, Nat.reduceEqDiff, Int.reduceToNat, Int.reduceAdd, Int.reduceSub, Int.reduceMul, Int.reduceLT, Int.reduceLE, Int.reduceNeg, ↓reduceIte, reduceCtorEq]; with_reducible rfl) (by (first | exact trivial | omega | (simp; done) | (simp; omega) | (refine ⟨?_, ?_⟩ <;> omega))) ?_
  refine O.run 6 (by simp only [go_sem, Nat.reduceAdd, Nat.reduceSub, Nat.reduceMul, Nat.reduceMod, Nat.reduceDiv, Nat.reduceLT, Nat.reduceLeDiff, Nat.reduceEqDiff, Int.reduceToNat, Int.reduceAdd, Int.reduceSub, Int.reduceMul, Int.reduceLT, Int.reduceLE, Int.reduceNeg, ↓reduceIte, reduceCtorEq]; with_reducible rfl) (by (first | exact trivial | omega | (simp; done) | (simp; omega) | (refine ⟨?_, ?_⟩ <;> omega))) ?_
  refine O.nil ?_
  refine G.keep [2] (by simp only [keepG]; rfl) ?_
  refine G.ret ?_
  -- return 0
  refine Ret.of_sub fits [.tmp 2] rfl [.bool (manyB l)] ?_ (by simp [AllFresh]) ⟨rfl, rfl⟩
  simp only [resSub, go_sem, Nat.reduceAdd, Nat.reduceSub, Nat.reduceMul, Nat.reduceMod, Nat.reduceDiv, Nat.reduceLT, Nat.reduceLeDiff, Nat.reduceEqDiff, Int.reduceToNat, Int.reduceAdd, Int.reduceSub, Int.reduceMul, Int.reduceLT, Int.reduceLE, Int.reduceNeg, ↓reduceIte, reduceCtorEq]
  refine (Sub.bool _).of_eq ?_
  congr 1
  unfold manyB
  rw [Bool.eq_iff_iff]
  simp
  omega


theorem ref_Proper_con (l : List Cust) (hl : l.length ≤ 9223372036854775807) : Con Try.prog 13 [encC false l] (isV (resA [.bool (properB l)])) := by
  refine Con.of_goes Try.func13 (by rfl) rfl (by simp [NoFresh, noFresh_encC]) (by simp only [Try.ntmps13, List.length_cons, List.length_nil, Nat.reduceAdd, Nat.reduceSub, List.replicate, List.cons_append, List.nil_append]; rfl) fun w0 => ?_
  unfold encC
  refine G.seq ?_
  -- region 0
  refine G.run fits (by simp only [go_sem, Nat.reduceAdd, Nat.reduceSub, Nat.reduceMul, Nat.reduceMod, Nat.reduceDiv, Nat.reduceLT, Nat.reduceLeDiff, Nat.reduceEqDiff, Int.reduceToNat, Int.reduceAdd, Int.reduceSub, Int.reduceMul, Int.reduceLT, Int.reduceLE, Int.reduceNeg, ↓reduceIte, reduceCtorEq]; with_reducible rfl) (by (first | exact trivial | omega | (simp; done) | (simp; omega) | (refine ⟨?_, ?_⟩ <;> omega))) ?_
  refine G.keep [0] (by simp only [keepG]; rfl) ?_
  refine G.seq ?_
  refine G.seq ?_
  -- region 1
  refine G.run fits (by simp only [go_sem, Nat.reduceAdd, Nat.reduceSub, Nat.reduceMul, Nat.reduceMod, Nat.reduceDiv, Nat.reduceLT, Nat.reduceLeDiff, Nat.reduceEqDiff, Int.reduceToNat, Int.reduceAdd, Int.reduceSub, Int.reduceMul, Int.reduceLT, Int.reduceLE, Int.reduceNeg, ↓reduceIte, reduceCtorEq]; with_reducible rfl) (by (first | exact trivial | omega | (simp; done) | (simp; omega) | (refine ⟨?_, ?_⟩ <;> omega))) ?_
  refine G.keep [0, 5] (by simp only [keepG]; rfl) ?_
  refine G.cond (by simp only [go_sem, Nat.reduceAdd, Nat.reduceSub, Nat.reduceMul, Nat.reduceMod, Nat.reduceDiv, Nat.reduceLT, Nat.reduceLeDiff, Nat.reduceEqDiff, Int.reduceToNat, Int.reduceAdd, Int.reduceSub, Int.reduceMul, Int.reduceLT, Int.reduceLE, Int.reduceNeg, ↓reduceIte, reduceCtorEq]; with_reducible rfl) (fun hc6 => ?_) (fun hc6 => ?_)
  ·
    refine G.seq ?_
    -- region 2
    refine G.run fits (by simp only [go_sem, Nat.reduceAdd, Nat.reduceSub, Nat.reduceMul, Nat.reduceMod, Nat.reduceDiv, Nat.reduceLT, Nat.reduceLeDiff, Nat.reduceEqDiff, Int.reduceToNat, Int.reduceAdd, Int.reduceSub, Int.reduceMul, Int.reduceLT, Int.reduceLE, Int.reduceNeg, ↓reduceIte, reduceCtorEq]; with_reducible rfl) (by (first | exact trivial | omega | (simp; done) | (simp; omega) | (refine ⟨?_, ?_⟩ <;> omega))) ?_
    refine G.keep [2] (by simp only [keepG]; rfl) ?_
    refine G.ret ?_
    -- return 0
    refine Ret.of_sub fits [.tmp 2] rfl [.bool (properB l)] ?_ (by simp [AllFresh]) ⟨rfl, rfl⟩
    simp only [resSub, go_sem, Nat.reduceAdd, Nat.reduceSub, Nat.reduceMul, Nat.reduceMod, Nat.reduceDiv, Nat.reduceLT, Nat.reduceLeDiff, Nat.reduceEqDiff, Int.reduceToNat, Int.reduceAdd, Int.reduceSub, Int.reduceMul, Int.reduceLT, Int.reduceLE, Int.reduceNeg, ↓reduceIte, reduceCtorEq]
    have : ¬ l.length ≤ 1000 := by simp at hc6; omega
    exact (Sub.bool _).of_eq (by simp [properB, this])
  ·
    refine G.skip ?_
    refine G.seq ?_
    refine G.seq ?_
    -- region 3
    refine G.run fits (by simp only [go_sem, Nat.reduceAdd, Nat.reduceSub, Nat.reduceMul, Nat.reduceMod, Nat.reduceDiv, Nat.reduceLT, Nat.reduceLeDiff, Nat.reduceEqDiff, Int.reduceToNat, Int.reduceAdd, Int.reduceSub, Int.reduceMul, Int.reduceLT, Int.reduceLE, Int.reduceNeg, ↓reduceIte, reduceCtorEq]; with_reducible rfl) (by (first | exact trivial | omega | (simp; done) | (simp; omega) | (refine ⟨?_, ?_⟩ <;> omega))) ?_
    refine G.keep [0, 2] (by simp only [keepG]; rfl) ?_
    refine G.block ?_
    refine G.loop (ι := Nat) (fun i => ⟨[encC false l, .any, .any, .int .i64 i, .any, .any, .any, .any, .any, .any, .any, .any, .any, .any, .any, .any, .any, .any, .any, .any, .any, .any, .any, .any, .any, .any, .any, .any, .any, .any, .any, .any, .any, .any, .any, .any, .any, .any, .any, .any, .any, .any, .any, .any, .any, .any, .any, .any, .any, .any, .any, .any, .any, .any, .any, .any, .any, .any, .any, .any, .any], []⟩) (fun i => i ≤ l.length ∧ ∀ j, j < i → badAt l j = false) (fun i => l.length - i) 0 (by simp) ?_ fun i hi => ?_
    ·
      unfold encC; (refine SLe.of (by simp only [SlotsLe]; (simp (disch := omega) [Int.natCast_add])) (by simp [HeapLe]) (by simp [TagsIn]) (by simp [TagsIn]))
    ·
      obtain ⟨hi, hgood⟩ := hi
      unfold encC
      refine G.seq ?_
      refine G.seq ?_
      -- region 4
      refine G.run fits (by simp only [go_sem, Nat.reduceAdd, Nat.reduceSub, Nat.reduceMul, Nat.reduceMod, Nat.reduceDiv, Nat.reduceLT, Nat.reduceLeDiff, Nat.reduceEqDiff, Int.reduceToNat, Int.reduceAdd, Int.reduceSub, Int.reduceMul, Int.reduceLT, Int.reduceLE, Int.reduceNeg, ↓reduceIte, reduceCtorEq]; with_reducible rfl) (by (first | exact trivial | omega | (simp; done) | (simp; omega) | (refine ⟨?_, ?_⟩ <;> omega))) ?_
      refine G.keep [0, 2, 6] (by simp only [keepG]; rfl) ?_
      refine G.cond (by simp only [go_sem, Nat.reduceAdd, Nat.reduceSub, Nat.reduceMul, Nat.reduceMod, Nat.reduceDiv, Nat.reduceLT, Nat.reduceLeDiff, Nat.reduceEqDiff, Int.reduceToNat, Int.reduceAdd, Int.reduceSub, Int.reduceMul, Int.reduceLT, Int.reduceLE, Int.reduceNeg, ↓reduceIte, reduceCtorEq]; with_reducible rfl) (fun hc10 => ?_) (fun hc10 => ?_)
      ·
        have hlt : i < l.length := by simpa using hc10
        refine G.skip ?_
        refine G.seq ?_
        refine G.block ?_
        refine G.seq ?_
        -- region 6
        refine G.draw fits mixed 48 (drawN_ok (by decide +kernel)) (by simp only [List.take_succ_cons, List.take_zero]; with_reducible rfl) (by simp only [List.drop_succ_cons, List.drop_zero]; with_reducible rfl) ?_
        refine D.run 8 (by simp only [go_sem, Nat.reduceAdd, Nat.reduceSub, Nat.reduceMul, Nat.reduceMod, Nat.reduceDiv, Nat.reduceLT, Nat.reduceLeDiff, Nat.reduceEqDiff, Int.reduceToNat, Int.reduceAdd, Int.reduceSub, Int.reduceMul, Int.reduceLT, Int.reduceLE, Int.reduceNeg, ↓reduceIte, reduceCtorEq]; with_reducible rfl) (by (first | exact trivial | omega | (simp; done) | (simp; omega) | (refine ⟨?_, ?_⟩ <;> omega))) ?_
        refine D.run 8 (by simp only [go_sem, Nat.reduceAdd, Nat.reduceSub, Nat.reduceMul, Nat.reduceMod, Nat.reduceDiv, Nat.reduceLT, Nat.reduceLeDiff, Nat.reduceEqDiff, Int.reduceToNat, Int.reduceAdd, Int.reduceSub, Int.reduceMul, Int.reduceLT, Int.reduceLE, Int.reduceNeg, ↓reduceIte, reduceCtorEq]; with_reducible rfl) (by (first | exact trivial | omega | (simp; done) | (simp; omega) | (refine ⟨?_, ?_⟩ <;> omega))) ?_
        refine D.run 8 (by simp only [go_sem, Nat.reduceAdd, Nat.reduceSub, Nat.reduceMul, Nat.reduceMod, Nat.reduceDiv, Nat.reduceLT, Nat.reduceLeDiff, Nat.reduceEqDiff, Int.reduceToNat, Int.reduceAdd, Int.reduceSub, Int.reduceMul, Int.reduceLT, Int.reduceLE, Int.reduceNeg, ↓reduceIte, reduceCtorEq]; with_reducible rfl) (by (first | exact trivial | omega | (simp; done) | (simp; omega) | (refine ⟨?_, ?_⟩ <;> omega))) ?_
        refine D.run 8 (by simp only [go_sem, Nat.reduceAdd, Nat.reduceSub, Nat.reduceMul, Nat.reduceMod, Nat.reduceDiv, Nat.reduceLT, Nat.reduceLeDiff, Nat.reduceEqDiff, Int.reduceToNat, Int.reduceAdd, Int.reduceSub, Int.reduceMul, Int.reduceLT, Int.reduceLE, Int.reduceNeg, ↓reduceIte, reduceCtorEq]; with_reducible rfl) (by (first | exact trivial | omega | (simp; done) | (simp; omega) | (refine ⟨?_, ?_⟩ <;> omega))) ?_
        refine D.run 8 (by simp only [go_sem, Nat.reduceAdd, Nat.reduceSub, Nat.reduceMul, Nat.reduceMod, Nat.reduceDiv, Nat.reduceLT, Nat.reduceLeDiff, Nat.reduceEqDiff, Int.reduceToNat, Int.reduceAdd, Int.reduceSub, Int.reduceMul, Int.reduceLT, Int.reduceLE, Int.reduceNeg, ↓reduceIte, reduceCtorEq]; with_reducible rfl) (by (first | exact trivial | omega | (simp; done) | (simp; omega) | (refine ⟨?_, ?_⟩ <;> omega))) ?_
        refine D.run 8 (by simp only [go_sem, Nat.reduceAdd, Nat.reduceSub, Nat.reduceMul, Nat.reduceMod, Nat.reduceDiv, Nat.reduceLT, Nat.reduceLeDiff, Nat.reduceEqDiff, Int.reduceToNat, Int.reduceAdd, Int.reduceSub, Int.reduceMul, Int.reduceLT, Int.reduceLE, Int.reduceNeg, ↓reduceIte, reduceCtorEq]; with_reducible rfl) (by (first | exact trivial | omega | (simp; done) | (simp; omega) | (refine ⟨?_, ?_⟩ <;> omega))) ?_
        refine D.nil ?_
        refine O.nil ?_
        refine G.keep [0, 2, 56] (by simp only [keepG]; rfl) ?_
        refine G.cond (by simp only [go_sem, Nat.reduceAdd, Nat.reduceSub, Nat.reduceMul, Nat.reduceMod, Nat.reduceDiv, Nat.reduceLT, Nat.reduceLeDiff, Nat.reduceEqDiff, Int.reduceToNat, Int.reduceAdd, Int.reduceSub, Int.reduceMul, Int.reduceLT, Int.reduceLE, Int.reduceNeg, ↓reduceIte, reduceCtorEq]; with_reducible rfl) (fun hc60 => ?_) (fun hc60 => ?_)
        ·
          refine G.seq ?_
          -- region 7
          refine G.run fits (by simp only [go_sem, Nat.reduceAdd, Nat.reduceSub, Nat.reduceMul, Nat.reduceMod, Nat.reduceDiv, Nat.reduceLT, Nat.reduceLeDiff, Nat.reduceEqDiff, Int.reduceToNat, Int.reduceAdd, Int.reduceSub, Int.reduceMul, Int.reduceLT, Int.reduceLE, Int.reduceNeg, ↓reduceIte, reduceCtorEq]; with_reducible rfl) (by (first | exact trivial | omega | (simp; done) | (simp; omega) | (refine ⟨?_, ?_⟩ <;> omega))) ?_
          refine G.keep [2] (by simp only [keepG]; rfl) ?_
          refine G.ret ?_
          -- return 1
          refine Ret.of_sub fits [.tmp 2] rfl [.bool (properB l)] ?_ (by simp [AllFresh]) ⟨rfl, rfl⟩
          simp only [resSub, go_sem, Nat.reduceAdd, Nat.reduceSub, Nat.reduceMul, Nat.reduceMod, Nat.reduceDiv, Nat.reduceLT, Nat.reduceLeDiff, Nat.reduceEqDiff, Int.reduceToNat, Int.reduceAdd, Int.reduceSub, Int.reduceMul, Int.reduceLT, Int.reduceLE, Int.reduceNeg, ↓reduceIte, reduceCtorEq]
          have hb : badAt l i = true := by
            unfold badAt
            rw [show ((i : Int) - 1).toNat = i - 1 by omega] at hc60
            simpa [Cust.cell, Bool.or_assoc] using hc60
          rw [properB_no hlt hb]
          exact Sub.bool _
        ·
          refine G.skip ?_
          refine G.endBlock ?_
          -- region 5
          refine G.run fits (by simp only [go_sem, Nat.reduceAdd, Nat.reduceSub, Nat.reduceMul, Nat.reduceMod, Nat.reduceDiv, Nat.reduceLT, Nat.reduceLeDiff, Nat.reduceEqDiff, Int.reduceToNat, Int.reduceAdd, Int.reduceSub, Int.reduceMul, Int.reduceLT, Int.reduceLE, Int.reduceNeg, ↓reduceIte, reduceCtorEq]; with_reducible rfl) (by (first | exact trivial | omega | (simp; done) | (simp; omega) | (refine ⟨?_, ?_⟩ <;> omega))) ?_
          refine G.endLoop ⟨i + 1, ?_, by omega, ?_⟩
          · refine ⟨by omega, fun j hj => ?_⟩
            rcases Nat.lt_or_eq_of_le (Nat.le_of_lt_succ hj) with h | h
            · exact hgood j h
            · subst h
              unfold badAt
              rw [show ((j : Int) - 1).toNat = j - 1 by omega] at hc60
              simpa [Cust.cell, Bool.or_assoc] using hc60
          · (refine SLe.of (by simp only [SlotsLe]; (simp (disch := omega) [Int.natCast_add])) (by simp [HeapLe]) (by simp [TagsIn]) (by simp [TagsIn]))
      ·
        refine G.exit rfl ?_
        refine G.seq ?_
        -- region 8
        refine G.run fits (by simp only [go_sem, Nat.reduceAdd, Nat.reduceSub, Nat.reduceMul, Nat.reduceMod, Nat.reduceDiv, Nat.reduceLT, Nat.reduceLeDiff, Nat.reduceEqDiff, Int.reduceToNat, Int.reduceAdd, Int.reduceSub, Int.reduceMul, Int.reduceLT, Int.reduceLE, Int.reduceNeg, ↓reduceIte, reduceCtorEq]; with_reducible rfl) (by (first | exact trivial | omega | (simp; done) | (simp; omega) | (refine ⟨?_, ?_⟩ <;> omega))) ?_
        refine G.keep [2] (by simp only [keepG]; rfl) ?_
        refine G.ret ?_
        -- return 2
        refine Ret.of_sub fits [.tmp 2] rfl [.bool (properB l)] ?_ (by simp [AllFresh]) ⟨rfl, rfl⟩
        simp only [resSub, go_sem, Nat.reduceAdd, Nat.reduceSub, Nat.reduceMul, Nat.reduceMod, Nat.reduceDiv, Nat.reduceLT, Nat.reduceLeDiff, Nat.reduceEqDiff, Int.reduceToNat, Int.reduceAdd, Int.reduceSub, Int.reduceMul, Int.reduceLT, Int.reduceLE, Int.reduceNeg, ↓reduceIte, reduceCtorEq]
        have hge : l.length ≤ i := by simpa using hc10
        rw [properB_yes (fun j hj => hgood j (by omega))]
        have : (l.length : Int) ≤ 1000 := by simp at hc6; omega
        exact (Sub.bool _).of_eq (by simp [this])


def exL : List Cust := [⟨0, 5, 0, 0⟩, ⟨1, 3, 0, 0⟩, ⟨2, 1, 0, 0⟩]
theorem ex_sub : Sub [⟨29, 4, 3, fun i f => [AV.int .i64 0, .int .i64 5, .int .i64 0, .int .i64 0, .int .i64 1, .int .i64 3, .int .i64 0, .int .i64 0, .int .i64 2, .int .i64 1, .int .i64 0, .int .i64 0].getD (i * 4 + f) .any⟩] (.own 0 4 3) (encC false exL) := by
  refine Sub.own rfl rfl (Nat.le_refl _) fun i f hi hf => ?_
  have h1 : i = 0 ∨ i = 1 ∨ i = 2 := by have : i < 3 := hi; omega
  have h2 : f = 0 ∨ f = 1 ∨ f = 2 ∨ f = 3 := by omega
  rcases h1 with rfl | rfl | rfl <;> rcases h2 with rfl | rfl | rfl | rfl <;> exact Sub.int _ _
theorem exP : properB exL = true := by decide +kernel
theorem ex11 : St plainF exL 1 1 = ([5], [⟨0, 5, 0, 5⟩]) := by
  decide +kernel
theorem ex12 : St plainF exL 1 2 = ([8], [⟨0, 5, 0, 5⟩, ⟨1, 3, 5, 8⟩]) := by
  rw [St_succ]
  simp only [resAt, stAt, ex11]
  decide +kernel
theorem ex13 : St plainF exL 1 3 = ([9], [⟨0, 5, 0, 5⟩, ⟨1, 3, 5, 8⟩, ⟨2, 1, 8, 9⟩]) := by
  rw [St_succ]
  simp only [resAt, stAt, ex12]
  decide +kernel
theorem awake1 : serveO exL 1 = ([⟨0, 5, 0, 5⟩, ⟨1, 3, 5, 8⟩, ⟨2, 1, 8, 9⟩], 0) := by
  rw [serveO_ok exP (by omega) (by omega)]
  exact congrArg (fun x => (x.2, (0 : Int))) ex13
theorem ex21 : St plainF exL 2 1 = ([5, 0], [⟨0, 5, 0, 5⟩]) := by
  decide +kernel
theorem ex22 : St plainF exL 2 2 = ([5, 4], [⟨0, 5, 0, 5⟩, ⟨1, 3, 1, 4⟩]) := by
  rw [St_succ]
  simp only [resAt, stAt, ex21]
  decide +kernel
theorem ex23 : St plainF exL 2 3 = ([5, 5], [⟨0, 5, 0, 5⟩, ⟨1, 3, 1, 4⟩, ⟨2, 1, 4, 5⟩]) := by
  rw [St_succ]
  simp only [resAt, stAt, ex22]
  decide +kernel
theorem awake2 : serveO exL 2 = ([⟨0, 5, 0, 5⟩, ⟨1, 3, 1, 4⟩, ⟨2, 1, 4, 5⟩], 0) := by
  rw [serveO_ok exP (by omega) (by omega)]
  exact congrArg (fun x => (x.2, (0 : Int))) ex23

theorem awake_con  : Con Try.prog 11 [] (isV (resA [.bool true])) := by
  refine Con.of_goes Try.func11 (by rfl) rfl (by simp [NoFresh]) (by simp only [Try.ntmps11, List.length_cons, List.length_nil, Nat.reduceAdd, Nat.reduceSub, List.replicate, List.cons_append, List.nil_append]; rfl) fun w0 => ?_
  refine G.seq ?_
  -- region 0
  refine G.run fits (by simp only [go_sem, Nat.reduceAdd, Nat.reduceSub, Nat.reduceMul, Nat.reduceMod, Nat.reduceDiv, Nat.reduceLT, Nat.reduceLeDiff, Nat.reduceEqDiff, Int.reduceToNat, Int.reduceAdd, Int.reduceSub, Int.reduceMul, Int.reduceLT, Int.reduceLE, Int.reduceNeg, ↓reduceIte, reduceCtorEq]; with_reducible rfl) (by (first | exact trivial | omega | (simp; done) | (simp; omega) | (refine ⟨?_, ?_⟩ <;> omega))) ?_
  refine G.keep [] (by simp only [keepG]; rfl) ?_
  refine G.seq ?_
  -- region 1
  refine G.run fits (by simp only [go_sem, Nat.reduceAdd, Nat.reduceSub, Nat.reduceMul, Nat.reduceMod, Nat.reduceDiv, Nat.reduceLT, Nat.reduceLeDiff, Nat.reduceEqDiff, Int.reduceToNat, Int.reduceAdd, Int.reduceSub, Int.reduceMul, Int.reduceLT, Int.reduceLE, Int.reduceNeg, ↓reduceIte, reduceCtorEq]; with_reducible rfl) (by (first | exact trivial | omega | (simp; done) | (simp; omega) | (refine ⟨?_, ?_⟩ <;> omega))) ?_
  refine G.keep [1] (by simp only [keepG]; rfl) ?_
  refine G.seq ?_
  -- region 2
  refine G.ops fits ?_
  refine O.run 1 (by simp only [go_sem, Nat.reduceAdd, Nat.reduceSub, Nat.reduceMul, Nat.reduceMod, Nat.reduceDiv, Nat.reduceLT, Nat.reduceLeDiff, Nat.reduceEqDiff, Int.reduceToNat, Int.reduceAdd, Int.reduceSub, Int.reduceMul, Int.reduceLT, Int.reduceLE, Int.reduceNeg, ↓reduceIte, reduceCtorEq]; with_reducible rfl) (by (first | exact trivial | omega | (simp; done) | (simp; omega) | (refine ⟨?_, ?_⟩ <;> omega))) ?_
  refine O.call (by simp only [go_sem, Nat.reduceAdd, Nat.reduceSub, Nat.reduceMul, Nat.reduceMod, Nat.reduceDiv, Nat.reduceLT, Nat.reduceLeDiff, Nat.reduceEqDiff, Int.reduceToNat, Int.reduceAdd, Int.reduceSub, Int.reduceMul, Int.reduceLT, Int.reduceLE, Int.reduceNeg, ↓reduceIte, reduceCtorEq]; with_reducible rfl) (simulate_Serve_con exL 1 (by decide)) (by simp [go_sem, Nat.reduceAdd, Nat.reduceSub, Nat.reduceMul, Nat.reduceMod, Nat.reduceDiv, Nat.reduceLT, Nat.reduceLeDiff, Nat.reduceEqDiff, Int.reduceToNat, Int.reduceAdd, Int.reduceSub, Int.reduceMul, Int.reduceLT, Int.reduceLE, Int.reduceNeg, ↓reduceIte, reduceCtorEq]) (by simp only [SubL, go_sem, Nat.reduceAdd, Nat.reduceSub, Nat.reduceMul, Nat.reduceMod, Nat.reduceDiv, Nat.reduceLT, Nat.reduceLeDiff, Nat.reduceEqDiff, Int.reduceToNat, Int.reduceAdd, Int.reduceSub, Int.reduceMul, Int.reduceLT, Int.reduceLE, Int.reduceNeg, ↓reduceIte, reduceCtorEq]; exact ⟨ex_sub, Sub.int _ _⟩) ?_
  simp only [go_sem, Nat.reduceAdd, Nat.reduceSub, Nat.reduceMul, Nat.reduceMod, Nat.reduceDiv, Nat.reduceLT, Nat.reduceLeDiff, Nat.reduceEqDiff, Int.reduceToNat, Int.reduceAdd, Int.reduceSub, Int.reduceMul, Int.reduceLT, Int.reduceLE, Int.reduceNeg, ↓reduceIte, reduceCtorEq]
  rw [awake1]; unfold encC
  refine O.run 5 (by simp only [go_sem, Nat.reduceAdd, Nat.reduceSub, Nat.reduceMul, Nat.reduceMod, Nat.reduceDiv, Nat.reduceLT, Nat.reduceLeDiff, Nat.reduceEqDiff, Int.reduceToNat, Int.reduceAdd, Int.reduceSub, Int.reduceMul, Int.reduceLT, Int.reduceLE, Int.reduceNeg, ↓reduceIte, reduceCtorEq]; with_reducible rfl) (by (first | exact trivial | omega | (simp; done) | (simp; omega) | (refine ⟨?_, ?_⟩ <;> omega))) ?_
  refine O.nil ?_
  refine G.keep [1, 0, 0] (by simp only [keepG]; rfl) ?_
  refine G.seq ?_
  -- region 3
  refine G.ops fits ?_
  refine O.run 1 (by simp only [go_sem, Nat.reduceAdd, Nat.reduceSub, Nat.reduceMul, Nat.reduceMod, Nat.reduceDiv, Nat.reduceLT, Nat.reduceLeDiff, Nat.reduceEqDiff, Int.reduceToNat, Int.reduceAdd, Int.reduceSub, Int.reduceMul, Int.reduceLT, Int.reduceLE, Int.reduceNeg, ↓reduceIte, reduceCtorEq]; with_reducible rfl) (by (first | exact trivial | omega | (simp; done) | (simp; omega) | (refine ⟨?_, ?_⟩ <;> omega))) ?_
  refine O.call (by simp only [go_sem, Nat.reduceAdd, Nat.reduceSub, Nat.reduceMul, Nat.reduceMod, Nat.reduceDiv, Nat.reduceLT, Nat.reduceLeDiff, Nat.reduceEqDiff, Int.reduceToNat, Int.reduceAdd, Int.reduceSub, Int.reduceMul, Int.reduceLT, Int.reduceLE, Int.reduceNeg, ↓reduceIte, reduceCtorEq]; with_reducible rfl) (simulate_Serve_con exL 2 (by decide)) (by simp [go_sem, Nat.reduceAdd, Nat.reduceSub, Nat.reduceMul, Nat.reduceMod, Nat.reduceDiv, Nat.reduceLT, Nat.reduceLeDiff, Nat.reduceEqDiff, Int.reduceToNat, Int.reduceAdd, Int.reduceSub, Int.reduceMul, Int.reduceLT, Int.reduceLE, Int.reduceNeg, ↓reduceIte, reduceCtorEq]) (by simp only [SubL, go_sem, Nat.reduceAdd, Nat.reduceSub, Nat.reduceMul, Nat.reduceMod, Nat.reduceDiv, Nat.reduceLT, Nat.reduceLeDiff, Nat.reduceEqDiff, Int.reduceToNat, Int.reduceAdd, Int.reduceSub, Int.reduceMul, Int.reduceLT, Int.reduceLE, Int.reduceNeg, ↓reduceIte, reduceCtorEq]; exact ⟨ex_sub, Sub.int _ _⟩) ?_
  simp only [go_sem, Nat.reduceAdd, Nat.reduceSub, Nat.reduceMul, Nat.reduceMod, Nat.reduceDiv, Nat.reduceLT, Nat.reduceLeDiff, Nat.reduceEqDiff, Int.reduceToNat, Int.reduceAdd, Int.reduceSub, Int.reduceMul, Int.reduceLT, Int.reduceLE, Int.reduceNeg, ↓reduceIte, reduceCtorEq]
  rw [awake2]; unfold encC
  refine O.run 5 (by simp only [go_sem, Nat.reduceAdd, Nat.reduceSub, Nat.reduceMul, Nat.reduceMod, Nat.reduceDiv, Nat.reduceLT, Nat.reduceLeDiff, Nat.reduceEqDiff, Int.reduceToNat, Int.reduceAdd, Int.reduceSub, Int.reduceMul, Int.reduceLT, Int.reduceLE, Int.reduceNeg, ↓reduceIte, reduceCtorEq]; with_reducible rfl) (by (first | exact trivial | omega | (simp; done) | (simp; omega) | (refine ⟨?_, ?_⟩ <;> omega))) ?_
  refine O.nil ?_
  refine G.keep [2, 0, 0, 0] (by simp only [keepG]; rfl) ?_
  refine G.seq ?_
  -- region 4
  refine G.ops fits ?_
  refine O.run 8 (by simp only [go_sem, Nat.reduceAdd, Nat.reduceSub, Nat.reduceMul, Nat.reduceMod, Nat.reduceDiv, Nat.reduceLT, Nat.reduceLeDiff, Nat.reduceEqDiff, Int.reduceToNat, Int.reduceAdd, Int.reduceSub, Int.reduceMul, Int.reduceLT, Int.reduceLE, Int.reduceNeg, ↓reduceIte, reduceCtorEq]; with_reducible rfl) (by (first | exact trivial | omega | (simp; done) | (simp; omega) | (refine ⟨?_, ?_⟩ <;> omega))) ?_
  refine O.run 8 (by simp only [go_sem, Nat.reduceAdd, Nat.reduceSub, Nat.reduceMul, Nat.reduceMod, Nat.reduceDiv, Nat.reduceLT, Nat.reduceLeDiff, Nat.reduceEqDiff, Int.reduceToNat, Int.reduceAdd, Int.reduceSub, Int.reduceMul, Int.reduceLT, Int.reduceLE, Int.reduceNeg, ↓reduceIte, reduceCtorEq]; with_reducible rfl) (by (first | exact trivial | omega | (simp; done) | (simp; omega) | (refine ⟨?_, ?_⟩ <;> omega))) ?_
  refine O.run 8 (by simp only [go_sem, Nat.reduceAdd, Nat.reduceSub, Nat.reduceMul, Nat.reduceMod, Nat.reduceDiv, Nat.reduceLT, Nat.reduceLeDiff, Nat.reduceEqDiff, Int.reduceToNat, Int.reduceAdd, Int.reduceSub, Int.reduceMul, Int.reduceLT, Int.reduceLE, Int.reduceNeg, ↓reduceIte, reduceCtorEq]; with_reducible rfl) (by (first | exact trivial | omega | (simp; done) | (simp; omega) | (refine ⟨?_, ?_⟩ <;> omega))) ?_
  refine O.run 8 (by simp only [go_sem, Nat.reduceAdd, Nat.reduceSub, Nat.reduceMul, Nat.reduceMod, Nat.reduceDiv, Nat.reduceLT, Nat.reduceLeDiff, Nat.reduceEqDiff, Int.reduceToNat, Int.reduceAdd, Int.reduceSub, Int.reduceMul, Int.reduceLT, Int.reduceLE, Int.reduceNeg, ↓reduceIte, reduceCtorEq]; with_reducible rfl) (by (first | exact trivial | omega | (simp; done) | (simp; omega) | (refine ⟨?_, ?_⟩ <;> omega))) ?_
  refine O.run 8 (by simp only [go_sem, Nat.reduceAdd, Nat.reduceSub, Nat.reduceMul, Nat.reduceMod, Nat.reduceDiv, Nat.reduceLT, Nat.reduceLeDiff, Nat.reduceEqDiff, Int.reduceToNat, Int.reduceAdd, Int.reduceSub, Int.reduceMul, Int.reduceLT, Int.reduceLE, Int.reduceNeg, ↓reduceIte, reduceCtorEq]; with_reducible rfl) (by (first | exact trivial | omega | (simp; done) | (simp; omega) | (refine ⟨?_, ?_⟩ <;> omega))) ?_
  refine O.run 5 (by simp only [go_sem, Nat.reduceAdd, Nat.reduceSub, Nat.reduceMul, Nat.reduceMod, Nat.reduceDiv, Nat.reduceLT, Nat.reduceLeDiff, Nat.reduceEqDiff, Int.reduceToNat, Int.reduceAdd, Int.reduceSub, Int.reduceMul, Int.reduceLT, Int.reduceLE, Int.reduceNeg, ↓reduceIte, reduceCtorEq]; with_reducible rfl) (by (first | exact trivial | omega | (simp; done) | (simp; omega) | (refine ⟨?_, ?_⟩ <;> omega))) ?_
  refine O.nil ?_
  refine G.keep [0] (by simp only [keepG]; rfl) ?_
  refine G.ret ?_
  -- return 0
  refine Ret.of_sub fits [.tmp 0] rfl [.bool true] ?_ (by simp [AllFresh]) ⟨rfl, rfl⟩
  simp only [resSub, go_sem, Nat.reduceAdd, Nat.reduceSub, Nat.reduceMul, Nat.reduceMod, Nat.reduceDiv, Nat.reduceLT, Nat.reduceLeDiff, Nat.reduceEqDiff, Int.reduceToNat, Int.reduceAdd, Int.reduceSub, Int.reduceMul, Int.reduceLT, Int.reduceLE, Int.reduceNeg, ↓reduceIte, reduceCtorEq]
  exact Sub.bool true


end Go.Proofs.Ytocpeankecaabaa
