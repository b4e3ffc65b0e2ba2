/-
  What it is to serve customers, in plain words of lists; the contract of simulate.serve.
-/
import Derived.Test.YtocpeankecaabaaW1
set_option linter.all false
namespace Go.Proofs.Ytocpeankecaabaa
open Go.Abs Go.RowKit

theorem minL_le (xs : List Int) : ∀ x ∈ xs, minL xs ≤ x := by
  have key : ∀ (l : List Int) (a : Int), l.foldl min a ≤ a ∧ ∀ x ∈ l, l.foldl min a ≤ x := by
    intro l
    induction l with
    | nil => intro a; exact ⟨Int.le_refl _, fun x hx => by simp at hx⟩
    | cons b l ih =>
      intro a
      obtain ⟨h1, h2⟩ := ih (min a b)
      simp only [List.foldl_cons]
      refine ⟨by omega, fun x hx => ?_⟩
      rcases List.mem_cons.1 hx with rfl | hx
      · omega
      · exact h2 x hx
  intro x hx
  cases xs with
  | nil => simp at hx
  | cons b l =>
    obtain ⟨h1, h2⟩ := key l b
    simp only [minL, List.tail_cons, List.headD_cons]
    rcases List.mem_cons.1 hx with rfl | hx
    · exact h1
    · exact h2 x hx

theorem minL_mem (xs : List Int) (h : 0 < xs.length) : minL xs ∈ xs := by
  have key : ∀ (l : List Int) (a : Int), l.foldl min a = a ∨ l.foldl min a ∈ l := by
    intro l
    induction l with
    | nil => intro a; exact .inl rfl
    | cons b l ih =>
      intro a
      simp only [List.foldl_cons]
      rcases ih (min a b) with h | h
      · rcases Int.le_total a b with hab | hab
        · left; rw [h]; omega
        · right; rw [h]; simp; left; omega
      · right; exact List.mem_cons_of_mem _ h
  cases xs with
  | nil => simp at h
  | cons b l =>
    simp only [minL, List.tail_cons, List.headD_cons]
    rcases key l b with h | h
    · rw [h]; exact List.mem_cons_self ..
    · exact List.mem_cons_of_mem _ h

/-- The server that is free first. -/
def kOf (free : List Int) : Nat := (idxI free (minL free)).toNat

theorem first_at (xs : List Int) (v : Int) (h : v ∈ xs) : ∃ k, k < xs.length ∧ xs.getD k 0 = v ∧ ∀ j, j < k → xs.getD j 0 ≠ v := by
  induction xs with
  | nil => simp at h
  | cons x xs ih =>
    by_cases hx : x = v
    · exact ⟨0, by simp, by simpa using hx, fun j hj => by omega⟩
    · obtain ⟨k, h1, h2, h3⟩ := ih (by rcases List.mem_cons.1 h with e | e; exact absurd e.symm hx; exact e)
      refine ⟨k + 1, by simpa using h1, by simpa using h2, fun j hj => ?_⟩
      cases j with
      | zero => simpa using hx
      | succ j => simpa using h3 j (by omega)

theorem kOf_spec (free : List Int) (h : 0 < free.length) : idxI free (minL free) = (kOf free : Int) ∧ kOf free < free.length ∧ free.getD (kOf free) 0 = minL free := by
  obtain ⟨k, h1, h2, h3⟩ := first_at free (minL free) (minL_mem free h)
  have e := idxI_at h1 h3 h2
  have hk : kOf free = k := by unfold kOf; rw [e]; omega
  rw [hk]
  exact ⟨e, h1, h2⟩

section
variable (endF : Int → Int → Int × Int) (l : List Cust) (n : Nat)

/-- From when on the servers are free, and the customers served, when i customers have been. -/
def St : Nat → List Int × List Cust
  | 0 => (List.replicate n 0, [])
  | i + 1 =>
    let c := l.getD i .z
    let k := kOf (St i).1
    let s := max c.arrive ((St i).1.getD k 0)
    let e := (endF s c.service).1
    ((St i).1.set k e, (St i).2 ++ [⟨c.arrive, c.service, s, e⟩])

def stAt (i : Nat) : Int := max (l.getD i .z).arrive ((St endF l n i).1.getD (kOf (St endF l n i).1) 0)
def resAt (i : Nat) : Int × Int := endF (stAt endF l n i) (l.getD i .z).service

theorem St_succ (i : Nat) : St endF l n (i + 1) = ((St endF l n i).1.set (kOf (St endF l n i).1) (resAt endF l n i).1, (St endF l n i).2 ++ [⟨(l.getD i .z).arrive, (l.getD i .z).service, stAt endF l n i, (resAt endF l n i).1⟩]) := rfl
theorem St_len1 (i : Nat) : (St endF l n i).1.length = n := by
  induction i with
  | zero => simp [St]
  | succ i ih => rw [St_succ]; simpa using ih
theorem St_len2 (i : Nat) : (St endF l n i).2.length = i := by
  induction i with
  | zero => simp [St]
  | succ i ih => rw [St_succ]; simp [ih]

def serveF : List Cust × Int :=
  match (List.range l.length).find? (fun i => decide ((resAt endF l n i).2 ≠ 0)) with
  | some i => ([], (resAt endF l n i).2)
  | none => ((St endF l n l.length).2, 0)

theorem serveF_err {i : Nat} (hi : i < l.length) (h : ∀ j, j < i → (resAt endF l n j).2 = 0) (he : (resAt endF l n i).2 ≠ 0) : serveF endF l n = ([], (resAt endF l n i).2) := by
  have : (List.range l.length).find? (fun i => decide ((resAt endF l n i).2 ≠ 0)) = some i := by
    rw [List.find?_eq_some_iff_getElem]
    refine ⟨by simpa using he, i, by simpa using hi, by simp, fun j hj => ?_⟩
    simpa using h j hj
  unfold serveF
  rw [this]
theorem serveF_ok (h : ∀ j, j < l.length → (resAt endF l n j).2 = 0) : serveF endF l n = ((St endF l n l.length).2, 0) := by
  have : (List.range l.length).find? (fun i => decide ((resAt endF l n i).2 ≠ 0)) = none := by
    rw [List.find?_eq_none]
    intro j hj
    simpa using h j (List.mem_range.1 hj)
  unfold serveF
  rw [this]
end

theorem getD_set (xs : List Int) (k : Nat) (v : Int) (i : Nat) (hi : i < xs.length) : (xs.set k v).getD i 0 = if i = k then v else xs.getD i 0 := by
  simp only [List.getD_eq_getElem?_getD]
  by_cases h : k = i
  · subst h; rw [List.getElem?_set_self hi]; simp
  · rw [List.getElem?_set_ne h, if_neg (Ne.symm h)]

set_option maxRecDepth 10000

theorem simulate_serve_con (endF : Int → Int → Int × Int) (fe : FuncId) (kc : Nat) (caps : Nat → AV) (l : List Cust) (servers : Int) (hl : l.length ≤ 1000) (hs1 : 1 ≤ servers) (hs2 : servers ≤ 1000) (hnf : ∀ j, j < kc → NoFresh (caps j)) (hcaps : ∀ H j, j < kc → Sub H (caps j) (caps j)) (hkill : ∀ t, (fun j => kill t (caps j)) = caps) (htag : ∀ (p : Nat → Prop) j, j < kc → TagsIn p (caps j))
    (hend : ∀ i, i < l.length → (∀ j, j < i → (resAt endF l servers.toNat j).2 = 0) → Con Try.prog fe ([.int .i64 (stAt endF l servers.toNat i), .int .i64 (l.getD i .z).service] ++ (List.range kc).map caps) (isV (resA [.int .i64 (resAt endF l servers.toNat i).1, .int .i64 (resAt endF l servers.toNat i).2]))) : Con Try.prog 37 [encC false l, .int .i64 servers, .fn fe kc caps] (isV (resA [encC true (serveF endF l servers.toNat).1, .int .i64 (serveF endF l servers.toNat).2])) := by
  refine Con.of_goes Try.func37 (by rfl) rfl (by simp [NoFresh, noFresh_encC]; exact hnf) (by simp only [Try.ntmps37, List.length_cons, List.length_nil, Nat.reduceAdd, Nat.reduceSub, List.replicate, List.cons_append, List.nil_append]; rfl) fun w0 => ?_
  unfold encC
  generalize hn : servers.toNat = n at *
  refine G.seq ?_
  -- region 0
  refine G.run fits (by simp only [go_sem, Nat.reduceAdd, Nat.reduceSub, Nat.reduceMul, Nat.reduceMod, Nat.reduceDiv, Nat.reduceLT, Nat.reduceLeDiff, Nat.reduceEqDiff, Int.reduceToNat, Int.reduceAdd, Int.reduceSub, Int.reduceMul, Int.reduceLT, Int.reduceLE, Int.reduceNeg, ↓reduceIte, reduceCtorEq]; with_reducible rfl) (by (first | exact trivial | omega | (simp; done) | (simp; omega) | (refine ⟨?_, ?_⟩ <;> omega))) ?_
  refine G.keep [0, 0, 0] (by simp only [keepG]; rfl) ?_
  refine G.seq ?_
  -- region 1
  refine G.run fits (by simp only [go_sem, Nat.reduceAdd, Nat.reduceSub, Nat.reduceMul, Nat.reduceMod, Nat.reduceDiv, Nat.reduceLT, Nat.reduceLeDiff, Nat.reduceEqDiff, Int.reduceToNat, Int.reduceAdd, Int.reduceSub, Int.reduceMul, Int.reduceLT, Int.reduceLE, Int.reduceNeg, ↓reduceIte, reduceCtorEq]; with_reducible rfl) (by (first | exact trivial | omega | (simp; done) | (simp; omega) | (refine ⟨?_, ?_⟩ <;> omega))) ?_
  refine G.keep [0, 1, 5] (by simp only [keepG]; rfl) ?_
  refine G.seq ?_
  -- region 2
  refine G.run fits (by simp only [go_sem, Nat.reduceAdd, Nat.reduceSub, Nat.reduceMul, Nat.reduceMod, Nat.reduceDiv, Nat.reduceLT, Nat.reduceLeDiff, Nat.reduceEqDiff, Int.reduceToNat, Int.reduceAdd, Int.reduceSub, Int.reduceMul, Int.reduceLT, Int.reduceLE, Int.reduceNeg, ↓reduceIte, reduceCtorEq]; with_reducible rfl) (by (first | exact trivial | omega | (simp; done) | (simp; omega) | (refine ⟨?_, ?_⟩ <;> omega))) ?_
  refine G.keep [0, 1, 5, 0] (by simp only [keepG]; rfl) ?_
  refine G.seq ?_
  refine G.seq ?_
  -- region 3
  refine G.run fits (by simp only [go_sem, Nat.reduceAdd, Nat.reduceSub, Nat.reduceMul, Nat.reduceMod, Nat.reduceDiv, Nat.reduceLT, Nat.reduceLeDiff, Nat.reduceEqDiff, Int.reduceToNat, Int.reduceAdd, Int.reduceSub, Int.reduceMul, Int.reduceLT, Int.reduceLE, Int.reduceNeg, ↓reduceIte, reduceCtorEq]; with_reducible rfl) (by (first | exact trivial | omega | (simp; done) | (simp; omega) | (refine ⟨?_, ?_⟩ <;> omega))) ?_
  refine G.keep [2, 5, 0, 7, 0, 0] (by simp only [keepG]; rfl) ?_
  refine G.block ?_
  refine G.loop (ι := Nat) (fun i => ⟨[.any, .any, .fn fe kc caps, .any, .any, .any, .any, .any, .own 0 1 (St endF l n i).1.length, .own 1 4 (St endF l n i).2.length, .any, .any, .any, .any, .any, .any, .any, encC false l, .int .i64 l.length, .int .i64 i, .any, .any, .any, .any, .any, .any, .any, .any, .any, .any, .any, .any, .any, .any, .any, .any, .any, .any, .any, .any, .any, .any, .any, .any, .any, .any, .any, .any, .any, .any, .any, .any, .any, .any, .any, .any, .any, .any, .any], [objI (St endF l n i).1, objC (St endF l n i).2]⟩) (fun i => i ≤ l.length ∧ ∀ j, j < i → (resAt endF l n j).2 = 0) (fun i => l.length - i) 0 (by simp) ?_ fun i hi => ?_
  ·
    have e0 : St endF l n 0 = (List.replicate n 0, []) := rfl
    rw [e0]
    refine (SLe.nil 9 (objC []) rfl rfl).trans (SLe.of ?_ ?_ ?_ ?_)
    · simp [SlotsLe, objC, hn, encC]
    · simp only [HeapLe, objC, objI]
      refine ⟨⟨rfl, rfl, by simp [hn], fun i f hi hf => .inr ?_⟩, ⟨rfl, rfl, rfl, fun i f hi hf => by simp at hi⟩, trivial⟩
      have : f = 0 := by simpa using hf
      subst this
      simp [List.getD_eq_getElem?_getD, List.getElem?_replicate]
      split <;> rfl
    · simp [TagsIn, encC]
      exact fun j hj => htag _ j hj
    · simp [TagsIn, objC, objI]
  ·
    obtain ⟨hi, hgood⟩ := hi
    have hend' := hend i
    have hsucc := St_succ endF l n i
    have hl1 := St_len1 endF l n i
    have hl2 := St_len2 endF l n i
    have hst : stAt endF l n i = max (l.getD i .z).arrive ((St endF l n i).1.getD (kOf (St endF l n i).1) 0) := rfl
    generalize stAt endF l n i = st at *
    generalize hrr : resAt endF l n i = r at *
    generalize (St endF l n i).1 = free at *
    generalize hout : (St endF l n i).2 = out at *
    obtain ⟨hk1, hk2, hk3⟩ := kOf_spec free (by omega)
    unfold encC objI objC
    refine G.seq ?_
    -- region 4
    refine G.run fits (by simp only [go_sem, Nat.reduceAdd, Nat.reduceSub, Nat.reduceMul, Nat.reduceMod, Nat.reduceDiv, Nat.reduceLT, Nat.reduceLeDiff, Nat.reduceEqDiff, Int.reduceToNat, Int.reduceAdd, Int.reduceSub, Int.reduceMul, Int.reduceLT, Int.reduceLE, Int.reduceNeg, ↓reduceIte, reduceCtorEq]; with_reducible rfl) (by (first | exact trivial | omega | (simp; done) | (simp; omega) | (refine ⟨?_, ?_⟩ <;> omega))) ?_
    refine G.keep [2, 5, 0, 7, 0, 0, 0] (by simp only [keepG]; rfl) ?_
    refine G.seq ?_
    refine G.cond (by simp only [go_sem, Nat.reduceAdd, Nat.reduceSub, Nat.reduceMul, Nat.reduceMod, Nat.reduceDiv, Nat.reduceLT, Nat.reduceLeDiff, Nat.reduceEqDiff, Int.reduceToNat, Int.reduceAdd, Int.reduceSub, Int.reduceMul, Int.reduceLT, Int.reduceLE, Int.reduceNeg, ↓reduceIte, reduceCtorEq]; with_reducible rfl) (fun hc20 => ?_) (fun hc20 => ?_)
    ·
      have hlt : i < l.length := by simpa using hc20
      have hend := hend' hlt hgood
      refine G.skip ?_
      refine G.seq ?_
      refine G.block ?_
      refine G.seq ?_
      -- region 5
      refine G.run fits (by simp only [go_sem, Nat.reduceAdd, Nat.reduceSub, Nat.reduceMul, Nat.reduceMod, Nat.reduceDiv, Nat.reduceLT, Nat.reduceLeDiff, Nat.reduceEqDiff, Int.reduceToNat, Int.reduceAdd, Int.reduceSub, Int.reduceMul, Int.reduceLT, Int.reduceLE, Int.reduceNeg, ↓reduceIte, reduceCtorEq]; with_reducible rfl) (by (first | exact trivial | omega | (simp; done) | (simp; omega) | (refine ⟨?_, ?_⟩ <;> omega))) ?_
      refine G.keep [2, 5, 0, 1, 5, 0, 0] (by simp only [keepG]; rfl) ?_
      refine G.seq ?_
      -- region 6
      refine G.ops fits ?_
      refine O.run 2 (by simp only [go_sem, Nat.reduceAdd, Nat.reduceSub, Nat.reduceMul, Nat.reduceMod, Nat.reduceDiv, Nat.reduceLT, Nat.reduceLeDiff, Nat.reduceEqDiff, Int.reduceToNat, Int.reduceAdd, Int.reduceSub, Int.reduceMul, Int.reduceLT, Int.reduceLE, Int.reduceNeg, ↓reduceIte, reduceCtorEq]; with_reducible rfl) (by (first | exact trivial | omega | (simp; done) | (simp; omega) | (refine ⟨?_, ?_⟩ <;> omega))) ?_
      refine O.call (by simp only [go_sem, Nat.reduceAdd, Nat.reduceSub, Nat.reduceMul, Nat.reduceMod, Nat.reduceDiv, Nat.reduceLT, Nat.reduceLeDiff, Nat.reduceEqDiff, Int.reduceToNat, Int.reduceAdd, Int.reduceSub, Int.reduceMul, Int.reduceLT, Int.reduceLE, Int.reduceNeg, ↓reduceIte, reduceCtorEq]; with_reducible rfl) (min_con free (by omega) (by omega)) (by simp [go_sem, Nat.reduceAdd, Nat.reduceSub, Nat.reduceMul, Nat.reduceMod, Nat.reduceDiv, Nat.reduceLT, Nat.reduceLeDiff, Nat.reduceEqDiff, Int.reduceToNat, Int.reduceAdd, Int.reduceSub, Int.reduceMul, Int.reduceLT, Int.reduceLE, Int.reduceNeg, ↓reduceIte, reduceCtorEq]) (by simp only [SubL, go_sem, Nat.reduceAdd, Nat.reduceSub, Nat.reduceMul, Nat.reduceMod, Nat.reduceDiv, Nat.reduceLT, Nat.reduceLeDiff, Nat.reduceEqDiff, Int.reduceToNat, Int.reduceAdd, Int.reduceSub, Int.reduceMul, Int.reduceLT, Int.reduceLE, Int.reduceNeg, ↓reduceIte, reduceCtorEq]; (first | exact trivial | (repeat' (first | exact trivial | refine ⟨?_, ?_⟩ | exact Sub.int _ _ | exact Sub.bool _ | exact Sub.val _ | exact Sub.nil _ _ _ | exact Sub.ro (by simp) (fun _ _ _ _ => rfl) | exact Sub.own rfl rfl (Nat.le_refl _) (fun _ _ _ _ => Sub.int _ _) | exact Sub.fn (fun j hj => absurd hj (by omega)))))) ?_
      simp only [go_sem, Nat.reduceAdd, Nat.reduceSub, Nat.reduceMul, Nat.reduceMod, Nat.reduceDiv, Nat.reduceLT, Nat.reduceLeDiff, Nat.reduceEqDiff, Int.reduceToNat, Int.reduceAdd, Int.reduceSub, Int.reduceMul, Int.reduceLT, Int.reduceLE, Int.reduceNeg, ↓reduceIte, reduceCtorEq]
      refine O.call (by simp only [go_sem, Nat.reduceAdd, Nat.reduceSub, Nat.reduceMul, Nat.reduceMod, Nat.reduceDiv, Nat.reduceLT, Nat.reduceLeDiff, Nat.reduceEqDiff, Int.reduceToNat, Int.reduceAdd, Int.reduceSub, Int.reduceMul, Int.reduceLT, Int.reduceLE, Int.reduceNeg, ↓reduceIte, reduceCtorEq]; with_reducible rfl) (index_con free (minL free) (by omega)) (by simp [go_sem, Nat.reduceAdd, Nat.reduceSub, Nat.reduceMul, Nat.reduceMod, Nat.reduceDiv, Nat.reduceLT, Nat.reduceLeDiff, Nat.reduceEqDiff, Int.reduceToNat, Int.reduceAdd, Int.reduceSub, Int.reduceMul, Int.reduceLT, Int.reduceLE, Int.reduceNeg, ↓reduceIte, reduceCtorEq]) (by simp only [SubL, go_sem, Nat.reduceAdd, Nat.reduceSub, Nat.reduceMul, Nat.reduceMod, Nat.reduceDiv, Nat.reduceLT, Nat.reduceLeDiff, Nat.reduceEqDiff, Int.reduceToNat, Int.reduceAdd, Int.reduceSub, Int.reduceMul, Int.reduceLT, Int.reduceLE, Int.reduceNeg, ↓reduceIte, reduceCtorEq]; (first | exact trivial | (repeat' (first | exact trivial | refine ⟨?_, ?_⟩ | exact Sub.int _ _ | exact Sub.bool _ | exact Sub.val _ | exact Sub.nil _ _ _ | exact Sub.ro (by simp) (fun _ _ _ _ => rfl) | exact Sub.own rfl rfl (Nat.le_refl _) (fun _ _ _ _ => Sub.int _ _) | exact Sub.fn (fun j hj => absurd hj (by omega)))))) ?_
      simp only [go_sem, Nat.reduceAdd, Nat.reduceSub, Nat.reduceMul, Nat.reduceMod, Nat.reduceDiv, Nat.reduceLT, Nat.reduceLeDiff, Nat.reduceEqDiff, Int.reduceToNat, Int.reduceAdd, Int.reduceSub, Int.reduceMul, Int.reduceLT, Int.reduceLE, Int.reduceNeg, ↓reduceIte, reduceCtorEq]
      rw [hk1]
      refine O.run 1 (by simp only [go_sem, Nat.reduceAdd, Nat.reduceSub, Nat.reduceMul, Nat.reduceMod, Nat.reduceDiv, Nat.reduceLT, Nat.reduceLeDiff, Nat.reduceEqDiff, Int.reduceToNat, Int.reduceAdd, Int.reduceSub, Int.reduceMul, Int.reduceLT, Int.reduceLE, Int.reduceNeg, ↓reduceIte, reduceCtorEq]; with_reducible rfl) (by (first | exact trivial | omega | (simp; done) | (simp; omega) | (refine ⟨?_, ?_⟩ <;> omega))) ?_
      refine O.nil ?_
      refine G.keep [2, 5, 0, 1, 0, 4, 0, 0] (by simp only [keepG]; rfl) ?_
      refine G.seq ?_
      -- region 7
      refine G.draw fits mixed 8 (drawN_ok (by decide +kernel)) (by simp only [List.take_succ_cons, List.take_zero]; with_reducible rfl) (by simp only [List.drop_succ_cons, List.drop_zero]; with_reducible rfl) ?_
      refine D.run 8 (by simp only [go_sem, Nat.reduceAdd, Nat.reduceSub, Nat.reduceMul, Nat.reduceMod, Nat.reduceDiv, Nat.reduceLT, Nat.reduceLeDiff, Nat.reduceEqDiff, Int.reduceToNat, Int.reduceAdd, Int.reduceSub, Int.reduceMul, Int.reduceLT, Int.reduceLE, Int.reduceNeg, ↓reduceIte, reduceCtorEq]; with_reducible rfl) (by (first | exact trivial | omega | (simp; done) | (simp; omega) | (refine ⟨?_, ?_⟩ <;> omega))) ?_
      refine D.nil ?_
      refine O.run 1 (by simp only [go_sem, Nat.reduceAdd, Nat.reduceSub, Nat.reduceMul, Nat.reduceMod, Nat.reduceDiv, Nat.reduceLT, Nat.reduceLeDiff, Nat.reduceEqDiff, Int.reduceToNat, Int.reduceAdd, Int.reduceSub, Int.reduceMul, Int.reduceLT, Int.reduceLE, Int.reduceNeg, ↓reduceIte, reduceCtorEq]; with_reducible rfl) (by (first | exact trivial | omega | (simp; done) | (simp; omega) | (refine ⟨?_, ?_⟩ <;> omega))) ?_
      refine O.nil ?_
      refine G.keep [2, 5, 0, 1, 0, 4, 0, 0] (by simp only [keepG]; rfl) ?_
      refine G.seq ?_
      -- region 8
      refine G.ops fits ?_
      refine O.run 5 (by simp only [go_sem, Nat.reduceAdd, Nat.reduceSub, Nat.reduceMul, Nat.reduceMod, Nat.reduceDiv, Nat.reduceLT, Nat.reduceLeDiff, Nat.reduceEqDiff, Int.reduceToNat, Int.reduceAdd, Int.reduceSub, Int.reduceMul, Int.reduceLT, Int.reduceLE, Int.reduceNeg, ↓reduceIte, reduceCtorEq]; with_reducible rfl) (by (first | exact trivial | omega | (simp; done) | (simp; omega) | (refine ⟨?_, ?_⟩ <;> omega))) ?_
      refine O.call (by simp only [go_sem, Nat.reduceAdd, Nat.reduceSub, Nat.reduceMul, Nat.reduceMod, Nat.reduceDiv, Nat.reduceLT, Nat.reduceLeDiff, Nat.reduceEqDiff, Int.reduceToNat, Int.reduceAdd, Int.reduceSub, Int.reduceMul, Int.reduceLT, Int.reduceLE, Int.reduceNeg, ↓reduceIte, reduceCtorEq]; with_reducible rfl) (hend) (by simp [go_sem, Nat.reduceAdd, Nat.reduceSub, Nat.reduceMul, Nat.reduceMod, Nat.reduceDiv, Nat.reduceLT, Nat.reduceLeDiff, Nat.reduceEqDiff, Int.reduceToNat, Int.reduceAdd, Int.reduceSub, Int.reduceMul, Int.reduceLT, Int.reduceLE, Int.reduceNeg, ↓reduceIte, reduceCtorEq]) (by exact SubL.app (by simp only [SubL, go_sem, Nat.reduceAdd, Nat.reduceSub, Nat.reduceMul, Nat.reduceMod, Nat.reduceDiv, Nat.reduceLT, Nat.reduceLeDiff, Nat.reduceEqDiff, Int.reduceToNat, Int.reduceAdd, Int.reduceSub, Int.reduceMul, Int.reduceLT, Int.reduceLE, Int.reduceNeg, ↓reduceIte, reduceCtorEq]; exact ⟨Sub.int' (by rw [hst]; rfl), Sub.int' rfl⟩) (SubL.refl_of fun A hA => by obtain ⟨j, hj, rfl⟩ := List.mem_map.1 hA; exact hcaps _ j (List.mem_range.1 hj))) ?_
      simp only [go_sem, Nat.reduceAdd, Nat.reduceSub, Nat.reduceMul, Nat.reduceMod, Nat.reduceDiv, Nat.reduceLT, Nat.reduceLeDiff, Nat.reduceEqDiff, Int.reduceToNat, Int.reduceAdd, Int.reduceSub, Int.reduceMul, Int.reduceLT, Int.reduceLE, Int.reduceNeg, ↓reduceIte, reduceCtorEq]
      refine O.run 5 (by simp only [go_sem, Nat.reduceAdd, Nat.reduceSub, Nat.reduceMul, Nat.reduceMod, Nat.reduceDiv, Nat.reduceLT, Nat.reduceLeDiff, Nat.reduceEqDiff, Int.reduceToNat, Int.reduceAdd, Int.reduceSub, Int.reduceMul, Int.reduceLT, Int.reduceLE, Int.reduceNeg, ↓reduceIte, reduceCtorEq]; with_reducible rfl) (by (first | exact trivial | omega | (simp; done) | (simp; omega) | (refine ⟨?_, ?_⟩ <;> omega))) ?_
      refine O.nil ?_
      refine G.keep [2, 5, 0, 1, 0, 0, 0, 2, 0, 0] (by simp only [keepG]; rfl) ?_
      refine G.seq ?_
      refine G.seq ?_
      -- region 9
      refine G.run fits (by simp only [go_sem, Nat.reduceAdd, Nat.reduceSub, Nat.reduceMul, Nat.reduceMod, Nat.reduceDiv, Nat.reduceLT, Nat.reduceLeDiff, Nat.reduceEqDiff, Int.reduceToNat, Int.reduceAdd, Int.reduceSub, Int.reduceMul, Int.reduceLT, Int.reduceLE, Int.reduceNeg, ↓reduceIte, reduceCtorEq]; with_reducible rfl) (by (first | exact trivial | omega | (simp; done) | (simp; omega) | (refine ⟨?_, ?_⟩ <;> omega))) ?_
      refine G.keep [2, 5, 0, 1, 0, 0, 0, 2, 0, 0, 25] (by simp only [keepG]; rfl) ?_
      refine G.cond (by simp only [go_sem, Nat.reduceAdd, Nat.reduceSub, Nat.reduceMul, Nat.reduceMod, Nat.reduceDiv, Nat.reduceLT, Nat.reduceLeDiff, Nat.reduceEqDiff, Int.reduceToNat, Int.reduceAdd, Int.reduceSub, Int.reduceMul, Int.reduceLT, Int.reduceLE, Int.reduceNeg, ↓reduceIte, reduceCtorEq]; with_reducible rfl) (fun hc45 => ?_) (fun hc45 => ?_)
      ·
        refine G.seq ?_
        -- region 10
        refine G.run fits (by simp only [go_sem, Nat.reduceAdd, Nat.reduceSub, Nat.reduceMul, Nat.reduceMod, Nat.reduceDiv, Nat.reduceLT, Nat.reduceLeDiff, Nat.reduceEqDiff, Int.reduceToNat, Int.reduceAdd, Int.reduceSub, Int.reduceMul, Int.reduceLT, Int.reduceLE, Int.reduceNeg, ↓reduceIte, reduceCtorEq]; with_reducible rfl) (by (first | exact trivial | omega | (simp; done) | (simp; omega) | (refine ⟨?_, ?_⟩ <;> omega))) ?_
        refine G.keep [6, 0] (by simp only [keepG]; rfl) ?_
        refine G.ret ?_
        -- return 0
        refine Ret.of_sub fits [.tmp 6, .tmp 7] rfl [encC true (serveF endF l n).1, .int .i64 (serveF endF l n).2] ?_ (by simp [AllFresh, encC]) ⟨rfl, rfl⟩
        simp only [resSub, go_sem, Nat.reduceAdd, Nat.reduceSub, Nat.reduceMul, Nat.reduceMod, Nat.reduceDiv, Nat.reduceLT, Nat.reduceLeDiff, Nat.reduceEqDiff, Int.reduceToNat, Int.reduceAdd, Int.reduceSub, Int.reduceMul, Int.reduceLT, Int.reduceLE, Int.reduceNeg, ↓reduceIte, reduceCtorEq]
        have he : (resAt endF l n i).2 ≠ 0 := by rw [hrr]; simpa using hc45
        rw [serveF_err endF l n hlt hgood he, hrr]
        exact ⟨Sub.nil _ _ _, Sub.int _ _⟩
      ·
        refine G.skip ?_
        refine G.seq ?_
        -- region 11
        refine G.run fits (by simp only [go_sem, Nat.reduceAdd, Nat.reduceSub, Nat.reduceMul, Nat.reduceMod, Nat.reduceDiv, Nat.reduceLT, Nat.reduceLeDiff, Nat.reduceEqDiff, Int.reduceToNat, Int.reduceAdd, Int.reduceSub, Int.reduceMul, Int.reduceLT, Int.reduceLE, Int.reduceNeg, ↓reduceIte, reduceCtorEq]; with_reducible rfl) (by (first | exact trivial | omega | (simp; done) | (simp; omega) | (refine ⟨?_, ?_⟩ <;> omega))) ?_
        refine G.keep [2, 5, 0, 1, 5, 0, 0] (by simp only [keepG]; rfl) ?_
        -- region 12
        refine G.run fits (by simp only [go_sem, Nat.reduceAdd, Nat.reduceSub, Nat.reduceMul, Nat.reduceMod, Nat.reduceDiv, Nat.reduceLT, Nat.reduceLeDiff, Nat.reduceEqDiff, Int.reduceToNat, Int.reduceAdd, Int.reduceSub, Int.reduceMul, Int.reduceLT, Int.reduceLE, Int.reduceNeg, ↓reduceIte, reduceCtorEq]; with_reducible rfl) (by first | exact trivial | (omega) | (first | exact trivial | omega | (simp; done) | (simp; omega) | (refine ⟨?_, ?_⟩ <;> omega))) ?_
        refine G.endBlock ?_
        -- region 13
        refine G.run fits (by simp only [go_sem, Nat.reduceAdd, Nat.reduceSub, Nat.reduceMul, Nat.reduceMod, Nat.reduceDiv, Nat.reduceLT, Nat.reduceLeDiff, Nat.reduceEqDiff, Int.reduceToNat, Int.reduceAdd, Int.reduceSub, Int.reduceMul, Int.reduceLT, Int.reduceLE, Int.reduceNeg, ↓reduceIte, reduceCtorEq]; with_reducible rfl) (by (first | exact trivial | omega | (simp; done) | (simp; omega) | (refine ⟨?_, ?_⟩ <;> omega))) ?_
        refine G.endLoop ⟨i + 1, ?_, by omega, ?_⟩
        · refine ⟨by omega, fun j hj => ?_⟩
          rcases Nat.lt_or_eq_of_le (Nat.le_of_lt_succ hj) with h | h
          · exact hgood j h
          · subst h
            rw [hrr]; simpa using hc45
        · rw [hsucc, hkill]
          refine SLe.of ?_ ?_ ?_ ?_
          · simp [SlotsLe]
          · simp only [HeapLe]
            refine ⟨⟨trivial, trivial, by simp, fun i f hi hf => .inr ?_⟩, ⟨trivial, trivial, by simp, fun j f hi hf => .inr ?_⟩, trivial⟩
            · have hf0 : f = 0 := by simpa using hf
              subst hf0
              have hi' : i < free.length := by simpa using hi
              simp only [getD_set free _ _ _ hi']
              by_cases h : i = kOf free <;> simp [h]
            · have hj' : j ≤ out.length := by simp at hi; omega
              rcases Nat.lt_or_eq_of_le hj' with h | h
              · simp [h, List.getD_eq_getElem?_getD, List.getElem?_append_left h]
              · subst h
                have hf4 : f = 0 ∨ f = 1 ∨ f = 2 ∨ f = 3 := by have : f < 4 := hf; omega
                rcases hf4 with rfl | rfl | rfl | rfl <;> simp [List.getD_eq_getElem?_getD, kill, Cust.cell, hst]
          · simp [TagsIn]
            exact fun j hj => htag _ j hj
          · simp [TagsIn]
    ·
      refine G.exit rfl ?_
      refine G.seq ?_
      -- region 14
      refine G.run fits (by simp only [go_sem, Nat.reduceAdd, Nat.reduceSub, Nat.reduceMul, Nat.reduceMod, Nat.reduceDiv, Nat.reduceLT, Nat.reduceLeDiff, Nat.reduceEqDiff, Int.reduceToNat, Int.reduceAdd, Int.reduceSub, Int.reduceMul, Int.reduceLT, Int.reduceLE, Int.reduceNeg, ↓reduceIte, reduceCtorEq]; with_reducible rfl) (by (first | exact trivial | omega | (simp; done) | (simp; omega) | (refine ⟨?_, ?_⟩ <;> omega))) ?_
      refine G.keep [6, 0] (by simp only [keepG]; rfl) ?_
      refine G.ret ?_
      -- return 1
      refine Ret.of_sub fits [.tmp 6, .tmp 7] rfl [encC true (serveF endF l n).1, .int .i64 (serveF endF l n).2] ?_ (by simp [AllFresh, encC]) ⟨rfl, rfl⟩
      simp only [resSub, go_sem, Nat.reduceAdd, Nat.reduceSub, Nat.reduceMul, Nat.reduceMod, Nat.reduceDiv, Nat.reduceLT, Nat.reduceLeDiff, Nat.reduceEqDiff, Int.reduceToNat, Int.reduceAdd, Int.reduceSub, Int.reduceMul, Int.reduceLT, Int.reduceLE, Int.reduceNeg, ↓reduceIte, reduceCtorEq]
      have hge : l.length ≤ i := by simpa using hc20
      obtain rfl : i = l.length := by omega
      rw [serveF_ok endF l n hgood, hout]
      exact ⟨Sub.own rfl rfl (Nat.le_refl _) (fun _ _ _ _ => Sub.int _ _), Sub.int _ _⟩


end Go.Proofs.Ytocpeankecaabaa
