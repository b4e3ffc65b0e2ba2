/-
  Shorter services delay nobody: the plain law, and the contract of the statement.
-/
import Derived.Test.YtocpeankecaabaaW3
set_option linter.all false
namespace Go.Proofs.Ytocpeankecaabaa
open Go.Abs Go.RowKit

theorem St_at (endF : Int → Int → Int × Int) (l : List Cust) (n : Nat) (j : Nat) : ∀ i, j < i → (St endF l n i).2.getD j .z = ⟨(l.getD j .z).arrive, (l.getD j .z).service, stAt endF l n j, (resAt endF l n j).1⟩ := by
  intro i
  induction i with
  | zero => intro h; omega
  | succ i ih =>
    intro h
    have hl := St_len2 endF l n i
    rw [St_succ]
    simp only [List.getD_eq_getElem?_getD]
    rcases Nat.lt_or_eq_of_le (Nat.le_of_lt_succ h) with h' | h'
    · rw [List.getElem?_append_left (by omega)]
      have := ih h'
      rw [List.getD_eq_getElem?_getD] at this
      exact this
    · subst h'
      rw [List.getElem?_append_right (by omega)]
      simp [hl]

theorem getD_getElem (xs : List Int) (k : Nat) (h : k < xs.length) : xs[k] = xs.getD k 0 := by
  rw [List.getD_eq_getElem?_getD, List.getElem?_eq_getElem h]; rfl

theorem min_dom {F G : List Int} (hG : 0 < G.length) (h : ∀ t : Int, G.countP (fun x => decide (x ≤ t)) ≤ F.countP (fun x => decide (x ≤ t))) : minL F ≤ minL G := by
  have h1 : 0 < G.countP (fun x => decide (x ≤ minL G)) := List.countP_pos_iff.2 ⟨_, minL_mem G hG, by simp⟩
  obtain ⟨x, hx, hle⟩ := List.countP_pos_iff.1 (Nat.lt_of_lt_of_le h1 (h _))
  have := minL_le F x hx
  simp at hle
  omega

section
variable (l m : List Cust) (n : Nat) (hn : 0 < n) (hle : ∀ i, i < l.length → (m.getD i .z).arrive = (l.getD i .z).arrive ∧ 0 ≤ (l.getD i .z).service ∧ (m.getD i .z).service ≤ (l.getD i .z).service)
include hn hle

theorem shorter_dom : ∀ i, i ≤ l.length → ∀ t : Int, (St plainF l n i).1.countP (fun x => decide (x ≤ t)) ≤ (St plainF m n i).1.countP (fun x => decide (x ≤ t)) := by
  intro i
  induction i with
  | zero => intro _ t; exact Nat.le_refl _
  | succ i ih =>
    intro hi t
    have ih := ih (by omega)
    have hl1 := St_len1 plainF l n i
    have hl2 := St_len1 plainF m n i
    obtain ⟨a1, a2, a3⟩ := kOf_spec (St plainF l n i).1 (by omega)
    obtain ⟨b1, b2, b3⟩ := kOf_spec (St plainF m n i).1 (by omega)
    have hm := min_dom (by omega) ih
    have hc := hle i (by omega)
    have ht := ih t
    rw [St_succ, St_succ]
    simp only [resAt, stAt, plainF]
    generalize (St plainF l n i).1 = F at *
    generalize (St plainF m n i).1 = F' at *
    rw [List.countP_set (by omega), List.countP_set (by omega), getD_getElem _ _ a2, getD_getElem _ _ b2, a3, b3]
    have p1 : minL F ≤ t → 0 < F.countP (fun x => decide (x ≤ t)) := fun h => List.countP_pos_iff.2 ⟨_, minL_mem F (by omega), by simpa using h⟩
    have p2 : minL F' ≤ t → 0 < F'.countP (fun x => decide (x ≤ t)) := fun h => List.countP_pos_iff.2 ⟨_, minL_mem F' (by omega), by simpa using h⟩
    have p3 : ¬ minL F ≤ t → F.countP (fun x => decide (x ≤ t)) = 0 := fun h => by
      rw [List.countP_eq_zero]
      intro x hx
      have := minL_le F x hx
      simp; omega
    simp only [decide_eq_true_eq]
    split <;> split <;> split <;> split <;> omega

theorem shorter_at (i : Nat) (hi : i < l.length) : stAt plainF m n i ≤ stAt plainF l n i ∧ (resAt plainF m n i).1 ≤ (resAt plainF l n i).1 := by
  have hl1 := St_len1 plainF l n i
  have hl2 := St_len1 plainF m n i
  obtain ⟨a1, a2, a3⟩ := kOf_spec (St plainF l n i).1 (by omega)
  obtain ⟨b1, b2, b3⟩ := kOf_spec (St plainF m n i).1 (by omega)
  have hm := min_dom (by omega) (shorter_dom l m n hn hle i (by omega))
  have hc := hle i hi
  simp only [resAt, stAt, plainF]
  rw [a3, b3]
  omega
end

/-- A customer's shorter service. -/
def cutOf (cuts : List Int) (i : Nat) (c : Cust) : Cust := if 0 < cuts.length then ⟨c.arrive, c.service - min c.service (cuts.getD (i % cuts.length) 0), c.start, c.end_⟩ else c
def cutL (l : List Cust) (cuts : List Int) : Nat → List Cust
  | 0 => []
  | i + 1 => cutL l cuts i ++ [cutOf cuts i (l.getD i .z)]
theorem cutL_len (l : List Cust) (cuts : List Int) : ∀ i, (cutL l cuts i).length = i
  | 0 => rfl
  | i + 1 => by simp [cutL, cutL_len l cuts i]
theorem cutL_at (l : List Cust) (cuts : List Int) (j : Nat) : ∀ i, j < i → (cutL l cuts i).getD j .z = cutOf cuts j (l.getD j .z) := by
  intro i
  induction i with
  | zero => intro h; omega
  | succ i ih =>
    intro h
    have hl := cutL_len l cuts i
    simp only [cutL, List.getD_eq_getElem?_getD]
    rcases Nat.lt_or_eq_of_le (Nat.le_of_lt_succ h) with h' | h'
    · rw [List.getElem?_append_left (by omega)]
      have := ih h'
      rw [List.getD_eq_getElem?_getD] at this
      exact this
    · subst h'
      rw [List.getElem?_append_right (by omega)]
      simp [hl]

theorem cutOf_le (cuts : List Int) (hcut : ∀ i, 0 ≤ cuts.getD i 0) (i : Nat) (c : Cust) (hc : 0 ≤ c.service) : (cutOf cuts i c).arrive = c.arrive ∧ 0 ≤ (cutOf cuts i c).service ∧ (cutOf cuts i c).service ≤ c.service := by
  unfold cutOf
  split
  · have := hcut (i % cuts.length)
    refine ⟨rfl, ?_, ?_⟩ <;> simp only <;> omega
  · exact ⟨rfl, hc, Int.le_refl _⟩

theorem cut_proper (l : List Cust) (cuts : List Int) (hcut : ∀ i, 0 ≤ cuts.getD i 0) (h : properB l = true) : properB (cutL l cuts l.length) = true := by
  obtain ⟨h1, h2⟩ := properB_at h
  rw [properB_yes (fun j hj => ?_)]
  · rw [cutL_len]; simp; omega
  · rw [cutL_len] at hj
    have a := h2 j hj
    have b := cutOf_le cuts hcut j (l.getD j .z) a.2.2.1
    have c : 0 < j → ((cutL l cuts l.length).getD (j - 1) .z).arrive = (l.getD (j - 1) .z).arrive := fun h0 => by
      rw [cutL_at l cuts (j - 1) l.length (by omega)]
      exact (cutOf_le cuts hcut (j - 1) _ (h2 (j - 1) (by omega)).2.2.1).1
    simp only [badAt, cutL_at l cuts j l.length hj, Bool.or_eq_false_iff, Bool.and_eq_false_iff, decide_eq_false_iff_not]
    by_cases h0 : 0 < j
    · have c := c h0
      refine ⟨?_, ?_, ?_, ?_, .inr ?_⟩ <;> omega
    · refine ⟨?_, ?_, ?_, ?_, .inl ?_⟩ <;> omega

def encU (xs : List Int) : AV := .ro false 1 xs.length (fun i _ => .int .u16 (xs.getD i 0))
theorem noFresh_encU (l : List Int) : NoFresh (encU l) := ⟨rfl, fun _ _ _ _ => trivial⟩

set_option maxRecDepth 10000

theorem shorter_con (l : List Cust) (cuts : List Int) (s : Int) (hl : l.length ≤ 9223372036854775807) (hlc : cuts.length ≤ 9223372036854775807) (hcut : ∀ i, 0 ≤ cuts.getD i 0 ∧ cuts.getD i 0 ≤ 65535) (hs : 0 ≤ s ∧ s ≤ 255) : Con Try.prog 4 [encC false l, encU cuts, .int .u8 s] (isV (resA [.bool true])) := by
  refine Con.of_goes Try.func4 (by rfl) rfl (by simp [NoFresh, noFresh_encC, noFresh_encU]) (by simp only [Try.ntmps4, List.length_cons, List.length_nil, Nat.reduceAdd, Nat.reduceSub, List.replicate, List.cons_append, List.nil_append]; rfl) fun w0 => ?_
  unfold encC encU
  refine G.seq ?_
  -- region 0
  refine G.run fits (by simp only [go_sem, Nat.reduceAdd, Nat.reduceSub, Nat.reduceMul, Nat.reduceMod, Nat.reduceDiv, Nat.reduceLT, Nat.reduceLeDiff, Nat.reduceEqDiff, Int.reduceToNat, Int.reduceAdd, Int.reduceSub, Int.reduceMul, Int.reduceLT, Int.reduceLE, Int.reduceNeg, ↓reduceIte, reduceCtorEq]; with_reducible rfl) (by (first | exact trivial | omega | (simp; done) | (simp; omega) | (refine ⟨?_, ?_⟩ <;> omega))) ?_
  refine G.keep [0, 0, 0] (by simp only [keepG]; rfl) ?_
  refine G.seq ?_
  refine G.seq ?_
  -- region 1
  refine G.ops fits ?_
  refine O.call (by simp only [go_sem, Nat.reduceAdd, Nat.reduceSub, Nat.reduceMul, Nat.reduceMod, Nat.reduceDiv, Nat.reduceLT, Nat.reduceLeDiff, Nat.reduceEqDiff, Int.reduceToNat, Int.reduceAdd, Int.reduceSub, Int.reduceMul, Int.reduceLT, Int.reduceLE, Int.reduceNeg, ↓reduceIte, reduceCtorEq]; with_reducible rfl) (awake_con) (by simp [go_sem, Nat.reduceAdd, Nat.reduceSub, Nat.reduceMul, Nat.reduceMod, Nat.reduceDiv, Nat.reduceLT, Nat.reduceLeDiff, Nat.reduceEqDiff, Int.reduceToNat, Int.reduceAdd, Int.reduceSub, Int.reduceMul, Int.reduceLT, Int.reduceLE, Int.reduceNeg, ↓reduceIte, reduceCtorEq]) (by simp only [SubL, go_sem, Nat.reduceAdd, Nat.reduceSub, Nat.reduceMul, Nat.reduceMod, Nat.reduceDiv, Nat.reduceLT, Nat.reduceLeDiff, Nat.reduceEqDiff, Int.reduceToNat, Int.reduceAdd, Int.reduceSub, Int.reduceMul, Int.reduceLT, Int.reduceLE, Int.reduceNeg, ↓reduceIte, reduceCtorEq]; (first | exact trivial | (repeat' (first | exact trivial | refine ⟨?_, ?_⟩ | exact Sub.int _ _ | exact Sub.bool _ | exact Sub.val _ | exact Sub.nil _ _ _ | exact Sub.ro (by simp) (fun _ _ _ _ => rfl) | exact Sub.own rfl rfl (Nat.le_refl _) (fun _ _ _ _ => Sub.int _ _) | exact Sub.fn (fun j hj => absurd hj (by omega)))))) ?_
  simp only [go_sem, Nat.reduceAdd, Nat.reduceSub, Nat.reduceMul, Nat.reduceMod, Nat.reduceDiv, Nat.reduceLT, Nat.reduceLeDiff, Nat.reduceEqDiff, Int.reduceToNat, Int.reduceAdd, Int.reduceSub, Int.reduceMul, Int.reduceLT, Int.reduceLE, Int.reduceNeg, ↓reduceIte, reduceCtorEq]
  refine O.run 1 (by simp only [go_sem, Nat.reduceAdd, Nat.reduceSub, Nat.reduceMul, Nat.reduceMod, Nat.reduceDiv, Nat.reduceLT, Nat.reduceLeDiff, Nat.reduceEqDiff, Int.reduceToNat, Int.reduceAdd, Int.reduceSub, Int.reduceMul, Int.reduceLT, Int.reduceLE, Int.reduceNeg, ↓reduceIte, reduceCtorEq]; with_reducible rfl) (by (first | exact trivial | omega | (simp; done) | (simp; omega) | (refine ⟨?_, ?_⟩ <;> omega))) ?_
  refine O.nil ?_
  refine G.keep [0, 0, 0, 14] (by simp only [keepG]; rfl) ?_
  refine G.cond (by simp only [go_sem, Nat.reduceAdd, Nat.reduceSub, Nat.reduceMul, Nat.reduceMod, Nat.reduceDiv, Nat.reduceLT, Nat.reduceLeDiff, Nat.reduceEqDiff, Int.reduceToNat, Int.reduceAdd, Int.reduceSub, Int.reduceMul, Int.reduceLT, Int.reduceLE, Int.reduceNeg, ↓reduceIte, reduceCtorEq]; with_reducible rfl) (fun hc17 => ?_) (fun hc17 => ?_)
  ·
    simp at hc17
  ·
    refine G.skip ?_
    refine G.seq ?_
    refine G.seq ?_
    -- region 3
    refine G.ops fits ?_
    refine O.run 1 (by simp only [go_sem, Nat.reduceAdd, Nat.reduceSub, Nat.reduceMul, Nat.reduceMod, Nat.reduceDiv, Nat.reduceLT, Nat.reduceLeDiff, Nat.reduceEqDiff, Int.reduceToNat, Int.reduceAdd, Int.reduceSub, Int.reduceMul, Int.reduceLT, Int.reduceLE, Int.reduceNeg, ↓reduceIte, reduceCtorEq]; with_reducible rfl) (by (first | exact trivial | omega | (simp; done) | (simp; omega) | (refine ⟨?_, ?_⟩ <;> omega))) ?_
    refine O.call (by simp only [go_sem, Nat.reduceAdd, Nat.reduceSub, Nat.reduceMul, Nat.reduceMod, Nat.reduceDiv, Nat.reduceLT, Nat.reduceLeDiff, Nat.reduceEqDiff, Int.reduceToNat, Int.reduceAdd, Int.reduceSub, Int.reduceMul, Int.reduceLT, Int.reduceLE, Int.reduceNeg, ↓reduceIte, reduceCtorEq]; with_reducible rfl) (many_con l hl) (by simp [go_sem, Nat.reduceAdd, Nat.reduceSub, Nat.reduceMul, Nat.reduceMod, Nat.reduceDiv, Nat.reduceLT, Nat.reduceLeDiff, Nat.reduceEqDiff, Int.reduceToNat, Int.reduceAdd, Int.reduceSub, Int.reduceMul, Int.reduceLT, Int.reduceLE, Int.reduceNeg, ↓reduceIte, reduceCtorEq]) (by simp only [SubL, go_sem, Nat.reduceAdd, Nat.reduceSub, Nat.reduceMul, Nat.reduceMod, Nat.reduceDiv, Nat.reduceLT, Nat.reduceLeDiff, Nat.reduceEqDiff, Int.reduceToNat, Int.reduceAdd, Int.reduceSub, Int.reduceMul, Int.reduceLT, Int.reduceLE, Int.reduceNeg, ↓reduceIte, reduceCtorEq]; (first | exact trivial | (repeat' (first | exact trivial | refine ⟨?_, ?_⟩ | exact Sub.int _ _ | exact Sub.bool _ | exact Sub.val _ | exact Sub.nil _ _ _ | exact Sub.ro (by simp) (fun _ _ _ _ => rfl) | exact Sub.own rfl rfl (Nat.le_refl _) (fun _ _ _ _ => Sub.int _ _) | exact Sub.fn (fun j hj => absurd hj (by omega)))))) ?_
    simp only [go_sem, Nat.reduceAdd, Nat.reduceSub, Nat.reduceMul, Nat.reduceMod, Nat.reduceDiv, Nat.reduceLT, Nat.reduceLeDiff, Nat.reduceEqDiff, Int.reduceToNat, Int.reduceAdd, Int.reduceSub, Int.reduceMul, Int.reduceLT, Int.reduceLE, Int.reduceNeg, ↓reduceIte, reduceCtorEq]
    refine O.run 2 (by simp only [go_sem, Nat.reduceAdd, Nat.reduceSub, Nat.reduceMul, Nat.reduceMod, Nat.reduceDiv, Nat.reduceLT, Nat.reduceLeDiff, Nat.reduceEqDiff, Int.reduceToNat, Int.reduceAdd, Int.reduceSub, Int.reduceMul, Int.reduceLT, Int.reduceLE, Int.reduceNeg, ↓reduceIte, reduceCtorEq]; with_reducible rfl) (by (first | exact trivial | omega | (simp; done) | (simp; omega) | (refine ⟨?_, ?_⟩ <;> omega))) ?_
    refine O.callG (by simp only [go_sem, Nat.reduceAdd, Nat.reduceSub, Nat.reduceMul, Nat.reduceMod, Nat.reduceDiv, Nat.reduceLT, Nat.reduceLeDiff, Nat.reduceEqDiff, Int.reduceToNat, Int.reduceAdd, Int.reduceSub, Int.reduceMul, Int.reduceLT, Int.reduceLE, Int.reduceNeg, ↓reduceIte, reduceCtorEq]; with_reducible rfl) (by simp only [go_sem, Nat.reduceAdd, Nat.reduceSub, Nat.reduceMul, Nat.reduceMod, Nat.reduceDiv, Nat.reduceLT, Nat.reduceLeDiff, Nat.reduceEqDiff, Int.reduceToNat, Int.reduceAdd, Int.reduceSub, Int.reduceMul, Int.reduceLT, Int.reduceLE, Int.reduceNeg, ↓reduceIte, reduceCtorEq]; with_reducible rfl) (fun hg => ref_Proper_con l hl) (fun hg => by first | (simp [go_sem, Nat.reduceAdd, Nat.reduceSub, Nat.reduceMul, Nat.reduceMod, Nat.reduceDiv, Nat.reduceLT, Nat.reduceLeDiff, Nat.reduceEqDiff, Int.reduceToNat, Int.reduceAdd, Int.reduceSub, Int.reduceMul, Int.reduceLT, Int.reduceLE, Int.reduceNeg, ↓reduceIte, reduceCtorEq]; done) | (simpa [go_sem, Nat.reduceAdd, Nat.reduceSub, Nat.reduceMul, Nat.reduceMod, Nat.reduceDiv, Nat.reduceLT, Nat.reduceLeDiff, Nat.reduceEqDiff, Int.reduceToNat, Int.reduceAdd, Int.reduceSub, Int.reduceMul, Int.reduceLT, Int.reduceLE, Int.reduceNeg, ↓reduceIte, reduceCtorEq] using hg)) (fun hg => by simp only [SubL, go_sem, Nat.reduceAdd, Nat.reduceSub, Nat.reduceMul, Nat.reduceMod, Nat.reduceDiv, Nat.reduceLT, Nat.reduceLeDiff, Nat.reduceEqDiff, Int.reduceToNat, Int.reduceAdd, Int.reduceSub, Int.reduceMul, Int.reduceLT, Int.reduceLE, Int.reduceNeg, ↓reduceIte, reduceCtorEq]; (first | exact trivial | (repeat' (first | exact trivial | refine ⟨?_, ?_⟩ | exact Sub.int _ _ | exact Sub.bool _ | exact Sub.val _ | exact Sub.nil _ _ _ | exact Sub.ro (by simp) (fun _ _ _ _ => rfl) | exact Sub.own rfl rfl (Nat.le_refl _) (fun _ _ _ _ => Sub.int _ _) | exact Sub.fn (fun j hj => absurd hj (by omega)))))) ?_
    simp only [go_sem, Nat.reduceAdd, Nat.reduceSub, Nat.reduceMul, Nat.reduceMod, Nat.reduceDiv, Nat.reduceLT, Nat.reduceLeDiff, Nat.reduceEqDiff, Int.reduceToNat, Int.reduceAdd, Int.reduceSub, Int.reduceMul, Int.reduceLT, Int.reduceLE, Int.reduceNeg, ↓reduceIte, reduceCtorEq]
    refine O.run 2 (by simp only [go_sem, Nat.reduceAdd, Nat.reduceSub, Nat.reduceMul, Nat.reduceMod, Nat.reduceDiv, Nat.reduceLT, Nat.reduceLeDiff, Nat.reduceEqDiff, Int.reduceToNat, Int.reduceAdd, Int.reduceSub, Int.reduceMul, Int.reduceLT, Int.reduceLE, Int.reduceNeg, ↓reduceIte, reduceCtorEq]; with_reducible rfl) (by (first | exact trivial | omega | (simp; done) | (simp; omega) | (refine ⟨?_, ?_⟩ <;> omega))) ?_
    refine O.nil ?_
    refine G.keep [0, 0, 0, 21] (by simp only [keepG]; rfl) ?_
    refine G.cond (by simp only [go_sem, Nat.reduceAdd, Nat.reduceSub, Nat.reduceMul, Nat.reduceMod, Nat.reduceDiv, Nat.reduceLT, Nat.reduceLeDiff, Nat.reduceEqDiff, Int.reduceToNat, Int.reduceAdd, Int.reduceSub, Int.reduceMul, Int.reduceLT, Int.reduceLE, Int.reduceNeg, ↓reduceIte, reduceCtorEq]; with_reducible rfl) (fun hc24 => ?_) (fun hc24 => ?_)
    ·
      refine G.seq ?_
      -- region 4
      refine G.run fits (by simp only [go_sem, Nat.reduceAdd, Nat.reduceSub, Nat.reduceMul, Nat.reduceMod, Nat.reduceDiv, Nat.reduceLT, Nat.reduceLeDiff, Nat.reduceEqDiff, Int.reduceToNat, Int.reduceAdd, Int.reduceSub, Int.reduceMul, Int.reduceLT, Int.reduceLE, Int.reduceNeg, ↓reduceIte, reduceCtorEq]; with_reducible rfl) (by (first | exact trivial | omega | (simp; done) | (simp; omega) | (refine ⟨?_, ?_⟩ <;> omega))) ?_
      refine G.keep [6] (by simp only [keepG]; rfl) ?_
      refine G.ret ?_
      -- return 0
      refine Ret.of_sub fits [.tmp 6] rfl [.bool true] ?_ (by simp [AllFresh]) ⟨rfl, rfl⟩
      simp only [resSub, go_sem, Nat.reduceAdd, Nat.reduceSub, Nat.reduceMul, Nat.reduceMod, Nat.reduceDiv, Nat.reduceLT, Nat.reduceLeDiff, Nat.reduceEqDiff, Int.reduceToNat, Int.reduceAdd, Int.reduceSub, Int.reduceMul, Int.reduceLT, Int.reduceLE, Int.reduceNeg, ↓reduceIte, reduceCtorEq]
      (first | exact trivial | (repeat' (first | exact trivial | refine ⟨?_, ?_⟩ | exact Sub.int _ _ | exact Sub.bool _ | exact Sub.val _ | exact Sub.nil _ _ _ | exact Sub.ro (by simp) (fun _ _ _ _ => rfl))))
    ·
      have hp : properB l = true := by simp at hc24; exact hc24.2
      have hl1 := (properB_at hp).1
      refine G.skip ?_
      refine G.seq ?_
      -- region 5
      refine G.run fits (by simp only [go_sem, Nat.reduceAdd, Nat.reduceSub, Nat.reduceMul, Nat.reduceMod, Nat.reduceDiv, Nat.reduceLT, Nat.reduceLeDiff, Nat.reduceEqDiff, Int.reduceToNat, Int.reduceAdd, Int.reduceSub, Int.reduceMul, Int.reduceLT, Int.reduceLE, Int.reduceNeg, ↓reduceIte, reduceCtorEq]; with_reducible rfl) (by (first | exact trivial | omega | (simp; done) | (simp; omega) | (refine ⟨?_, ?_⟩ <;> omega))) ?_
      refine G.keep [0, 0, 0, 4] (by simp only [keepG]; rfl) ?_
      refine G.seq ?_
      refine G.seq ?_
      -- region 6
      refine G.run fits (by simp only [go_sem, Nat.reduceAdd, Nat.reduceSub, Nat.reduceMul, Nat.reduceMod, Nat.reduceDiv, Nat.reduceLT, Nat.reduceLeDiff, Nat.reduceEqDiff, Int.reduceToNat, Int.reduceAdd, Int.reduceSub, Int.reduceMul, Int.reduceLT, Int.reduceLE, Int.reduceNeg, ↓reduceIte, reduceCtorEq]; with_reducible rfl) (by (first | exact trivial | omega | (simp; done) | (simp; omega) | (refine ⟨?_, ?_⟩ <;> omega))) ?_
      refine G.keep [0, 0, 0, 4, 17, 0, 0] (by simp only [keepG]; rfl) ?_
      refine G.block ?_
      refine G.loop (ι := Nat) (fun i => ⟨[encC false l, encU cuts, .int .u8 s, .any, .any, .any, .any, .own 0 4 (cutL l cuts i).length, .any, .any, .any, .any, .any, .any, .any, .any, .any, .any, .any, .any, .any, .any, .any, .any, .any, encC false l, .int .i64 l.length, .int .i64 i, .any, .any, .any, .any, .any, .any, .any, .any, .any, .any, .any, .any, .any, .any, .any, .any, .any, .any, .any, .any, .any, .any, .any, .any, .any, .any, .any, .any, .any, .any, .any, .any, .any, .any, .any, .any, .any, .any, .any, .any, .any, .any, .any, .any, .any, .any, .any, .any, .any, .any, .any, .any, .any, .any, .any, .any, .any, .any, .any, .any, .any, .any, .any, .any, .any, .any, .any, .any, .any, .any, .any, .any, .any, .any, .any, .any, .any, .any, .any, .any, .any, .any, .any, .any, .any, .any, .any, .any, .any, .any, .any, .any, .any], [objC (cutL l cuts i)]⟩) (fun i => i ≤ l.length) (fun i => l.length - i) 0 (by simp) ?_ fun i hi => ?_
      ·
        refine (SLe.nil 7 (objC []) rfl rfl).trans (SLe.of ?_ ?_ ?_ ?_)
        · simp [SlotsLe, objC, encC, encU, cutL]
        · exact ⟨⟨rfl, rfl, rfl, fun i f hi hf => by simp [objC, cutL] at hi⟩, trivial⟩
        · simp [TagsIn, encC, encU]
        · simp [TagsIn, objC]
      ·
        have hlen := cutL_len l cuts i
        have hsucc : cutL l cuts (i + 1) = cutL l cuts i ++ [cutOf cuts i (l.getD i .z)] := rfl
        generalize hm : cutL l cuts i = m at *
        unfold encC encU objC
        refine G.seq ?_
        -- region 7
        refine G.run fits (by simp only [go_sem, Nat.reduceAdd, Nat.reduceSub, Nat.reduceMul, Nat.reduceMod, Nat.reduceDiv, Nat.reduceLT, Nat.reduceLeDiff, Nat.reduceEqDiff, Int.reduceToNat, Int.reduceAdd, Int.reduceSub, Int.reduceMul, Int.reduceLT, Int.reduceLE, Int.reduceNeg, ↓reduceIte, reduceCtorEq]; with_reducible rfl) (by (first | exact trivial | omega | (simp; done) | (simp; omega) | (refine ⟨?_, ?_⟩ <;> omega))) ?_
        refine G.keep [0, 0, 0, 4, 17, 0, 0, 0] (by simp only [keepG]; rfl) ?_
        refine G.seq ?_
        refine G.cond (by simp only [go_sem, Nat.reduceAdd, Nat.reduceSub, Nat.reduceMul, Nat.reduceMod, Nat.reduceDiv, Nat.reduceLT, Nat.reduceLeDiff, Nat.reduceEqDiff, Int.reduceToNat, Int.reduceAdd, Int.reduceSub, Int.reduceMul, Int.reduceLT, Int.reduceLE, Int.reduceNeg, ↓reduceIte, reduceCtorEq]; with_reducible rfl) (fun hc28 => ?_) (fun hc28 => ?_)
        ·
          have hlt : i < l.length := by simpa using hc28
          have hserv := (properB_at hp).2 i hlt
          refine G.skip ?_
          refine G.seq ?_
          refine G.block ?_
          refine G.seq ?_
          -- region 8
          refine G.run fits (by simp only [go_sem, Nat.reduceAdd, Nat.reduceSub, Nat.reduceMul, Nat.reduceMod, Nat.reduceDiv, Nat.reduceLT, Nat.reduceLeDiff, Nat.reduceEqDiff, Int.reduceToNat, Int.reduceAdd, Int.reduceSub, Int.reduceMul, Int.reduceLT, Int.reduceLE, Int.reduceNeg, ↓reduceIte, reduceCtorEq]; with_reducible rfl) (by (first | exact trivial | omega | (simp; done) | (simp; omega) | (refine ⟨?_, ?_⟩ <;> omega))) ?_
          refine G.keep [0, 0, 0, 4, 0, 0, 15, 0, 0] (by simp only [keepG]; rfl) ?_
          refine G.seq ?_
          refine G.seq ?_
          -- region 9
          refine G.run fits (by simp only [go_sem, Nat.reduceAdd, Nat.reduceSub, Nat.reduceMul, Nat.reduceMod, Nat.reduceDiv, Nat.reduceLT, Nat.reduceLeDiff, Nat.reduceEqDiff, Int.reduceToNat, Int.reduceAdd, Int.reduceSub, Int.reduceMul, Int.reduceLT, Int.reduceLE, Int.reduceNeg, ↓reduceIte, reduceCtorEq]; with_reducible rfl) (by (first | exact trivial | omega | (simp; done) | (simp; omega) | (refine ⟨?_, ?_⟩ <;> omega))) ?_
          refine G.keep [0, 0, 0, 4, 0, 0, 15, 0, 0, 6] (by simp only [keepG]; rfl) ?_
          refine G.cond (by simp only [go_sem, Nat.reduceAdd, Nat.reduceSub, Nat.reduceMul, Nat.reduceMod, Nat.reduceDiv, Nat.reduceLT, Nat.reduceLeDiff, Nat.reduceEqDiff, Int.reduceToNat, Int.reduceAdd, Int.reduceSub, Int.reduceMul, Int.reduceLT, Int.reduceLE, Int.reduceNeg, ↓reduceIte, reduceCtorEq]; with_reducible rfl) (fun hc34 => ?_) (fun hc34 => ?_)
          ·
            have hcl : 0 < cuts.length := by simpa using hc34
            have htm : (i : Int).tmod (cuts.length : Int) = ((i % cuts.length : Nat) : Int) := (Int.ofNat_tmod _ _).symm
            have htl : i % cuts.length < cuts.length := Nat.mod_lt _ hcl
            have hcv := hcut (i % cuts.length)
            -- region 10
            refine G.draw fits mixed 15 (drawN_ok (by decide +kernel)) (by simp only [List.take_succ_cons, List.take_zero]; with_reducible rfl) (by simp only [List.drop_succ_cons, List.drop_zero]; with_reducible rfl) ?_
            refine D.run 8 (by simp only [go_sem, Nat.reduceAdd, Nat.reduceSub, Nat.reduceMul, Nat.reduceMod, Nat.reduceDiv, Nat.reduceLT, Nat.reduceLeDiff, Nat.reduceEqDiff, Int.reduceToNat, Int.reduceAdd, Int.reduceSub, Int.reduceMul, Int.reduceLT, Int.reduceLE, Int.reduceNeg, ↓reduceIte, reduceCtorEq]; with_reducible rfl) (by first | exact trivial | (rw [htm, Int.toNat_natCast]; simp only [Cust.cell]; generalize cuts.getD (i % cuts.length) 0 = cv at *; omega) | (first | exact trivial | omega | (simp; done) | (simp; omega) | (refine ⟨?_, ?_⟩ <;> omega))) ?_
            refine D.run 7 (by simp only [go_sem, Nat.reduceAdd, Nat.reduceSub, Nat.reduceMul, Nat.reduceMod, Nat.reduceDiv, Nat.reduceLT, Nat.reduceLeDiff, Nat.reduceEqDiff, Int.reduceToNat, Int.reduceAdd, Int.reduceSub, Int.reduceMul, Int.reduceLT, Int.reduceLE, Int.reduceNeg, ↓reduceIte, reduceCtorEq]; with_reducible rfl) (by first | exact trivial | (rw [htm, Int.toNat_natCast]; simp only [Cust.cell]; generalize cuts.getD (i % cuts.length) 0 = cv at *; omega) | (first | exact trivial | omega | (simp; done) | (simp; omega) | (refine ⟨?_, ?_⟩ <;> omega))) ?_
            refine D.nil ?_
            refine O.run 1 (by simp only [go_sem, Nat.reduceAdd, Nat.reduceSub, Nat.reduceMul, Nat.reduceMod, Nat.reduceDiv, Nat.reduceLT, Nat.reduceLeDiff, Nat.reduceEqDiff, Int.reduceToNat, Int.reduceAdd, Int.reduceSub, Int.reduceMul, Int.reduceLT, Int.reduceLE, Int.reduceNeg, ↓reduceIte, reduceCtorEq]; with_reducible rfl) (by (first | exact trivial | omega | (simp; done) | (simp; omega) | (refine ⟨?_, ?_⟩ <;> omega))) ?_
            refine O.nil ?_
            refine G.keep [0, 0, 0, 4, 1, 15, 0, 0] (by simp only [keepG]; rfl) ?_
            -- region 11
            refine G.run fits (by simp only [go_sem, Nat.reduceAdd, Nat.reduceSub, Nat.reduceMul, Nat.reduceMod, Nat.reduceDiv, Nat.reduceLT, Nat.reduceLeDiff, Nat.reduceEqDiff, Int.reduceToNat, Int.reduceAdd, Int.reduceSub, Int.reduceMul, Int.reduceLT, Int.reduceLE, Int.reduceNeg, ↓reduceIte, reduceCtorEq]; with_reducible rfl) (by first | exact trivial | (omega) | (first | exact trivial | omega | (simp; done) | (simp; omega) | (refine ⟨?_, ?_⟩ <;> omega))) ?_
            refine G.endBlock ?_
            -- region 12
            refine G.run fits (by simp only [go_sem, Nat.reduceAdd, Nat.reduceSub, Nat.reduceMul, Nat.reduceMod, Nat.reduceDiv, Nat.reduceLT, Nat.reduceLeDiff, Nat.reduceEqDiff, Int.reduceToNat, Int.reduceAdd, Int.reduceSub, Int.reduceMul, Int.reduceLT, Int.reduceLE, Int.reduceNeg, ↓reduceIte, reduceCtorEq]; with_reducible rfl) (by (first | exact trivial | omega | (simp; done) | (simp; omega) | (refine ⟨?_, ?_⟩ <;> omega))) ?_
            refine G.endLoop ⟨i + 1, by omega, by omega, ?_⟩
            rw [hsucc]
            refine SLe.of ?_ ?_ ?_ ?_
            · simp [SlotsLe]
            · simp only [HeapLe]
              refine ⟨⟨trivial, trivial, by simp, fun j f hi hf => .inr ?_⟩, trivial⟩
              have hj' : j ≤ m.length := by simp at hi; omega
              rcases Nat.lt_or_eq_of_le hj' with h | h
              · simp [h, List.getD_eq_getElem?_getD, List.getElem?_append_left h]
              · subst h
                have hf4 : f = 0 ∨ f = 1 ∨ f = 2 ∨ f = 3 := by have : f < 4 := hf; omega
                try simp only [htm, Int.toNat_natCast]
                rcases hf4 with rfl | rfl | rfl | rfl <;> simp [List.getD_eq_getElem?_getD, kill, Cust.cell, cutOf, hcl]
            · simp [TagsIn]
            · simp [TagsIn]
          ·
            have hcl : ¬ 0 < cuts.length := by simpa using hc34
            refine G.skip ?_
            -- region 11
            refine G.run fits (by simp only [go_sem, Nat.reduceAdd, Nat.reduceSub, Nat.reduceMul, Nat.reduceMod, Nat.reduceDiv, Nat.reduceLT, Nat.reduceLeDiff, Nat.reduceEqDiff, Int.reduceToNat, Int.reduceAdd, Int.reduceSub, Int.reduceMul, Int.reduceLT, Int.reduceLE, Int.reduceNeg, ↓reduceIte, reduceCtorEq]; with_reducible rfl) (by first | exact trivial | (omega) | (first | exact trivial | omega | (simp; done) | (simp; omega) | (refine ⟨?_, ?_⟩ <;> omega))) ?_
            refine G.endBlock ?_
            -- region 12
            refine G.run fits (by simp only [go_sem, Nat.reduceAdd, Nat.reduceSub, Nat.reduceMul, Nat.reduceMod, Nat.reduceDiv, Nat.reduceLT, Nat.reduceLeDiff, Nat.reduceEqDiff, Int.reduceToNat, Int.reduceAdd, Int.reduceSub, Int.reduceMul, Int.reduceLT, Int.reduceLE, Int.reduceNeg, ↓reduceIte, reduceCtorEq]; with_reducible rfl) (by (first | exact trivial | omega | (simp; done) | (simp; omega) | (refine ⟨?_, ?_⟩ <;> omega))) ?_
            refine G.endLoop ⟨i + 1, by omega, by omega, ?_⟩
            rw [hsucc]
            refine SLe.of ?_ ?_ ?_ ?_
            · simp [SlotsLe]
            · simp only [HeapLe]
              refine ⟨⟨trivial, trivial, by simp, fun j f hi hf => .inr ?_⟩, trivial⟩
              have hj' : j ≤ m.length := by simp at hi; omega
              rcases Nat.lt_or_eq_of_le hj' with h | h
              · simp [h, List.getD_eq_getElem?_getD, List.getElem?_append_left h]
              · subst h
                have hf4 : f = 0 ∨ f = 1 ∨ f = 2 ∨ f = 3 := by have : f < 4 := hf; omega
                try simp only [htm, Int.toNat_natCast]
                rcases hf4 with rfl | rfl | rfl | rfl <;> simp [List.getD_eq_getElem?_getD, kill, Cust.cell, cutOf, hcl]
            · simp [TagsIn]
            · simp [TagsIn]
        ·
          have hge : l.length ≤ i := by simpa using hc28
          have hil : i = l.length := by omega
          have hkb : 1 ≤ 1 + s.tmod 20 ∧ 1 + s.tmod 20 ≤ 20 := by
            have := Int.tmod_eq_emod_of_nonneg (a := s) (b := 20) hs.1
            omega
          have hcut0 : ∀ i, 0 ≤ cuts.getD i 0 := fun i => (hcut i).1
          have hpm : properB m = true := by rw [← hm, hil]; exact cut_proper l cuts hcut0 hp
          have e1 := serveO_ok hp hkb.1 hkb.2
          have e2 := serveO_ok hpm hkb.1 hkb.2
          have hx := St_len2 plainF l (1 + s.tmod 20).toNat l.length
          have hy := St_len2 plainF m (1 + s.tmod 20).toNat m.length
          have hxy : ∀ j, j < l.length → ((St plainF m (1 + s.tmod 20).toNat m.length).2.getD j .z).start ≤ ((St plainF l (1 + s.tmod 20).toNat l.length).2.getD j .z).start ∧ ((St plainF m (1 + s.tmod 20).toNat m.length).2.getD j .z).end_ ≤ ((St plainF l (1 + s.tmod 20).toNat l.length).2.getD j .z).end_ := fun j hj => by
            rw [St_at plainF l _ j l.length hj, St_at plainF m _ j m.length (by omega)]
            exact shorter_at l m _ (by omega) (fun i' hi' => by
              rw [← hm, cutL_at l cuts i' i (by omega)]
              have a := (properB_at hp).2 i' hi'
              have b := cutOf_le cuts hcut0 i' _ a.2.2.1
              exact ⟨b.1, a.2.2.1, b.2.2⟩) j hj
          generalize (St plainF l (1 + s.tmod 20).toNat l.length).2 = x at *
          generalize (St plainF m (1 + s.tmod 20).toNat m.length).2 = y at *
          refine G.exit rfl ?_
          refine G.seq ?_
          -- region 13
          refine G.run fits (by simp only [go_sem, Nat.reduceAdd, Nat.reduceSub, Nat.reduceMul, Nat.reduceMod, Nat.reduceDiv, Nat.reduceLT, Nat.reduceLeDiff, Nat.reduceEqDiff, Int.reduceToNat, Int.reduceAdd, Int.reduceSub, Int.reduceMul, Int.reduceLT, Int.reduceLE, Int.reduceNeg, ↓reduceIte, reduceCtorEq]; with_reducible rfl) (by (first | exact trivial | omega | (simp; done) | (simp; omega) | (refine ⟨?_, ?_⟩ <;> omega))) ?_
          refine G.keep [0, 6, 2] (by simp only [keepG]; rfl) ?_
          refine G.seq ?_
          -- region 14
          refine G.ops fits ?_
          refine O.run 2 (by simp only [go_sem, Nat.reduceAdd, Nat.reduceSub, Nat.reduceMul, Nat.reduceMod, Nat.reduceDiv, Nat.reduceLT, Nat.reduceLeDiff, Nat.reduceEqDiff, Int.reduceToNat, Int.reduceAdd, Int.reduceSub, Int.reduceMul, Int.reduceLT, Int.reduceLE, Int.reduceNeg, ↓reduceIte, reduceCtorEq]; with_reducible rfl) (by (first | exact trivial | omega | (simp; done) | (simp; omega) | (refine ⟨?_, ?_⟩ <;> omega))) ?_
          refine O.call (by simp only [go_sem, Nat.reduceAdd, Nat.reduceSub, Nat.reduceMul, Nat.reduceMod, Nat.reduceDiv, Nat.reduceLT, Nat.reduceLeDiff, Nat.reduceEqDiff, Int.reduceToNat, Int.reduceAdd, Int.reduceSub, Int.reduceMul, Int.reduceLT, Int.reduceLE, Int.reduceNeg, ↓reduceIte, reduceCtorEq]; with_reducible rfl) (simulate_Serve_con l (1 + s.tmod 20) hl) (by simp [go_sem, Nat.reduceAdd, Nat.reduceSub, Nat.reduceMul, Nat.reduceMod, Nat.reduceDiv, Nat.reduceLT, Nat.reduceLeDiff, Nat.reduceEqDiff, Int.reduceToNat, Int.reduceAdd, Int.reduceSub, Int.reduceMul, Int.reduceLT, Int.reduceLE, Int.reduceNeg, ↓reduceIte, reduceCtorEq]) (by simp only [SubL, go_sem, Nat.reduceAdd, Nat.reduceSub, Nat.reduceMul, Nat.reduceMod, Nat.reduceDiv, Nat.reduceLT, Nat.reduceLeDiff, Nat.reduceEqDiff, Int.reduceToNat, Int.reduceAdd, Int.reduceSub, Int.reduceMul, Int.reduceLT, Int.reduceLE, Int.reduceNeg, ↓reduceIte, reduceCtorEq]; (first | exact trivial | (repeat' (first | exact trivial | refine ⟨?_, ?_⟩ | exact Sub.int _ _ | exact Sub.bool _ | exact Sub.val _ | exact Sub.nil _ _ _ | exact Sub.ro (by simp) (fun _ _ _ _ => rfl) | exact Sub.own rfl rfl (Nat.le_refl _) (fun _ _ _ _ => Sub.int _ _) | exact Sub.fn (fun j hj => absurd hj (by omega)))))) ?_
          simp only [go_sem, Nat.reduceAdd, Nat.reduceSub, Nat.reduceMul, Nat.reduceMod, Nat.reduceDiv, Nat.reduceLT, Nat.reduceLeDiff, Nat.reduceEqDiff, Int.reduceToNat, Int.reduceAdd, Int.reduceSub, Int.reduceMul, Int.reduceLT, Int.reduceLE, Int.reduceNeg, ↓reduceIte, reduceCtorEq]
          rw [e1]; unfold encC; simp only [go_sem, Nat.reduceAdd, Nat.reduceSub, Nat.reduceMul, Nat.reduceMod, Nat.reduceDiv, Nat.reduceLT, Nat.reduceLeDiff, Nat.reduceEqDiff, Int.reduceToNat, Int.reduceAdd, Int.reduceSub, Int.reduceMul, Int.reduceLT, Int.reduceLE, Int.reduceNeg, ↓reduceIte, reduceCtorEq]
          refine O.run 5 (by simp only [go_sem, Nat.reduceAdd, Nat.reduceSub, Nat.reduceMul, Nat.reduceMod, Nat.reduceDiv, Nat.reduceLT, Nat.reduceLeDiff, Nat.reduceEqDiff, Int.reduceToNat, Int.reduceAdd, Int.reduceSub, Int.reduceMul, Int.reduceLT, Int.reduceLE, Int.reduceNeg, ↓reduceIte, reduceCtorEq]; with_reducible rfl) (by (first | exact trivial | omega | (simp; done) | (simp; omega) | (refine ⟨?_, ?_⟩ <;> omega))) ?_
          refine O.nil ?_
          refine G.keep [0, 6, 2, 0, 0] (by simp only [keepG]; rfl) ?_
          refine G.seq ?_
          -- region 15
          refine G.ops fits ?_
          refine O.run 2 (by simp only [go_sem, Nat.reduceAdd, Nat.reduceSub, Nat.reduceMul, Nat.reduceMod, Nat.reduceDiv, Nat.reduceLT, Nat.reduceLeDiff, Nat.reduceEqDiff, Int.reduceToNat, Int.reduceAdd, Int.reduceSub, Int.reduceMul, Int.reduceLT, Int.reduceLE, Int.reduceNeg, ↓reduceIte, reduceCtorEq]; with_reducible rfl) (by (first | exact trivial | omega | (simp; done) | (simp; omega) | (refine ⟨?_, ?_⟩ <;> omega))) ?_
          refine O.call (by simp only [go_sem, Nat.reduceAdd, Nat.reduceSub, Nat.reduceMul, Nat.reduceMod, Nat.reduceDiv, Nat.reduceLT, Nat.reduceLeDiff, Nat.reduceEqDiff, Int.reduceToNat, Int.reduceAdd, Int.reduceSub, Int.reduceMul, Int.reduceLT, Int.reduceLE, Int.reduceNeg, ↓reduceIte, reduceCtorEq]; with_reducible rfl) (simulate_Serve_con m (1 + s.tmod 20) (by omega)) (by simp [go_sem, Nat.reduceAdd, Nat.reduceSub, Nat.reduceMul, Nat.reduceMod, Nat.reduceDiv, Nat.reduceLT, Nat.reduceLeDiff, Nat.reduceEqDiff, Int.reduceToNat, Int.reduceAdd, Int.reduceSub, Int.reduceMul, Int.reduceLT, Int.reduceLE, Int.reduceNeg, ↓reduceIte, reduceCtorEq]) (by simp only [SubL, go_sem, Nat.reduceAdd, Nat.reduceSub, Nat.reduceMul, Nat.reduceMod, Nat.reduceDiv, Nat.reduceLT, Nat.reduceLeDiff, Nat.reduceEqDiff, Int.reduceToNat, Int.reduceAdd, Int.reduceSub, Int.reduceMul, Int.reduceLT, Int.reduceLE, Int.reduceNeg, ↓reduceIte, reduceCtorEq]; (first | exact trivial | (repeat' (first | exact trivial | refine ⟨?_, ?_⟩ | exact Sub.int _ _ | exact Sub.bool _ | exact Sub.val _ | exact Sub.nil _ _ _ | exact Sub.ro (by simp) (fun _ _ _ _ => rfl) | exact Sub.own rfl rfl (Nat.le_refl _) (fun _ _ _ _ => Sub.int _ _) | exact Sub.fn (fun j hj => absurd hj (by omega)))))) ?_
          simp only [go_sem, Nat.reduceAdd, Nat.reduceSub, Nat.reduceMul, Nat.reduceMod, Nat.reduceDiv, Nat.reduceLT, Nat.reduceLeDiff, Nat.reduceEqDiff, Int.reduceToNat, Int.reduceAdd, Int.reduceSub, Int.reduceMul, Int.reduceLT, Int.reduceLE, Int.reduceNeg, ↓reduceIte, reduceCtorEq]
          rw [e2]; unfold encC; simp only [go_sem, Nat.reduceAdd, Nat.reduceSub, Nat.reduceMul, Nat.reduceMod, Nat.reduceDiv, Nat.reduceLT, Nat.reduceLeDiff, Nat.reduceEqDiff, Int.reduceToNat, Int.reduceAdd, Int.reduceSub, Int.reduceMul, Int.reduceLT, Int.reduceLE, Int.reduceNeg, ↓reduceIte, reduceCtorEq]
          refine O.run 5 (by simp only [go_sem, Nat.reduceAdd, Nat.reduceSub, Nat.reduceMul, Nat.reduceMod, Nat.reduceDiv, Nat.reduceLT, Nat.reduceLeDiff, Nat.reduceEqDiff, Int.reduceToNat, Int.reduceAdd, Int.reduceSub, Int.reduceMul, Int.reduceLT, Int.reduceLE, Int.reduceNeg, ↓reduceIte, reduceCtorEq]; with_reducible rfl) (by (first | exact trivial | omega | (simp; done) | (simp; omega) | (refine ⟨?_, ?_⟩ <;> omega))) ?_
          refine O.nil ?_
          refine G.keep [0, 10, 0, 0, 0] (by simp only [keepG]; rfl) ?_
          refine G.seq ?_
          refine G.seq ?_
          -- region 16
          refine G.ops fits ?_
          refine O.run 8 (by simp only [go_sem, Nat.reduceAdd, Nat.reduceSub, Nat.reduceMul, Nat.reduceMod, Nat.reduceDiv, Nat.reduceLT, Nat.reduceLeDiff, Nat.reduceEqDiff, Int.reduceToNat, Int.reduceAdd, Int.reduceSub, Int.reduceMul, Int.reduceLT, Int.reduceLE, Int.reduceNeg, ↓reduceIte, reduceCtorEq]; with_reducible rfl) (by (first | exact trivial | omega | (simp; done) | (simp; omega) | (refine ⟨?_, ?_⟩ <;> omega))) ?_
          refine O.run 8 (by simp only [go_sem, Nat.reduceAdd, Nat.reduceSub, Nat.reduceMul, Nat.reduceMod, Nat.reduceDiv, Nat.reduceLT, Nat.reduceLeDiff, Nat.reduceEqDiff, Int.reduceToNat, Int.reduceAdd, Int.reduceSub, Int.reduceMul, Int.reduceLT, Int.reduceLE, Int.reduceNeg, ↓reduceIte, reduceCtorEq]; with_reducible rfl) (by (first | exact trivial | omega | (simp; done) | (simp; omega) | (refine ⟨?_, ?_⟩ <;> omega))) ?_
          refine O.run 4 (by simp only [go_sem, Nat.reduceAdd, Nat.reduceSub, Nat.reduceMul, Nat.reduceMod, Nat.reduceDiv, Nat.reduceLT, Nat.reduceLeDiff, Nat.reduceEqDiff, Int.reduceToNat, Int.reduceAdd, Int.reduceSub, Int.reduceMul, Int.reduceLT, Int.reduceLE, Int.reduceNeg, ↓reduceIte, reduceCtorEq]; with_reducible rfl) (by (first | exact trivial | omega | (simp; done) | (simp; omega) | (refine ⟨?_, ?_⟩ <;> omega))) ?_
          refine O.nil ?_
          refine G.keep [11, 1, 76] (by simp only [keepG]; rfl) ?_
          refine G.cond (by simp only [go_sem, Nat.reduceAdd, Nat.reduceSub, Nat.reduceMul, Nat.reduceMod, Nat.reduceDiv, Nat.reduceLT, Nat.reduceLeDiff, Nat.reduceEqDiff, Int.reduceToNat, Int.reduceAdd, Int.reduceSub, Int.reduceMul, Int.reduceLT, Int.reduceLE, Int.reduceNeg, ↓reduceIte, reduceCtorEq]; with_reducible rfl) (fun hc90 => ?_) (fun hc90 => ?_)
          ·
            simp [hx, hy] at hc90; omega
          ·
            refine G.skip ?_
            refine G.seq ?_
            refine G.seq ?_
            -- region 18
            refine G.run fits (by simp only [go_sem, Nat.reduceAdd, Nat.reduceSub, Nat.reduceMul, Nat.reduceMod, Nat.reduceDiv, Nat.reduceLT, Nat.reduceLeDiff, Nat.reduceEqDiff, Int.reduceToNat, Int.reduceAdd, Int.reduceSub, Int.reduceMul, Int.reduceLT, Int.reduceLE, Int.reduceNeg, ↓reduceIte, reduceCtorEq]; with_reducible rfl) (by (first | exact trivial | omega | (simp; done) | (simp; omega) | (refine ⟨?_, ?_⟩ <;> omega))) ?_
            refine G.keep [11, 1, 78, 0] (by simp only [keepG]; rfl) ?_
            refine G.block ?_
            refine G.loop (ι := Nat) (fun i => ⟨[.any, .any, .any, .any, .any, .any, .any, .any, .any, .any, .any, encC true x, .any, encC true y, .any, .any, .any, .any, .any, .any, .any, .any, .any, .any, .any, .any, .any, .any, .any, .any, .any, .any, .any, .any, .any, .any, .any, .any, .any, .any, .any, .any, .any, .any, .any, .any, .any, .any, .any, .any, .any, .any, .any, .any, .any, .any, .any, .any, .any, .any, .any, .any, .any, .any, .any, .any, .any, .any, .any, .any, .any, .any, .any, .any, .any, .any, .any, .any, .any, .any, .any, .any, .any, .any, .any, .any, .any, .any, .any, .any, .any, .any, .int .i64 x.length, .int .i64 i, .any, .any, .any, .any, .any, .any, .any, .any, .any, .any, .any, .any, .any, .any, .any, .any, .any, .any, .any, .any, .any, .any, .any, .any, .any, .any, .any], []⟩) (fun i => i ≤ x.length) (fun i => x.length - i) 0 (by simp) ?_ fun i hi => ?_
            ·
              unfold encC; (refine SLe.of (by simp only [SlotsLe]; (simp (disch := omega) [Int.natCast_add])) (by simp [HeapLe]) (by simp [TagsIn]) (by simp [TagsIn]))
            ·
              unfold encC
              refine G.seq ?_
              -- region 19
              refine G.run fits (by simp only [go_sem, Nat.reduceAdd, Nat.reduceSub, Nat.reduceMul, Nat.reduceMod, Nat.reduceDiv, Nat.reduceLT, Nat.reduceLeDiff, Nat.reduceEqDiff, Int.reduceToNat, Int.reduceAdd, Int.reduceSub, Int.reduceMul, Int.reduceLT, Int.reduceLE, Int.reduceNeg, ↓reduceIte, reduceCtorEq]; with_reducible rfl) (by (first | exact trivial | omega | (simp; done) | (simp; omega) | (refine ⟨?_, ?_⟩ <;> omega))) ?_
              refine G.keep [11, 1, 78, 0, 0] (by simp only [keepG]; rfl) ?_
              refine G.seq ?_
              refine G.cond (by simp only [go_sem, Nat.reduceAdd, Nat.reduceSub, Nat.reduceMul, Nat.reduceMod, Nat.reduceDiv, Nat.reduceLT, Nat.reduceLeDiff, Nat.reduceEqDiff, Int.reduceToNat, Int.reduceAdd, Int.reduceSub, Int.reduceMul, Int.reduceLT, Int.reduceLE, Int.reduceNeg, ↓reduceIte, reduceCtorEq]; with_reducible rfl) (fun hc94 => ?_) (fun hc94 => ?_)
              ·
                have hlt : i < x.length := by simpa using hc94
                have hxy := hxy i (by omega)
                refine G.skip ?_
                refine G.seq ?_
                refine G.block ?_
                refine G.seq ?_
                -- region 20
                refine G.run fits (by simp only [go_sem, Nat.reduceAdd, Nat.reduceSub, Nat.reduceMul, Nat.reduceMod, Nat.reduceDiv, Nat.reduceLT, Nat.reduceLeDiff, Nat.reduceEqDiff, Int.reduceToNat, Int.reduceAdd, Int.reduceSub, Int.reduceMul, Int.reduceLT, Int.reduceLE, Int.reduceNeg, ↓reduceIte, reduceCtorEq]; with_reducible rfl) (by (first | exact trivial | omega | (simp; done) | (simp; omega) | (refine ⟨?_, ?_⟩ <;> omega))) ?_
                refine G.keep [11, 1, 1, 76, 0] (by simp only [keepG]; rfl) ?_
                refine G.seq ?_
                -- region 21
                refine G.draw fits mixed 24 (drawN_ok (by decide +kernel)) (by simp only [List.take_succ_cons, List.take_zero]; with_reducible rfl) (by simp only [List.drop_succ_cons, List.drop_zero]; with_reducible rfl) ?_
                refine D.run 8 (by simp only [go_sem, Nat.reduceAdd, Nat.reduceSub, Nat.reduceMul, Nat.reduceMod, Nat.reduceDiv, Nat.reduceLT, Nat.reduceLeDiff, Nat.reduceEqDiff, Int.reduceToNat, Int.reduceAdd, Int.reduceSub, Int.reduceMul, Int.reduceLT, Int.reduceLE, Int.reduceNeg, ↓reduceIte, reduceCtorEq]; with_reducible rfl) (by first | exact trivial | (simp; omega) | (first | exact trivial | omega | (simp; done) | (simp; omega) | (refine ⟨?_, ?_⟩ <;> omega))) ?_
                refine D.run 8 (by simp only [go_sem, Nat.reduceAdd, Nat.reduceSub, Nat.reduceMul, Nat.reduceMod, Nat.reduceDiv, Nat.reduceLT, Nat.reduceLeDiff, Nat.reduceEqDiff, Int.reduceToNat, Int.reduceAdd, Int.reduceSub, Int.reduceMul, Int.reduceLT, Int.reduceLE, Int.reduceNeg, ↓reduceIte, reduceCtorEq]; with_reducible rfl) (by first | exact trivial | (simp; omega) | (first | exact trivial | omega | (simp; done) | (simp; omega) | (refine ⟨?_, ?_⟩ <;> omega))) ?_
                refine D.run 8 (by simp only [go_sem, Nat.reduceAdd, Nat.reduceSub, Nat.reduceMul, Nat.reduceMod, Nat.reduceDiv, Nat.reduceLT, Nat.reduceLeDiff, Nat.reduceEqDiff, Int.reduceToNat, Int.reduceAdd, Int.reduceSub, Int.reduceMul, Int.reduceLT, Int.reduceLE, Int.reduceNeg, ↓reduceIte, reduceCtorEq]; with_reducible rfl) (by first | exact trivial | (simp; omega) | (first | exact trivial | omega | (simp; done) | (simp; omega) | (refine ⟨?_, ?_⟩ <;> omega))) ?_
                refine D.nil ?_
                refine O.nil ?_
                refine G.keep [11, 1, 78, 0, 25] (by simp only [keepG]; rfl) ?_
                refine G.cond (by simp only [go_sem, Nat.reduceAdd, Nat.reduceSub, Nat.reduceMul, Nat.reduceMod, Nat.reduceDiv, Nat.reduceLT, Nat.reduceLeDiff, Nat.reduceEqDiff, Int.reduceToNat, Int.reduceAdd, Int.reduceSub, Int.reduceMul, Int.reduceLT, Int.reduceLE, Int.reduceNeg, ↓reduceIte, reduceCtorEq]; with_reducible rfl) (fun hc119 => ?_) (fun hc119 => ?_)
                ·
                  exfalso
                  simp [Cust.cell, -List.getD_eq_getElem?_getD] at hc119
                  omega
                ·
                  refine G.skip ?_
                  refine G.endBlock ?_
                  -- region 23
                  refine G.run fits (by simp only [go_sem, Nat.reduceAdd, Nat.reduceSub, Nat.reduceMul, Nat.reduceMod, Nat.reduceDiv, Nat.reduceLT, Nat.reduceLeDiff, Nat.reduceEqDiff, Int.reduceToNat, Int.reduceAdd, Int.reduceSub, Int.reduceMul, Int.reduceLT, Int.reduceLE, Int.reduceNeg, ↓reduceIte, reduceCtorEq]; with_reducible rfl) (by (first | exact trivial | omega | (simp; done) | (simp; omega) | (refine ⟨?_, ?_⟩ <;> omega))) ?_
                  refine G.endLoop ⟨i + 1, by omega, by omega, ?_⟩
                  (refine SLe.of (by simp only [SlotsLe]; (simp (disch := omega) [Int.natCast_add])) (by simp [HeapLe]) (by simp [TagsIn]) (by simp [TagsIn]))
              ·
                refine G.exit rfl ?_
                refine G.seq ?_
                -- region 24
                refine G.run fits (by simp only [go_sem, Nat.reduceAdd, Nat.reduceSub, Nat.reduceMul, Nat.reduceMod, Nat.reduceDiv, Nat.reduceLT, Nat.reduceLeDiff, Nat.reduceEqDiff, Int.reduceToNat, Int.reduceAdd, Int.reduceSub, Int.reduceMul, Int.reduceLT, Int.reduceLE, Int.reduceNeg, ↓reduceIte, reduceCtorEq]; with_reducible rfl) (by (first | exact trivial | omega | (simp; done) | (simp; omega) | (refine ⟨?_, ?_⟩ <;> omega))) ?_
                refine G.keep [6] (by simp only [keepG]; rfl) ?_
                refine G.ret ?_
                -- return 1
                refine Ret.of_sub fits [.tmp 6] rfl [.bool true] ?_ (by simp [AllFresh]) ⟨rfl, rfl⟩
                simp only [resSub, go_sem, Nat.reduceAdd, Nat.reduceSub, Nat.reduceMul, Nat.reduceMod, Nat.reduceDiv, Nat.reduceLT, Nat.reduceLeDiff, Nat.reduceEqDiff, Int.reduceToNat, Int.reduceAdd, Int.reduceSub, Int.reduceMul, Int.reduceLT, Int.reduceLE, Int.reduceNeg, ↓reduceIte, reduceCtorEq]
                (first | exact trivial | (repeat' (first | exact trivial | refine ⟨?_, ?_⟩ | exact Sub.int _ _ | exact Sub.bool _ | exact Sub.val _ | exact Sub.nil _ _ _ | exact Sub.ro (by simp) (fun _ _ _ _ => rfl))))


end Go.Proofs.Ytocpeankecaabaa
