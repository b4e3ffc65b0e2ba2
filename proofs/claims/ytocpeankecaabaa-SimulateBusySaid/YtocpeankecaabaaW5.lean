/-
  Nobody waits for nothing: the plain law, and the contract of the statement.
-/
import Derived.Test.YtocpeankecaabaaW4
set_option linter.all false
namespace Go.Proofs.Ytocpeankecaabaa
open Go.Abs Go.RowKit

theorem St_take (endF : Int → Int → Int × Int) (l : List Cust) (n : Nat) (i : Nat) : ∀ m, i ≤ m → (St endF l n m).2.take i = (St endF l n i).2 := by
  intro m
  induction m with
  | zero => intro h; obtain rfl : i = 0 := by omega
            rfl
  | succ m ih =>
    intro h
    rcases Nat.lt_or_eq_of_le h with h' | h'
    · rw [St_succ]
      have hl := St_len2 endF l n m
      rw [List.take_append_of_le_length (by omega)]
      exact ih (by omega)
    · subst h'
      rw [List.take_of_length_le (by rw [St_len2]; omega)]

section
variable (l : List Cust) (n : Nat) (hn : 0 < n) (hp : properB l = true)
include hn hp

theorem St_min (i : Nat) (hi : i < l.length) : minL (St plainF l n i).1 ≤ minL (St plainF l n (i + 1)).1 := by
  have hl1 := St_len1 plainF l n i
  have hl2 := St_len1 plainF l n (i + 1)
  obtain ⟨a1, a2, a3⟩ := kOf_spec (St plainF l n i).1 (by omega)
  have hm := minL_mem (St plainF l n (i + 1)).1 (by omega)
  have hb := (properB_at hp).2 i hi
  rw [St_succ] at hm ⊢
  simp only [resAt, stAt, plainF] at hm ⊢
  rcases List.mem_or_eq_of_mem_set hm with h | h
  · exact minL_le _ _ h
  · rw [h, a3]; omega

theorem inv_a : ∀ i, i ≤ l.length → ∀ t, minL (St plainF l n i).1 ≤ t → (St plainF l n i).2.countP (fun d => decide (t < d.end_)) = (St plainF l n i).1.countP (fun x => decide (t < x)) := by
  intro i
  induction i with
  | zero =>
    intro _ t ht
    have h0 : minL (St plainF l n 0).1 = 0 := by
      have := minL_mem (St plainF l n 0).1 (by rw [St_len1]; omega)
      simp [St] at this ⊢
      exact this.2
    rw [h0] at ht
    simp [St, List.countP_replicate]
    omega
  | succ i ih =>
    intro hi t ht
    have hmm := St_min l n hn hp i (by omega)
    have ih := ih (by omega) t (by omega)
    have hl1 := St_len1 plainF l n i
    obtain ⟨a1, a2, a3⟩ := kOf_spec (St plainF l n i).1 (by omega)
    have hb := (properB_at hp).2 i (by omega)
    have htm : minL (St plainF l n i).1 ≤ t := by omega
    rw [St_succ]
    simp only
    rw [List.countP_append, List.countP_set (by omega), getD_getElem _ _ a2, a3, ih]
    have : ¬ t < minL (St plainF l n i).1 := by omega
    simp only [List.countP_cons, List.countP_nil, decide_eq_true_eq, this, if_false]
    omega

theorem inv_b : ∀ i, i ≤ l.length → ∀ t, 0 < t → (St plainF l n i).1.countP (fun x => decide (t ≤ x)) ≤ (St plainF l n i).2.countP (fun d => decide (t ≤ d.end_)) := by
  intro i
  induction i with
  | zero =>
    intro _ t ht
    simp [St, List.countP_replicate]
    omega
  | succ i ih =>
    intro hi t ht
    have ih := ih (by omega) t ht
    have hl1 := St_len1 plainF l n i
    obtain ⟨a1, a2, a3⟩ := kOf_spec (St plainF l n i).1 (by omega)
    rw [St_succ]
    simp only
    rw [List.countP_append, List.countP_set (by omega)]
    simp only [List.countP_cons, List.countP_nil]
    omega

theorem inv_c : ∀ i, i ≤ l.length → ∀ x ∈ (St plainF l n i).1, x = 0 ∨ ∃ d ∈ (St plainF l n i).2, d.end_ = x := by
  intro i
  induction i with
  | zero => intro _ x hx; simp [St] at hx; exact .inl hx.2
  | succ i ih =>
    intro hi x hx
    rw [St_succ] at hx ⊢
    rcases List.mem_or_eq_of_mem_set hx with h | h
    · rcases ih (by omega) x h with h' | ⟨d, hd, he⟩
      · exact .inl h'
      · exact .inr ⟨d, List.mem_append_left _ hd, he⟩
    · exact .inr ⟨_, List.mem_append_right _ (List.mem_singleton.2 rfl), h.symm⟩
end

/-- What the statement asks of the i-th customer. -/
structure BusyAt (l x : List Cust) (k : Int) (i : Nat) : Prop where
  arrive : (x.getD i .z).cell 0 = (l.getD i .z).cell 0
  service : (x.getD i .z).cell 1 = (l.getD i .z).cell 1
  late : (x.getD i .z).cell 0 ≤ (x.getD i .z).cell 2
  small : (x.getD i .z).cell 2 ≤ 4503599627370496
  end_ : (x.getD i .z).cell 3 = (x.getD i .z).cell 2 + (x.getD i .z).cell 1
  low : 0 ≤ (x.getD i .z).cell 0
  serv : 0 ≤ (x.getD i .z).cell 1 ∧ (x.getD i .z).cell 1 ≤ 1099511627776
  order : 0 < i → (x.getD (i - 1) .z).cell 2 ≤ (x.getD i .z).cell 2
  busy : ((x.take i).countP (fun d => decide ((x.getD i .z).cell 2 < d.cell 3)) : Int) < k
  waits : (x.getD i .z).cell 0 < (x.getD i .z).cell 2 → (x.take i).any (fun d => decide (d.cell 3 = (x.getD i .z).cell 2)) = true ∧ k ≤ ((x.take i).countP (fun d => decide ((x.getD i .z).cell 2 ≤ d.cell 3)) : Int)

theorem busy_law (l : List Cust) (k : Int) (hk : 1 ≤ k) (hp : properB l = true) (i : Nat) (hi : i < l.length) : BusyAt l (St plainF l k.toNat l.length).2 k i := by
  have hn : 0 < k.toNat := by omega
  have hat := St_at plainF l k.toNat i l.length hi
  have htk := St_take plainF l k.toNat i l.length (by omega)
  have hb := (properB_at hp).2 i hi
  have hl := (properB_at hp).1
  have hsb := stAt_bound l k.toNat hn hp i hi
  have hl1 := St_len1 plainF l k.toNat i
  obtain ⟨a1, a2, a3⟩ := kOf_spec (St plainF l k.toNat i).1 (by omega)
  have hst : stAt plainF l k.toNat i = max (l.getD i .z).arrive (minL (St plainF l k.toNat i).1) := by unfold stAt; rw [a3]
  refine ⟨by rw [hat]; rfl, by rw [hat]; rfl, ?_, ?_, by rw [hat]; rfl, by rw [hat]; exact hb.1, by rw [hat]; exact ⟨hb.2.2.1, hb.2.2.2.1⟩, fun h0 => ?_, ?_, fun hw => ?_⟩
  · rw [hat]; show (l.getD i .z).arrive ≤ stAt plainF l k.toNat i; omega
  · rw [hat]; show stAt plainF l k.toNat i ≤ _; omega
  · rw [hat, St_at plainF l k.toNat (i - 1) l.length (by omega)]
    show stAt plainF l k.toNat (i - 1) ≤ stAt plainF l k.toNat i
    have hmm := St_min l k.toNat hn hp (i - 1) (by omega)
    rw [show i - 1 + 1 = i by omega] at hmm
    have hl1' := St_len1 plainF l k.toNat (i - 1)
    obtain ⟨_, _, b3⟩ := kOf_spec (St plainF l k.toNat (i - 1)).1 (by omega)
    have hst' : stAt plainF l k.toNat (i - 1) = max (l.getD (i - 1) .z).arrive (minL (St plainF l k.toNat (i - 1)).1) := by unfold stAt; rw [b3]
    have := hb.2.2.2.2 h0
    omega
  · rw [htk, hat]
    show (((St plainF l k.toNat i).2.countP (fun d => decide (stAt plainF l k.toNat i < d.end_)) : Nat) : Int) < k
    rw [inv_a l k.toNat hn hp i (by omega) _ (by omega)]
    have h1 : (St plainF l k.toNat i).1.countP (fun x => decide (stAt plainF l k.toNat i < x)) < (St plainF l k.toNat i).1.length := by
      have hle := List.countP_le_length (p := fun x => decide (stAt plainF l k.toNat i < x)) (l := (St plainF l k.toNat i).1)
      rcases Nat.lt_or_eq_of_le hle with h | h
      · exact h
      · have := List.countP_eq_length.1 h _ (minL_mem (St plainF l k.toNat i).1 (by omega))
        simp at this
        omega
    omega
  · rw [hat] at hw
    have hw' : (l.getD i .z).arrive < stAt plainF l k.toNat i := hw
    have hs : stAt plainF l k.toNat i = minL (St plainF l k.toNat i).1 := by omega
    rw [htk, hat]
    refine ⟨?_, ?_⟩
    · rcases inv_c l k.toNat hn hp i (by omega) _ (minL_mem (St plainF l k.toNat i).1 (by omega)) with h | ⟨d, hd, he⟩
      · omega
      · refine List.any_eq_true.2 ⟨d, hd, ?_⟩
        show decide (d.end_ = stAt plainF l k.toNat i) = true
        simp [he, hs]
    · show k ≤ (((St plainF l k.toNat i).2.countP (fun d => decide (stAt plainF l k.toNat i ≤ d.end_)) : Nat) : Int)
      have h1 := inv_b l k.toNat hn hp i (by omega) (stAt plainF l k.toNat i) (by omega)
      have h2 : (St plainF l k.toNat i).1.countP (fun x => decide (stAt plainF l k.toNat i ≤ x)) = (St plainF l k.toNat i).1.length := by
        rw [List.countP_eq_length]
        intro x hx
        have := minL_le _ x hx
        simp; omega
      omega

theorem countP_take (p : Cust → Bool) (x : List Cust) (j : Nat) (hj : j < x.length) : (x.take (j + 1)).countP p = (x.take j).countP p + (if p (x.getD j .z) then 1 else 0) := by
  rw [List.take_succ_eq_append_getElem hj, List.countP_append]
  simp [List.getD_eq_getElem?_getD, List.getElem?_eq_getElem hj, List.countP_cons]
theorem any_take (p : Cust → Bool) (x : List Cust) (j : Nat) (hj : j < x.length) : (x.take (j + 1)).any p = ((x.take j).any p || p (x.getD j .z)) := by
  rw [List.take_succ_eq_append_getElem hj, List.any_append]
  simp [List.getD_eq_getElem?_getD, List.getElem?_eq_getElem hj]

/-- The first i of a list of customers, as a slice. -/
def encP (x : List Cust) (i : Nat) : AV := .ro true 4 i (fun j f => .int .i64 ((x.getD j .z).cell f))

set_option maxRecDepth 10000

set_option maxHeartbeats 1600000 in
theorem busy_con (l : List Cust) (s : Int) (hl : l.length ≤ 9223372036854775807) (hs : 0 ≤ s ∧ s ≤ 255) : Con Try.prog 3 [encC false l, .int .u8 s] (isV (resA [.bool true])) := by
  refine Con.of_goes Try.func3 (by rfl) rfl (by simp [NoFresh, noFresh_encC]) (by simp only [Try.ntmps3, List.length_cons, List.length_nil, Nat.reduceAdd, Nat.reduceSub, List.replicate, List.cons_append, List.nil_append]; rfl) fun w0 => ?_
  unfold encC
  have hkb : 1 ≤ 1 + s.tmod 20 ∧ 1 + s.tmod 20 ≤ 20 := by
    have := Int.tmod_eq_emod_of_nonneg (a := s) (b := 20) hs.1
    omega
  refine G.seq ?_
  -- region 0
  refine G.run fits (by simp only [go_sem, Nat.reduceAdd, Nat.reduceSub, Nat.reduceMul, Nat.reduceMod, Nat.reduceDiv, Nat.reduceLT, Nat.reduceLeDiff, Nat.reduceEqDiff, Int.reduceToNat, Int.reduceAdd, Int.reduceSub, Int.reduceMul, Int.reduceLT, Int.reduceLE, Int.reduceNeg, ↓reduceIte, reduceCtorEq]; with_reducible rfl) (by (first | exact trivial | omega | (simp; done) | (simp; omega) | (refine ⟨?_, ?_⟩ <;> omega))) ?_
  refine G.keep [0, 0] (by simp only [keepG]; rfl) ?_
  refine G.seq ?_
  refine G.seq ?_
  -- region 1
  refine G.ops fits ?_
  refine O.call (by simp only [go_sem, Nat.reduceAdd, Nat.reduceSub, Nat.reduceMul, Nat.reduceMod, Nat.reduceDiv, Nat.reduceLT, Nat.reduceLeDiff, Nat.reduceEqDiff, Int.reduceToNat, Int.reduceAdd, Int.reduceSub, Int.reduceMul, Int.reduceLT, Int.reduceLE, Int.reduceNeg, ↓reduceIte, reduceCtorEq]; with_reducible rfl) (awake_con) (by simp [go_sem, Nat.reduceAdd, Nat.reduceSub, Nat.reduceMul, Nat.reduceMod, Nat.reduceDiv, Nat.reduceLT, Nat.reduceLeDiff, Nat.reduceEqDiff, Int.reduceToNat, Int.reduceAdd, Int.reduceSub, Int.reduceMul, Int.reduceLT, Int.reduceLE, Int.reduceNeg, ↓reduceIte, reduceCtorEq]) (by simp only [SubL, go_sem, Nat.reduceAdd, Nat.reduceSub, Nat.reduceMul, Nat.reduceMod, Nat.reduceDiv, Nat.reduceLT, Nat.reduceLeDiff, Nat.reduceEqDiff, Int.reduceToNat, Int.reduceAdd, Int.reduceSub, Int.reduceMul, Int.reduceLT, Int.reduceLE, Int.reduceNeg, ↓reduceIte, reduceCtorEq]; (first | exact trivial | (repeat' (first | exact trivial | refine ⟨?_, ?_⟩ | exact Sub.int _ _ | exact Sub.bool _ | exact Sub.val _ | exact Sub.nil _ _ _ | exact Sub.ro (by simp) (fun _ _ _ _ => rfl) | exact Sub.own rfl rfl (Nat.le_refl _) (fun _ _ _ _ => Sub.int _ _) | exact Sub.fn (fun j hj => absurd hj (by omega)))))) ?_
  simp only [go_sem, Nat.reduceAdd, Nat.reduceSub, Nat.reduceMul, Nat.reduceMod, Nat.reduceDiv, Nat.reduceLT, Nat.reduceLeDiff, Nat.reduceEqDiff, Int.reduceToNat, Int.reduceAdd, Int.reduceSub, Int.reduceMul, Int.reduceLT, Int.reduceLE, Int.reduceNeg, ↓reduceIte, reduceCtorEq]
  refine O.run 1 (by simp only [go_sem, Nat.reduceAdd, Nat.reduceSub, Nat.reduceMul, Nat.reduceMod, Nat.reduceDiv, Nat.reduceLT, Nat.reduceLeDiff, Nat.reduceEqDiff, Int.reduceToNat, Int.reduceAdd, Int.reduceSub, Int.reduceMul, Int.reduceLT, Int.reduceLE, Int.reduceNeg, ↓reduceIte, reduceCtorEq]; with_reducible rfl) (by (first | exact trivial | omega | (simp; done) | (simp; omega) | (refine ⟨?_, ?_⟩ <;> omega))) ?_
  refine O.nil ?_
  refine G.keep [0, 0, 14] (by simp only [keepG]; rfl) ?_
  refine G.cond (by simp only [go_sem, Nat.reduceAdd, Nat.reduceSub, Nat.reduceMul, Nat.reduceMod, Nat.reduceDiv, Nat.reduceLT, Nat.reduceLeDiff, Nat.reduceEqDiff, Int.reduceToNat, Int.reduceAdd, Int.reduceSub, Int.reduceMul, Int.reduceLT, Int.reduceLE, Int.reduceNeg, ↓reduceIte, reduceCtorEq]; with_reducible rfl) (fun hc16 => ?_) (fun hc16 => ?_)
  ·
    simp at hc16
  ·
    refine G.skip ?_
    refine G.seq ?_
    -- region 3
    refine G.run fits (by simp only [go_sem, Nat.reduceAdd, Nat.reduceSub, Nat.reduceMul, Nat.reduceMod, Nat.reduceDiv, Nat.reduceLT, Nat.reduceLeDiff, Nat.reduceEqDiff, Int.reduceToNat, Int.reduceAdd, Int.reduceSub, Int.reduceMul, Int.reduceLT, Int.reduceLE, Int.reduceNeg, ↓reduceIte, reduceCtorEq]; with_reducible rfl) (by (first | exact trivial | omega | (simp; done) | (simp; omega) | (refine ⟨?_, ?_⟩ <;> omega))) ?_
    refine G.keep [0, 4] (by simp only [keepG]; rfl) ?_
    refine G.seq ?_
    refine G.seq ?_
    -- region 4
    refine G.ops fits ?_
    refine O.run 1 (by simp only [go_sem, Nat.reduceAdd, Nat.reduceSub, Nat.reduceMul, Nat.reduceMod, Nat.reduceDiv, Nat.reduceLT, Nat.reduceLeDiff, Nat.reduceEqDiff, Int.reduceToNat, Int.reduceAdd, Int.reduceSub, Int.reduceMul, Int.reduceLT, Int.reduceLE, Int.reduceNeg, ↓reduceIte, reduceCtorEq]; with_reducible rfl) (by (first | exact trivial | omega | (simp; done) | (simp; omega) | (refine ⟨?_, ?_⟩ <;> omega))) ?_
    refine O.call (by simp only [go_sem, Nat.reduceAdd, Nat.reduceSub, Nat.reduceMul, Nat.reduceMod, Nat.reduceDiv, Nat.reduceLT, Nat.reduceLeDiff, Nat.reduceEqDiff, Int.reduceToNat, Int.reduceAdd, Int.reduceSub, Int.reduceMul, Int.reduceLT, Int.reduceLE, Int.reduceNeg, ↓reduceIte, reduceCtorEq]; with_reducible rfl) (many_con l hl) (by simp [go_sem, Nat.reduceAdd, Nat.reduceSub, Nat.reduceMul, Nat.reduceMod, Nat.reduceDiv, Nat.reduceLT, Nat.reduceLeDiff, Nat.reduceEqDiff, Int.reduceToNat, Int.reduceAdd, Int.reduceSub, Int.reduceMul, Int.reduceLT, Int.reduceLE, Int.reduceNeg, ↓reduceIte, reduceCtorEq]) (by simp only [SubL, go_sem, Nat.reduceAdd, Nat.reduceSub, Nat.reduceMul, Nat.reduceMod, Nat.reduceDiv, Nat.reduceLT, Nat.reduceLeDiff, Nat.reduceEqDiff, Int.reduceToNat, Int.reduceAdd, Int.reduceSub, Int.reduceMul, Int.reduceLT, Int.reduceLE, Int.reduceNeg, ↓reduceIte, reduceCtorEq]; (first | exact trivial | (repeat' (first | exact trivial | refine ⟨?_, ?_⟩ | exact Sub.int _ _ | exact Sub.bool _ | exact Sub.val _ | exact Sub.nil _ _ _ | exact Sub.ro (by simp) (fun _ _ _ _ => rfl) | exact Sub.own rfl rfl (Nat.le_refl _) (fun _ _ _ _ => Sub.int _ _) | exact Sub.fn (fun j hj => absurd hj (by omega)))))) ?_
    simp only [go_sem, Nat.reduceAdd, Nat.reduceSub, Nat.reduceMul, Nat.reduceMod, Nat.reduceDiv, Nat.reduceLT, Nat.reduceLeDiff, Nat.reduceEqDiff, Int.reduceToNat, Int.reduceAdd, Int.reduceSub, Int.reduceMul, Int.reduceLT, Int.reduceLE, Int.reduceNeg, ↓reduceIte, reduceCtorEq]
    refine O.run 2 (by simp only [go_sem, Nat.reduceAdd, Nat.reduceSub, Nat.reduceMul, Nat.reduceMod, Nat.reduceDiv, Nat.reduceLT, Nat.reduceLeDiff, Nat.reduceEqDiff, Int.reduceToNat, Int.reduceAdd, Int.reduceSub, Int.reduceMul, Int.reduceLT, Int.reduceLE, Int.reduceNeg, ↓reduceIte, reduceCtorEq]; with_reducible rfl) (by (first | exact trivial | omega | (simp; done) | (simp; omega) | (refine ⟨?_, ?_⟩ <;> omega))) ?_
    refine O.callG (by simp only [go_sem, Nat.reduceAdd, Nat.reduceSub, Nat.reduceMul, Nat.reduceMod, Nat.reduceDiv, Nat.reduceLT, Nat.reduceLeDiff, Nat.reduceEqDiff, Int.reduceToNat, Int.reduceAdd, Int.reduceSub, Int.reduceMul, Int.reduceLT, Int.reduceLE, Int.reduceNeg, ↓reduceIte, reduceCtorEq]; with_reducible rfl) (by simp only [go_sem, Nat.reduceAdd, Nat.reduceSub, Nat.reduceMul, Nat.reduceMod, Nat.reduceDiv, Nat.reduceLT, Nat.reduceLeDiff, Nat.reduceEqDiff, Int.reduceToNat, Int.reduceAdd, Int.reduceSub, Int.reduceMul, Int.reduceLT, Int.reduceLE, Int.reduceNeg, ↓reduceIte, reduceCtorEq]; with_reducible rfl) (fun hg => ref_Proper_con l hl) (fun hg => by first | (simp [go_sem, Nat.reduceAdd, Nat.reduceSub, Nat.reduceMul, Nat.reduceMod, Nat.reduceDiv, Nat.reduceLT, Nat.reduceLeDiff, Nat.reduceEqDiff, Int.reduceToNat, Int.reduceAdd, Int.reduceSub, Int.reduceMul, Int.reduceLT, Int.reduceLE, Int.reduceNeg, ↓reduceIte, reduceCtorEq]; done) | (simpa [go_sem, Nat.reduceAdd, Nat.reduceSub, Nat.reduceMul, Nat.reduceMod, Nat.reduceDiv, Nat.reduceLT, Nat.reduceLeDiff, Nat.reduceEqDiff, Int.reduceToNat, Int.reduceAdd, Int.reduceSub, Int.reduceMul, Int.reduceLT, Int.reduceLE, Int.reduceNeg, ↓reduceIte, reduceCtorEq] using hg)) (fun hg => by simp only [SubL, go_sem, Nat.reduceAdd, Nat.reduceSub, Nat.reduceMul, Nat.reduceMod, Nat.reduceDiv, Nat.reduceLT, Nat.reduceLeDiff, Nat.reduceEqDiff, Int.reduceToNat, Int.reduceAdd, Int.reduceSub, Int.reduceMul, Int.reduceLT, Int.reduceLE, Int.reduceNeg, ↓reduceIte, reduceCtorEq]; (first | exact trivial | (repeat' (first | exact trivial | refine ⟨?_, ?_⟩ | exact Sub.int _ _ | exact Sub.bool _ | exact Sub.val _ | exact Sub.nil _ _ _ | exact Sub.ro (by simp) (fun _ _ _ _ => rfl) | exact Sub.own rfl rfl (Nat.le_refl _) (fun _ _ _ _ => Sub.int _ _) | exact Sub.fn (fun j hj => absurd hj (by omega)))))) ?_
    simp only [go_sem, Nat.reduceAdd, Nat.reduceSub, Nat.reduceMul, Nat.reduceMod, Nat.reduceDiv, Nat.reduceLT, Nat.reduceLeDiff, Nat.reduceEqDiff, Int.reduceToNat, Int.reduceAdd, Int.reduceSub, Int.reduceMul, Int.reduceLT, Int.reduceLE, Int.reduceNeg, ↓reduceIte, reduceCtorEq]
    refine O.run 2 (by simp only [go_sem, Nat.reduceAdd, Nat.reduceSub, Nat.reduceMul, Nat.reduceMod, Nat.reduceDiv, Nat.reduceLT, Nat.reduceLeDiff, Nat.reduceEqDiff, Int.reduceToNat, Int.reduceAdd, Int.reduceSub, Int.reduceMul, Int.reduceLT, Int.reduceLE, Int.reduceNeg, ↓reduceIte, reduceCtorEq]; with_reducible rfl) (by (first | exact trivial | omega | (simp; done) | (simp; omega) | (refine ⟨?_, ?_⟩ <;> omega))) ?_
    refine O.nil ?_
    refine G.keep [0, 4, 21] (by simp only [keepG]; rfl) ?_
    refine G.cond (by simp only [go_sem, Nat.reduceAdd, Nat.reduceSub, Nat.reduceMul, Nat.reduceMod, Nat.reduceDiv, Nat.reduceLT, Nat.reduceLeDiff, Nat.reduceEqDiff, Int.reduceToNat, Int.reduceAdd, Int.reduceSub, Int.reduceMul, Int.reduceLT, Int.reduceLE, Int.reduceNeg, ↓reduceIte, reduceCtorEq]; with_reducible rfl) (fun hc27 => ?_) (fun hc27 => ?_)
    ·
      refine G.seq ?_
      -- region 5
      refine G.run fits (by simp only [go_sem, Nat.reduceAdd, Nat.reduceSub, Nat.reduceMul, Nat.reduceMod, Nat.reduceDiv, Nat.reduceLT, Nat.reduceLeDiff, Nat.reduceEqDiff, Int.reduceToNat, Int.reduceAdd, Int.reduceSub, Int.reduceMul, Int.reduceLT, Int.reduceLE, Int.reduceNeg, ↓reduceIte, reduceCtorEq]; with_reducible rfl) (by (first | exact trivial | omega | (simp; done) | (simp; omega) | (refine ⟨?_, ?_⟩ <;> omega))) ?_
      refine G.keep [4] (by simp only [keepG]; rfl) ?_
      refine G.ret ?_
      -- return 0
      refine Ret.of_sub fits [.tmp 4] rfl [.bool true] ?_ (by simp [AllFresh]) ⟨rfl, rfl⟩
      simp only [resSub, go_sem, Nat.reduceAdd, Nat.reduceSub, Nat.reduceMul, Nat.reduceMod, Nat.reduceDiv, Nat.reduceLT, Nat.reduceLeDiff, Nat.reduceEqDiff, Int.reduceToNat, Int.reduceAdd, Int.reduceSub, Int.reduceMul, Int.reduceLT, Int.reduceLE, Int.reduceNeg, ↓reduceIte, reduceCtorEq]
      (first | exact trivial | (repeat' (first | exact trivial | refine ⟨?_, ?_⟩ | exact Sub.int _ _ | exact Sub.bool _ | exact Sub.val _ | exact Sub.nil _ _ _ | exact Sub.ro (by simp) (fun _ _ _ _ => rfl))))
    ·
      have hp : properB l = true := by simp at hc27; exact hc27.2
      have hl1 := (properB_at hp).1
      have e1 := serveO_ok hp hkb.1 hkb.2
      have hx := St_len2 plainF l (1 + s.tmod 20).toNat l.length
      have hB := busy_law l (1 + s.tmod 20) hkb.1 hp
      generalize (St plainF l (1 + s.tmod 20).toNat l.length).2 = x at *
      refine G.skip ?_
      refine G.seq ?_
      -- region 6
      refine G.ops fits ?_
      refine O.run 2 (by simp only [go_sem, Nat.reduceAdd, Nat.reduceSub, Nat.reduceMul, Nat.reduceMod, Nat.reduceDiv, Nat.reduceLT, Nat.reduceLeDiff, Nat.reduceEqDiff, Int.reduceToNat, Int.reduceAdd, Int.reduceSub, Int.reduceMul, Int.reduceLT, Int.reduceLE, Int.reduceNeg, ↓reduceIte, reduceCtorEq]; with_reducible rfl) (by (first | exact trivial | omega | (simp; done) | (simp; omega) | (refine ⟨?_, ?_⟩ <;> omega))) ?_
      refine O.call (by simp only [go_sem, Nat.reduceAdd, Nat.reduceSub, Nat.reduceMul, Nat.reduceMod, Nat.reduceDiv, Nat.reduceLT, Nat.reduceLeDiff, Nat.reduceEqDiff, Int.reduceToNat, Int.reduceAdd, Int.reduceSub, Int.reduceMul, Int.reduceLT, Int.reduceLE, Int.reduceNeg, ↓reduceIte, reduceCtorEq]; with_reducible rfl) (simulate_Serve_con l (1 + s.tmod 20) hl) (by simp [go_sem, Nat.reduceAdd, Nat.reduceSub, Nat.reduceMul, Nat.reduceMod, Nat.reduceDiv, Nat.reduceLT, Nat.reduceLeDiff, Nat.reduceEqDiff, Int.reduceToNat, Int.reduceAdd, Int.reduceSub, Int.reduceMul, Int.reduceLT, Int.reduceLE, Int.reduceNeg, ↓reduceIte, reduceCtorEq]) (by simp only [SubL, go_sem, Nat.reduceAdd, Nat.reduceSub, Nat.reduceMul, Nat.reduceMod, Nat.reduceDiv, Nat.reduceLT, Nat.reduceLeDiff, Nat.reduceEqDiff, Int.reduceToNat, Int.reduceAdd, Int.reduceSub, Int.reduceMul, Int.reduceLT, Int.reduceLE, Int.reduceNeg, ↓reduceIte, reduceCtorEq]; (first | exact trivial | (repeat' (first | exact trivial | refine ⟨?_, ?_⟩ | exact Sub.int _ _ | exact Sub.bool _ | exact Sub.val _ | exact Sub.nil _ _ _ | exact Sub.ro (by simp) (fun _ _ _ _ => rfl) | exact Sub.own rfl rfl (Nat.le_refl _) (fun _ _ _ _ => Sub.int _ _) | exact Sub.fn (fun j hj => absurd hj (by omega)))))) ?_
      simp only [go_sem, Nat.reduceAdd, Nat.reduceSub, Nat.reduceMul, Nat.reduceMod, Nat.reduceDiv, Nat.reduceLT, Nat.reduceLeDiff, Nat.reduceEqDiff, Int.reduceToNat, Int.reduceAdd, Int.reduceSub, Int.reduceMul, Int.reduceLT, Int.reduceLE, Int.reduceNeg, ↓reduceIte, reduceCtorEq]
      rw [e1]; unfold encC; simp only [go_sem, Nat.reduceAdd, Nat.reduceSub, Nat.reduceMul, Nat.reduceMod, Nat.reduceDiv, Nat.reduceLT, Nat.reduceLeDiff, Nat.reduceEqDiff, Int.reduceToNat, Int.reduceAdd, Int.reduceSub, Int.reduceMul, Int.reduceLT, Int.reduceLE, Int.reduceNeg, ↓reduceIte, reduceCtorEq]
      refine O.run 5 (by simp only [go_sem, Nat.reduceAdd, Nat.reduceSub, Nat.reduceMul, Nat.reduceMod, Nat.reduceDiv, Nat.reduceLT, Nat.reduceLeDiff, Nat.reduceEqDiff, Int.reduceToNat, Int.reduceAdd, Int.reduceSub, Int.reduceMul, Int.reduceLT, Int.reduceLE, Int.reduceNeg, ↓reduceIte, reduceCtorEq]; with_reducible rfl) (by (first | exact trivial | omega | (simp; done) | (simp; omega) | (refine ⟨?_, ?_⟩ <;> omega))) ?_
      refine O.nil ?_
      refine G.keep [0, 4, 0, 0] (by simp only [keepG]; rfl) ?_
      refine G.seq ?_
      refine G.seq ?_
      -- region 7
      refine G.run fits (by simp only [go_sem, Nat.reduceAdd, Nat.reduceSub, Nat.reduceMul, Nat.reduceMod, Nat.reduceDiv, Nat.reduceLT, Nat.reduceLeDiff, Nat.reduceEqDiff, Int.reduceToNat, Int.reduceAdd, Int.reduceSub, Int.reduceMul, Int.reduceLT, Int.reduceLE, Int.reduceNeg, ↓reduceIte, reduceCtorEq]; with_reducible rfl) (by (first | exact trivial | omega | (simp; done) | (simp; omega) | (refine ⟨?_, ?_⟩ <;> omega))) ?_
      refine G.keep [0, 4, 0, 35] (by simp only [keepG]; rfl) ?_
      refine G.cond (by simp only [go_sem, Nat.reduceAdd, Nat.reduceSub, Nat.reduceMul, Nat.reduceMod, Nat.reduceDiv, Nat.reduceLT, Nat.reduceLeDiff, Nat.reduceEqDiff, Int.reduceToNat, Int.reduceAdd, Int.reduceSub, Int.reduceMul, Int.reduceLT, Int.reduceLE, Int.reduceNeg, ↓reduceIte, reduceCtorEq]; with_reducible rfl) (fun hc42 => ?_) (fun hc42 => ?_)
      ·
        simp [hx] at hc42
      ·
        refine G.skip ?_
        refine G.seq ?_
        refine G.seq ?_
        -- region 9
        refine G.run fits (by simp only [go_sem, Nat.reduceAdd, Nat.reduceSub, Nat.reduceMul, Nat.reduceMod, Nat.reduceDiv, Nat.reduceLT, Nat.reduceLeDiff, Nat.reduceEqDiff, Int.reduceToNat, Int.reduceAdd, Int.reduceSub, Int.reduceMul, Int.reduceLT, Int.reduceLE, Int.reduceNeg, ↓reduceIte, reduceCtorEq]; with_reducible rfl) (by (first | exact trivial | omega | (simp; done) | (simp; omega) | (refine ⟨?_, ?_⟩ <;> omega))) ?_
        refine G.keep [0, 4, 0, 36, 0, 0] (by simp only [keepG]; rfl) ?_
        refine G.block ?_
        generalize 1 + s.tmod 20 = k at *
        refine G.loop (ι := Nat) (fun i => ⟨[encC false l, .any, .any, .any, .any, .int .i64 k, encC true x, .any, .any, .any, .any, .any, .any, .any, .any, .any, .any, .any, .any, .any, .any, .any, .any, .any, .any, .any, .any, .any, .any, .any, .any, .any, .any, .any, .any, .any, .any, .any, .any, .any, .any, .any, .any, encC true x, .int .i64 x.length, .int .i64 i, .any, .any, .any, .any, .any, .any, .any, .any, .any, .any, .any, .any, .any, .any, .any, .any, .any, .any, .any, .any, .any, .any, .any, .any, .any, .any, .any, .any, .any, .any, .any, .any, .any, .any, .any, .any, .any, .any, .any, .any, .any, .any, .any, .any, .any, .any, .any, .any, .any, .any, .any, .any, .any, .any, .any, .any, .any, .any, .any, .any, .any, .any, .any, .any, .any, .any, .any, .any, .any, .any, .any, .any, .any, .any, .any, .any, .any, .any, .any, .any, .any, .any, .any, .any, .any, .any, .any, .any, .any, .any, .any, .any, .any, .any, .any, .any, .any, .any, .any, .any, .any, .any, .any, .any, .any, .any, .any, .any, .any, .any], []⟩) (fun i => i ≤ x.length) (fun i => x.length - i) 0 (by simp) ?_ fun i hi => ?_
        ·
          unfold encC; (refine SLe.of (by simp only [SlotsLe]; (simp (disch := omega) [Int.natCast_add])) (by simp [HeapLe]) (by simp [TagsIn]) (by simp [TagsIn]))
        ·
          unfold encC
          refine G.seq ?_
          -- region 10
          refine G.run fits (by simp only [go_sem, Nat.reduceAdd, Nat.reduceSub, Nat.reduceMul, Nat.reduceMod, Nat.reduceDiv, Nat.reduceLT, Nat.reduceLeDiff, Nat.reduceEqDiff, Int.reduceToNat, Int.reduceAdd, Int.reduceSub, Int.reduceMul, Int.reduceLT, Int.reduceLE, Int.reduceNeg, ↓reduceIte, reduceCtorEq]; with_reducible rfl) (by (first | exact trivial | omega | (simp; done) | (simp; omega) | (refine ⟨?_, ?_⟩ <;> omega))) ?_
          refine G.keep [0, 4, 0, 36, 0, 0, 0] (by simp only [keepG]; rfl) ?_
          refine G.seq ?_
          refine G.cond (by simp only [go_sem, Nat.reduceAdd, Nat.reduceSub, Nat.reduceMul, Nat.reduceMod, Nat.reduceDiv, Nat.reduceLT, Nat.reduceLeDiff, Nat.reduceEqDiff, Int.reduceToNat, Int.reduceAdd, Int.reduceSub, Int.reduceMul, Int.reduceLT, Int.reduceLE, Int.reduceNeg, ↓reduceIte, reduceCtorEq]; with_reducible rfl) (fun hc46 => ?_) (fun hc46 => ?_)
          ·
            have hlt : i < x.length := by simpa using hc46
            have hB := hB i (by omega)
            have hb1 := hB.arrive
            have hb2 := hB.service
            have hb3 := hB.late
            have hb4 := hB.small
            have hb5 := hB.end_
            have hb6 := hB.low
            have hb7 := hB.serv
            have hb8 := hB.order
            have hd1 : decide ((x.getD i .z).cell 0 = (l.getD i .z).cell 0) = true := by simpa using hb1
            have hd2 : decide ((x.getD i .z).cell 1 = (l.getD i .z).cell 1) = true := by simpa using hb2
            have hd3 : decide ((x.getD i .z).cell 2 < (x.getD i .z).cell 0) = false := by rw [decide_eq_false_iff_not]; omega
            have hd4 : decide (4503599627370496 < (x.getD i .z).cell 2) = false := by rw [decide_eq_false_iff_not]; omega
            have hd5 : decide ((x.getD i .z).cell 3 = (x.getD i .z).cell 2 + (x.getD i .z).cell 1) = true := by simpa using hb5
            refine G.skip ?_
            refine G.seq ?_
            refine G.block ?_
            refine G.seq ?_
            -- region 11
            refine G.run fits (by simp only [go_sem, Nat.reduceAdd, Nat.reduceSub, Nat.reduceMul, Nat.reduceMod, Nat.reduceDiv, Nat.reduceLT, Nat.reduceLeDiff, Nat.reduceEqDiff, Int.reduceToNat, Int.reduceAdd, Int.reduceSub, Int.reduceMul, Int.reduceLT, Int.reduceLE, Int.reduceNeg, ↓reduceIte, reduceCtorEq]; with_reducible rfl) (by (first | exact trivial | omega | (simp; done) | (simp; omega) | (refine ⟨?_, ?_⟩ <;> omega))) ?_
            refine G.keep [0, 4, 0, 1, 0, 33, 0, 0] (by simp only [keepG]; rfl) ?_
            refine G.seq ?_
            refine G.seq ?_
            -- region 12
            refine G.draw fits mixed 55 (drawN_ok (by decide +kernel)) (by simp only [List.take_succ_cons, List.take_zero]; with_reducible rfl) (by simp only [List.drop_succ_cons, List.drop_zero]; with_reducible rfl) ?_
            refine D.run 8 (by simp only [go_sem, Nat.reduceAdd, Nat.reduceSub, Nat.reduceMul, Nat.reduceMod, Nat.reduceDiv, Nat.reduceLT, Nat.reduceLeDiff, Nat.reduceEqDiff, Int.reduceToNat, Int.reduceAdd, Int.reduceSub, Int.reduceMul, Int.reduceLT, Int.reduceLE, Int.reduceNeg, ↓reduceIte, reduceCtorEq]; with_reducible rfl) (by first | exact trivial | (first | omega | (simp only [hd1, hd2, hd3, hd4, hd5]; simp [-List.getD_eq_getElem?_getD]; omega)) | (first | exact trivial | omega | (simp; done) | (simp; omega) | (refine ⟨?_, ?_⟩ <;> omega))) ?_
            refine D.run 8 (by simp only [go_sem, Nat.reduceAdd, Nat.reduceSub, Nat.reduceMul, Nat.reduceMod, Nat.reduceDiv, Nat.reduceLT, Nat.reduceLeDiff, Nat.reduceEqDiff, Int.reduceToNat, Int.reduceAdd, Int.reduceSub, Int.reduceMul, Int.reduceLT, Int.reduceLE, Int.reduceNeg, ↓reduceIte, reduceCtorEq]; with_reducible rfl) (by first | exact trivial | (first | omega | (simp only [hd1, hd2, hd3, hd4, hd5]; simp [-List.getD_eq_getElem?_getD]; omega)) | (first | exact trivial | omega | (simp; done) | (simp; omega) | (refine ⟨?_, ?_⟩ <;> omega))) ?_
            refine D.run 8 (by simp only [go_sem, Nat.reduceAdd, Nat.reduceSub, Nat.reduceMul, Nat.reduceMod, Nat.reduceDiv, Nat.reduceLT, Nat.reduceLeDiff, Nat.reduceEqDiff, Int.reduceToNat, Int.reduceAdd, Int.reduceSub, Int.reduceMul, Int.reduceLT, Int.reduceLE, Int.reduceNeg, ↓reduceIte, reduceCtorEq]; with_reducible rfl) (by first | exact trivial | (first | omega | (simp only [hd1, hd2, hd3, hd4, hd5]; simp [-List.getD_eq_getElem?_getD]; omega)) | (first | exact trivial | omega | (simp; done) | (simp; omega) | (refine ⟨?_, ?_⟩ <;> omega))) ?_
            refine D.run 8 (by simp only [go_sem, Nat.reduceAdd, Nat.reduceSub, Nat.reduceMul, Nat.reduceMod, Nat.reduceDiv, Nat.reduceLT, Nat.reduceLeDiff, Nat.reduceEqDiff, Int.reduceToNat, Int.reduceAdd, Int.reduceSub, Int.reduceMul, Int.reduceLT, Int.reduceLE, Int.reduceNeg, ↓reduceIte, reduceCtorEq]; with_reducible rfl) (by first | exact trivial | (first | omega | (simp only [hd1, hd2, hd3, hd4, hd5]; simp [-List.getD_eq_getElem?_getD]; omega)) | (first | exact trivial | omega | (simp; done) | (simp; omega) | (refine ⟨?_, ?_⟩ <;> omega))) ?_
            refine D.run 8 (by simp only [go_sem, Nat.reduceAdd, Nat.reduceSub, Nat.reduceMul, Nat.reduceMod, Nat.reduceDiv, Nat.reduceLT, Nat.reduceLeDiff, Nat.reduceEqDiff, Int.reduceToNat, Int.reduceAdd, Int.reduceSub, Int.reduceMul, Int.reduceLT, Int.reduceLE, Int.reduceNeg, ↓reduceIte, reduceCtorEq]; with_reducible rfl) (by first | exact trivial | (first | omega | (simp only [hd1, hd2, hd3, hd4, hd5]; simp [-List.getD_eq_getElem?_getD]; omega)) | (first | exact trivial | omega | (simp; done) | (simp; omega) | (refine ⟨?_, ?_⟩ <;> omega))) ?_
            refine D.run 8 (by simp only [go_sem, Nat.reduceAdd, Nat.reduceSub, Nat.reduceMul, Nat.reduceMod, Nat.reduceDiv, Nat.reduceLT, Nat.reduceLeDiff, Nat.reduceEqDiff, Int.reduceToNat, Int.reduceAdd, Int.reduceSub, Int.reduceMul, Int.reduceLT, Int.reduceLE, Int.reduceNeg, ↓reduceIte, reduceCtorEq]; with_reducible rfl) (by first | exact trivial | (first | omega | (simp only [hd1, hd2, hd3, hd4, hd5]; simp [-List.getD_eq_getElem?_getD]; omega)) | (first | exact trivial | omega | (simp; done) | (simp; omega) | (refine ⟨?_, ?_⟩ <;> omega))) ?_
            refine D.run 7 (by simp only [go_sem, Nat.reduceAdd, Nat.reduceSub, Nat.reduceMul, Nat.reduceMod, Nat.reduceDiv, Nat.reduceLT, Nat.reduceLeDiff, Nat.reduceEqDiff, Int.reduceToNat, Int.reduceAdd, Int.reduceSub, Int.reduceMul, Int.reduceLT, Int.reduceLE, Int.reduceNeg, ↓reduceIte, reduceCtorEq]; with_reducible rfl) (by first | exact trivial | (first | omega | (simp only [hd1, hd2, hd3, hd4, hd5]; simp [-List.getD_eq_getElem?_getD]; omega)) | (first | exact trivial | omega | (simp; done) | (simp; omega) | (refine ⟨?_, ?_⟩ <;> omega))) ?_
            refine D.nil ?_
            refine O.nil ?_
            refine G.keep [0, 4, 0, 1, 0, 33, 0, 0, 58] (by simp only [keepG]; rfl) ?_
            refine G.cond (by simp only [go_sem, Nat.reduceAdd, Nat.reduceSub, Nat.reduceMul, Nat.reduceMod, Nat.reduceDiv, Nat.reduceLT, Nat.reduceLeDiff, Nat.reduceEqDiff, Int.reduceToNat, Int.reduceAdd, Int.reduceSub, Int.reduceMul, Int.reduceLT, Int.reduceLE, Int.reduceNeg, ↓reduceIte, reduceCtorEq]; with_reducible rfl) (fun hc104 => ?_) (fun hc104 => ?_)
            ·
              exfalso
              rw [show ((i : Int) - 1).toNat = i - 1 by omega] at hc104
              simp only [hd1, hd2, hd3, hd4, hd5] at hc104
              simp [-List.getD_eq_getElem?_getD] at hc104
              omega
            ·
              refine G.skip ?_
              refine G.seq ?_
              -- region 14
              refine G.run fits (by simp only [go_sem, Nat.reduceAdd, Nat.reduceSub, Nat.reduceMul, Nat.reduceMod, Nat.reduceDiv, Nat.reduceLT, Nat.reduceLeDiff, Nat.reduceEqDiff, Int.reduceToNat, Int.reduceAdd, Int.reduceSub, Int.reduceMul, Int.reduceLT, Int.reduceLE, Int.reduceNeg, ↓reduceIte, reduceCtorEq]; with_reducible rfl) (by (first | exact trivial | omega | (simp; done) | (simp; omega) | (refine ⟨?_, ?_⟩ <;> omega))) ?_
              refine G.keep [0, 4, 0, 1, 0, 0, 0, 0, 30, 0, 0] (by simp only [keepG]; rfl) ?_
              refine G.seq ?_
              refine G.seq ?_
              -- region 15
              refine G.run fits (by simp only [go_sem, Nat.reduceAdd, Nat.reduceSub, Nat.reduceMul, Nat.reduceMod, Nat.reduceDiv, Nat.reduceLT, Nat.reduceLeDiff, Nat.reduceEqDiff, Int.reduceToNat, Int.reduceAdd, Int.reduceSub, Int.reduceMul, Int.reduceLT, Int.reduceLE, Int.reduceNeg, ↓reduceIte, reduceCtorEq]; with_reducible rfl) (by (first | exact trivial | omega | (simp; done) | (simp; omega) | (refine ⟨?_, ?_⟩ <;> omega))) ?_
              refine G.keep [0, 4, 0, 2, 0, 0, 0, 30, 0, 0, 61, 0, 0] (by simp only [keepG]; rfl) ?_
              refine G.block ?_
              refine G.loop (ι := Nat) (fun j => ⟨[encC false l, .any, .any, .any, .any, .int .i64 k, encC true x, .any, .any, .ptr 0 4 0 0, .int .i64 ((x.take j).countP (fun d => decide ((x.getD i .z).cell 2 < d.cell 3)) : Nat), .int .i64 ((x.take j).countP (fun d => decide ((x.getD i .z).cell 2 ≤ d.cell 3)) : Nat), .bool ((x.take j).any (fun d => decide (d.cell 3 = (x.getD i .z).cell 2))), .any, .any, .any, .any, .any, .any, .any, .any, .any, .any, .any, .any, .any, .any, .any, .any, .any, .any, .any, .any, .any, .any, .any, .any, .any, .any, .any, .any, .any, .any, encC true x, .int .i64 x.length, .int .i64 i, .any, .any, .any, .any, .any, .any, .any, .any, .any, .any, .any, .any, .any, .any, .any, .any, .any, .any, .any, .any, .any, .any, .any, .any, .any, .any, .any, .any, .any, .any, .any, .any, .any, .any, .any, .any, .any, .any, .any, .any, .any, .any, .any, .any, .any, .any, .any, .any, .any, .any, .any, .any, .any, .any, .any, .any, .any, .any, .any, .any, .any, encP x i, .int .i64 i, .int .i64 j, .any, .any, .any, .any, .any, .any, .any, .any, .any, .any, .any, .any, .any, .any, .any, .any, .any, .any, .any, .any, .any, .any, .any, .any, .any, .any, .any, .any, .any, .any, .any, .any, .any, .any, .any, .any, .any, .any, .any, .any, .any, .any, .any, .any, .any, .any], [⟨29, 4, 1, fun _ f => .int .i64 ((x.getD i .z).cell f)⟩]⟩) (fun j => j ≤ i) (fun j => i - j) 0 (by simp) ?_ fun j hj => ?_
              ·
                refine SLe.of ?_ ?_ ?_ ?_
                · simp [SlotsLe, encC, encP]
                · simp only [HeapLe]
                  refine ⟨⟨trivial, trivial, trivial, fun a f ha hf => .inr ?_⟩, trivial⟩
                  have ha0 : a = 0 := by have : a < 1 := ha; omega
                  have hf4 : f < 4 := hf
                  simp [ha0, hf4]
                · simp [TagsIn, encC, encP]
                · simp [TagsIn]
              ·
                unfold encC encP
                refine G.seq ?_
                -- region 16
                refine G.run fits (by simp only [go_sem, Nat.reduceAdd, Nat.reduceSub, Nat.reduceMul, Nat.reduceMod, Nat.reduceDiv, Nat.reduceLT, Nat.reduceLeDiff, Nat.reduceEqDiff, Int.reduceToNat, Int.reduceAdd, Int.reduceSub, Int.reduceMul, Int.reduceLT, Int.reduceLE, Int.reduceNeg, ↓reduceIte, reduceCtorEq]; with_reducible rfl) (by (first | exact trivial | omega | (simp; done) | (simp; omega) | (refine ⟨?_, ?_⟩ <;> omega))) ?_
                refine G.keep [0, 4, 0, 2, 0, 0, 0, 30, 0, 0, 61, 0, 0, 0] (by simp only [keepG]; rfl) ?_
                refine G.seq ?_
                refine G.cond (by simp only [go_sem, Nat.reduceAdd, Nat.reduceSub, Nat.reduceMul, Nat.reduceMod, Nat.reduceDiv, Nat.reduceLT, Nat.reduceLeDiff, Nat.reduceEqDiff, Int.reduceToNat, Int.reduceAdd, Int.reduceSub, Int.reduceMul, Int.reduceLT, Int.reduceLE, Int.reduceNeg, ↓reduceIte, reduceCtorEq]; with_reducible rfl) (fun hc110 => ?_) (fun hc110 => ?_)
                ·
                  have hjl : j < i := by simpa using hc110
                  have hs1 := countP_take (fun d => decide ((x.getD i .z).cell 2 < d.cell 3)) x j (by omega)
                  have hs2 := countP_take (fun d => decide ((x.getD i .z).cell 2 ≤ d.cell 3)) x j (by omega)
                  have hs3 := any_take (fun d => decide (d.cell 3 = (x.getD i .z).cell 2)) x j (by omega)
                  have hn1 := List.countP_le_length (p := fun d => decide ((x.getD i .z).cell 2 < d.cell 3)) (l := x.take j)
                  have hn2 := List.countP_le_length (p := fun d => decide ((x.getD i .z).cell 2 ≤ d.cell 3)) (l := x.take j)
                  rw [List.length_take] at hn1 hn2
                  refine G.skip ?_
                  refine G.seq ?_
                  refine G.block ?_
                  refine G.seq ?_
                  -- region 17
                  refine G.run fits (by simp only [go_sem, Nat.reduceAdd, Nat.reduceSub, Nat.reduceMul, Nat.reduceMod, Nat.reduceDiv, Nat.reduceLT, Nat.reduceLeDiff, Nat.reduceEqDiff, Int.reduceToNat, Int.reduceAdd, Int.reduceSub, Int.reduceMul, Int.reduceLT, Int.reduceLE, Int.reduceNeg, ↓reduceIte, reduceCtorEq]; with_reducible rfl) (by (first | exact trivial | omega | (simp; done) | (simp; omega) | (refine ⟨?_, ?_⟩ <;> omega))) ?_
                  refine G.keep [0, 4, 0, 2, 0, 0, 0, 1, 28, 0, 0, 61, 0, 0] (by simp only [keepG]; rfl) ?_
                  refine G.seq ?_
                  refine G.seq ?_
                  -- region 18
                  refine G.run fits (by simp only [go_sem, Nat.reduceAdd, Nat.reduceSub, Nat.reduceMul, Nat.reduceMod, Nat.reduceDiv, Nat.reduceLT, Nat.reduceLeDiff, Nat.reduceEqDiff, Int.reduceToNat, Int.reduceAdd, Int.reduceSub, Int.reduceMul, Int.reduceLT, Int.reduceLE, Int.reduceNeg, ↓reduceIte, reduceCtorEq]; with_reducible rfl) (by (first | exact trivial | omega | (simp; done) | (simp; omega) | (refine ⟨?_, ?_⟩ <;> omega))) ?_
                  refine G.keep [0, 4, 0, 2, 0, 0, 0, 1, 28, 0, 0, 61, 0, 0, 7] (by simp only [keepG]; rfl) ?_
                  refine G.cond (by simp only [go_sem, Nat.reduceAdd, Nat.reduceSub, Nat.reduceMul, Nat.reduceMod, Nat.reduceDiv, Nat.reduceLT, Nat.reduceLeDiff, Nat.reduceEqDiff, Int.reduceToNat, Int.reduceAdd, Int.reduceSub, Int.reduceMul, Int.reduceLT, Int.reduceLE, Int.reduceNeg, ↓reduceIte, reduceCtorEq]; with_reducible rfl) (fun hc117 => ?_) (fun hc117 => ?_)
                  ·
                    -- region 19
                    refine G.run fits (by simp only [go_sem, Nat.reduceAdd, Nat.reduceSub, Nat.reduceMul, Nat.reduceMod, Nat.reduceDiv, Nat.reduceLT, Nat.reduceLeDiff, Nat.reduceEqDiff, Int.reduceToNat, Int.reduceAdd, Int.reduceSub, Int.reduceMul, Int.reduceLT, Int.reduceLE, Int.reduceNeg, ↓reduceIte, reduceCtorEq]; with_reducible rfl) (by first | exact trivial | (omega) | (first | exact trivial | omega | (simp; done) | (simp; omega) | (refine ⟨?_, ?_⟩ <;> omega))) ?_
                    refine G.keep [0, 4, 0, 2, 0, 0, 0, 1, 28, 0, 0, 61, 0, 0] (by simp only [keepG]; rfl) ?_
                    refine G.seq ?_
                    refine G.seq ?_
                    -- region 20
                    refine G.run fits (by simp only [go_sem, Nat.reduceAdd, Nat.reduceSub, Nat.reduceMul, Nat.reduceMod, Nat.reduceDiv, Nat.reduceLT, Nat.reduceLeDiff, Nat.reduceEqDiff, Int.reduceToNat, Int.reduceAdd, Int.reduceSub, Int.reduceMul, Int.reduceLT, Int.reduceLE, Int.reduceNeg, ↓reduceIte, reduceCtorEq]; with_reducible rfl) (by (first | exact trivial | omega | (simp; done) | (simp; omega) | (refine ⟨?_, ?_⟩ <;> omega))) ?_
                    refine G.keep [0, 4, 0, 2, 0, 0, 0, 1, 28, 0, 0, 61, 0, 0, 14] (by simp only [keepG]; rfl) ?_
                    refine G.cond (by simp only [go_sem, Nat.reduceAdd, Nat.reduceSub, Nat.reduceMul, Nat.reduceMod, Nat.reduceDiv, Nat.reduceLT, Nat.reduceLeDiff, Nat.reduceEqDiff, Int.reduceToNat, Int.reduceAdd, Int.reduceSub, Int.reduceMul, Int.reduceLT, Int.reduceLE, Int.reduceNeg, ↓reduceIte, reduceCtorEq]; with_reducible rfl) (fun hc124 => ?_) (fun hc124 => ?_)
                    ·
                      -- region 21
                      refine G.run fits (by simp only [go_sem, Nat.reduceAdd, Nat.reduceSub, Nat.reduceMul, Nat.reduceMod, Nat.reduceDiv, Nat.reduceLT, Nat.reduceLeDiff, Nat.reduceEqDiff, Int.reduceToNat, Int.reduceAdd, Int.reduceSub, Int.reduceMul, Int.reduceLT, Int.reduceLE, Int.reduceNeg, ↓reduceIte, reduceCtorEq]; with_reducible rfl) (by first | exact trivial | (omega) | (first | exact trivial | omega | (simp; done) | (simp; omega) | (refine ⟨?_, ?_⟩ <;> omega))) ?_
                      refine G.keep [0, 4, 0, 2, 0, 0, 0, 1, 28, 0, 0, 61, 0, 0] (by simp only [keepG]; rfl) ?_
                      -- region 22
                      refine G.run fits (by simp only [go_sem, Nat.reduceAdd, Nat.reduceSub, Nat.reduceMul, Nat.reduceMod, Nat.reduceDiv, Nat.reduceLT, Nat.reduceLeDiff, Nat.reduceEqDiff, Int.reduceToNat, Int.reduceAdd, Int.reduceSub, Int.reduceMul, Int.reduceLT, Int.reduceLE, Int.reduceNeg, ↓reduceIte, reduceCtorEq]; with_reducible rfl) (by (first | exact trivial | omega | (simp; done) | (simp; omega) | (refine ⟨?_, ?_⟩ <;> omega))) ?_
                      refine G.endBlock ?_
                      -- region 23
                      refine G.run fits (by simp only [go_sem, Nat.reduceAdd, Nat.reduceSub, Nat.reduceMul, Nat.reduceMod, Nat.reduceDiv, Nat.reduceLT, Nat.reduceLeDiff, Nat.reduceEqDiff, Int.reduceToNat, Int.reduceAdd, Int.reduceSub, Int.reduceMul, Int.reduceLT, Int.reduceLE, Int.reduceNeg, ↓reduceIte, reduceCtorEq]; with_reducible rfl) (by (first | exact trivial | omega | (simp; done) | (simp; omega) | (refine ⟨?_, ?_⟩ <;> omega))) ?_
                      refine G.endLoop ⟨j + 1, by omega, by omega, ?_⟩
                      rw [hs1, hs2, hs3]
                      simp only [hc117, hc124]
                      refine SLe.of (by simp [SlotsLe]) (by simp [HeapLe]) (by simp [TagsIn]) (by simp [TagsIn])
                    ·
                      refine G.skip ?_
                      -- region 22
                      refine G.run fits (by simp only [go_sem, Nat.reduceAdd, Nat.reduceSub, Nat.reduceMul, Nat.reduceMod, Nat.reduceDiv, Nat.reduceLT, Nat.reduceLeDiff, Nat.reduceEqDiff, Int.reduceToNat, Int.reduceAdd, Int.reduceSub, Int.reduceMul, Int.reduceLT, Int.reduceLE, Int.reduceNeg, ↓reduceIte, reduceCtorEq]; with_reducible rfl) (by (first | exact trivial | omega | (simp; done) | (simp; omega) | (refine ⟨?_, ?_⟩ <;> omega))) ?_
                      refine G.endBlock ?_
                      -- region 23
                      refine G.run fits (by simp only [go_sem, Nat.reduceAdd, Nat.reduceSub, Nat.reduceMul, Nat.reduceMod, Nat.reduceDiv, Nat.reduceLT, Nat.reduceLeDiff, Nat.reduceEqDiff, Int.reduceToNat, Int.reduceAdd, Int.reduceSub, Int.reduceMul, Int.reduceLT, Int.reduceLE, Int.reduceNeg, ↓reduceIte, reduceCtorEq]; with_reducible rfl) (by (first | exact trivial | omega | (simp; done) | (simp; omega) | (refine ⟨?_, ?_⟩ <;> omega))) ?_
                      refine G.endLoop ⟨j + 1, by omega, by omega, ?_⟩
                      rw [hs1, hs2, hs3]
                      simp only [hc117, hc124]
                      refine SLe.of (by simp [SlotsLe]) (by simp [HeapLe]) (by simp [TagsIn]) (by simp [TagsIn])
                  ·
                    refine G.skip ?_
                    refine G.seq ?_
                    refine G.seq ?_
                    -- region 20
                    refine G.run fits (by simp only [go_sem, Nat.reduceAdd, Nat.reduceSub, Nat.reduceMul, Nat.reduceMod, Nat.reduceDiv, Nat.reduceLT, Nat.reduceLeDiff, Nat.reduceEqDiff, Int.reduceToNat, Int.reduceAdd, Int.reduceSub, Int.reduceMul, Int.reduceLT, Int.reduceLE, Int.reduceNeg, ↓reduceIte, reduceCtorEq]; with_reducible rfl) (by (first | exact trivial | omega | (simp; done) | (simp; omega) | (refine ⟨?_, ?_⟩ <;> omega))) ?_
                    refine G.keep [0, 4, 0, 2, 0, 0, 0, 1, 28, 0, 0, 61, 0, 0, 14] (by simp only [keepG]; rfl) ?_
                    refine G.cond (by simp only [go_sem, Nat.reduceAdd, Nat.reduceSub, Nat.reduceMul, Nat.reduceMod, Nat.reduceDiv, Nat.reduceLT, Nat.reduceLeDiff, Nat.reduceEqDiff, Int.reduceToNat, Int.reduceAdd, Int.reduceSub, Int.reduceMul, Int.reduceLT, Int.reduceLE, Int.reduceNeg, ↓reduceIte, reduceCtorEq]; with_reducible rfl) (fun hc124 => ?_) (fun hc124 => ?_)
                    ·
                      -- region 21
                      refine G.run fits (by simp only [go_sem, Nat.reduceAdd, Nat.reduceSub, Nat.reduceMul, Nat.reduceMod, Nat.reduceDiv, Nat.reduceLT, Nat.reduceLeDiff, Nat.reduceEqDiff, Int.reduceToNat, Int.reduceAdd, Int.reduceSub, Int.reduceMul, Int.reduceLT, Int.reduceLE, Int.reduceNeg, ↓reduceIte, reduceCtorEq]; with_reducible rfl) (by first | exact trivial | (omega) | (first | exact trivial | omega | (simp; done) | (simp; omega) | (refine ⟨?_, ?_⟩ <;> omega))) ?_
                      refine G.keep [0, 4, 0, 2, 0, 0, 0, 1, 28, 0, 0, 61, 0, 0] (by simp only [keepG]; rfl) ?_
                      -- region 22
                      refine G.run fits (by simp only [go_sem, Nat.reduceAdd, Nat.reduceSub, Nat.reduceMul, Nat.reduceMod, Nat.reduceDiv, Nat.reduceLT, Nat.reduceLeDiff, Nat.reduceEqDiff, Int.reduceToNat, Int.reduceAdd, Int.reduceSub, Int.reduceMul, Int.reduceLT, Int.reduceLE, Int.reduceNeg, ↓reduceIte, reduceCtorEq]; with_reducible rfl) (by (first | exact trivial | omega | (simp; done) | (simp; omega) | (refine ⟨?_, ?_⟩ <;> omega))) ?_
                      refine G.endBlock ?_
                      -- region 23
                      refine G.run fits (by simp only [go_sem, Nat.reduceAdd, Nat.reduceSub, Nat.reduceMul, Nat.reduceMod, Nat.reduceDiv, Nat.reduceLT, Nat.reduceLeDiff, Nat.reduceEqDiff, Int.reduceToNat, Int.reduceAdd, Int.reduceSub, Int.reduceMul, Int.reduceLT, Int.reduceLE, Int.reduceNeg, ↓reduceIte, reduceCtorEq]; with_reducible rfl) (by (first | exact trivial | omega | (simp; done) | (simp; omega) | (refine ⟨?_, ?_⟩ <;> omega))) ?_
                      refine G.endLoop ⟨j + 1, by omega, by omega, ?_⟩
                      rw [hs1, hs2, hs3]
                      simp only [hc117, hc124]
                      refine SLe.of (by simp [SlotsLe]) (by simp [HeapLe]) (by simp [TagsIn]) (by simp [TagsIn])
                    ·
                      refine G.skip ?_
                      -- region 22
                      refine G.run fits (by simp only [go_sem, Nat.reduceAdd, Nat.reduceSub, Nat.reduceMul, Nat.reduceMod, Nat.reduceDiv, Nat.reduceLT, Nat.reduceLeDiff, Nat.reduceEqDiff, Int.reduceToNat, Int.reduceAdd, Int.reduceSub, Int.reduceMul, Int.reduceLT, Int.reduceLE, Int.reduceNeg, ↓reduceIte, reduceCtorEq]; with_reducible rfl) (by (first | exact trivial | omega | (simp; done) | (simp; omega) | (refine ⟨?_, ?_⟩ <;> omega))) ?_
                      refine G.endBlock ?_
                      -- region 23
                      refine G.run fits (by simp only [go_sem, Nat.reduceAdd, Nat.reduceSub, Nat.reduceMul, Nat.reduceMod, Nat.reduceDiv, Nat.reduceLT, Nat.reduceLeDiff, Nat.reduceEqDiff, Int.reduceToNat, Int.reduceAdd, Int.reduceSub, Int.reduceMul, Int.reduceLT, Int.reduceLE, Int.reduceNeg, ↓reduceIte, reduceCtorEq]; with_reducible rfl) (by (first | exact trivial | omega | (simp; done) | (simp; omega) | (refine ⟨?_, ?_⟩ <;> omega))) ?_
                      refine G.endLoop ⟨j + 1, by omega, by omega, ?_⟩
                      rw [hs1, hs2, hs3]
                      simp only [hc117, hc124]
                      refine SLe.of (by simp [SlotsLe]) (by simp [HeapLe]) (by simp [TagsIn]) (by simp [TagsIn])
                ·
                  have hjl : j = i := by
                    have : ¬ (j : Int) < i := by simpa using hc110
                    omega
                  subst hjl
                  refine G.exit rfl ?_
                  refine G.seq ?_
                  -- region 24
                  refine G.ops fits ?_
                  refine O.run 8 (by simp only [go_sem, Nat.reduceAdd, Nat.reduceSub, Nat.reduceMul, Nat.reduceMod, Nat.reduceDiv, Nat.reduceLT, Nat.reduceLeDiff, Nat.reduceEqDiff, Int.reduceToNat, Int.reduceAdd, Int.reduceSub, Int.reduceMul, Int.reduceLT, Int.reduceLE, Int.reduceNeg, ↓reduceIte, reduceCtorEq]; with_reducible rfl) (by first | exact trivial | (by_cases h1 : k ≤ ((List.countP (fun d => decide ((x.getD j .z).cell 2 < d.cell 3)) (List.take j x) : Nat) : Int) <;> by_cases h2 : (x.getD j .z).cell 0 < (x.getD j .z).cell 2 <;> cases h3 : (List.take j x).any (fun d => decide (d.cell 3 = (x.getD j .z).cell 2)) <;> simp only [h1, h2, h3] <;> simp) | (first | exact trivial | omega | (simp; done) | (simp; omega) | (refine ⟨?_, ?_⟩ <;> omega))) ?_
                  refine O.run 11 (by simp only [go_sem, Nat.reduceAdd, Nat.reduceSub, Nat.reduceMul, Nat.reduceMod, Nat.reduceDiv, Nat.reduceLT, Nat.reduceLeDiff, Nat.reduceEqDiff, Int.reduceToNat, Int.reduceAdd, Int.reduceSub, Int.reduceMul, Int.reduceLT, Int.reduceLE, Int.reduceNeg, ↓reduceIte, reduceCtorEq]; with_reducible rfl) (by first | exact trivial | (by_cases h1 : k ≤ ((List.countP (fun d => decide ((x.getD j .z).cell 2 < d.cell 3)) (List.take j x) : Nat) : Int) <;> by_cases h2 : (x.getD j .z).cell 0 < (x.getD j .z).cell 2 <;> cases h3 : (List.take j x).any (fun d => decide (d.cell 3 = (x.getD j .z).cell 2)) <;> simp only [h1, h2, h3] <;> simp) | (first | exact trivial | omega | (simp; done) | (simp; omega) | (refine ⟨?_, ?_⟩ <;> omega))) ?_
                  refine O.nil ?_
                  refine G.keep [0, 4, 0, 36, 0, 0, 108] (by simp only [keepG]; rfl) ?_
                  refine G.cond (by simp only [go_sem, Nat.reduceAdd, Nat.reduceSub, Nat.reduceMul, Nat.reduceMod, Nat.reduceDiv, Nat.reduceLT, Nat.reduceLeDiff, Nat.reduceEqDiff, Int.reduceToNat, Int.reduceAdd, Int.reduceSub, Int.reduceMul, Int.reduceLT, Int.reduceLE, Int.reduceNeg, ↓reduceIte, reduceCtorEq]; with_reducible rfl) (fun hc154 => ?_) (fun hc154 => ?_)
                  ·
                    exfalso
                    have hbz := hB.busy
                    have hwz := hB.waits
                    rw [Bool.or_eq_true, Bool.and_eq_true, Bool.or_eq_true] at hc154
                    simp only [decide_eq_true_eq, Bool.not_eq_true'] at hc154
                    rcases hc154 with h | ⟨h, h' | h'⟩
                    · omega
                    · rw [(hwz h).1] at h'; cases h'
                    · have := (hwz h).2; omega
                  ·
                    refine G.skip ?_
                    refine G.endBlock ?_
                    -- region 26
                    refine G.run fits (by simp only [go_sem, Nat.reduceAdd, Nat.reduceSub, Nat.reduceMul, Nat.reduceMod, Nat.reduceDiv, Nat.reduceLT, Nat.reduceLeDiff, Nat.reduceEqDiff, Int.reduceToNat, Int.reduceAdd, Int.reduceSub, Int.reduceMul, Int.reduceLT, Int.reduceLE, Int.reduceNeg, ↓reduceIte, reduceCtorEq]; with_reducible rfl) (by (first | exact trivial | omega | (simp; done) | (simp; omega) | (refine ⟨?_, ?_⟩ <;> omega))) ?_
                    refine G.endLoop ⟨j + 1, by omega, by omega, ?_⟩
                    (refine SLe.of (by simp only [SlotsLe]; (simp (disch := omega) [Int.natCast_add])) (by simp [HeapLe]) (by simp [TagsIn]) (by simp [TagsIn]))
          ·
            refine G.exit rfl ?_
            refine G.seq ?_
            -- region 27
            refine G.run fits (by simp only [go_sem, Nat.reduceAdd, Nat.reduceSub, Nat.reduceMul, Nat.reduceMod, Nat.reduceDiv, Nat.reduceLT, Nat.reduceLeDiff, Nat.reduceEqDiff, Int.reduceToNat, Int.reduceAdd, Int.reduceSub, Int.reduceMul, Int.reduceLT, Int.reduceLE, Int.reduceNeg, ↓reduceIte, reduceCtorEq]; with_reducible rfl) (by (first | exact trivial | omega | (simp; done) | (simp; omega) | (refine ⟨?_, ?_⟩ <;> omega))) ?_
            refine G.keep [4] (by simp only [keepG]; rfl) ?_
            refine G.ret ?_
            -- return 1
            refine Ret.of_sub fits [.tmp 4] rfl [.bool true] ?_ (by simp [AllFresh]) ⟨rfl, rfl⟩
            simp only [resSub, go_sem, Nat.reduceAdd, Nat.reduceSub, Nat.reduceMul, Nat.reduceMod, Nat.reduceDiv, Nat.reduceLT, Nat.reduceLeDiff, Nat.reduceEqDiff, Int.reduceToNat, Int.reduceAdd, Int.reduceSub, Int.reduceMul, Int.reduceLT, Int.reduceLE, Int.reduceNeg, ↓reduceIte, reduceCtorEq]
            (first | exact trivial | (repeat' (first | exact trivial | refine ⟨?_, ?_⟩ | exact Sub.int _ _ | exact Sub.bool _ | exact Sub.val _ | exact Sub.nil _ _ _ | exact Sub.ro (by simp) (fun _ _ _ _ => rfl))))


end Go.Proofs.Ytocpeankecaabaa
