/-
  How loops of models are reckoned with: counting loops, loops that look for something. No program is named.
-/
import Derived.Test.YtocpeankecaabaaT12
set_option linter.all false
namespace Go.M
open Go.T

theorem ckB_pos {α : Type} {c : Bool} (h : c = true) (m : Option α) : ckB c m = m := by subst h; rfl
theorem bif_pos {α : Type} {c : Bool} (h : c = true) (a b : α) : (bif c then a else b) = a := by subst h; rfl
theorem bif_neg {α : Type} {c : Bool} (h : c = false) (a b : α) : (bif c then a else b) = b := by subst h; rfl
theorem ix_pos {i : Nat} {n : Nat} (h : i < n) : ix (i : Int) n = true := by simp [ix, h]
theorem inR_i64 {n : Int} (h1 : -9223372036854775808 ≤ n) (h2 : n ≤ 9223372036854775807) : inR .i64 n = true := by simp [inR, h1, h2]

/-- A loop over 0 .. n-1 that leaves with r at the first i that p does not let pass. -/
theorem loop_all {S E R : Type} {step : S → Option (LR S E R)} (st : Nat → S) (n : Nat) (hn : n < many) (p : Nat → Bool) (e : E) (r : R)
    (h : ∀ i, i < n → p i = true → step (st i) = some (.next (st (i + 1)))) (hf : ∀ i, i < n → p i = false → step (st i) = some (.ret r)) (hd : step (st n) = some (.done e)) :
    loopM step (st 0) = some (bif (List.range n).all p then .inl e else .inr r) := by
  by_cases hall : ∀ i, i < n → p i = true
  · have : (List.range n).all p = true := by simpa using hall
    rw [this]
    exact loop_count st n hn (.inl e) (fun i hi => h i hi (hall i hi)) hd
  · have hex : ∃ i, i < n ∧ p i = false := by
      refine Classical.byContradiction fun hne => hall fun i hi => ?_
      cases hp : p i with
      | true => rfl
      | false => exact absurd ⟨i, hi, hp⟩ hne
    have hmin : ∃ k, k < n ∧ p k = false ∧ ∀ i, i < k → p i = true := by
      obtain ⟨i, hi, hp⟩ := hex
      induction i using Nat.strongRecOn with
      | _ i ih =>
        by_cases hlow : ∀ j, j < i → p j = true
        · exact ⟨i, hi, hp, hlow⟩
        · have : ∃ j, j < i ∧ p j = false := by
            refine Classical.byContradiction fun hne => hlow fun j hj => ?_
            cases hq : p j with
            | true => rfl
            | false => exact absurd ⟨j, hj, hq⟩ hne
          obtain ⟨j, hj, hq⟩ := this
          exact ih j hj (by omega) hq
    obtain ⟨k, hk, hp, hlow⟩ := hmin
    have : (List.range n).all p = false := by
      rw [List.all_eq_false]
      exact ⟨k, by simpa using hk, by simp [hp]⟩
    rw [this]
    exact loop_first st k (by omega) (.ret r) (.inr r) rfl (fun i hi => h i (by omega) (hlow i hi)) (hf k hk hp)

/-- A loop over 0 .. n-1 that leaves at the first i at which 'stop' tells how. -/
theorem loop_stop {S E R : Type} {step : S → Option (LR S E R)} (st : Nat → S) (n : Nat) (hn : n < many) (stop : Nat → Option (E ⊕ R)) (e : E)
    (h : ∀ i, i < n → stop i = none → step (st i) = some (.next (st (i + 1)))) (hf : ∀ i o, i < n → stop i = some o → step (st i) = some (match o with | .inl e => .done e | .inr r => .ret r)) (hd : step (st n) = some (.done e)) :
    loopM step (st 0) = some (((List.range n).findSome? stop).getD (.inl e)) := by
  suffices H : ∀ k i, i + k = n → ∀ m, k < m → iter step m (st i) = some (((List.range' i k).findSome? stop).getD (.inl e)) by
    have := H n 0 (by omega) many hn
    rwa [← List.range_eq_range'] at this
  intro k
  induction k with
  | zero =>
    intro i hi m hm
    obtain ⟨m, rfl⟩ : ∃ q, m = q + 1 := ⟨m - 1, by omega⟩
    obtain rfl : i = n := by omega
    rw [iter_succ, hd]
    rfl
  | succ k ih =>
    intro i hi m hm
    obtain ⟨m, rfl⟩ : ∃ q, m = q + 1 := ⟨m - 1, by omega⟩
    rw [iter_succ, List.range'_succ, List.findSome?_cons]
    cases hs : stop i with
    | none =>
      rw [h i (by omega) hs]
      exact ih (i + 1) (by omega) m (by omega)
    | some o =>
      rw [hf i o (by omega) hs]
      cases o <;> rfl

/-- A loop that builds up, round by round: the state in round i is known. -/
theorem loop_to {S E R : Type} {step : S → Option (LR S E R)} (st : Nat → S) (n : Nat) (hn : n < many) (e : E) (h : ∀ i, i < n → step (st i) = some (.next (st (i + 1)))) (hd : step (st n) = some (.done e)) (s : S) (hs : s = st 0) :
    loopM step s = some (.inl e) := by
  subst hs
  exact loop_count st n hn (.inl e) h hd

theorem getD_at {α : Type} (xs : List α) (i : Nat) (d : α) (h : i < xs.length) : xs.getD i d = xs[i] := by simp [List.getD_eq_getElem?_getD, h]

/-- Two loops in step: whatever one does the other does, in states that correspond. -/
theorem iter_sim {S S' E R : Type} {step : S → Option (LR S E R)} {step' : S' → Option (LR S' E R)} (rel : S → S' → Prop)
    (h : ∀ s s', rel s s' → (∃ t t', step s = some (.next t) ∧ step' s' = some (.next t') ∧ rel t t') ∨ (∃ e, step s = some (.done e) ∧ step' s' = some (.done e)) ∨ (∃ r, step s = some (.ret r) ∧ step' s' = some (.ret r))) :
    ∀ (n : Nat) (s : S) (s' : S'), rel s s' → iter step n s = iter step' n s' := by
  intro n
  induction n with
  | zero => intro s s' _; rfl
  | succ n ih =>
    intro s s' hr
    rw [iter_succ, iter_succ]
    rcases h s s' hr with ⟨t, t', h1, h2, h3⟩ | ⟨e, h1, h2⟩ | ⟨r, h1, h2⟩
    · rw [h1, h2]; exact ih t t' h3
    · rw [h1, h2]; rfl
    · rw [h1, h2]; rfl

/-- Sums. -/
def sumL {α : Type} (f : α → Int) : List α → Int
  | [] => 0
  | x :: l => f x + sumL f l

theorem sumL_append {α : Type} (f : α → Int) : ∀ l m : List α, sumL f (l ++ m) = sumL f l + sumL f m
  | [], m => by simp [sumL]
  | x :: l, m => by simp only [List.cons_append, sumL, sumL_append f l m]; omega

theorem take_succ_getD {α : Type} (l : List α) (i : Nat) (d : α) (h : i < l.length) : l.take (i + 1) = l.take i ++ [l.getD i d] := by
  rw [List.take_add_one, getD_at l i d h]
  simp [h]

theorem sumL_take {α : Type} (f : α → Int) (l : List α) (i : Nat) (d : α) (h : i < l.length) : sumL f (l.take (i + 1)) = sumL f (l.take i) + f (l.getD i d) := by
  rw [take_succ_getD l i d h, sumL_append]
  simp [sumL]

theorem sumL_bound {α : Type} {f : α → Int} {b : Int} : ∀ {l : List α}, (∀ x ∈ l, 0 ≤ f x ∧ f x ≤ b) → 0 ≤ sumL f l ∧ sumL f l ≤ l.length * b
  | [], _ => by simp [sumL]
  | x :: l, h => by
    have h1 := h x (List.mem_cons_self ..)
    have h2 := sumL_bound (f := f) (b := b) (l := l) (fun y hy => h y (List.mem_cons_of_mem _ hy))
    simp only [sumL, List.length_cons, Int.natCast_add, Int.add_mul]
    omega

theorem mem_getD {α : Type} {l : List α} {x : α} (d : α) (h : x ∈ l) : ∃ i, i < l.length ∧ l.getD i d = x := by
  obtain ⟨i, hi, rfl⟩ := List.getElem_of_mem h
  exact ⟨i, hi, getD_at l i d hi⟩
theorem getD_mem {α : Type} {l : List α} {i : Nat} (d : α) (h : i < l.length) : l.getD i d ∈ l := by
  rw [getD_at l i d h]; exact List.getElem_mem h

/-! Steps whose conditions are plain arithmetic. -/
theorem ckB_ix {α : Type} {i : Int} {n : Nat} {m : Option α} (h0 : 0 ≤ i) (h1 : i < (n : Int)) : ckB (ix i n) m = m := ckB_pos (by simp [ix, h0, h1]) m
theorem ckB_inR {α : Type} {e : Int} {m : Option α} (h0 : -9223372036854775808 ≤ e) (h1 : e ≤ 9223372036854775807) : ckB (inR .i64 e) m = m := ckB_pos (inR_i64 h0 h1) m
theorem ckB_room {α : Type} {n b : Nat} {m : Option α} (h0 : n ≤ 9223372036854775807) (h1 : n * b ≤ 140737488355328) : ckB (room n b) m = m := ckB_pos (by simp [room, h0, h1]) m
theorem ckB_cut {α : Type} {l h : Int} {n : Nat} {m : Option α} (h0 : 0 ≤ l) (h1 : l ≤ h) (h2 : h ≤ (n : Int)) : ckB (cut l h n) m = m := ckB_pos (by simp [cut, h0, h1, h2]) m
theorem ckB_mk {α : Type} {l c : Int} {b : Nat} {m : Option α} (h0 : 0 ≤ l) (h1 : l ≤ c) (h2 : (b : Int) * c ≤ 281474976710656) (h3 : c ≤ 9223372036854775807) : ckB (mkOk l c b) m = m := ckB_pos (by simp [mkOk, h0, h1, h2, h3]) m
theorem ckB_ne {α : Type} {a b : Int} {m : Option α} (h : a ≠ b) : ckB (!decide (a = b)) m = m := ckB_pos (by simp [h]) m
theorem bif_lt {α : Type} {a b : Int} {x y : α} (h : a < b) : (bif decide (a < b) then x else y) = x := bif_pos (by simp [h]) x y
theorem bif_nlt {α : Type} {a b : Int} {x y : α} (h : b ≤ a) : (bif decide (a < b) then x else y) = y := bif_neg (by simp; omega) x y
theorem bif_le {α : Type} {a b : Int} {x y : α} (h : a ≤ b) : (bif decide (a ≤ b) then x else y) = x := bif_pos (by simp [h]) x y
theorem bif_nle {α : Type} {a b : Int} {x y : α} (h : b < a) : (bif decide (a ≤ b) then x else y) = y := bif_neg (by simp; omega) x y
theorem bif_eq {α : Type} {a b : Int} {x y : α} (h : a = b) : (bif decide (a = b) then x else y) = x := bif_pos (by simp [h]) x y
theorem bif_neq {α : Type} {a b : Int} {x y : α} (h : a ≠ b) : (bif decide (a = b) then x else y) = y := bif_neg (by simp [h]) x y
theorem bif_ne {α : Type} {a b : Int} {x y : α} (h : a ≠ b) : (bif !decide (a = b) then x else y) = x := bif_pos (by simp [h]) x y
theorem bif_nne {α : Type} {a b : Int} {x y : α} (h : a = b) : (bif !decide (a = b) then x else y) = y := bif_neg (by simp [h]) x y
theorem bif_not {α : Type} {c : Bool} {x y : α} : (bif !c then x else y) = (bif c then y else x) := by cases c <;> rfl
theorem bif_true' {α : Type} {x y : α} : (bif true then x else y) = x := rfl
theorem bif_false' {α : Type} {x y : α} : (bif false then x else y) = y := rfl

def outL {S E R : Type} : E ⊕ R → LR S E R
  | .inl e => .done e
  | .inr r => .ret r

/-- A loop along a list: what is left of the list and what is carried tell how it ends. -/
theorem loop_list {α A S E R : Type} {step : S → Option (LR S E R)} (o : List α) (d : α) (ho : o.length < many) (st : Nat → A → S) (inv : Nat → A → Prop) (F : List α → A → E ⊕ R)
    (hnil : ∀ a, inv o.length a → step (st o.length a) = some (outL (F [] a)))
    (hcons : ∀ i a, i < o.length → inv i a → (∃ a', step (st i a) = some (.next (st (i + 1) a')) ∧ inv (i + 1) a' ∧ F (o.getD i d :: o.drop (i + 1)) a = F (o.drop (i + 1)) a') ∨ step (st i a) = some (outL (F (o.getD i d :: o.drop (i + 1)) a)))
    (a : A) (ha : inv 0 a) (s : S) (hs : s = st 0 a) : loopM step s = some (F o a) := by
  subst hs
  suffices H : ∀ k i, i + k = o.length → ∀ m, k < m → ∀ a, inv i a → iter step m (st i a) = some (F (o.drop i) a) by
    have := H o.length 0 (by omega) many ho a ha
    rw [List.drop_zero] at this
    exact this
  intro k
  induction k with
  | zero =>
    intro i hi m hm a ha
    obtain ⟨m, rfl⟩ : ∃ q, m = q + 1 := ⟨m - 1, by omega⟩
    obtain rfl : i = o.length := by omega
    rw [iter_succ, hnil a ha, List.drop_length]
    cases F [] a <;> rfl
  | succ k ih =>
    intro i hi m hm a ha
    obtain ⟨m, rfl⟩ : ∃ q, m = q + 1 := ⟨m - 1, by omega⟩
    have hlt : i < o.length := by omega
    have hd : o.drop i = o.getD i d :: o.drop (i + 1) := by rw [getD_at o i d hlt]; exact List.drop_eq_getElem_cons hlt
    rw [iter_succ, hd]
    rcases hcons i a hlt ha with ⟨a', h1, h2, h3⟩ | h1
    · rw [h1, h3]
      exact ih (i + 1) (by omega) m (by omega) a' h2
    · rw [h1]
      cases F (o.getD i d :: o.drop (i + 1)) a <;> rfl

/-- Two loops that do the same in each state that can occur. -/
theorem loop_two {S E R : Type} {step step' : S → Option (LR S E R)} (Inv : S → Prop) (μ : S → Nat) (post : E ⊕ R → Prop) (s : S) (hs : Inv s) (hμ : μ s < many)
    (h : ∀ s, Inv s → ∃ x, step s = some x ∧ step' s = some x ∧ match x with | .next s' => Inv s' ∧ μ s' < μ s | .done e => post (.inl e) | .ret r => post (.inr r)) :
    ∃ o, loopM step s = some o ∧ loopM step' s = some o ∧ post o := by
  obtain ⟨o, ho, hp⟩ := loop_inv Inv μ post s hs hμ (fun s hs => by obtain ⟨x, h1, _, h3⟩ := h s hs; exact ⟨x, h1, h3⟩)
  refine ⟨o, ho, ?_, hp⟩
  have key : ∀ (n : Nat) (s : S), Inv s → iter step n s = iter step' n s := by
    intro n
    induction n with
    | zero => intro s _; rfl
    | succ n ih =>
      intro s hs
      obtain ⟨x, h1, h2, h3⟩ := h s hs
      rw [iter_succ, iter_succ, h1, h2]
      cases x with
      | next s' => exact ih s' h3.1
      | done e => rfl
      | ret r => rfl
  rw [← ho]
  exact (key many s hs).symm

end Go.M
