/-
  What a function computes, as a plain function of Lean: the words that such functions are written in, and how loops are reckoned with. No program is named.
-/
import Derived.WalkKit
set_option linter.all false
namespace Go.M

/-- Goes on where c holds; has no value otherwise. -/
def ck {α : Type} (c : Prop) [Decidable c] (k : Option α) : Option α := if c then k else none
def bnd {α β : Type} (m : Option α) (k : α → Option β) : Option β := match m with | some a => k a | none => none

theorem ck_some {α : Type} {c : Prop} [Decidable c] {k : Option α} {r : α} (h : ck c k = some r) : c ∧ k = some r := by
  unfold ck at h
  split at h
  · exact ⟨‹_›, h⟩
  · cases h
theorem ck_pos {α : Type} {c : Prop} [Decidable c] (h : c) (k : Option α) : ck c k = k := if_pos h
theorem bnd_some {α β : Type} {m : Option α} {k : α → Option β} {r : β} (h : bnd m k = some r) : ∃ a, m = some a ∧ k a = some r := by
  unfold bnd at h
  split at h
  · exact ⟨_, rfl, h⟩
  · cases h
theorem bnd_eq {α β : Type} {m : Option α} {a : α} (h : m = some a) (k : α → Option β) : bnd m k = k a := by rw [h]; rfl
@[simp] theorem bnd_ok {α β : Type} (a : α) (k : α → Option β) : bnd (some a) k = k a := rfl

/-- What a round of a loop does: it goes on, it leaves the loop, it returns. -/
inductive LR (S E R : Type) where
  | next (s : S)
  | done (e : E)
  | ret (r : R)

def lk {E R β : Type} (o : E ⊕ R) (k1 : E → β) (k2 : R → β) : β := match o with | .inl e => k1 e | .inr r => k2 r
@[simp] theorem lk_inl {E R β : Type} (e : E) (k1 : E → β) (k2 : R → β) : lk (.inl e) k1 k2 = k1 e := rfl
@[simp] theorem lk_inr {E R β : Type} (e : R) (k1 : E → β) (k2 : R → β) : lk (.inr e) k1 k2 = k2 e := rfl

def lr {S E R : Type} (x : LR S E R) (k : S → Option (E ⊕ R)) : Option (E ⊕ R) :=
  match x with
  | .next s => k s
  | .done e => some (.inl e)
  | .ret r => some (.inr r)

def iter {S E R : Type} (step : S → Option (LR S E R)) (n : Nat) : S → Option (E ⊕ R) :=
  Nat.rec (motive := fun _ => S → Option (E ⊕ R)) (fun _ => none) (fun _ ih s => bnd (step s) fun x => lr x ih) n

theorem iter_zero {S E R : Type} (step : S → Option (LR S E R)) (s : S) : iter step 0 s = none := rfl
theorem iter_succ {S E R : Type} (step : S → Option (LR S E R)) (n : Nat) (s : S) : iter step (n + 1) s = bnd (step s) fun x => lr x (iter step n) := rfl

/-- Rounds that a loop may take. -/
def many : Nat := 36893488147419103232

def loopM {S E R : Type} (step : S → Option (LR S E R)) (s : S) : Option (E ⊕ R) := iter step many s

theorem iter_mono {S E R : Type} {step : S → Option (LR S E R)} {o : E ⊕ R} : ∀ {n m : Nat} {s : S}, iter step n s = some o → n ≤ m → iter step m s = some o := by
  intro n
  induction n with
  | zero => intro m s h _; cases h
  | succ n ih =>
    intro m s h hm
    obtain ⟨m, rfl⟩ : ∃ k, m = k + 1 := ⟨m - 1, by omega⟩
    rw [iter_succ] at h ⊢
    obtain ⟨x, hx, h⟩ := bnd_some h
    rw [bnd_eq hx]
    cases x with
    | next s' => exact ih h (by omega)
    | done e => exact h
    | ret r => exact h

/-- A loop with an invariant and a measure leaves as is said. -/
theorem iter_inv {S E R : Type} {step : S → Option (LR S E R)} (Inv : S → Prop) (μ : S → Nat) (post : E ⊕ R → Prop)
    (h : ∀ s, Inv s → ∃ x, step s = some x ∧ match x with | .next s' => Inv s' ∧ μ s' < μ s | .done e => post (.inl e) | .ret r => post (.inr r)) :
    ∀ (n : Nat) (s : S), Inv s → μ s < n → ∃ o, iter step n s = some o ∧ post o := by
  intro n
  induction n with
  | zero => intro s _ h; omega
  | succ n ih =>
    intro s hs hn
    obtain ⟨x, hx, hp⟩ := h s hs
    rw [iter_succ, bnd_eq hx]
    cases x with
    | next s' => exact ih s' hp.1 (by omega)
    | done e => exact ⟨_, rfl, hp⟩
    | ret r => exact ⟨_, rfl, hp⟩

theorem loop_inv {S E R : Type} {step : S → Option (LR S E R)} (Inv : S → Prop) (μ : S → Nat) (post : E ⊕ R → Prop) (s : S) (hs : Inv s) (hμ : μ s < many)
    (h : ∀ s, Inv s → ∃ x, step s = some x ∧ match x with | .next s' => Inv s' ∧ μ s' < μ s | .done e => post (.inl e) | .ret r => post (.inr r)) :
    ∃ o, loopM step s = some o ∧ post o := iter_inv Inv μ post h many s hs hμ

/-- A loop that counts: the state in round i is known. -/
theorem loop_count {S E R : Type} {step : S → Option (LR S E R)} (st : Nat → S) (n : Nat) (hn : n < many) (o : E ⊕ R) (h : ∀ i, i < n → step (st i) = some (.next (st (i + 1)))) (hl : step (st n) = some (match o with | .inl e => .done e | .inr r => .ret r)) :
    loopM step (st 0) = some o := by
  have key : ∀ k i, i + k = n → iter step (k + 1) (st i) = some o := by
    intro k
    induction k with
    | zero =>
      intro i hi
      obtain rfl : i = n := by omega
      rw [iter_succ, bnd_eq hl]
      cases o <;> rfl
    | succ k ih =>
      intro i hi
      rw [iter_succ, bnd_eq (h i (by omega))]
      exact ih (i + 1) (by omega)
  exact iter_mono (key n 0 (by omega)) (by omega)

/-- As loop_count; the state is left early, in round n. -/
theorem loop_first {S E R : Type} {step : S → Option (LR S E R)} (st : Nat → S) (n : Nat) (hn : n < many) (x : LR S E R) (o : E ⊕ R) (ho : lr x (fun _ => none) = some o) (h : ∀ i, i < n → step (st i) = some (.next (st (i + 1)))) (hl : step (st n) = some x) :
    loopM step (st 0) = some o := by
  refine loop_count st n hn o h ?_
  rw [hl]
  cases x with
  | next s => cases ho
  | done e => cases ho; rfl
  | ret r => cases ho; rfl

end Go.M
