/-
  Roles: people as bits and as rows.
-/
import Derived.Test.YtmlfmeffjodhmaaZ8S8
set_option linter.all false
namespace Go.Proofs.Ytmlfmeffjodhmaa
open Go.K Go.M
theorem elB_test (x k : Nat) : elB x k = x.testBit k := by
  unfold elB
  rw [Nat.testBit_eq_decide_div_mod_eq]
  by_cases h : x / 2 ^ k % 2 = 1
  · simp [h]
  · simp [h]
theorem elB_or (a b k : Nat) : elB (a ||| b) k = (elB a k || elB b k) := by
  rw [elB_test, elB_test, elB_test, Nat.testBit_or]
theorem elB_zero (k : Nat) : elB 0 k = false := by
  rw [elB_test, Nat.zero_testBit]
theorem orN_at (bs : List Nat) (s k : Nat) : ∀ n, elB (orN bs s n) k = (List.range n).any fun i => elB s i && elB (bs.getD i 0) k
  | 0 => by rw [orN, elB_zero]; rfl
  | n + 1 => by
    rw [orN, List.range_succ, List.any_append, ← orN_at bs s k n]
    cases h : elB s n with
    | true => simp [elB_or, h]
    | false => simp [h]
def BitRows (bs : List Nat) (rows : List (List Bool)) (P : Nat) : Prop :=
  bs.length = rows.length ∧ ∀ i, i < rows.length → (rows.getD i []).length = P ∧ ∀ k, elB (bs.getD i 0) k = (rows.getD i []).getD k false
theorem filter_cut {p : Nat → Bool} {n : Nat} (h : ∀ k, n ≤ k → p k = false) : ∀ d, (List.range (n + d)).filter p = (List.range n).filter p
  | 0 => rfl
  | d + 1 => by
    rw [show n + (d + 1) = n + d + 1 from rfl, List.range_succ, List.filter_append, filter_cut h d]
    simp [h (n + d) (by omega)]
theorem any_eq {p q : Nat → Bool} : ∀ (l : List Nat), (∀ i ∈ l, p i = q i) → l.any p = l.any q
  | [], _ => rfl
  | a :: l, h => by
    simp only [List.any_cons]
    rw [h a List.mem_cons_self, any_eq l fun i hi => h i (List.mem_cons_of_mem _ hi)]
theorem hits_bits {bs : List Nat} {rows : List (List Bool)} {P : Nat} (h : BitRows bs rows P) (s k : Nat) : elB (orN bs s bs.length) k = hits rows s rows.length k := by
  rw [orN_at, h.1]
  exact any_eq _ fun i hi => by rw [(h.2 i (List.mem_range.1 hi)).2 k]
theorem hits_out {rows : List (List Bool)} {P : Nat} (h : ∀ i, i < rows.length → (rows.getD i []).length = P) (s k : Nat) (hk : P ≤ k) : hits rows s rows.length k = false := by
  unfold hits
  rw [List.any_eq_false]
  intro i hi
  have : (rows.getD i []).getD k false = false := by
    have hl := h i (List.mem_range.1 hi)
    generalize rows.getD i [] = r at hl
    rw [List.getD_eq_getElem?_getD, List.getElem?_eq_none (by omega)]
    rfl
  rw [this]
  simp
theorem pc_cnt {bs : List Nat} {rows : List (List Bool)} {P : Nat} (h : BitRows bs rows P) (hP : P ≤ 12) (s : Nat) : pc (orN bs s bs.length) = cntH rows s rows.length P := by
  unfold pc cntH elems
  have e : (List.range 12).filter (elB (orN bs s bs.length)) = (List.range 12).filter (hits rows s rows.length) := by
    congr 1
    funext k
    exact hits_bits h s k
  rw [e]
  have := filter_cut (p := hits rows s rows.length) (n := P) (fun k hk => hits_out (fun i hi => (h.2 i hi).1) s k hk) (12 - P)
  rw [show P + (12 - P) = 12 by omega] at this
  rw [this]
theorem bad_eq {bs : List Nat} {rows : List (List Bool)} {P : Nat} (h : BitRows bs rows P) (hP : P ≤ 12) : badS bs = badR rows P := by
  funext s
  unfold badS badR
  rw [pc_cnt h hP]
end Go.Proofs.Ytmlfmeffjodhmaa
