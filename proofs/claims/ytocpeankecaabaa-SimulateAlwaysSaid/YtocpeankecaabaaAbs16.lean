/-
  The test of a region that draws its order, in a form that the kernel reckons quickly. No program is named.
-/
import Derived.Test.YtocpeankecaabaaAbs15
set_option linter.all false
namespace Go.Abs
open Go.RowKit

def dN (o : Oper) : Nat := match o.dst with | some d => d + 1 | none => 0
def onN (o : Oper) : List Nat := (o.after.toList.filter (Region.binds .any)).map (·.on)
def usN (ops : List Oper) (o : Oper) : List Nat := (o.op.operands.toList.filterMap fun | .tmp t => some t | _ => none) ++ (match o.guard with | some g => (dstOf ops g.1).toList | none => [])
def memN (k : Nat) : List Nat → Bool
  | [] => false
  | a :: l => bif Nat.beq a k then true else memN k l
def freeN (d : Nat) : List Nat → Bool
  | [] => true
  | a :: l => bif Nat.beq a d then false else freeN d l
def distN : List Nat → Bool
  | [] => true
  | d :: l => bif Nat.beq d 0 then distN l else bif freeN d l then distN l else false
def useN (i : Nat) (on : List Nat) (t : Nat) : Nat → List Oper → Bool
  | _, [] => true
  | k, o :: l => bif Nat.beq (dN o) (t + 1) then (bif (bif Nat.beq i k then true else bif Nat.blt k i then memN k on else memN i (onN o)) then useN i on t (k + 1) l else false) else useN i on t (k + 1) l
def usesN (i : Nat) (on : List Nat) (l : List Oper) : List Nat → Bool
  | [] => true
  | t :: ts => bif useN i on t 0 l then usesN i on l ts else false
def allN (ops l : List Oper) : Nat → List Oper → Bool
  | _, [] => true
  | i, o :: m => bif usesN i (onN o) l (usN ops o) then allN ops l (i + 1) m else false
def lessN (i : Nat) : List Nat → Bool
  | [] => true
  | k :: l => bif Nat.blt k i then lessN i l else false
def backN : Nat → List Oper → Bool
  | _, [] => true
  | i, o :: m => bif lessN i (onN o) then backN (i + 1) m else false
def drawN (ops : List Oper) (n : Nat) : Bool :=
  distN ((ops.take n).map dN) && allN ops (ops.take n) 0 (ops.take n) && backN 0 ops &&
  (List.range' n (ops.length - n)).all (fun i => (List.range i).all fun k => memN k (closeOn ops i (onOf ops i))) && Nat.ble n ops.length

theorem beq_no {a b : Nat} (h : a ≠ b) : Nat.beq a b = false := by
  cases e : Nat.beq a b with
  | false => rfl
  | true => exact absurd (Nat.eq_of_beq_eq_true e) h
theorem memN_iff (k : Nat) : ∀ l, memN k l = true → l.contains k = true
  | [], h => by simp [memN] at h
  | a :: l, h => by
    unfold memN at h
    by_cases hk : a = k
    · subst hk; simp
    · have : Nat.beq a k = false := beq_no hk
      rw [this] at h
      have := memN_iff k l h
      simp at this ⊢
      exact .inr this
theorem freeN_at (d : Nat) : ∀ (l : List Nat), freeN d l = true → ∀ a ∈ l, a ≠ d
  | [], _, a, h => by simp at h
  | b :: l, h, a, ha => by
    unfold freeN at h
    by_cases hk : b = d
    · subst hk; simp at h
    · have e : Nat.beq b d = false := beq_no hk
      rw [e] at h
      rcases List.mem_cons.1 ha with rfl | ha
      · exact hk
      · exact freeN_at d l h a ha
theorem distN_at : ∀ (l : List Nat), distN l = true → ∀ (i k : Nat) d, l[i]? = some d → l[k]? = some d → d ≠ 0 → i = k
  | [], _, i, k, d, h, _, _ => by simp at h
  | a :: l, h, i, k, d, hi, hk, h0 => by
    unfold distN at h
    have key : distN l = true ∧ (a ≠ 0 → freeN a l = true) := by
      by_cases ha : a = 0
      · subst ha; exact ⟨by simpa using h, fun h => absurd rfl h⟩
      · have e : Nat.beq a 0 = false := beq_no ha
        rw [e] at h
        cases hf : freeN a l with
        | false => rw [hf] at h; simp at h
        | true => rw [hf] at h; exact ⟨by simpa using h, fun _ => rfl⟩
    match i, k with
    | 0, 0 => rfl
    | 0, k + 1 =>
      simp at hi hk
      subst hi
      exact absurd rfl (freeN_at a l (key.2 h0) a (List.mem_of_getElem? hk))
    | i + 1, 0 =>
      simp at hi hk
      subst hk
      exact absurd rfl (freeN_at a l (key.2 h0) a (List.mem_of_getElem? hi))
    | i + 1, k + 1 =>
      simp at hi hk
      rw [distN_at l key.1 i k d hi hk h0]
theorem useN_at (i : Nat) (on : List Nat) (t : Nat) : ∀ (l : List Oper) (j : Nat), useN i on t j l = true → ∀ (k : Nat) o, l[k]? = some o → dN o = t + 1 → i = j + k ∨ (if j + k < i then on.contains (j + k) = true else (onN o).contains i = true)
  | [], j, _, k, o, h, _ => by simp at h
  | a :: l, j, h, k, o, hk, hd => by
    unfold useN at h
    match k with
    | 0 =>
      simp at hk
      subst hk
      have e : Nat.beq (dN a) (t + 1) = true := by simpa using hd
      rw [e] at h
      by_cases hij : i = j
      · exact .inl (by omega)
      · right
        have e1 : Nat.beq i j = false := beq_no hij
        rw [e1] at h
        simp only [Nat.add_zero]
        by_cases hlt : j < i
        · rw [if_pos hlt]
          have e2 : Nat.blt j i = true := Nat.ble_eq_true_of_le hlt
          rw [e2] at h
          cases hm : memN j on with
          | true => exact memN_iff _ _ hm
          | false => rw [hm] at h; simp at h
        · rw [if_neg hlt]
          have e2 : Nat.blt j i = false := by
            cases hb : Nat.blt j i with
            | false => rfl
            | true => exact absurd (Nat.le_of_ble_eq_true hb) (by omega)
          rw [e2] at h
          cases hm : memN i (onN a) with
          | true => exact memN_iff _ _ hm
          | false => rw [hm] at h; simp at h
    | k + 1 =>
      simp at hk
      have hrec : useN i on t (j + 1) l = true := by
        cases e : Nat.beq (dN a) (t + 1) with
        | false => rw [e] at h; exact h
        | true =>
          rw [e] at h
          simp only [cond_true] at h
          cases hx : (bif Nat.beq i j then true else bif Nat.blt j i then memN j on else memN i (onN a)) with
          | true => rw [hx] at h; exact h
          | false => rw [hx] at h; cases h
      have := useN_at i on t l (j + 1) hrec k o hk hd
      rwa [show j + (k + 1) = j + 1 + k by omega]
theorem usesN_at (i : Nat) (on : List Nat) (l : List Oper) : ∀ ts, usesN i on l ts = true → ∀ t ∈ ts, useN i on t 0 l = true
  | [], _, t, h => by simp at h
  | s :: ts, h, t, ht => by
    unfold usesN at h
    cases hx : useN i on s 0 l with
    | false => rw [hx] at h; cases h
    | true =>
      rw [hx] at h
      rcases List.mem_cons.1 ht with rfl | ht
      · exact hx
      · exact usesN_at i on l ts h t ht
theorem allN_at (ops l : List Oper) : ∀ (m : List Oper) (j : Nat), allN ops l j m = true → ∀ (i : Nat) o, m[i]? = some o → usesN (j + i) (onN o) l (usN ops o) = true
  | [], j, _, i, o, h => by simp at h
  | a :: m, j, h, i, o, hi => by
    unfold allN at h
    cases hx : usesN j (onN a) l (usN ops a) with
    | false => rw [hx] at h; cases h
    | true =>
      rw [hx] at h
      match i with
      | 0 => simp at hi; subst hi; exact hx
      | i + 1 =>
        have := allN_at ops l m (j + 1) h i o (by simpa using hi)
        rwa [show j + (i + 1) = j + 1 + i by omega]
theorem lessN_at (i : Nat) : ∀ l, lessN i l = true → ∀ k ∈ l, k < i
  | [], _, k, h => by simp at h
  | a :: l, h, k, hk => by
    unfold lessN at h
    cases hx : Nat.blt a i with
    | false => rw [hx] at h; cases h
    | true =>
      rw [hx] at h
      rcases List.mem_cons.1 hk with rfl | hk
      · exact Nat.le_of_ble_eq_true hx
      · exact lessN_at i l h k hk
theorem backN_at : ∀ (m : List Oper) (j : Nat), backN j m = true → ∀ (i : Nat) o, m[i]? = some o → lessN (j + i) (onN o) = true
  | [], j, _, i, o, h => by simp at h
  | a :: m, j, h, i, o, hi => by
    unfold backN at h
    cases hx : lessN j (onN a) with
    | false => rw [hx] at h; cases h
    | true =>
      rw [hx] at h
      match i with
      | 0 => simp at hi; subst hi; exact hx
      | i + 1 =>
        have := backN_at m (j + 1) h i o (by simpa using hi)
        rwa [show j + (i + 1) = j + 1 + i by omega]

theorem drawN_ok {ops : List Oper} {n : Nat} (h : drawN ops n = true) : drawOK ops n = true := by
  unfold drawN at h
  simp only [Bool.and_eq_true] at h
  obtain ⟨⟨⟨⟨h1, h2⟩, h3⟩, h4⟩, h5⟩ := h
  have hn : n ≤ ops.length := Nat.le_of_ble_eq_true h5
  have tk : ∀ i, i < n → (ops.take n)[i]? = ops[i]? := fun i hi => by rw [List.getElem?_take, if_pos hi]
  have dn : ∀ (k : Nat) t, dstOf ops k = some t → ∃ o, ops[k]? = some o ∧ dN o = t + 1 := by
    intro k t hk
    unfold dstOf at hk
    cases ho : ops[k]? with
    | none => rw [ho] at hk; simp at hk
    | some o => rw [ho] at hk; simp at hk; exact ⟨o, rfl, by simp [dN, hk]⟩
  unfold drawOK
  simp only [Bool.and_eq_true, List.all_eq_true, List.mem_range, Bool.or_eq_true, beq_iff_eq, bne_iff_ne, decide_eq_true_eq, Option.isNone_iff_eq_none]
  refine ⟨⟨⟨⟨?_, ?_⟩, ?_⟩, ?_⟩, hn⟩
  · intro i hi k hk
    by_cases hik : i = k
    · exact .inl (.inl hik)
    · cases hd : dstOf ops i with
      | none => exact .inl (.inr rfl)
      | some t =>
        refine .inr fun hc => hik ?_
        obtain ⟨o, ho, ht⟩ := dn i t hd
        obtain ⟨o', ho', ht'⟩ := dn k t hc.symm
        refine distN_at _ h1 i k (t + 1) ?_ ?_ (by omega)
        · rw [List.getElem?_map, tk i hi, ho]; simp [ht]
        · rw [List.getElem?_map, tk k hk, ho']; simp [ht']
  · intro i hi t ht k hk
    by_cases hd : dstOf ops k = some t
    · obtain ⟨o', ho', ht'⟩ := dn k t hd
      have ho : ops[i]? = some ops[i] := List.getElem?_eq_getElem (by omega)
      have hu : t ∈ usN ops ops[i] := by
        unfold usesOf at ht
        rw [ho] at ht
        exact ht
      have := useN_at _ _ _ _ _ (usesN_at _ _ _ _ (allN_at _ _ _ _ h2 i ops[i] (by rw [tk i hi, ho])) t hu) k o' (by rw [tk k hk, ho']) ht'
      simp only [Nat.zero_add] at this
      rcases this with h | h
      · exact .inl (.inr h)
      · right
        have e1 : onOf ops i = onN ops[i] := by unfold onOf; rw [ho]; rfl
        have e2 : onOf ops k = onN o' := by unfold onOf; rw [ho']; rfl
        by_cases hlt : k < i
        · rw [if_pos hlt] at h ⊢; rw [e1]; exact h
        · rw [if_neg hlt] at h ⊢; rw [e2]; exact h
    · exact .inl (.inl hd)
  · intro i hi k hk
    have ho : ops[i]? = some ops[i] := List.getElem?_eq_getElem (by omega)
    have e1 : onOf ops i = onN ops[i] := by unfold onOf; rw [ho]; rfl
    rw [e1] at hk
    have := lessN_at _ _ (backN_at _ _ h3 i ops[i] ho) k hk
    omega
  · intro i hi
    by_cases hin : i < n
    · exact .inl hin
    · right
      intro k hk
      have := List.all_eq_true.1 h4 i (by rw [List.mem_range'_1]; omega)
      exact memN_iff _ _ (List.all_eq_true.1 this k (List.mem_range.2 hk))

end Go.Abs
