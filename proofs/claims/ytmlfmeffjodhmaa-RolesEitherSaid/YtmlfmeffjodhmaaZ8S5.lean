/-
  Roles: people and sets of tasks (Hall).
-/
import Derived.Test.YtmlfmeffjodhmaaZ8S4
set_option linter.all false
namespace Go.Proofs.Ytmlfmeffjodhmaa
open Go.K Go.M
theorem nodup_sub : ∀ (l m : List Nat), l.Nodup → (∀ x ∈ l, x ∈ m) → l.length ≤ m.length
  | [], _, _, _ => by simp
  | a :: l, m, hn, hs => by
    obtain ⟨h1, h2⟩ := List.nodup_cons.1 hn
    have ha : a ∈ m := hs a List.mem_cons_self
    have ih := nodup_sub l (m.erase a) h2 (fun x hx => (List.mem_erase_of_ne (fun e => h1 (by rw [← e]; exact hx))).2 (hs x (List.mem_cons_of_mem _ hx)))
    rw [List.length_erase_of_mem ha] at ih
    have : 0 < m.length := List.length_pos_of_mem ha
    simp only [List.length_cons]
    omega
theorem nodup_map {f : Nat → Nat} : ∀ (l : List Nat), l.Nodup → (∀ x ∈ l, ∀ y ∈ l, f x = f y → x = y) → (l.map f).Nodup
  | [], _, _ => by simp
  | a :: l, hn, hi => by
    obtain ⟨h1, h2⟩ := List.nodup_cons.1 hn
    rw [List.map_cons, List.nodup_cons]
    refine ⟨fun hm => ?_, nodup_map l h2 fun x hx y hy => hi x (List.mem_cons_of_mem _ hx) y (List.mem_cons_of_mem _ hy)⟩
    obtain ⟨x, hx, e⟩ := List.mem_map.1 hm
    exact h1 (hi a List.mem_cons_self x (List.mem_cons_of_mem _ hx) e.symm ▸ hx)
def cAt (able : List Int) (j k : Nat) : Bool := canB able (j : Int) (k : Int)
def nbr (able : List Int) (P : Nat) (R : List Nat) : List Nat := (List.range P).filter fun k => R.any fun j => cAt able j k
theorem assg_hall {able : List Int} {n : Nat} {task : List (Int × Int)} (h : Assg able n task) (R : List Nat) (hR : R.Nodup) (hn : ∀ j ∈ R, j < n) : R.length ≤ (nbr able 64 R).length := by
  obtain ⟨_, hval, hran⟩ := h
  have key : ∀ j : Nat, ∃ k : Nat, j < n → fI (k : Int) task = some (j : Int) := by
    intro j
    by_cases hj : j < n
    · obtain ⟨k, hk⟩ := hran j (by omega) (by omega)
      refine ⟨k.toNat, fun _ => ?_⟩
      have := (hval k j hk).2.1.1
      rw [show ((k.toNat : Nat) : Int) = k by omega]
      exact hk
    · exact ⟨0, fun h => absurd h hj⟩
  have hφ : ∀ j, j < n → fI ((Classical.choose (key j) : Nat) : Int) task = some (j : Int) := fun j hj => Classical.choose_spec (key j) hj
  have := nodup_sub (R.map fun j => Classical.choose (key j)) (nbr able 64 R) (nodup_map R hR fun x hx y hy e => by
    have h1 := hφ x (hn x hx)
    have h2 := hφ y (hn y hy)
    rw [e, h2] at h1
    simp only [Option.some.injEq] at h1
    omega) (fun k hk => by
    obtain ⟨j, hj, rfl⟩ := List.mem_map.1 hk
    obtain ⟨_, ⟨h1, h2⟩, h3⟩ := hval _ _ (hφ j (hn j hj))
    unfold nbr
    rw [List.mem_filter]
    exact ⟨List.mem_range.2 (by omega), List.any_eq_true.2 ⟨j, hj, h3⟩⟩)
  simpa using this
theorem short_hall {able : List Int} {i : Int} {task : List (Int × Int)} {S : Int → Prop} (h : Short able i task S) : ∃ p : Nat → Bool, (nbr able 64 ((List.range able.length).filter p)).length < ((List.range able.length).filter p).length := by
  classical
  obtain ⟨⟨hi0, hi1⟩, ⟨hinj, hval, _⟩, hN, hS⟩ := h
  let p : Nat → Bool := fun j => decide ((j : Int) = i ∨ ∃ k, S k ∧ fI k task = some (j : Int))
  refine ⟨p, ?_⟩
  have hR : ((List.range able.length).filter p).Nodup := List.Nodup.sublist List.filter_sublist List.nodup_range
  let SL : List Nat := (List.range 64).filter fun k => decide (S (k : Int))
  have hSL : SL.Nodup := List.Nodup.sublist List.filter_sublist List.nodup_range
  have h1 : (nbr able 64 ((List.range able.length).filter p)).length ≤ SL.length := by
    refine nodup_sub _ _ (List.Nodup.sublist List.filter_sublist List.nodup_range) fun k hk => ?_
    unfold nbr at hk
    obtain ⟨hk1, hk2⟩ := List.mem_filter.1 hk
    obtain ⟨j, hj, hc⟩ := List.any_eq_true.1 hk2
    have hk64 := List.mem_range.1 hk1
    refine List.mem_filter.2 ⟨hk1, decide_eq_true ?_⟩
    have hp := of_decide_eq_true (List.mem_filter.1 hj).2
    rcases hp with rfl | ⟨k0, h0, ht⟩
    · exact hN k (by omega) (by omega) hc
    · obtain ⟨_, j', ht', hc'⟩ := hS k0 h0
      rw [ht] at ht'
      cases ht'
      exact hc' k (by omega) (by omega) hc
  have key : ∀ k : Nat, ∃ j : Nat, S (k : Int) → fI (k : Int) task = some (j : Int) := by
    intro k
    by_cases hk : S (k : Int)
    · obtain ⟨_, j, ht, _⟩ := hS k hk
      refine ⟨j.toNat, fun _ => ?_⟩
      rw [show ((j.toNat : Nat) : Int) = j by have := (hval _ _ ht).1.1; omega]
      exact ht
    · exact ⟨0, fun h => absurd h hk⟩
  have hT : ∀ k : Nat, S (k : Int) → fI (k : Int) task = some ((Classical.choose (key k) : Nat) : Int) := fun k hk => Classical.choose_spec (key k) hk
  have h2 : (SL.map fun k => Classical.choose (key k)).length ≤ (((List.range able.length).filter p).erase i.toNat).length := by
    refine nodup_sub _ _ (nodup_map SL hSL fun x hx y hy e => ?_) fun j hj => ?_
    · have a1 := hT x (of_decide_eq_true (List.mem_filter.1 hx).2)
      have a2 := hT y (of_decide_eq_true (List.mem_filter.1 hy).2)
      rw [e] at a1
      have := hinj _ _ _ a1 a2
      omega
    · obtain ⟨k, hk, rfl⟩ := List.mem_map.1 hj
      have hs := of_decide_eq_true (List.mem_filter.1 hk).2
      have a1 := hT k hs
      have a2 := (hval _ _ a1).1
      refine (List.mem_erase_of_ne (by omega)).2 (List.mem_filter.2 ⟨List.mem_range.2 (by omega), decide_eq_true (.inr ⟨k, hs, a1⟩)⟩)
  have hmem : i.toNat ∈ (List.range able.length).filter p := List.mem_filter.2 ⟨List.mem_range.2 (by omega), decide_eq_true (.inl (by omega))⟩
  rw [List.length_erase_of_mem hmem, List.length_map] at h2
  have := List.length_pos_of_mem hmem
  omega
end Go.Proofs.Ytmlfmeffjodhmaa
