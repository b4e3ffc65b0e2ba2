/-
  Roles: sets of tasks as bits.
-/
import Derived.Test.YtmlfmeffjodhmaaZ7S9
set_option linter.all false
namespace Go.Proofs.Ytmlfmeffjodhmaa
open Go.K Go.M
theorem bestN_ne (bad : Nat → Bool) : ∀ M, M < 4096 → (bestN bad M ≠ [] ↔ ∃ s, 1 ≤ s ∧ s ≤ M ∧ bad s = true)
  | 0, _ => ⟨fun h => absurd rfl h, fun ⟨s, h1, h2, _⟩ => by omega⟩
  | m + 1, h => by
    have ih := bestN_ne bad m (by omega)
    have hne : ints (elems (m + 1) 12) ≠ [] := fun e => elems_ne m h (List.map_eq_nil_iff.1 e)
    rw [bestN]
    split
    · rename_i hc
      exact ⟨fun _ => ⟨m + 1, by omega, Nat.le_refl _, hc.1⟩, fun _ => hne⟩
    · rename_i hc
      constructor
      · intro hb
        obtain ⟨s, h1, h2, h3⟩ := ih.1 hb
        exact ⟨s, h1, by omega, h3⟩
      · rintro ⟨s, h1, h2, h3⟩ e
        rcases Nat.lt_or_ge m s with h4 | h4
        · obtain rfl : s = m + 1 := by omega
          exact hc ⟨h3, .inl e⟩
        · exact ih.2 ⟨s, h1, h4, h3⟩ e
theorem set_of (p : Nat → Bool) : ∀ n, ∃ s, s < 2 ^ n ∧ elems s n = (List.range n).filter p
  | 0 => ⟨0, by simp, rfl⟩
  | n + 1 => by
    obtain ⟨s, h1, h2⟩ := set_of p n
    have hsn : elB s n = false := by
      unfold elB
      rw [Nat.div_eq_of_lt h1]
      rfl
    cases hp : p n with
    | false =>
      refine ⟨s, by rw [Nat.pow_succ]; omega, ?_⟩
      rw [elems_succ, h2, hsn, List.range_succ, List.filter_append]
      simp [hp]
    | true =>
      have hq : 2 ^ n < 2 ^ (n + 1) := Nat.pow_lt_pow_right (by omega) (by omega)
      refine ⟨s ||| 2 ^ n, Nat.or_lt_two_pow (by omega) hq, ?_⟩
      have hb : ∀ k, elB (s ||| 2 ^ n) k = (elB s k || decide (n = k)) := by
        intro k
        rw [elB_or]
        congr 1
        rw [elB_test, Nat.testBit_two_pow]
      have e : elems (s ||| 2 ^ n) n = elems s n := by
        unfold elems
        refine List.filter_congr fun k hk => ?_
        have := List.mem_range.1 hk
        rw [hb, decide_eq_false (by omega), Bool.or_false]
      rw [elems_succ, e, h2, hb, List.range_succ, List.filter_append]
      simp [hp]
theorem cAt_bits (bs : List Nat) (j k : Nat) (hk : k < 64) : cAt (ints bs) j k = elB (bs.getD j 0) k := by
  unfold cAt canB bitOf
  rw [show Int.toNat ((j : Nat) : Int) = j from rfl, ints_at, bit_u64 _ _ hk]
  unfold elB
  have : bs.getD j 0 / 2 ^ k % 2 < 2 := Nat.mod_lt _ (by omega)
  generalize bs.getD j 0 / 2 ^ k % 2 = q at this
  rcases (show q = 0 ∨ q = 1 by omega) with h | h <;> subst h <;> rfl
theorem any_filter (p q : Nat → Bool) : ∀ (l : List Nat), (l.filter p).any q = l.any fun i => p i && q i
  | [] => rfl
  | a :: l => by
    rw [List.filter_cons, List.any_cons, ← any_filter p q l]
    cases h : p a <;> simp
theorem nbr_pc (bs : List Nat) (hbs : ∀ i, bs.getD i 0 < 4096) (s : Nat) : (nbr (ints bs) 64 (elems s bs.length)).length = pc (orN bs s bs.length) := by
  have e : nbr (ints bs) 64 (elems s bs.length) = (List.range 64).filter (elB (orN bs s bs.length)) := by
    unfold nbr
    refine List.filter_congr fun k hk => ?_
    rw [orN_at]
    unfold elems
    rw [any_filter]
    exact any_eq _ fun i _ => by rw [cAt_bits bs i k (List.mem_range.1 hk)]
  rw [e]
  unfold pc elems
  have hlt := orN_lt bs hbs s bs.length
  have := filter_cut (p := elB (orN bs s bs.length)) (n := 12) (fun k hk => by
    unfold elB
    rw [Nat.div_eq_of_lt (Nat.lt_of_lt_of_le hlt (show 2 ^ 12 ≤ 2 ^ k from Nat.pow_le_pow_right (by omega) hk))]
    rfl) 52
  rw [this]
theorem matched_iff (bs : List Nat) (hbs : ∀ i, bs.getD i 0 < 4096) (hn : bs.length ≤ 12) : ∃ b, roles_matched (ints bs) = some (b, ints bs) ∧ (b = true ↔ bestN (badS bs) (2 ^ bs.length - 1) = []) := by
  have hl : (ints bs).length = bs.length := List.length_map _
  have hp := pow12 hn
  have hpos : 0 < 2 ^ bs.length := Nat.two_pow_pos _
  obtain ⟨b, h1, h2, h3⟩ := matched_ok (ints bs) (by omega)
  refine ⟨b, h1, ?_⟩
  have hbest := bestN_ne (badS bs) (2 ^ bs.length - 1) (by omega)
  cases b with
  | true =>
    refine ⟨fun _ => Classical.byContradiction fun hc => ?_, fun _ => rfl⟩
    obtain ⟨s, _, hs, hb⟩ := hbest.1 hc
    obtain ⟨task, ht⟩ := h2 rfl
    rw [hl] at ht
    have := assg_hall ht (elems s bs.length) (List.Nodup.sublist List.filter_sublist List.nodup_range) fun j hj => List.mem_range.1 (List.mem_filter.1 hj).1
    rw [nbr_pc bs hbs s] at this
    have hb := of_decide_eq_true hb
    rw [elems_12 (show s < 2 ^ bs.length by omega) hn] at hb
    omega
  | false =>
    refine ⟨fun h => (by cases h), fun hc => ?_⟩
    obtain ⟨i, task, S, hS⟩ := h3 rfl
    obtain ⟨p, hp2⟩ := short_hall hS
    rw [hl] at hp2
    obtain ⟨s, hs1, hs2⟩ := set_of p bs.length
    rw [← hs2, nbr_pc bs hbs s] at hp2
    refine absurd hc (hbest.2 ⟨s, ?_, by omega, decide_eq_true (by rw [elems_12 hs1 hn]; exact hp2)⟩)
    rcases Nat.eq_zero_or_pos s with h0 | h0
    · subst h0
      have : elems 0 bs.length = [] := by
        unfold elems
        rw [List.filter_eq_nil_iff]
        intro k _
        rw [elB_zero]
        exact Bool.false_ne_true
      rw [this] at hp2
      simp at hp2
    · exact h0
end Go.Proofs.Ytmlfmeffjodhmaa
