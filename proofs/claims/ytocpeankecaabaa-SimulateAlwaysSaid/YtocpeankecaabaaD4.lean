/-
  Comparing, replicating: program and reference agree; SimulateReplicates and SimulateMore return true.
-/
import Derived.Test.YtocpeankecaabaaD3
set_option linter.all false
namespace Go.Proofs.Ytocpeankecaabaa
open Go.Abs Go.T Go.M

theorem serve_ok {l : List Customer} {s : Int} (h : (serveAns l s).2 = 0) : properB l = true ∧ 1 ≤ s ∧ s ≤ 20 ∧ (serveAns l s).1 = (srvG plainF l s.toNat l.length).2 := by
  unfold serveAns at h ⊢
  cases hp : properB l with
  | false => rw [hp] at h; simp at h
  | true =>
    rw [hp, if_neg (show ¬ (true = false) by decide)] at h
    by_cases hs : 1 ≤ s ∧ s ≤ 20
    · exact ⟨rfl, hs.1, hs.2, by rw [if_neg (show ¬ (true = false) by decide), if_pos hs]⟩
    · rw [if_neg hs] at h; simp at h

theorem serve_mem {l : List Customer} {s : Int} (h : (serveAns l s).2 = 0) : l.length ≤ 1000 ∧ (serveAns l s).1.length = l.length ∧ ∀ i, i < l.length → 0 ≤ ((serveAns l s).1.getD i Customer.z).1 ∧ ((serveAns l s).1.getD i Customer.z).1 ≤ 1099511627776 ∧ 0 ≤ ((serveAns l s).1.getD i Customer.z).2.2.1 ∧ ((serveAns l s).1.getD i Customer.z).2.2.1 ≤ 1200000000000000 := by
  obtain ⟨hp, h1, h2, h3⟩ := serve_ok h
  have hl := (properB_at hp).1
  rw [h3]
  refine ⟨hl, srvG_len2 .., fun i hi => ?_⟩
  rw [srvG_at plainF l s.toNat l.length i hi]
  have hb := stp_bound hp (s := s.toNat) (by omega) hi
  obtain ⟨g1, g2, g3, g4, _⟩ := pAt_true ((properB_at hp).2 i hi)
  simp only
  omega

theorem serve_len (l : List Customer) (s : Int) : (serveAns l s).1.length ≤ l.length := by
  unfold serveAns
  split
  · simp
  · split
    · rw [srvG_len2]; exact Nat.le_refl _
    · simp

def diffs (x y : List Customer) (n : Nat) : List Int := (List.range n).map (fun i => (x.getD i Customer.z).2.2.1 - (y.getD i Customer.z).2.2.1)
theorem diffs_len (x y : List Customer) (n : Nat) : (diffs x y n).length = n := by simp [diffs]
theorem diffs_succ (x y : List Customer) (n : Nat) : diffs x y (n + 1) = diffs x y n ++ [(x.getD n Customer.z).2.2.1 - (y.getD n Customer.z).2.2.1] := by simp [diffs, List.range_succ]

def cmpAns (l : List Customer) (a b : Int) : List Int × Int :=
  if (serveAns l a).2 ≠ 0 then ([], (serveAns l a).2) else if (serveAns l b).2 ≠ 0 then ([], (serveAns l b).2) else (diffs (serveAns l a).1 (serveAns l b).1 l.length, 0)

theorem compare_eq (l : List Customer) (a b : Int) (hl : l.length ≤ 9223372036854775807) : simulate_Compare l a b = some (cmpAns l a b) ∧ ref53_Compare l a b = some (cmpAns l a b) := by
  obtain ⟨a1, a2⟩ := serve_eq l a hl
  obtain ⟨b1, b2⟩ := serve_eq l b hl
  unfold simulate_Compare ref53_Compare cmpAns
  rw [a1, a2, b1, b2]
  by_cases ha : (serveAns l a).2 = 0
  · rw [if_neg (fun h => h ha)]
    by_cases hb : (serveAns l b).2 = 0
    · rw [if_neg (fun h => h hb)]
      obtain ⟨m1, m2, m3⟩ := serve_mem ha
      obtain ⟨_, n2, n3⟩ := serve_mem hb
      generalize hx0 : (serveAns l a).1 = x at *
      generalize hy0 : (serveAns l b).1 = y at *
      have hl1 : simulate_CompareL0 x y (x.length : Int) (0, []) = some (.inl (diffs x y l.length)) := by
        refine loop_to (fun i : Nat => ((i : Int), diffs x y i)) l.length (many_of (by omega)) _ (fun i hi => ?_) ?_ _ rfl
        · have hx := m3 i hi
          have hy := n3 i hi
          have hd := diffs_len x y i
          have hroom : ((diffs x y i).length + 1) * 8 ≤ 140737488355328 := by omega
          simp (disch := omega) only [simulate_CompareL0K, diffs_succ, ckB_ix, ckB_inR, ckB_room, ckB_cut, ckB_mk, ckB_ne, bif_lt, bif_nlt, bif_le, bif_nle, bif_eq, bif_neq, bif_ne, bif_nne, bif_not, bif_true', bif_false', bnd_ok, lk_inl, lk_inr, Int.toNat_natCast]
          rw [cast_succ]
        · simp (disch := omega) only [simulate_CompareL0K, ckB_ix, ckB_inR, ckB_room, ckB_cut, ckB_mk, ckB_ne, bif_lt, bif_nlt, bif_le, bif_nle, bif_eq, bif_neq, bif_ne, bif_nne, bif_not, bif_true', bif_false', bnd_ok, lk_inl, lk_inr, Int.toNat_natCast]
      have hl2 : ref53_CompareL0 l x y (0, []) = some (.inl (diffs x y l.length)) := by
        refine loop_to (fun i : Nat => ((i : Int), diffs x y i)) l.length (many_of (by omega)) _ (fun i hi => ?_) ?_ _ rfl
        · have hx := m3 i hi
          have hy := n3 i hi
          have hd := diffs_len x y i
          have hroom : ((diffs x y i).length + 1) * 8 ≤ 140737488355328 := by omega
          simp (disch := omega) only [ref53_CompareL0K, diffs_succ, ckB_ix, ckB_inR, ckB_room, ckB_cut, ckB_mk, ckB_ne, bif_lt, bif_nlt, bif_le, bif_nle, bif_eq, bif_neq, bif_ne, bif_nne, bif_not, bif_true', bif_false', bnd_ok, lk_inl, lk_inr, Int.toNat_natCast]
          rw [cast_succ]
        · simp (disch := omega) only [ref53_CompareL0K, ckB_ix, ckB_inR, ckB_room, ckB_cut, ckB_mk, ckB_ne, bif_lt, bif_nlt, bif_le, bif_nle, bif_eq, bif_neq, bif_ne, bif_nne, bif_not, bif_true', bif_false', bnd_ok, lk_inl, lk_inr, Int.toNat_natCast]
      constructor
      · simp (disch := omega) only [hx0, hy0, hl1, ckB_ix, ckB_inR, ckB_room, ckB_cut, ckB_mk, ckB_ne, bif_lt, bif_nlt, bif_le, bif_nle, bif_eq, bif_neq, bif_ne, bif_nne, bif_not, bif_true', bif_false', bnd_ok, lk_inl, lk_inr, Int.toNat_natCast]
      · simp (disch := omega) only [hx0, hy0, hl2, ckB_ix, ckB_inR, ckB_room, ckB_cut, ckB_mk, ckB_ne, bif_lt, bif_nlt, bif_le, bif_nle, bif_eq, bif_neq, bif_ne, bif_nne, bif_not, bif_true', bif_false', bnd_ok, lk_inl, lk_inr, Int.toNat_natCast]
    · rw [if_pos hb]
      constructor
      · simp (disch := omega) only [ckB_ix, ckB_inR, ckB_room, ckB_cut, ckB_mk, ckB_ne, bif_lt, bif_nlt, bif_le, bif_nle, bif_eq, bif_neq, bif_ne, bif_nne, bif_not, bif_true', bif_false', bnd_ok, lk_inl, lk_inr, Int.toNat_natCast]
      · simp (disch := omega) only [ckB_ix, ckB_inR, ckB_room, ckB_cut, ckB_mk, ckB_ne, bif_lt, bif_nlt, bif_le, bif_nle, bif_eq, bif_neq, bif_ne, bif_nne, bif_not, bif_true', bif_false', bnd_ok, lk_inl, lk_inr, Int.toNat_natCast]
  · rw [if_pos ha]
    constructor
    · simp (disch := omega) only [ckB_ix, ckB_inR, ckB_room, ckB_cut, ckB_mk, ckB_ne, bif_lt, bif_nlt, bif_le, bif_nle, bif_eq, bif_neq, bif_ne, bif_nne, bif_not, bif_true', bif_false', bnd_ok, lk_inl, lk_inr, Int.toNat_natCast]
    · simp (disch := omega) only [ckB_ix, ckB_inR, ckB_room, ckB_cut, ckB_mk, ckB_ne, bif_lt, bif_nlt, bif_le, bif_nle, bif_eq, bif_neq, bif_ne, bif_nne, bif_not, bif_true', bif_false', bnd_ok, lk_inl, lk_inr, Int.toNat_natCast]

theorem cmp_len (l : List Customer) (a b : Int) : (cmpAns l a b).1.length ≤ l.length := by
  unfold cmpAns
  split
  · simp
  · split
    · simp
    · rw [diffs_len]; exact Nat.le_refl _

theorem equal_self (x : List Int) (hx : x.length ≤ 9223372036854775807) : slices_Equal_int_int x x = some true := by
  unfold slices_Equal_int_int
  have hloop : slices_Equal_int_intL0 x x (x.length : Int) 0 = some (.inl ()) := by
    refine loop_to (fun i : Nat => (i : Int)) x.length (many_of hx) () (fun i hi => ?_) ?_ _ rfl
    · simp (disch := omega) only [slices_Equal_int_intL0K, ckB_ix, ckB_inR, ckB_room, ckB_cut, ckB_mk, ckB_ne, bif_lt, bif_nlt, bif_le, bif_nle, bif_eq, bif_neq, bif_ne, bif_nne, bif_not, bif_true', bif_false', bnd_ok, lk_inl, lk_inr, Int.toNat_natCast]
      rw [cast_succ]
      rfl
    · simp (disch := omega) only [slices_Equal_int_intL0K, ckB_ix, ckB_inR, ckB_room, ckB_cut, ckB_mk, ckB_ne, bif_lt, bif_nlt, bif_le, bif_nle, bif_eq, bif_neq, bif_ne, bif_nne, bif_not, bif_true', bif_false', bnd_ok, lk_inl, lk_inr, Int.toNat_natCast]
  rw [hloop]
  simp

theorem equalC_self (x : List Customer) (hx : x.length ≤ 9223372036854775807) : slices_Equal_api_Customer_api_Customer x x = some true := by
  unfold slices_Equal_api_Customer_api_Customer
  have hloop : slices_Equal_api_Customer_api_CustomerL0 x x (x.length : Int) 0 = some (.inl ()) := by
    refine loop_to (fun i : Nat => (i : Int)) x.length (many_of hx) () (fun i hi => ?_) ?_ _ rfl
    · simp only [slices_Equal_api_Customer_api_CustomerL0K, decide_true, Bool.and_self]
      simp (disch := omega) only [Bool.not_true, ckB_ix, ckB_inR, ckB_room, ckB_cut, ckB_mk, ckB_ne, bif_lt, bif_nlt, bif_le, bif_nle, bif_eq, bif_neq, bif_ne, bif_nne, bif_not, bif_true', bif_false', bnd_ok, lk_inl, lk_inr, Int.toNat_natCast]
      rw [cast_succ]
    · simp (disch := omega) only [slices_Equal_api_Customer_api_CustomerL0K, ckB_ix, ckB_inR, ckB_room, ckB_cut, ckB_mk, ckB_ne, bif_lt, bif_nlt, bif_le, bif_nle, bif_eq, bif_neq, bif_ne, bif_nne, bif_not, bif_true', bif_false', bnd_ok, lk_inl, lk_inr, Int.toNat_natCast]
  rw [hloop]
  simp

/-! ### Replicating -/

def waitF (c : Customer) : Int := c.2.2.1 - c.1

theorem wait_sum {l : List Customer} {s : Int} (h : (serveAns l s).2 = 0) (i : Nat) (hi : i ≤ l.length) : -1200000000000000000 ≤ sumL waitF ((serveAns l s).1.take i) ∧ sumL waitF ((serveAns l s).1.take i) ≤ 1200000000000000000 := by
  obtain ⟨m1, m2, m3⟩ := serve_mem h
  suffices H : -(i * 1200000000000000) ≤ sumL waitF ((serveAns l s).1.take i) ∧ sumL waitF ((serveAns l s).1.take i) ≤ i * 1200000000000000 by omega
  induction i with
  | zero => simp [sumL]
  | succ i ih =>
    have := ih (by omega)
    have hm := m3 i (by omega)
    rw [sumL_take waitF _ i Customer.z (by omega)]
    simp only [waitF] at *
    omega

theorem rep_two (sd : List Int) (a b : Histogram) (servers n : Int) (hsd : sd.length ≤ 100) (ha : a.1.length ≤ 9223372036854775807) (ha' : a.2.1.length ≤ 9223372036854775807) (hb : b.1.length ≤ 9223372036854775807) (hb' : b.2.1.length ≤ 9223372036854775807) :
    ∃ o, simulate_ReplicateL0 servers n sd (sd.length : Int) a.1 a.2.1 b.1 b.2.1 (0, []) = some o ∧ ref53_ReplicateL0 servers n sd a.1 a.2.1 b.1 b.2.1 (0, []) = some o ∧
      (match o with | .inl x => x.length ≤ 100 ∧ ∀ y ∈ x, y.length ≤ 1000 | .inr r => r.1 = []) := by
  refine loop_two (step := fun x => simulate_ReplicateL0K servers n sd (sd.length : Int) a.1 a.2.1 b.1 b.2.1 x.1 x.2 (fun a' => some (.next a')) (fun e => some (.done e)) (fun r => some (.ret r)))
    (step' := fun x => ref53_ReplicateL0K servers n sd a.1 a.2.1 b.1 b.2.1 x.1 x.2 (fun a' => some (.next a')) (fun e => some (.done e)) (fun r => some (.ret r)))
    (fun x => ∃ i : Nat, x.1 = i ∧ i ≤ sd.length ∧ x.2.length = i ∧ ∀ y ∈ x.2, y.length ≤ 1000) (fun x => sd.length - x.1.toNat) (fun o => match o with | .inl x => x.length ≤ 100 ∧ ∀ y ∈ x, y.length ≤ 1000 | .inr r => r.1 = []) (0, []) ⟨0, rfl, Nat.zero_le _, rfl, by simp⟩ (many_of (by omega)) ?_
  rintro ⟨_, acc⟩ ⟨i, rfl, hi, hlen, hy⟩
  simp only at hlen hy
  by_cases hlt : i < sd.length
  · obtain ⟨c1, c2⟩ := customers_eq a b (sd.getD i 0) n ha ha' hb hb'
    have c1' : simulate_Customers (a.1, a.2.1, ()) (b.1, b.2.1, ()) (sd.getD i 0) n = _ := c1
    have c2' : ref53_Customers (a.1, a.2.1, ()) (b.1, b.2.1, ()) (sd.getD i 0) n = _ := c2
    have hc := custAns_len a b (sd.getD i 0) n
    generalize custAns a b (sd.getD i 0) n = q at *
    by_cases hq : q.2 = 0
    · refine ⟨.next ((i : Int) + 1, acc ++ [q.1]), ?_, ?_, ⟨i + 1, by simp, hlt, by simp [hlen], ?_⟩, by simp only [Int.toNat_natCast]; omega⟩
      · simp (disch := omega) only [simulate_ReplicateL0K, c1', ckB_ix, ckB_inR, ckB_room, ckB_cut, ckB_mk, ckB_ne, bif_lt, bif_nlt, bif_le, bif_nle, bif_eq, bif_neq, bif_ne, bif_nne, bif_not, bif_true', bif_false', bnd_ok, lk_inl, lk_inr, Int.toNat_natCast]
      · simp (disch := omega) only [ref53_ReplicateL0K, c2', ckB_ix, ckB_inR, ckB_room, ckB_cut, ckB_mk, ckB_ne, bif_lt, bif_nlt, bif_le, bif_nle, bif_eq, bif_neq, bif_ne, bif_nne, bif_not, bif_true', bif_false', bnd_ok, lk_inl, lk_inr, Int.toNat_natCast]
      · intro y hy'
        simp only [List.mem_append, List.mem_singleton] at hy'
        rcases hy' with h | h
        · exact hy y h
        · subst h; exact hc
    · refine ⟨.ret ([], q.2), ?_, ?_, rfl⟩
      · simp (disch := omega) only [simulate_ReplicateL0K, c1', ckB_ix, ckB_inR, ckB_room, ckB_cut, ckB_mk, ckB_ne, bif_lt, bif_nlt, bif_le, bif_nle, bif_eq, bif_neq, bif_ne, bif_nne, bif_not, bif_true', bif_false', bnd_ok, lk_inl, lk_inr, Int.toNat_natCast]
      · simp (disch := omega) only [ref53_ReplicateL0K, c2', ckB_ix, ckB_inR, ckB_room, ckB_cut, ckB_mk, ckB_ne, bif_lt, bif_nlt, bif_le, bif_nle, bif_eq, bif_neq, bif_ne, bif_nne, bif_not, bif_true', bif_false', bnd_ok, lk_inl, lk_inr, Int.toNat_natCast]
  · obtain rfl : i = sd.length := by omega
    refine ⟨.done acc, ?_, ?_, by omega, hy⟩
    · simp (disch := omega) only [simulate_ReplicateL0K, ckB_ix, ckB_inR, ckB_room, ckB_cut, ckB_mk, ckB_ne, bif_lt, bif_nlt, bif_le, bif_nle, bif_eq, bif_neq, bif_ne, bif_nne, bif_not, bif_true', bif_false', bnd_ok, lk_inl, lk_inr, Int.toNat_natCast]
    · simp (disch := omega) only [ref53_ReplicateL0K, ckB_ix, ckB_inR, ckB_room, ckB_cut, ckB_mk, ckB_ne, bif_lt, bif_nlt, bif_le, bif_nle, bif_eq, bif_neq, bif_ne, bif_nne, bif_not, bif_true', bif_false', bnd_ok, lk_inl, lk_inr, Int.toNat_natCast]

theorem rep_two2 (acc : List (List Customer)) (servers : Int) (hac : acc.length ≤ 100) (hal : ∀ y ∈ acc, y.length ≤ 1000) :
    ∃ o, simulate_ReplicateL1 servers (acc.length : Int) acc (0, []) = some o ∧ ref53_ReplicateL1 servers acc (0, []) = some o ∧ (match o with | .inl x => x.length ≤ 100 | .inr r => r.1 = []) := by
  refine loop_two (step := fun x => simulate_ReplicateL1K servers (acc.length : Int) acc x.1 x.2 (fun a' => some (.next a')) (fun e => some (.done e)) (fun r => some (.ret r)))
    (step' := fun x => ref53_ReplicateL1K servers acc x.1 x.2 (fun a' => some (.next a')) (fun e => some (.done e)) (fun r => some (.ret r)))
    (fun x => ∃ i : Nat, x.1 = i ∧ i ≤ acc.length ∧ x.2.length = i) (fun x => acc.length - x.1.toNat) (fun o => match o with | .inl x => x.length ≤ 100 | .inr r => r.1 = []) (0, []) ⟨0, rfl, Nat.zero_le _, rfl⟩ (many_of (by omega)) ?_
  rintro ⟨_, out⟩ ⟨i, rfl, hi, hlen⟩
  simp only at hlen
  by_cases hlt : i < acc.length
  · have hli := hal _ (getD_mem [] hlt)
    obtain ⟨c1, c2⟩ := serve_eq (acc.getD i []) servers (by omega)
    by_cases hq : (serveAns (acc.getD i []) servers).2 = 0
    · obtain ⟨m1, m2, m3⟩ := serve_mem hq
      have hw := wait_sum hq
      generalize serveAns (acc.getD i []) servers = q at *
      have l1 : simulate_ReplicateL2 servers (acc.length : Int) (i : Int) q.1 (q.1.length : Int) out acc (0, 0) = some (.inl (sumL waitF q.1)) := by
        refine loop_to (fun k : Nat => (sumL waitF (q.1.take k), (k : Int))) q.1.length (many_of (by omega)) _ (fun k hk => ?_) ?_ _ rfl
        · have hm := m3 k (by omega)
          have w1 := hw k (by omega)
          have w2 := hw (k + 1) (by omega)
          rw [sumL_take waitF _ k Customer.z (by omega)] at w2 ⊢
          simp only [waitF] at w1 w2 ⊢
          simp (disch := omega) only [simulate_ReplicateL2K, ckB_ix, ckB_inR, ckB_room, ckB_cut, ckB_mk, ckB_ne, bif_lt, bif_nlt, bif_le, bif_nle, bif_eq, bif_neq, bif_ne, bif_nne, bif_not, bif_true', bif_false', bnd_ok, lk_inl, lk_inr, Int.toNat_natCast]
          rw [cast_succ]
        · simp (disch := omega) only [simulate_ReplicateL2K, List.take_length, ckB_ix, ckB_inR, ckB_room, ckB_cut, ckB_mk, ckB_ne, bif_lt, bif_nlt, bif_le, bif_nle, bif_eq, bif_neq, bif_ne, bif_nne, bif_not, bif_true', bif_false', bnd_ok, lk_inl, lk_inr, Int.toNat_natCast]
      have l2 : ref53_ReplicateL2 servers (i : Int) q.1 acc out (0, 0) = some (.inl (sumL waitF q.1)) := by
        refine loop_to (fun k : Nat => (sumL waitF (q.1.take k), (k : Int))) q.1.length (many_of (by omega)) _ (fun k hk => ?_) ?_ _ rfl
        · have hm := m3 k (by omega)
          have w1 := hw k (by omega)
          have w2 := hw (k + 1) (by omega)
          rw [sumL_take waitF _ k Customer.z (by omega)] at w2 ⊢
          simp only [waitF] at w1 w2 ⊢
          simp (disch := omega) only [ref53_ReplicateL2K, ckB_ix, ckB_inR, ckB_room, ckB_cut, ckB_mk, ckB_ne, bif_lt, bif_nlt, bif_le, bif_nle, bif_eq, bif_neq, bif_ne, bif_nne, bif_not, bif_true', bif_false', bnd_ok, lk_inl, lk_inr, Int.toNat_natCast]
          rw [cast_succ, Int.add_sub_assoc]
        · simp (disch := omega) only [ref53_ReplicateL2K, List.take_length, ckB_ix, ckB_inR, ckB_room, ckB_cut, ckB_mk, ckB_ne, bif_lt, bif_nlt, bif_le, bif_nle, bif_eq, bif_neq, bif_ne, bif_nne, bif_not, bif_true', bif_false', bnd_ok, lk_inl, lk_inr, Int.toNat_natCast]
      refine ⟨.next ((i : Int) + 1, out ++ [sumL waitF q.1]), ?_, ?_, ⟨i + 1, by simp, hlt, by simp [hlen]⟩, by simp only [Int.toNat_natCast]; omega⟩
      · simp (disch := omega) only [simulate_ReplicateL1K, c1, l1, ckB_ix, ckB_inR, ckB_room, ckB_cut, ckB_mk, ckB_ne, bif_lt, bif_nlt, bif_le, bif_nle, bif_eq, bif_neq, bif_ne, bif_nne, bif_not, bif_true', bif_false', bnd_ok, lk_inl, lk_inr, Int.toNat_natCast]
      · simp (disch := omega) only [ref53_ReplicateL1K, c2, l2, ckB_ix, ckB_inR, ckB_room, ckB_cut, ckB_mk, ckB_ne, bif_lt, bif_nlt, bif_le, bif_nle, bif_eq, bif_neq, bif_ne, bif_nne, bif_not, bif_true', bif_false', bnd_ok, lk_inl, lk_inr, Int.toNat_natCast]
    · refine ⟨.ret ([], (serveAns (acc.getD i []) servers).2), ?_, ?_, rfl⟩
      · simp (disch := omega) only [simulate_ReplicateL1K, c1, ckB_ix, ckB_inR, ckB_room, ckB_cut, ckB_mk, ckB_ne, bif_lt, bif_nlt, bif_le, bif_nle, bif_eq, bif_neq, bif_ne, bif_nne, bif_not, bif_true', bif_false', bnd_ok, lk_inl, lk_inr, Int.toNat_natCast]
      · simp (disch := omega) only [ref53_ReplicateL1K, c2, ckB_ix, ckB_inR, ckB_room, ckB_cut, ckB_mk, ckB_ne, bif_lt, bif_nlt, bif_le, bif_nle, bif_eq, bif_neq, bif_ne, bif_nne, bif_not, bif_true', bif_false', bnd_ok, lk_inl, lk_inr, Int.toNat_natCast]
  · obtain rfl : i = acc.length := by omega
    refine ⟨.done out, ?_, ?_, by simp only; omega⟩
    · simp (disch := omega) only [simulate_ReplicateL1K, ckB_ix, ckB_inR, ckB_room, ckB_cut, ckB_mk, ckB_ne, bif_lt, bif_nlt, bif_le, bif_nle, bif_eq, bif_neq, bif_ne, bif_nne, bif_not, bif_true', bif_false', bnd_ok, lk_inl, lk_inr, Int.toNat_natCast]
    · simp (disch := omega) only [ref53_ReplicateL1K, ckB_ix, ckB_inR, ckB_room, ckB_cut, ckB_mk, ckB_ne, bif_lt, bif_nlt, bif_le, bif_nle, bif_eq, bif_neq, bif_ne, bif_nne, bif_not, bif_true', bif_false', bnd_ok, lk_inl, lk_inr, Int.toNat_natCast]

theorem replicate_same (sd : List Int) (a b : Histogram) (servers n : Int) (ha : a.1.length ≤ 9223372036854775807) (ha' : a.2.1.length ≤ 9223372036854775807) (hb : b.1.length ≤ 9223372036854775807) (hb' : b.2.1.length ≤ 9223372036854775807) :
    ∃ x, simulate_Replicate a b servers n sd = some x ∧ ref53_Replicate a b servers n sd = some x ∧ x.1.length ≤ 100 := by
  unfold simulate_Replicate ref53_Replicate
  by_cases h : 100 < sd.length
  · exact ⟨([], 5), by simp (disch := omega) only [ckB_ix, ckB_inR, ckB_room, ckB_cut, ckB_mk, ckB_ne, bif_lt, bif_nlt, bif_le, bif_nle, bif_eq, bif_neq, bif_ne, bif_nne, bif_not, bif_true', bif_false', bnd_ok, lk_inl, lk_inr, Int.toNat_natCast], by simp (disch := omega) only [ckB_ix, ckB_inR, ckB_room, ckB_cut, ckB_mk, ckB_ne, bif_lt, bif_nlt, bif_le, bif_nle, bif_eq, bif_neq, bif_ne, bif_nne, bif_not, bif_true', bif_false', bnd_ok, lk_inl, lk_inr, Int.toNat_natCast], by simp⟩
  · obtain ⟨o, h1, h2, h3⟩ := rep_two sd a b servers n (by omega) ha ha' hb hb'
    cases o with
    | inr r => exact ⟨r, by simp (disch := omega) only [h1, ckB_ix, ckB_inR, ckB_room, ckB_cut, ckB_mk, ckB_ne, bif_lt, bif_nlt, bif_le, bif_nle, bif_eq, bif_neq, bif_ne, bif_nne, bif_not, bif_true', bif_false', bnd_ok, lk_inl, lk_inr, Int.toNat_natCast], by simp (disch := omega) only [h2, ckB_ix, ckB_inR, ckB_room, ckB_cut, ckB_mk, ckB_ne, bif_lt, bif_nlt, bif_le, bif_nle, bif_eq, bif_neq, bif_ne, bif_nne, bif_not, bif_true', bif_false', bnd_ok, lk_inl, lk_inr, Int.toNat_natCast], by simp only at h3; rw [h3]; simp⟩
    | inl x =>
      obtain ⟨o, g1, g2, g3⟩ := rep_two2 x servers h3.1 h3.2
      cases o with
      | inr r => exact ⟨r, by simp (disch := omega) only [h1, g1, ckB_ix, ckB_inR, ckB_room, ckB_cut, ckB_mk, ckB_ne, bif_lt, bif_nlt, bif_le, bif_nle, bif_eq, bif_neq, bif_ne, bif_nne, bif_not, bif_true', bif_false', bnd_ok, lk_inl, lk_inr, Int.toNat_natCast], by simp (disch := omega) only [h2, g2, ckB_ix, ckB_inR, ckB_room, ckB_cut, ckB_mk, ckB_ne, bif_lt, bif_nlt, bif_le, bif_nle, bif_eq, bif_neq, bif_ne, bif_nne, bif_not, bif_true', bif_false', bnd_ok, lk_inl, lk_inr, Int.toNat_natCast], by simp only at g3; rw [g3]; simp⟩
      | inl y => exact ⟨(y, 0), by simp (disch := omega) only [h1, g1, ckB_ix, ckB_inR, ckB_room, ckB_cut, ckB_mk, ckB_ne, bif_lt, bif_nlt, bif_le, bif_nle, bif_eq, bif_neq, bif_ne, bif_nne, bif_not, bif_true', bif_false', bnd_ok, lk_inl, lk_inr, Int.toNat_natCast], by simp (disch := omega) only [h2, g2, ckB_ix, ckB_inR, ckB_room, ckB_cut, ckB_mk, ckB_ne, bif_lt, bif_nlt, bif_le, bif_nle, bif_eq, bif_neq, bif_ne, bif_nne, bif_not, bif_true', bif_false', bnd_ok, lk_inl, lk_inr, Int.toNat_natCast], g3⟩

theorem many_def (l : List Customer) : ∃ w, law53_many l = some w := by
  unfold law53_many
  cases decide ((60 : Int) < (l.length : Int)) <;> cases decide ((l.length : Int) ≤ 1000) <;> exact ⟨_, rfl⟩

theorem replicates_true (l : List Customer) (a b : Histogram) (s1 s2 n : Int) (sd : List Int) (hl : l.length ≤ 9223372036854775807) (ha : a.1.length ≤ 9223372036854775807) (ha' : a.2.1.length ≤ 9223372036854775807) (hb : b.1.length ≤ 9223372036854775807) (hb' : b.2.1.length ≤ 9223372036854775807) :
    law53_SimulateReplicates (l, a, b, s1, s2, n, sd, ()) = some true := by
  unfold law53_SimulateReplicates
  rw [awake_true]
  obtain ⟨w, hw⟩ := many_def l
  obtain ⟨w1, hw1⟩ := wide_def a
  obtain ⟨w2, hw2⟩ := wide_def b
  obtain ⟨h1, h2⟩ := compare_eq l s1 s2 hl
  obtain ⟨x, g1, g2, g3⟩ := replicate_same sd a b s1 n ha ha' hb hb'
  have e1 := equal_self (cmpAns l s1 s2).1 (by have := cmp_len l s1 s2; omega)
  have e2 := equal_self x.1 (by omega)
  simp only [bnd_ok, hw, hw1, hw2, h1, h2, g1, g2, e1, e2, decide_true, bif_true', bif_not]
  cases w <;> cases w1 <;> cases w2 <;> cases decide ((60 : Int) < n) <;> cases decide (n ≤ 1000) <;> cases decide ((12 : Int) < sd.length) <;> cases decide ((sd.length : Int) ≤ 100) <;> cases decide ((300 : Int) < sd.length) <;> rfl

end Go.Proofs.Ytocpeankecaabaa
