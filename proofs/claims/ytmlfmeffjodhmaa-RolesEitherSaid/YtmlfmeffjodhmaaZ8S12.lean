/-
  Roles: Assign and Blocking: the program and the reference.
-/
import Derived.Test.YtmlfmeffjodhmaaZ8S11
set_option linter.all false
namespace Go.Proofs.Ytmlfmeffjodhmaa
open Go.K Go.M
theorem eq_tab {α : Type} {l : List α} (d : α) {n : Nat} {f : Nat → α} (hl : l.length = n) (h : ∀ i, i < n → l.getD i d = f i) : l = tab n f := by
  subst hl
  exact (tab_of l d).trans (tab_congr h)
theorem bit_andNot (f : Nat → Bool) (k n : Nat) (hn : n ≤ 12) (hk : k < 12) : bitI .andNot .u64 ((bitsOf f n : Nat) : Int) ((2 ^ k : Nat) : Int) = ((bitsOf (fun x => f x && !decide (x = k)) n : Nat) : Int) := by
  have e : ∀ m : Nat, BitVec.ofInt 64 (m : Int) = BitVec.ofNat 64 m := by
    intro m
    apply BitVec.eq_of_toNat_eq
    simp [BitVec.toNat_ofInt]
  have h1 := bitsOf_lt f n
  have h2 := bitsOf_lt (fun x => f x && !decide (x = k)) n
  have h3 := pow12 hn
  have key : (BitVec.ofNat 64 (bitsOf f n) &&& ~~~ BitVec.ofNat 64 (2 ^ k)).toNat = bitsOf (fun x => f x && !decide (x = k)) n := by
    apply Nat.eq_of_testBit_eq
    intro j
    rw [← elB_test (bitsOf _ n), elB_bitsOf]
    show (BitVec.getLsbD _ j) = _
    rw [BitVec.getLsbD_and, BitVec.getLsbD_not, BitVec.getLsbD_ofNat, BitVec.getLsbD_ofNat, ← elB_test, elB_bitsOf, Nat.testBit_two_pow]
    by_cases hj : j < 64
    · rw [decide_eq_true hj]
      by_cases hjk : j = k
      · subst hjk; simp
      · rw [decide_eq_false hjk, decide_eq_false (show ¬ k = j from fun h => hjk h.symm)]
        simp
    · rw [decide_eq_false hj, decide_eq_false (show ¬ j < n by omega)]
      simp
  unfold bitI
  simp only []
  rw [show IntKind.u64.bits = 64 from rfl, e, e, key]
  generalize bitsOf _ n = q at h2
  simp [IntKind.wrap, IntKind.bits, IntKind.signed]
  omega
def restG (g : Nat → Nat → Bool) (i k : Nat) : Nat → Nat → Bool := fun j x => g (i + 1 + j) x && !decide (x = k)
def delG (g : Nat → Nat → Bool) (i k : Nat) : Nat → Nat → Bool := fun j x => if i < j then g j x && !decide (x = k) else g j x
def goodK (g : Nat → Nat → Bool) (n P i k : Nat) : Bool := g i k && free (restG g i k) (n - (i + 1)) P
def pick (g : Nat → Nat → Bool) (n P i : Nat) : Option Nat := (List.range P).find? (goodK g n P i)
theorem findSome_if {α β : Type} (c : α → Bool) (F : α → β) : ∀ l : List α, (l.findSome? fun k => if c k = true then some (F k) else none) = (l.find? c).map F
  | [] => rfl
  | a :: l => by
    rw [List.findSome?_cons, List.find?_cons]
    cases h : c a with
    | true => rfl
    | false => exact findSome_if c F l
section
variable (g : Nat → Nat → Bool) (n P i k : Nat) (hn : n ≤ 12) (hP : P ≤ 12) (hi : i < n) (hk : k < P)
include hn hP hi hk
theorem AssignL0_eq (v40 v41 v46 v47 v66 : Int) (v45 o50 : List Person) (o51 : List Delegation) (o52 : List Duty) (can : List Int) (out : List ByteArray) (p0 : ByteArray) (p1 : List ByteArray) (hv : v66 = ((n - (i + 1) : Nat) : Int)) :
    roles_AssignL0 (i : Int) (k : Int) v40 v41 v45 v46 v47 v66 o50 o51 o52 can out p0 p1 (0, tab (n - (i + 1)) fun j => ((bitsOf (g (i + 1 + j)) P : Nat) : Int)) = some (.inl (ints (BS (restG g i k) (n - (i + 1)) P))) := by
  subst hv
  refine loop_to (fun m : Nat => ((m : Int), tab (n - (i + 1)) fun j => if j < m then ((bitsOf (restG g i k j) P : Nat) : Int) else ((bitsOf (g (i + 1 + j)) P : Nat) : Int))) (n - (i + 1)) (many_of (by omega)) _ (fun m hm => ?_) ?_ _ ?_
  · have hlen : (tab (n - (i + 1)) fun j => if j < m then ((bitsOf (restG g i k j) P : Nat) : Int) else ((bitsOf (g (i + 1 + j)) P : Nat) : Int)).length = n - (i + 1) := tab_len _ _
    have hget : (tab (n - (i + 1)) fun j => if j < m then ((bitsOf (restG g i k j) P : Nat) : Int) else ((bitsOf (g (i + 1 + j)) P : Nat) : Int)).getD m 0 = ((bitsOf (g (i + 1 + m)) P : Nat) : Int) := by rw [tab_getD hm, if_neg (by omega)]
    have hsh := shl_u64 (show k < 64 by omega)
    have han := bit_andNot (g (i + 1 + m)) k P hP (by omega)
    simp only [roles_AssignL0K, Int.toNat_natCast, hlen, hget, hsh, han]
    simp (disch := omega) only [ckB_ix, ckB_inR, ckB_room, ckB_cut, ckB_mk, ckB_ne, bif_lt, bif_nlt, bif_le, bif_nle, bif_eq, bif_neq, bif_ne, bif_nne, bif_not, bif_true', bif_false', bnd_ok, lk_inl, lk_inr, Int.toNat_natCast, decide_true]
    rw [cast_succ, tab_set, ckB_pos (decide_eq_true (Int.natCast_nonneg k))]
    congr 3
    refine tab_congr fun j hj => ?_
    by_cases hjm : j = m
    · rw [if_pos hjm, if_pos (by omega), hjm]; rfl
    · rw [if_neg hjm]
      by_cases hlt : j < m
      · rw [if_pos hlt, if_pos (by omega)]
      · rw [if_neg hlt, if_neg (by omega)]
  · simp (disch := omega) only [roles_AssignL0K, ckB_ix, ckB_inR, ckB_room, ckB_cut, ckB_mk, ckB_ne, bif_lt, bif_nlt, bif_le, bif_nle, bif_eq, bif_neq, bif_ne, bif_nne, bif_not, bif_true', bif_false', bnd_ok, lk_inl, lk_inr, Int.toNat_natCast, decide_true]
    rw [ints_tab]
    congr 2
    exact tab_congr fun j hj => if_pos hj
  · refine congrArg (Prod.mk (0 : Int)) ?_
    exact tab_congr fun j hj => (if_neg (by omega)).symm
theorem refAssignL0_eq (o50 : List Person) (o51 : List Delegation) (o52 : List Duty) (out : List ByteArray) :
    ref46_AssignL0 (P : Int) (i : Int) (k : Int) o50 o51 o52 (RW g n P) out (((i + 1 : Nat) : Int), []) = some (.inl (RW (restG g i k) (n - (i + 1)) P)) := by
  refine loop_to (fun m : Nat => (((i + 1 + m : Nat) : Int), RW (restG g i k) m P)) (n - (i + 1)) (many_of (by omega)) _ (fun m hm => ?_) ?_ _ rfl
  · have hlen : (RW g n P).length = n := tab_len _ _
    have hlen2 : (RW (restG g i k) m P).length = m := tab_len _ _
    have hget : (RW g n P).getD (i + 1 + m) [] = tab P (g (i + 1 + m)) := tab_getD (by omega)
    have hlen3 : (tab P (g (i + 1 + m))).length = P := tab_len _ _
    simp only [ref46_AssignL0K, Int.toNat_natCast, hlen, hlen2, hget, List.nil_append, hlen3]
    simp (disch := omega) only [ckB_ix, ckB_inR, ckB_room, ckB_cut, ckB_mk, ckB_ne, bif_lt, bif_nlt, bif_le, bif_nle, bif_eq, bif_neq, bif_ne, bif_nne, bif_not, bif_true', bif_false', bnd_ok, lk_inl, lk_inr, Int.toNat_natCast, decide_true]
    rw [cast_succ, show i + 1 + m + 1 = i + 1 + (m + 1) by omega, tab_set]
    congr 3
    show _ = tab (m + 1) _
    rw [tab_succ]
    congr 2
    refine tab_congr fun x hx => ?_
    unfold restG
    by_cases hxk : x = k
    · rw [if_pos hxk, decide_eq_true hxk]; simp
    · rw [if_neg hxk, decide_eq_false hxk]; simp
  · have hlen : (RW g n P).length = n := tab_len _ _
    simp only [ref46_AssignL0K, hlen]
    simp (disch := omega) only [ckB_ix, ckB_inR, ckB_room, ckB_cut, ckB_mk, ckB_ne, bif_lt, bif_nlt, bif_le, bif_nle, bif_eq, bif_neq, bif_ne, bif_nne, bif_not, bif_true', bif_false', bnd_ok, lk_inl, lk_inr, Int.toNat_natCast, decide_true]
theorem refAssignL1_eq (o50 : List Person) (o51 : List Delegation) (o52 : List Duty) (out : List ByteArray) :
    ref46_AssignL1 (P : Int) (i : Int) (RW (restG g i k) (n - (i + 1)) P) o50 o51 o52 out (((i + 1 : Nat) : Int), RW g n P) = some (.inl (RW (delG g i k) n P)) := by
  refine loop_to (fun m : Nat => (((i + 1 + m : Nat) : Int), tab n fun j => if j < i + 1 + m then tab P (delG g i k j) else tab P (g j))) (n - (i + 1)) (many_of (by omega)) _ (fun m hm => ?_) ?_ _ ?_
  · have hlen : (tab n fun j => if j < i + 1 + m then tab P (delG g i k j) else tab P (g j)).length = n := tab_len _ _
    have hlen2 : (RW (restG g i k) (n - (i + 1)) P).length = n - (i + 1) := tab_len _ _
    have e1 : (((i + 1 + m : Nat) : Int) - (i : Int)) - 1 = (m : Int) := by omega
    have hget : (RW (restG g i k) (n - (i + 1)) P).getD m [] = tab P (restG g i k m) := tab_getD hm
    simp only [ref46_AssignL1K, e1, Int.toNat_natCast, hlen, hlen2, hget]
    simp (disch := omega) only [ckB_ix, ckB_inR, ckB_room, ckB_cut, ckB_mk, ckB_ne, bif_lt, bif_nlt, bif_le, bif_nle, bif_eq, bif_neq, bif_ne, bif_nne, bif_not, bif_true', bif_false', bnd_ok, lk_inl, lk_inr, Int.toNat_natCast, decide_true]
    rw [cast_succ, show i + 1 + m + 1 = i + 1 + (m + 1) by omega, tab_set]
    congr 3
    refine tab_congr fun j hj => ?_
    by_cases hjm : j = i + 1 + m
    · rw [if_pos hjm, if_pos (by omega)]
      refine tab_congr fun x _ => ?_
      unfold restG delG
      rw [if_pos (by omega), hjm]
    · rw [if_neg hjm]
      by_cases hlt : j < i + 1 + m
      · rw [if_pos hlt, if_pos (by omega)]
      · rw [if_neg hlt, if_neg (by omega)]
  · have hlen : (tab n fun j => if j < i + 1 + (n - (i + 1)) then tab P (delG g i k j) else tab P (g j)).length = n := tab_len _ _
    simp only [ref46_AssignL1K, hlen]
    simp (disch := omega) only [ckB_ix, ckB_inR, ckB_room, ckB_cut, ckB_mk, ckB_ne, bif_lt, bif_nlt, bif_le, bif_nle, bif_eq, bif_neq, bif_ne, bif_nne, bif_not, bif_true', bif_false', bnd_ok, lk_inl, lk_inr, Int.toNat_natCast, decide_true]
    congr 2
    exact tab_congr fun j hj => if_pos (by omega)
  · congr 1
    refine tab_congr fun j hj => ?_
    split
    · refine tab_congr fun x _ => ?_
      unfold delG
      rw [if_neg (by omega)]
    · rfl
theorem copy_BS : copyL (ints (BS g n P)) (i + 1) (n - (i + 1)) (ints (BS (restG g i k) (n - (i + 1)) P)) = ints (BS (delG g i k) n P) := by
  have hl1 : (ints (BS g n P)).length = n := by simp [ints, tab_len]
  have hl2 : (ints (BS (restG g i k) (n - (i + 1)) P)).length = n - (i + 1) := by simp [ints, tab_len]
  rw [ints_tab n fun j => bitsOf (delG g i k j) P]
  refine eq_tab 0 ((copyL_len _ _ (by omega)).trans hl1) fun j hj => ?_
  rw [copyL_at _ _ (by omega), hl2, ints_at, ints_at, BS_at, BS_at]
  unfold delG restG
  by_cases h1 : i < j
  · rw [if_pos (by omega), if_pos (by omega)]
    congr 1
    refine bitsOf_ext _ fun x _ => ?_
    rw [if_pos h1, show i + 1 + (j - (i + 1)) = j by omega]
  · rw [if_neg (by omega), if_pos hj]
    congr 1
    refine bitsOf_ext _ fun x _ => ?_
    rw [if_neg h1]
end
def asgR (nm : Nat → ByteArray) (g : Nat → Nat → Bool) (n P i : Nat) (out : List ByteArray) : (Nat → Nat → Bool) × List ByteArray :=
  match pick g n P i with
  | none => (g, out)
  | some k => (delG g i k, out ++ [nm k])
def asgS (nm : Nat → ByteArray) (g : Nat → Nat → Bool) (n P : Nat) : Nat → (Nat → Nat → Bool) × List ByteArray
  | 0 => (g, [])
  | i + 1 => asgR nm (asgS nm g n P i).1 n P i (asgS nm g n P i).2
theorem asg_len (nm : Nat → ByteArray) (g : Nat → Nat → Bool) (n P : Nat) : ∀ i, (asgS nm g n P i).2.length ≤ i
  | 0 => Nat.le_refl 0
  | i + 1 => by
    have ih := asg_len nm g n P i
    rw [asgS, asgR]
    split
    · show (asgS nm g n P i).2.length ≤ i + 1
      omega
    · simp; omega
section
variable (o : Org) (g : Nat → Nat → Bool) (n i : Nat) (hn : n ≤ 12) (hP : o.1.length ≤ 12) (hi : i < n) (out : List ByteArray) (ho : out.length ≤ 12)
include hn hP hi ho
theorem AssignL1_eq : roles_AssignL1 (i : Int) (n : Int) (i : Int) o.1 (o.1.length : Int) o.1 o.2.1 o.2.2.1 (ints (BS g n o.1.length)) out 0 = some (.inl (ints (BS (asgR (fun k => (o.1.getD k Person.z).1) g n o.1.length i out).1 n o.1.length), (asgR (fun k => (o.1.getD k Person.z).1) g n o.1.length i out).2)) := by
  have h0 := loop_stop (step := fun a => roles_AssignL1K (i : Int) (n : Int) (i : Int) o.1 (o.1.length : Int) o.1 o.2.1 o.2.2.1 (ints (BS g n o.1.length)) out a (fun a' => some (.next a')) (fun e => some (.done e)) (fun r => some (.ret r)))
    (fun k : Nat => (k : Int)) o.1.length (many_of (by omega)) (fun k => if goodK g n o.1.length i k = true then some (.inl (ints (BS (delG g i k) n o.1.length), out ++ [(o.1.getD k Person.z).1])) else none) (ints (BS g n o.1.length), out) ?_ ?_ ?_
  · refine Eq.trans h0 ?_
    rw [findSome_if]
    unfold asgR pick
    cases (List.range o.1.length).find? (goodK g n o.1.length i) <;> rfl
  all_goals have hl1 : (ints (BS g n o.1.length)).length = n := by simp [ints, tab_len]
  · intro k hk hnone
    have hg : goodK g n o.1.length i k = false := by
      cases hg : goodK g n o.1.length i k with
      | false => rfl
      | true => rw [if_pos hg] at hnone; cases hnone
    have hbit : decide ((bitI .and .u64 (shrI .u64 ((ints (BS g n o.1.length)).getD i 0) (k : Int)) 1) = 0) = !g i k := by
      rw [ints_at, BS_at, if_pos hi, bit_u64 _ _ (by omega)]
      have hb := elB_bitsOf (g i) k o.1.length
      rw [decide_eq_true hk, Bool.true_and] at hb
      rw [← hb]
      unfold elB
      have : bitsOf (g i) o.1.length / 2 ^ k % 2 < 2 := Nat.mod_lt _ (by omega)
      generalize bitsOf (g i) o.1.length / 2 ^ k % 2 = q at this
      rcases (show q = 0 ∨ q = 1 by omega) with h | h <;> subst h <;> rfl
    have hclone : (List.take (n - Int.toNat ((i : Int) + 1)) (List.drop (Int.toNat ((i : Int) + 1)) (ints (BS g n o.1.length)))) = tab (n - (i + 1)) fun j => ((bitsOf (g (i + 1 + j)) o.1.length : Nat) : Int) := by
      rw [cast_succ, Int.toNat_natCast, ints_tab, tab_drop, tab_take _ (Nat.le_refl _)]
    have hlc : (tab (n - (i + 1)) fun j => ((bitsOf (g (i + 1 + j)) o.1.length : Nat) : Int)).length = n - (i + 1) := tab_len _ _
    have hA := AssignL0_eq g n o.1.length i k hn hP hi hk (n : Int) (i : Int) (o.1.length : Int) (k : Int) ((n - (i + 1) : Nat) : Int) o.1 o.1 o.2.1 o.2.2.1 (ints (BS g n o.1.length)) out (o.1.getD k Person.z).1 (o.1.getD k Person.z).2.1 rfl
    have hM := matched_BS (restG g i k) (n - (i + 1)) o.1.length (by omega) hP
    unfold goodK at hg
    simp only [roles_AssignL1K, hl1, Int.toNat_natCast, hbit]
    rw [hclone]
    simp only [slices_Clone_uint64_uint64, slices_Clone_uint64_uint64_t, hlc, List.nil_append]
    simp (disch := omega) only [ckB_ix, ckB_inR, ckB_room, ckB_cut, ckB_mk, ckB_ne, bif_lt, bif_nlt, bif_le, bif_nle, bif_eq, bif_neq, bif_ne, bif_nne, bif_not, bif_true', bif_false', bnd_ok, lk_inl, lk_inr, Int.toNat_natCast, decide_true]
    rw [cast_succ, ckB_pos (decide_eq_true (Int.natCast_nonneg k))]
    cases hgk : g i k with
    | false => rfl
    | true =>
      rw [hgk, Bool.true_and] at hg
      simp (disch := omega) only [hlc, hA, hM, hg, ckB_ix, ckB_inR, ckB_room, ckB_cut, ckB_mk, ckB_ne, bif_lt, bif_nlt, bif_le, bif_nle, bif_eq, bif_neq, bif_ne, bif_nne, bif_not, bif_true', bif_false', bnd_ok, lk_inl, lk_inr, Int.toNat_natCast, decide_true]
      simp [ckB]
  · intro k oo hk hsome
    have hg : goodK g n o.1.length i k = true := by
      cases hg : goodK g n o.1.length i k with
      | false => rw [hg] at hsome; cases hsome
      | true => rfl
    rw [if_pos hg] at hsome
    obtain rfl := Option.some.inj hsome
    have hbit : decide ((bitI .and .u64 (shrI .u64 ((ints (BS g n o.1.length)).getD i 0) (k : Int)) 1) = 0) = !g i k := by
      rw [ints_at, BS_at, if_pos hi, bit_u64 _ _ (by omega)]
      have hb := elB_bitsOf (g i) k o.1.length
      rw [decide_eq_true hk, Bool.true_and] at hb
      rw [← hb]
      unfold elB
      have : bitsOf (g i) o.1.length / 2 ^ k % 2 < 2 := Nat.mod_lt _ (by omega)
      generalize bitsOf (g i) o.1.length / 2 ^ k % 2 = q at this
      rcases (show q = 0 ∨ q = 1 by omega) with h | h <;> subst h <;> rfl
    have hclone : (List.take (n - Int.toNat ((i : Int) + 1)) (List.drop (Int.toNat ((i : Int) + 1)) (ints (BS g n o.1.length)))) = tab (n - (i + 1)) fun j => ((bitsOf (g (i + 1 + j)) o.1.length : Nat) : Int) := by
      rw [cast_succ, Int.toNat_natCast, ints_tab, tab_drop, tab_take _ (Nat.le_refl _)]
    have hlc : (tab (n - (i + 1)) fun j => ((bitsOf (g (i + 1 + j)) o.1.length : Nat) : Int)).length = n - (i + 1) := tab_len _ _
    have hA := AssignL0_eq g n o.1.length i k hn hP hi hk (n : Int) (i : Int) (o.1.length : Int) (k : Int) ((n - (i + 1) : Nat) : Int) o.1 o.1 o.2.1 o.2.2.1 (ints (BS g n o.1.length)) out (o.1.getD k Person.z).1 (o.1.getD k Person.z).2.1 rfl
    have hM := matched_BS (restG g i k) (n - (i + 1)) o.1.length (by omega) hP
    have hC := copy_BS g n o.1.length i k hn hP hi hk
    have e2 : Int.toNat ((i : Int) + 1) = i + 1 := by omega
    unfold goodK at hg
    rw [Bool.and_eq_true] at hg
    simp only [roles_AssignL1K, hl1, Int.toNat_natCast, hbit, hg.1]
    rw [hclone]
    simp only [slices_Clone_uint64_uint64, slices_Clone_uint64_uint64_t, hlc, List.nil_append]
    simp (disch := omega) only [hlc, hA, hM, hg.2, e2, hC, ckB_ix, ckB_inR, ckB_room, ckB_cut, ckB_mk, ckB_ne, bif_lt, bif_nlt, bif_le, bif_nle, bif_eq, bif_neq, bif_ne, bif_nne, bif_not, bif_true', bif_false', bnd_ok, lk_inl, lk_inr, Int.toNat_natCast, decide_true]
    simp [ckB]
  · simp (disch := omega) only [roles_AssignL1K, ckB_ix, ckB_inR, ckB_room, ckB_cut, ckB_mk, ckB_ne, bif_lt, bif_nlt, bif_le, bif_nle, bif_eq, bif_neq, bif_ne, bif_nne, bif_not, bif_true', bif_false', bnd_ok, lk_inl, lk_inr, Int.toNat_natCast, decide_true]
end
end Go.Proofs.Ytmlfmeffjodhmaa
