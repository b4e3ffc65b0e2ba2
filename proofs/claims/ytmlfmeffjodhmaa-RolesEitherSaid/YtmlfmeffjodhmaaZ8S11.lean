/-
  Roles: who may do an open task, as bits and as rows.
-/
import Derived.Test.YtmlfmeffjodhmaaZ8S10
set_option linter.all false
namespace Go.Proofs.Ytmlfmeffjodhmaa
open Go.K Go.M
def bitsOf (f : Nat → Bool) : Nat → Nat
  | 0 => 0
  | k + 1 => if f k = true then bitsOf f k ||| 2 ^ k else bitsOf f k
theorem bitsOf_lt (f : Nat → Bool) : ∀ n, bitsOf f n < 2 ^ n
  | 0 => by simp [bitsOf]
  | n + 1 => by
    have ih := bitsOf_lt f n
    have hq : 2 ^ n < 2 ^ (n + 1) := Nat.pow_lt_pow_right (by omega) (by omega)
    rw [bitsOf]
    split
    · exact Nat.or_lt_two_pow (by omega) hq
    · omega
theorem elB_bitsOf (f : Nat → Bool) (k : Nat) : ∀ n, elB (bitsOf f n) k = (decide (k < n) && f k)
  | 0 => by rw [bitsOf, elB_zero]; simp
  | n + 1 => by
    have ih := elB_bitsOf f k n
    rw [bitsOf]
    by_cases hk : k = n
    · subst hk
      have h0 : elB (bitsOf f k) k = false := by rw [ih]; simp
      split
      · rename_i h
        rw [elB_or, h0, elB_test, Nat.testBit_two_pow]
        simp [h]
      · rename_i h
        rw [h0]
        simp [h]
    · have hd : decide (k < n + 1) = decide (k < n) := decide_eq_decide.2 (by omega)
      rw [hd, ← ih]
      split
      · rw [elB_or, elB_test (2 ^ n), Nat.testBit_two_pow, decide_eq_false (by omega), Bool.or_false]
      · rfl
theorem bitsOf_ext {f g : Nat → Bool} : ∀ n, (∀ k, k < n → f k = g k) → bitsOf f n = bitsOf g n
  | 0, _ => rfl
  | n + 1, h => by rw [bitsOf, bitsOf, bitsOf_ext n fun k hk => h k (by omega), h n (by omega)]
theorem shl_u64 {n : Nat} (h : n < 64) : shlI .u64 1 (n : Int) = ((2 ^ n : Nat) : Int) := by
  have hp : 2 ^ n < 2 ^ 64 := Nat.pow_lt_pow_right (by omega) h
  unfold shlI
  rw [show min (Int.toNat (n : Int)) IntKind.u64.bits = n by simp [IntKind.bits]; omega, show ((1 : Int) * 2 ^ n) = ((2 ^ n : Nat) : Int) by simp]
  generalize 2 ^ n = q at hp
  simp [IntKind.wrap, IntKind.bits, IntKind.signed]
  omega
abbrev BS (g : Nat → Nat → Bool) (n P : Nat) : List Nat := tab n fun i => bitsOf (g i) P
abbrev RW (g : Nat → Nat → Bool) (n P : Nat) : List (List Bool) := tab n fun i => tab P (g i)
theorem ints_tab (n : Nat) (f : Nat → Nat) : ints (tab n f) = tab n fun i => ((f i : Nat) : Int) := by
  simp [ints, tab]
theorem pix_self {o : Org} {k : Nat} (hk : k < o.1.length) : 0 ≤ pix o (o.1.getD k Person.z).1 := by
  have := idxI_nn (fun p : Person => eqS p.1 (o.1.getD k Person.z).1) o.1
  have h2 : o.1.any (fun p : Person => eqS p.1 (o.1.getD k Person.z).1) = true := List.any_eq_true.2 ⟨_, getD_mem Person.z hk, by unfold eqS; exact beq_self_eq_true _⟩
  rw [h2] at this
  exact of_decide_eq_true this
def mA (o : Org) (acts roles : List ByteArray) (time : Int) (hs : List Task) (i k : Nat) : Bool := mayB o (o.1.getD k Person.z).1 (acts.getD i ⟨#[]⟩) (roles.getD i ⟨#[]⟩) time hs
section
variable {o : Org} (h : Few o) (hv : validO o = true) (hP : o.1.length ≤ 12) (acts roles : List ByteArray) (hn : acts.length ≤ 12) (hr : acts.length = roles.length) (time : Int) (hs : List Task) (hl : hs.length ≤ 2000)
include h hv hP hn hr hl
theorem ableL0_eq (i : Nat) (hi : i < acts.length) (v19 : Int) (f : Nat → Int) (hf : f i = 0) : roles_ableL0 acts roles time hs (i : Int) v19 (i : Int) o.1 (o.1.length : Int) o.1 o.2.1 o.2.2.1 (0, tab acts.length f) = some (.inl (tab acts.length fun j => if j = i then ((bitsOf (mA o acts roles time hs i) o.1.length : Nat) : Int) else f j)) := by
  refine loop_to (fun k : Nat => ((k : Int), tab acts.length fun j => if j = i then ((bitsOf (mA o acts roles time hs i) k : Nat) : Int) else f j)) o.1.length (many_of (by omega)) _ (fun k hk => ?_) ?_ _ ?_
  · have hm := may_eq h hv (pix_self hk) (acts.getD i ⟨#[]⟩) (roles.getD i ⟨#[]⟩) time hs hl
    have e : ((o.1, o.2.1, o.2.2.1, ()) : Org) = o := rfl
    have hlen : (tab acts.length fun j => if j = i then ((bitsOf (mA o acts roles time hs i) k : Nat) : Int) else f j).length = acts.length := tab_len _ _
    have hget : (tab acts.length fun j => if j = i then ((bitsOf (mA o acts roles time hs i) k : Nat) : Int) else f j).getD i 0 = ((bitsOf (mA o acts roles time hs i) k : Nat) : Int) := by rw [tab_getD hi, if_pos rfl]
    have hlt := bitsOf_lt (mA o acts roles time hs i) k
    have hk12 : 2 ^ k < 4096 := Nat.lt_of_lt_of_le (Nat.pow_lt_pow_right (by omega) (show k < 12 by omega)) (by decide)
    have hor := bit_or (bitsOf (mA o acts roles time hs i) k) (2 ^ k) (by omega) hk12
    have hsh := shl_u64 (show k < 64 by omega)
    simp only [roles_ableL0K, e, Int.toNat_natCast, hm, hget, hlen, hsh, hor]
    simp (disch := omega) only [ckB_ix, ckB_inR, ckB_room, ckB_cut, ckB_mk, ckB_ne, bif_lt, bif_nlt, bif_le, bif_nle, bif_eq, bif_neq, bif_ne, bif_nne, bif_not, bif_true', bif_false', bnd_ok, lk_inl, lk_inr, Int.toNat_natCast, decide_true]
    rw [cast_succ]
    cases hb : mayB o (o.1.getD k Person.z).1 (acts.getD i ⟨#[]⟩) (roles.getD i ⟨#[]⟩) time hs with
    | true =>
      have hb' : mA o acts roles time hs i k = true := hb
      simp (disch := omega) only [ckB_ix, ckB_inR, ckB_room, ckB_cut, ckB_mk, ckB_ne, bif_lt, bif_nlt, bif_le, bif_nle, bif_eq, bif_neq, bif_ne, bif_nne, bif_not, bif_true', bif_false', bnd_ok, lk_inl, lk_inr, Int.toNat_natCast, decide_true]
      rw [tab_set, ckB_pos (decide_eq_true (Int.natCast_nonneg k))]
      congr 3
      refine tab_congr fun j hj => ?_
      by_cases hji : j = i
      · rw [if_pos hji, if_pos hji, bitsOf, if_pos hb']
      · rw [if_neg hji, if_neg hji, if_neg hji]
    | false =>
      have hb' : mA o acts roles time hs i k = false := hb
      simp (disch := omega) only [ckB_ix, ckB_inR, ckB_room, ckB_cut, ckB_mk, ckB_ne, bif_lt, bif_nlt, bif_le, bif_nle, bif_eq, bif_neq, bif_ne, bif_nne, bif_not, bif_true', bif_false', bnd_ok, lk_inl, lk_inr, Int.toNat_natCast, decide_true]
      congr 3
      refine tab_congr fun j hj => ?_
      by_cases hji : j = i
      · rw [if_pos hji, if_pos hji, bitsOf, if_neg (by rw [hb']; exact Bool.false_ne_true)]
      · rw [if_neg hji, if_neg hji]
  · simp (disch := omega) only [roles_ableL0K, ckB_ix, ckB_inR, ckB_room, ckB_cut, ckB_mk, ckB_ne, bif_lt, bif_nlt, bif_le, bif_nle, bif_eq, bif_neq, bif_ne, bif_nne, bif_not, bif_true', bif_false', bnd_ok, lk_inl, lk_inr, Int.toNat_natCast, decide_true]
  · congr 1
    refine tab_congr fun j hj => ?_
    by_cases hji : j = i
    · rw [if_pos hji, hji, hf]; rfl
    · rw [if_neg hji]
theorem able_eq : roles_able o acts roles time hs = some (ints (BS (mA o acts roles time hs) acts.length o.1.length)) := by
  have hL : roles_ableL1 acts roles time hs (acts.length : Int) o.1 o.2.1 o.2.2.1 (0, List.replicate acts.length (0 : Int)) = some (.inl (ints (BS (mA o acts roles time hs) acts.length o.1.length))) := by
    refine loop_to (fun i : Nat => ((i : Int), tab acts.length fun j => if j < i then ((bitsOf (mA o acts roles time hs j) o.1.length : Nat) : Int) else 0)) acts.length (many_of (by omega)) _ (fun i hi => ?_) ?_ _ ?_
    · have h0 := ableL0_eq h hv hP acts roles hn hr time hs hl i hi (acts.length : Int) (fun j => if j < i then ((bitsOf (mA o acts roles time hs j) o.1.length : Nat) : Int) else 0) (if_neg (by omega))
      simp (disch := omega) only [roles_ableL1K, h0, ckB_ix, ckB_inR, ckB_room, ckB_cut, ckB_mk, ckB_ne, bif_lt, bif_nlt, bif_le, bif_nle, bif_eq, bif_neq, bif_ne, bif_nne, bif_not, bif_true', bif_false', bnd_ok, lk_inl, lk_inr, Int.toNat_natCast, decide_true]
      rw [cast_succ]
      congr 3
      refine tab_congr fun j hj => ?_
      by_cases hji : j = i
      · rw [if_pos hji, if_pos (by omega), hji]
      · rw [if_neg hji]
        by_cases hlt : j < i
        · rw [if_pos hlt, if_pos (by omega)]
        · rw [if_neg hlt, if_neg (by omega)]
    · simp (disch := omega) only [roles_ableL1K, ckB_ix, ckB_inR, ckB_room, ckB_cut, ckB_mk, ckB_ne, bif_lt, bif_nlt, bif_le, bif_nle, bif_eq, bif_neq, bif_ne, bif_nne, bif_not, bif_true', bif_false', bnd_ok, lk_inl, lk_inr, Int.toNat_natCast, decide_true]
      rw [ints_tab]
      congr 2
      refine tab_congr fun j hj => ?_
      rw [if_pos hj]
    · congr 1
      rw [tab_rep]
      refine tab_congr fun j hj => ?_
      rw [if_neg (by omega)]
  unfold roles_able
  simp (disch := omega) only [hL, ckB_ix, ckB_inR, ckB_room, ckB_cut, ckB_mk, ckB_ne, bif_lt, bif_nlt, bif_le, bif_nle, bif_eq, bif_neq, bif_ne, bif_nne, bif_not, bif_true', bif_false', bnd_ok, lk_inl, lk_inr, Int.toNat_natCast, decide_true]
theorem refableL0_eq (i : Nat) (hi : i < acts.length) (out : List (List Bool)) : ref46_ableL0 acts roles time hs (i : Int) o.1 o.2.1 o.2.2.1 out (0, []) = some (.inl (tab o.1.length (mA o acts roles time hs i))) := by
  refine loop_to (fun k : Nat => ((k : Int), tab k (mA o acts roles time hs i))) o.1.length (many_of (by omega)) _ (fun k hk => ?_) ?_ _ rfl
  · have hm := refMay_eq h hv (pix_self hk) (acts.getD i ⟨#[]⟩) (roles.getD i ⟨#[]⟩) time hs hl
    have e : ((o.1, o.2.1, o.2.2.1, ()) : Org) = o := rfl
    have hlen : (tab k (mA o acts roles time hs i)).length = k := tab_len _ _
    simp only [ref46_ableL0K, e, Int.toNat_natCast, hm, hlen]
    simp (disch := omega) only [ckB_ix, ckB_inR, ckB_room, ckB_cut, ckB_mk, ckB_ne, bif_lt, bif_nlt, bif_le, bif_nle, bif_eq, bif_neq, bif_ne, bif_nne, bif_not, bif_true', bif_false', bnd_ok, lk_inl, lk_inr, Int.toNat_natCast, decide_true]
    rw [cast_succ, tab_succ]
    rfl
  · simp (disch := omega) only [ref46_ableL0K, ckB_ix, ckB_inR, ckB_room, ckB_cut, ckB_mk, ckB_ne, bif_lt, bif_nlt, bif_le, bif_nle, bif_eq, bif_neq, bif_ne, bif_nne, bif_not, bif_true', bif_false', bnd_ok, lk_inl, lk_inr, Int.toNat_natCast, decide_true]
theorem refable_eq : ref46_able o acts roles time hs = some (RW (mA o acts roles time hs) acts.length o.1.length) := by
  have hL : ref46_ableL1 acts roles time hs o.1 o.2.1 o.2.2.1 (0, []) = some (.inl (RW (mA o acts roles time hs) acts.length o.1.length)) := by
    refine loop_to (fun i : Nat => ((i : Int), RW (mA o acts roles time hs) i o.1.length)) acts.length (many_of (by omega)) _ (fun i hi => ?_) ?_ _ rfl
    · have h0 := refableL0_eq h hv hP acts roles hn hr time hs hl i hi (RW (mA o acts roles time hs) i o.1.length)
      have hlen : (RW (mA o acts roles time hs) i o.1.length).length = i := tab_len _ _
      simp only [ref46_ableL1K, h0, bnd_ok, lk_inl, hlen]
      simp (disch := omega) only [ckB_ix, ckB_inR, ckB_room, ckB_cut, ckB_mk, ckB_ne, bif_lt, bif_nlt, bif_le, bif_nle, bif_eq, bif_neq, bif_ne, bif_nne, bif_not, bif_true', bif_false', bnd_ok, lk_inl, lk_inr, Int.toNat_natCast, decide_true]
      rw [cast_succ, RW, RW, tab_succ]
    · simp (disch := omega) only [ref46_ableL1K, ckB_ix, ckB_inR, ckB_room, ckB_cut, ckB_mk, ckB_ne, bif_lt, bif_nlt, bif_le, bif_nle, bif_eq, bif_neq, bif_ne, bif_nne, bif_not, bif_true', bif_false', bnd_ok, lk_inl, lk_inr, Int.toNat_natCast, decide_true]
  unfold ref46_able
  simp (disch := omega) only [hL, ckB_ix, ckB_inR, ckB_room, ckB_cut, ckB_mk, ckB_ne, bif_lt, bif_nlt, bif_le, bif_nle, bif_eq, bif_neq, bif_ne, bif_nne, bif_not, bif_true', bif_false', bnd_ok, lk_inl, lk_inr, Int.toNat_natCast, decide_true]
end
theorem BS_at (g : Nat → Nat → Bool) (n P i : Nat) : (BS g n P).getD i 0 = if i < n then bitsOf (g i) P else 0 := by
  split
  · rename_i h
    exact tab_getD h
  · rename_i h
    rw [List.getD_eq_getElem?_getD, List.getElem?_eq_none (by rw [tab_len]; omega)]
    rfl
theorem BS_lt (g : Nat → Nat → Bool) (n P : Nat) (hP : P ≤ 12) (i : Nat) : (BS g n P).getD i 0 < 4096 := by
  rw [BS_at]
  split
  · have := bitsOf_lt (g i) P
    have := pow12 hP
    omega
  · omega
theorem BR (g : Nat → Nat → Bool) (n P : Nat) : BitRows (BS g n P) (RW g n P) P := by
  refine ⟨by rw [tab_len, tab_len], fun i hi => ?_⟩
  rw [tab_len] at hi
  rw [tab_getD hi, tab_getD hi]
  refine ⟨tab_len _ _, fun k => ?_⟩
  rw [elB_bitsOf]
  by_cases hk : k < P
  · rw [tab_getD hk, decide_eq_true hk, Bool.true_and]
  · rw [decide_eq_false hk, Bool.false_and, List.getD_eq_getElem?_getD, List.getElem?_eq_none (by rw [tab_len]; omega)]
    rfl
def blk (g : Nat → Nat → Bool) (n P : Nat) : List Int := bestN (badR (RW g n P) P) (2 ^ n - 1)
def free (g : Nat → Nat → Bool) (n P : Nat) : Bool := decide (blk g n P = [])
theorem matched_BS (g : Nat → Nat → Bool) (n P : Nat) (hn : n ≤ 12) (hP : P ≤ 12) : roles_matched (ints (BS g n P)) = some (free g n P, ints (BS g n P)) := by
  have hl : (BS g n P).length = n := tab_len _ _
  obtain ⟨b, h1, h2⟩ := matched_iff (BS g n P) (BS_lt g n P hP) (by rw [hl]; exact hn)
  rw [h1]
  rw [bad_eq (BR g n P) hP, hl] at h2
  congr 2
  unfold free
  exact Bool.eq_iff_iff.2 (h2.trans decide_eq_true_iff.symm)
theorem refblock_RW (g : Nat → Nat → Bool) (n P : Nat) (hn : n ≤ 12) (hP : P ≤ 12) : ref46_blocking (RW g n P) (P : Int) = some (blk g n P, !free g n P) := by
  have hl : (RW g n P).length = n := tab_len _ _
  have := refblock_eq (RW g n P) P (by omega) (fun i hi => ((BR g n P).2 i hi).1) (by omega)
  rw [hl] at this
  exact this
theorem block_BS (g : Nat → Nat → Bool) (n P : Nat) (hn : n ≤ 12) (hP : P ≤ 12) : roles_BlockingL1 (ints (BS g n P)) (1, []) = some (.inl (blk g n P)) := by
  have hl : (BS g n P).length = n := tab_len _ _
  have := blockL1_eq (BS g n P) (BS_lt g n P hP) (by omega)
  rw [bad_eq (BR g n P) hP, hl] at this
  exact this
end Go.Proofs.Ytmlfmeffjodhmaa
