/-
  Matrices: elimination without fractions, by the reference.
-/
import Derived.Test.YtjjhanfglelldaaQ2
set_option linter.all false
namespace Go.Proofs.Ytjjhanfglelldaa
open Go.K Go.M

section
variable {R C : Nat}

theorem refL2_eq (hC : C ≤ 50) {M A : Nat → Nat → Int} {top i : Nat} (ht : top < R) (hi : i < R) (hne : i ≠ top) {den : Int} (hd : den ≠ 0) (p q a c e d1 d2 : Int) (x : List (List Int)) (y z : List Int) :
    ref05_ReduceL2 (T2 R C M) a c (top : Int) p (i : Int) q x y d1 d2 den e z (0, T2 R C A) = some (.inl (T2 R C (fun a b => if a = i then el p q den (A i b) (A top b) else A a b))) := by
  have h0 : 0 < R := by omega
  refine loop_to (fun j : Nat => ((j : Int), T2 R C (fun a b => if a = i ∧ b < j then el p q den (A i b) (A top b) else A a b))) C (many_of (by omega)) _ ?_ ?_ _ ?_
  · intro j hj
    have e1 : (if top = i ∧ j < j then el p q den (A i j) (A top j) else A top j) = A top j := if_neg (by omega)
    have e2 : (if i = i ∧ j < j then el p q den (A i j) (A top j) else A i j) = A i j := if_neg (by omega)
    simp (disch := omega) only [ref05_ReduceL2K, T2_len, T2_row h0, T2_row hi, T2_row ht, tab_len, tab_getD hj, e1, e2, tab_set, w64_succ, ckB_ne, ckB_ix, ckB_inR, ckB_room, ckB_cut, ckB_mk, ckB_ne, bif_lt, bif_nlt, bif_le, bif_nle, bif_eq, bif_neq, bif_ne, bif_nne, bif_not, bif_true', bif_false', bnd_ok, lk_inl, lk_inr, Int.toNat_natCast]
    refine congrArg some (congrArg LR.next (Prod.ext rfl (tab_congr fun a ha => ?_)))
    by_cases h1 : a = i
    · subst h1
      rw [if_pos rfl]
      refine tab_congr fun b hb => ?_
      by_cases h2 : b = j
      · subst h2
        simp [el]
      · by_cases h3 : b < j
        · have : b < j + 1 := by omega
          simp [h2, h3, this]
        · have : ¬ b < j + 1 := by omega
          simp [h2, h3, this]
    · rw [if_neg h1]
      exact tab_congr fun b hb => by simp [h1]
  · simp (disch := omega) only [ref05_ReduceL2K, T2_len, T2_row h0, tab_len, ckB_ix, ckB_inR, ckB_room, ckB_cut, ckB_mk, ckB_ne, bif_lt, bif_nlt, bif_le, bif_nle, bif_eq, bif_neq, bif_ne, bif_nne, bif_not, bif_true', bif_false', bnd_ok, lk_inl, lk_inr, Int.toNat_natCast]
    refine congrArg some (congrArg LR.done (T2_congr fun a b ha hb => ?_))
    by_cases h1 : a = i <;> simp [h1, hb]
  · simp

theorem refL3_eq (hR : R ≤ 50) (hC : C ≤ 50) {M A : Nat → Nat → Int} {top c : Nat} (ht : top < R) (hc : c < C) {den : Int} (hd : den ≠ 0) (a e d1 d2 : Int) (x : List (List Int)) (y z : List Int) :
    ref05_ReduceL3 (T2 R C M) a (c : Int) (top : Int) (A top c) x y d1 d2 den e z (0, T2 R C A) = some (.inl (T2 R C (clr top c A den))) := by
  refine loop_to (fun i : Nat => ((i : Int), T2 R C (fun a b => if a < i then clr top c A den a b else A a b))) R (many_of (by omega)) _ ?_ ?_ _ ?_
  · intro i hi
    have hfin : ∀ B : Nat → Nat → Int, (∀ b, b < C → B i b = clr top c A den i b) → (∀ a b, a < R → b < C → a ≠ i → B a b = if a < i then clr top c A den a b else A a b) → T2 R C B = T2 R C (fun a b => if a < i + 1 then clr top c A den a b else A a b) := fun B h1 h2 => T2_congr fun a b ha hb => by
      by_cases e : a = i
      · subst e
        rw [if_pos (by omega), h1 b hb]
      · rw [h2 a b ha hb e]
        by_cases h : a < i
        · rw [if_pos h, if_pos (by omega)]
        · rw [if_neg h, if_neg (by omega)]
    by_cases hne : i = top
    · subst hne
      simp (disch := omega) only [ref05_ReduceL3K, T2_len, w64_succ, ckB_ix, ckB_inR, ckB_room, ckB_cut, ckB_mk, ckB_ne, bif_lt, bif_nlt, bif_le, bif_nle, bif_eq, bif_neq, bif_ne, bif_nne, bif_not, bif_true', bif_false', bnd_ok, lk_inl, lk_inr, Int.toNat_natCast]
      refine congrArg some (congrArg LR.next (Prod.ext rfl (hfin _ (fun b hb => ?_) fun a b ha hb he => rfl)))
      rw [if_neg (by omega)]
      simp [clr]
    · have hii : ∀ b, (if i < i then clr top c A den i b else A i b) = A i b := fun b => if_neg (by omega)
      have hL2 := refL2_eq (R := R) hC (M := M) (A := fun a b => if a < i then clr top c A den a b else A a b) ht hi hne hd (A top c) (A i c) a (c : Int) e d1 d2 x y z
      have hine : (i : Int) ≠ (top : Int) := by omega
      simp (disch := omega) only [ref05_ReduceL3K, T2_len, T2_row hi, tab_len, tab_getD hc, hii, hL2, w64_succ, ckB_ix, ckB_inR, ckB_room, ckB_cut, ckB_mk, ckB_ne, bif_lt, bif_nlt, bif_le, bif_nle, bif_eq, bif_neq, bif_ne, bif_nne, bif_not, bif_true', bif_false', bnd_ok, lk_inl, lk_inr, Int.toNat_natCast]
      refine congrArg some (congrArg LR.next (Prod.ext rfl (hfin _ (fun b hb => ?_) fun a b ha hb he => ?_)))
      · have h1 : (if top < i then clr top c A den top b else A top b) = A top b := by
          split
          · simp [clr]
          · rfl
        simp only [if_true, hii, h1]
        simp [clr, hne]
      · simp only [if_neg he]
  · simp (disch := omega) only [ref05_ReduceL3K, T2_len, ckB_ix, ckB_inR, ckB_room, ckB_cut, ckB_mk, ckB_ne, bif_lt, bif_nlt, bif_le, bif_nle, bif_eq, bif_neq, bif_ne, bif_nne, bif_not, bif_true', bif_false', bnd_ok, lk_inl, lk_inr, Int.toNat_natCast]
    refine congrArg some (congrArg LR.done (T2_congr fun a b ha hb => ?_))
    simp [ha]
  · simp

theorem refT4_eq (hR : R ≤ 50) (hC : C ≤ 50) {M A : Nat → Nat → Int} {top c : Nat} (ht : top < R) (hc : c < C) {den : Int} (hd : den ≠ 0) (a e d1 d2 : Int) (x : List (List Int)) (y z : List Int) (hz : z.length ≤ 50) :
    ref05_ReduceT4 (T2 R C M) a (c : Int) (top : Int) x y d1 d2 den e (T2 R C A) z = some (.inl (A top c, T2 R C (clr top c A den), z ++ [(c : Int)])) := by
  have h := refL3_eq hR hC (M := M) (A := A) ht hc hd a e d1 d2 x y z
  unfold ref05_ReduceT4 ref05_ReduceT4K
  simp (disch := omega) only [T2_len, T2_row ht, tab_len, tab_getD hc, h, ckB_ix, ckB_inR, ckB_room, ckB_cut, ckB_mk, ckB_ne, bif_lt, bif_nlt, bif_le, bif_nle, bif_eq, bif_neq, bif_ne, bif_nne, bif_not, bif_true', bif_false', bnd_ok, lk_inl, lk_inr, Int.toNat_natCast]

theorem refnz_eq (hR : R ≤ 50) {M A : Nat → Nat → Int} {c : Nat} (hc : c < C) {k : Nat} (hk : k ≤ R) (a b d e : Int) (x : List (List Int)) (y : List Int) (f g : Int) (z : List Int) :
    ref05_ReduceL1 (T2 R C M) a (c : Int) b x y d e f g (T2 R C A) z (k : Int) = some (.inl ((nz A c (R - k) k : Nat) : Int)) := by
  obtain ⟨h1, h2, h3, h4⟩ := nz_spec A c (R - k) k
  refine loop_to (fun i : Nat => ((k + i : Nat) : Int)) (nz A c (R - k) k - k) (many_of (by omega)) _ ?_ ?_ _ rfl
  · intro i hi
    have h0 := h4 (k + i) (by omega) (by omega)
    have hkR : k + i < R := by omega
    simp (disch := omega) only [ref05_ReduceL1K, T2_len, T2_row hkR, tab_len, tab_getD hc, h0, w64_succ, decide_true, ckB_ix, ckB_inR, ckB_room, ckB_cut, ckB_mk, ckB_ne, bif_lt, bif_nlt, bif_le, bif_nle, bif_eq, bif_neq, bif_ne, bif_nne, bif_not, bif_true', bif_false', bnd_ok, lk_inl, lk_inr, Int.toNat_natCast]
    rw [Nat.add_assoc]
  · have e0 : k + (nz A c (R - k) k - k) = nz A c (R - k) k := by omega
    rw [e0]
    by_cases hlt : nz A c (R - k) k < R
    · have hne := h3 (by omega)
      simp (disch := omega) only [ref05_ReduceL1K, T2_len, T2_row hlt, tab_len, tab_getD hc, ckB_ix, ckB_inR, ckB_room, ckB_cut, ckB_mk, ckB_ne, bif_lt, bif_nlt, bif_le, bif_nle, bif_eq, bif_neq, bif_ne, bif_nne, bif_not, bif_true', bif_false', bnd_ok, lk_inl, lk_inr, Int.toNat_natCast]
    · simp (disch := omega) only [ref05_ReduceL1K, T2_len, ckB_ix, ckB_inR, ckB_room, ckB_cut, ckB_mk, ckB_ne, bif_lt, bif_nlt, bif_le, bif_nle, bif_eq, bif_neq, bif_ne, bif_nne, bif_not, bif_true', bif_false', bnd_ok, lk_inl, lk_inr, Int.toNat_natCast]

/-- The sign of so many exchanges. -/
def sgn (n : Nat) : Int := if n % 2 = 0 then 1 else -1
theorem sgn_succ (n : Nat) : w64 (0 - sgn n) = sgn (n + 1) := by
  unfold sgn
  rcases Nat.mod_two_eq_zero_or_one n with h | h
  · have : (n + 1) % 2 = 1 := by omega
    rw [h, this]; decide
  · have : (n + 1) % 2 = 0 := by omega
    rw [h, this]; decide

def rrStep (R C : Nat) (M : Nat → Nat → Int) (cols : Nat) (a : Int × Int × Int × List (List Int) × List Int) : Option (LR (Int × Int × Int × List (List Int) × List Int) (Int × Int × List (List Int) × List Int) Casebookref05Form) :=
  ref05_ReduceL5K (T2 R C M) (cols : Int) [] [] 0 0 a.1 a.2.1 a.2.2.1 a.2.2.2.1 a.2.2.2.2 (fun a' => some (.next a')) (fun e => some (.done e)) (fun r => some (.ret r))

theorem rrStep_eq (hR : R ≤ 50) (hC : C ≤ 50) {cols : Nat} (hcols : cols ≤ C) {M A : Nat → Nat → Int} {c : Nat} (hc : c < cols) :
    rrStep R C M cols ((c : Int), (redR R A c).den, sgn (redR R A c).sw, T2 R C (redR R A c).A, casts (redR R A c).piv) = some (.next (((c + 1 : Nat) : Int), (redR R A (c + 1)).den, sgn (redR R A (c + 1)).sw, T2 R C (redR R A (c + 1)).A, casts (redR R A (c + 1)).piv)) := by
  have hI := redR_inv R A c
  show _ = some (LR.next (((c + 1 : Nat) : Int), (stepR R c (redR R A c)).den, sgn (stepR R c (redR R A c)).sw, T2 R C (stepR R c (redR R A c)).A, casts (stepR R c (redR R A c)).piv))
  generalize redR R A c = s at hI
  obtain ⟨h1, h2, h3, h4⟩ := nz_spec s.A c (R - s.piv.length) s.piv.length
  have hcC : c < C := by omega
  have hcl := casts_len s.piv
  have hpR := hI.piv
  have hsw := hI.swl
  have hL1 := refnz_eq hR (M := M) (A := s.A) hcC (k := s.piv.length) hpR (cols : Int) (s.piv.length : Int) 0 0 [] [] s.den (sgn s.sw) (casts s.piv)
  unfold stepR
  by_cases e1 : nz s.A c (R - s.piv.length) s.piv.length = R
  · rw [if_pos e1]
    rw [e1] at hL1
    simp (disch := omega) only [rrStep, ref05_ReduceL5K, hcl, T2_len, hL1, w64_succ, decide_true, ckB_ix, ckB_inR, ckB_room, ckB_cut, ckB_mk, ckB_ne, bif_lt, bif_nlt, bif_le, bif_nle, bif_eq, bif_neq, bif_ne, bif_nne, bif_not, bif_true', bif_false', bnd_ok, lk_inl, lk_inr, Int.toNat_natCast]
  · rw [if_neg e1]
    have hk : nz s.A c (R - s.piv.length) s.piv.length < R := by omega
    have hp : s.piv.length < R := by omega
    by_cases e2 : nz s.A c (R - s.piv.length) s.piv.length = s.piv.length
    · rw [if_pos e2]
      have e2' : ((nz s.A c (R - s.piv.length) s.piv.length : Nat) : Int) = (s.piv.length : Int) := by omega
      have hcz := refT4_eq hR hC (M := M) (A := s.A) hp hcC hI.den (cols : Int) (sgn s.sw) 0 0 [] [] (casts s.piv) (by omega)
      simp (disch := omega) only [rrStep, ref05_ReduceL5K, hcl, T2_len, hL1, hcz, w64_succ, ckB_ix, ckB_inR, ckB_room, ckB_cut, ckB_mk, ckB_ne, bif_lt, bif_nlt, bif_le, bif_nle, bif_eq, bif_neq, bif_ne, bif_nne, bif_not, bif_true', bif_false', bnd_ok, lk_inl, lk_inr, Int.toNat_natCast]
      simp [casts]
    · rw [if_neg e2]
      have e2' : ((nz s.A c (R - s.piv.length) s.piv.length : Nat) : Int) ≠ (s.piv.length : Int) := by omega
      have hcz := refT4_eq hR hC (M := M) (A := swp s.A (nz s.A c (R - s.piv.length) s.piv.length) s.piv.length) hp hcC hI.den (cols : Int) (sgn (s.sw + 1)) 0 0 [] [] (casts s.piv) (by omega)
      have hsp := swap_T2 (C := C) (A := s.A) hk hp
      have hval : swp s.A (nz s.A c (R - s.piv.length) s.piv.length) s.piv.length s.piv.length c = s.A (nz s.A c (R - s.piv.length) s.piv.length) c := by simp [swp]
      rw [hval] at hcz
      have hsg := sgn_succ s.sw
      simp (disch := omega) only [rrStep, ref05_ReduceL5K, hcl, T2_len, hL1, hsp, hsg, hcz, w64_succ, decide_true, ckB_true, ckB_ix, ckB_inR, ckB_room, ckB_cut, ckB_mk, ckB_ne, bif_lt, bif_nlt, bif_le, bif_nle, bif_eq, bif_neq, bif_ne, bif_nne, bif_not, bif_true', bif_false', bnd_ok, lk_inl, lk_inr, Int.toNat_natCast]
      simp [casts]

theorem rrLoop_eq (hR : R ≤ 50) (hC : C ≤ 50) {cols : Nat} (hcols : cols ≤ C) {M A : Nat → Nat → Int} : ∀ (n c : Nat), n + c = cols → ∀ m, n < m →
    iter (rrStep R C M cols) m ((c : Int), (redR R A c).den, sgn (redR R A c).sw, T2 R C (redR R A c).A, casts (redR R A c).piv) = some (.inl ((redR R A cols).den, sgn (redR R A cols).sw, T2 R C (redR R A cols).A, casts (redR R A cols).piv)) := by
  intro n
  induction n with
  | zero =>
    intro c hc m hm
    obtain ⟨m, rfl⟩ : ∃ q, m = q + 1 := ⟨m - 1, by omega⟩
    obtain rfl : c = cols := by omega
    have hs : rrStep R C M c ((c : Int), (redR R A c).den, sgn (redR R A c).sw, T2 R C (redR R A c).A, casts (redR R A c).piv) = some (.done ((redR R A c).den, sgn (redR R A c).sw, T2 R C (redR R A c).A, casts (redR R A c).piv)) := by
      simp (disch := omega) only [rrStep, ref05_ReduceL5K, ckB_ix, ckB_inR, ckB_room, ckB_cut, ckB_mk, ckB_ne, bif_lt, bif_nlt, bif_le, bif_nle, bif_eq, bif_neq, bif_ne, bif_nne, bif_not, bif_true', bif_false', bnd_ok, lk_inl, lk_inr, Int.toNat_natCast]
    rw [iter_succ, hs]
    rfl
  | succ n ih =>
    intro c hc m hm
    obtain ⟨m, rfl⟩ : ∃ q, m = q + 1 := ⟨m - 1, by omega⟩
    rw [iter_succ, rrStep_eq hR hC hcols (by omega), bnd_ok]
    exact ih (c + 1) (by omega) m (by omega)

theorem rrL0_eq (hR : R ≤ 50) (hC : C ≤ 50) {A : Nat → Nat → Int} (a : Int) : ref05_ReduceL0 (T2 R C A) a [] [] 0 0 1 1 [] (0, []) = some (.inl (T2 R C A)) := by
  refine loop_to (fun i : Nat => ((i : Int), T2 i C A)) R (many_of (by omega)) _ ?_ ?_ _ rfl
  · intro i hi
    simp (disch := omega) only [ref05_ReduceL0K, T2_len, T2_row hi, tab_len, w64_succ, List.nil_append, ckB_ix, ckB_inR, ckB_room, ckB_cut, ckB_mk, ckB_ne, bif_lt, bif_nlt, bif_le, bif_nle, bif_eq, bif_neq, bif_ne, bif_nne, bif_not, bif_true', bif_false', bnd_ok, lk_inl, lk_inr, Int.toNat_natCast]
    rw [T2, ← tab_succ]
  · simp (disch := omega) only [ref05_ReduceL0K, T2_len, ckB_ix, ckB_inR, ckB_room, ckB_cut, ckB_mk, ckB_ne, bif_lt, bif_nlt, bif_le, bif_nle, bif_eq, bif_neq, bif_ne, bif_nne, bif_not, bif_true', bif_false', bnd_ok, lk_inl, lk_inr, Int.toNat_natCast]

theorem refReduce_eq (hR : R ≤ 50) (hC : C ≤ 50) {cols : Nat} (hcols : cols ≤ C) (A : Nat → Nat → Int) :
    ref05_Reduce (T2 R C A) (cols : Int) = some (T2 R C (redR R A cols).A, casts (redR R A cols).piv, (redR R A cols).den, sgn (redR R A cols).sw, ()) := by
  have h0 := rrL0_eq hR hC (A := A) (cols : Int)
  have h1 : ref05_ReduceL5 (T2 R C A) (cols : Int) [] [] 0 0 (0, 1, 1, T2 R C A, []) = some (.inl ((redR R A cols).den, sgn (redR R A cols).sw, T2 R C (redR R A cols).A, casts (redR R A cols).piv)) :=
    rrLoop_eq hR hC hcols (M := A) (A := A) cols 0 rfl many (many_of (by omega))
  unfold ref05_Reduce
  simp (disch := omega) only [h0, h1, ckB_ix, ckB_inR, ckB_room, ckB_cut, ckB_mk, ckB_ne, bif_lt, bif_nlt, bif_le, bif_nle, bif_eq, bif_neq, bif_ne, bif_nne, bif_not, bif_true', bif_false', bnd_ok, lk_inl, lk_inr, Int.toNat_natCast]

end
end Go.Proofs.Ytjjhanfglelldaa
