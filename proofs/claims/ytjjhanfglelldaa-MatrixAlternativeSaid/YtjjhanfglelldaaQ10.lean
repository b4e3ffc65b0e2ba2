/-
  Matrices: the kernel is what a matrix makes zero (MatrixNull).
-/
import Derived.Test.YtjjhanfglelldaaQ9
import Derived.Test.YtjjhanfglelldaaQ7
set_option linter.all false
namespace Go.Proofs.Ytjjhanfglelldaa
open Go.K Go.M

theorem times_eq {C : Nat} (hC : C ≤ 50) {f g : Nat → Int} (hb : ∀ j, j < C → -4503599627370496 ≤ f j * g j ∧ f j * g j ≤ 4503599627370496) : ref05_Times (tab C f) (tab C g) = some (sumN (fun j => f j * g j) C) := by
  have hL0 : ref05_TimesL0 (tab C f) (tab C g) (0, 0) = some (.inl (sumN (fun j => f j * g j) C)) := by
    refine loop_to (fun i : Nat => (sumN (fun j => f j * g j) i, (i : Int))) C (many_of (by omega)) _ ?_ ?_ _ rfl
    · intro i hi
      have h1 := hb i hi
      have h2 := sumN_bound (b := 4503599627370496) i (f := fun j => f j * g j) fun k hk => hb k (by omega)
      have h3 : (i : Int) * 4503599627370496 ≤ 50 * 4503599627370496 := Int.mul_le_mul_of_nonneg_right (by omega) (by omega)
      simp (disch := omega) only [ref05_TimesL0K, tab_len, tab_getD hi, ckB_ix, ckB_inR, ckB_room, ckB_cut, ckB_mk, ckB_ne, bif_lt, bif_nlt, bif_le, bif_nle, bif_eq, bif_neq, bif_ne, bif_nne, bif_not, bif_true', bif_false', bnd_ok, lk_inl, lk_inr, Int.toNat_natCast]
      rw [cast_succ]
      rfl
    · simp (disch := omega) only [ref05_TimesL0K, tab_len, ckB_ix, ckB_inR, ckB_room, ckB_cut, ckB_mk, ckB_ne, bif_lt, bif_nlt, bif_le, bif_nle, bif_eq, bif_neq, bif_ne, bif_nne, bif_not, bif_true', bif_false', bnd_ok, lk_inl, lk_inr, Int.toNat_natCast]
  unfold ref05_Times
  rw [hL0]
  rfl

section
variable {R C : Nat} {M : Mat}
theorem rank_val (r1 : 1 ≤ R) (r2 : R ≤ 20) (c1 : 1 ≤ C) (c2 : C ≤ 20) (hA : Ent M) (hval : matrix_Valid (T2 R C M) = some true) (hsm : smallM R C M = true) : matrix_Rank (T2 R C M) = some (((redR R M C).piv.length : Int), 0) := by
  have hs := small_eq (R := R) (C := C) (by omega) (by omega) hA
  rw [hsm] at hs
  have h0 : 0 < R := by omega
  have hred := reduce_eq (R := R) (C := C) (by omega) (by omega) c1 (Nat.le_refl C) M
  have hcl := casts_len (redR R M C).piv
  unfold matrix_Rank; simp (disch := omega) only [hval, Bool.not_true, hs, T2_len, T2_row h0, tab_len, hred, hcl, ckB_ix, ckB_inR, ckB_room, ckB_cut, ckB_mk, ckB_ne, bif_lt, bif_nlt, bif_le, bif_nle, bif_eq, bif_neq, bif_ne, bif_nne, bif_not, bif_true', bif_false', bnd_ok, lk_inl, lk_inr, Int.toNat_natCast]
theorem kernel_val (r1 : 1 ≤ R) (r2 : R ≤ 20) (c1 : 1 ≤ C) (c2 : C ≤ 20) (hA : Ent M) (hval : matrix_Valid (T2 R C M) = some true) (hsm : smallM R C M = true) : matrix_Kernel (T2 R C M) = some (0, (frees (redR R M C) C).map fun c => tab C (kf C (redR R M C) c)) := by
  have hs := small_eq (R := R) (C := C) (by omega) (by omega) hA
  rw [hsm] at hs
  have hk := kernel_eq (R := R) (C := C) (by omega) (by omega) (by omega) c1 hA
  rw [basis_frees] at hk
  unfold matrix_Kernel; simp (disch := omega) only [hval, Bool.not_true, hs, hk, ckB_ix, ckB_inR, ckB_room, ckB_cut, ckB_mk, ckB_ne, bif_lt, bif_nlt, bif_le, bif_nle, bif_eq, bif_neq, bif_ne, bif_nne, bif_not, bif_true', bif_false', bnd_ok, lk_inl, lk_inr, Int.toNat_natCast]

theorem nullL0_eq (hC : C ≤ 50) {f : Nat → Int} (hb : ∀ j, j < C → -1073741824 ≤ f j ∧ f j ≤ 1073741824) (m : List (List Int)) (l : Int) (x : List Int) (v57 : List (List Int)) (v58 v59 : Int) : law05_MatrixNullL0 m l x v57 v58 v59 (tab C f) (C : Int) 0 = some (.inl ()) := by
  refine loop_to (fun i : Nat => (i : Int)) C (many_of (by omega)) _ ?_ ?_ _ rfl
  · intro i hi
    have h1 := hb i hi
    simp (disch := omega) only [law05_MatrixNullL0K, tab_len, tab_getD hi, ckB_ix, ckB_inR, ckB_room, ckB_cut, ckB_mk, ckB_ne, bif_lt, bif_nlt, bif_le, bif_nle, bif_eq, bif_neq, bif_ne, bif_nne, bif_not, bif_true', bif_false', bnd_ok, lk_inl, lk_inr, Int.toNat_natCast]
    rw [cast_succ]
  · simp (disch := omega) only [law05_MatrixNullL0K, ckB_ix, ckB_inR, ckB_room, ckB_cut, ckB_mk, ckB_ne, bif_lt, bif_nlt, bif_le, bif_nle, bif_eq, bif_neq, bif_ne, bif_nne, bif_not, bif_true', bif_false', bnd_ok, lk_inl, lk_inr, Int.toNat_natCast]
theorem nullL1_eq (hR : R ≤ 50) (hC : C ≤ 50) (hA : Ent M) {f : Nat → Int} (hb : ∀ j, j < C → -1073741824 ≤ f j ∧ f j ≤ 1073741824) (h0 : ∀ r, r < R → sumN (fun j => M r j * f j) C = 0) (m : List (List Int)) (l : Int) (v57 : List (List Int)) (v58 v59 : Int) : law05_MatrixNullL1 m l (tab C f) v57 v58 v59 (T2 R C M) (R : Int) 0 = some (.inl ()) := by
  refine loop_to (fun i : Nat => (i : Int)) R (many_of (by omega)) _ ?_ ?_ _ rfl
  · intro i hi
    have h1 := times_eq hC (f := M i) (g := f) fun j hj => by
      have := mul_bound (hA i j) (hb j hj)
      omega
    rw [h0 i hi] at h1
    simp (disch := omega) only [law05_MatrixNullL1K, T2_len, T2_row hi, h1, decide_true, ckB_ix, ckB_inR, ckB_room, ckB_cut, ckB_mk, ckB_ne, bif_lt, bif_nlt, bif_le, bif_nle, bif_eq, bif_neq, bif_ne, bif_nne, bif_not, bif_true', bif_false', bnd_ok, lk_inl, lk_inr, Int.toNat_natCast]
    rw [cast_succ]
  · simp (disch := omega) only [law05_MatrixNullL1K, ckB_ix, ckB_inR, ckB_room, ckB_cut, ckB_mk, ckB_ne, bif_lt, bif_nlt, bif_le, bif_nle, bif_eq, bif_neq, bif_ne, bif_nne, bif_not, bif_true', bif_false', bnd_ok, lk_inl, lk_inr, Int.toNat_natCast]
theorem nullL2_eq (hC : C ≤ 50) {f : Nat → Int} {c : Nat} (hc : c < C) (hl : ∀ j, c < j → j < C → f j = 0) (hp : 1 ≤ f c) (m : List (List Int)) (l : Int) (v57 : List (List Int)) (v58 v59 : Int) : law05_MatrixNullL2 m l (tab C f) v57 v58 v59 ((C : Int) - 1) = some (.inl (c : Int)) := by
  refine loop_to (fun i : Nat => (C : Int) - 1 - (i : Int)) (C - 1 - c) (many_of (by omega)) _ ?_ ?_ _ (by simp)
  · intro i hi
    have e : (C : Int) - 1 - (i : Int) = ((C - 1 - i : Nat) : Int) := by omega
    have h1 := hl (C - 1 - i) (by omega) (by omega)
    have h2 : C - 1 - i < C := by omega
    rw [e]
    simp (disch := omega) only [law05_MatrixNullL2K, tab_len, tab_getD h2, h1, ckB_ix, ckB_inR, ckB_room, ckB_cut, ckB_mk, ckB_ne, bif_lt, bif_nlt, bif_le, bif_nle, bif_eq, bif_neq, bif_ne, bif_nne, bif_not, bif_true', bif_false', bnd_ok, lk_inl, lk_inr, Int.toNat_natCast]
    refine congrArg some (congrArg LR.next ?_)
    omega
  · have e : (C : Int) - 1 - ((C - 1 - c : Nat) : Int) = (c : Int) := by omega
    rw [e]
    simp (disch := omega) only [law05_MatrixNullL2K, tab_len, tab_getD hc, ckB_ix, ckB_inR, ckB_room, ckB_cut, ckB_mk, ckB_ne, bif_lt, bif_nlt, bif_le, bif_nle, bif_eq, bif_neq, bif_ne, bif_nne, bif_not, bif_true', bif_false', bnd_ok, lk_inl, lk_inr, Int.toNat_natCast]

theorem MatrixNull_true (m : List (List Int)) : law05_MatrixNull m = some true := by
  obtain ⟨b, hb, hok⟩ := great_eq [m] (by simp)
  unfold law05_MatrixNull
  cases b with
  | true => simp (disch := omega) only [awake_true, Bool.not_true, hb, ckB_ix, ckB_inR, ckB_room, ckB_cut, ckB_mk, ckB_ne, bif_lt, bif_nlt, bif_le, bif_nle, bif_eq, bif_neq, bif_ne, bif_nne, bif_not, bif_true', bif_false', bnd_ok, lk_inl, lk_inr, Int.toNat_natCast]
  | false =>
    have h := hok rfl m (by simp)
    have hrv := refValid_eq m
    cases hv : validM m with
    | false =>
      rw [hv] at hrv
      simp (disch := omega) only [awake_true, Bool.not_true, hb, hrv, Bool.not_false, ckB_ix, ckB_inR, ckB_room, ckB_cut, ckB_mk, ckB_ne, bif_lt, bif_nlt, bif_le, bif_nle, bif_eq, bif_neq, bif_ne, bif_nne, bif_not, bif_true', bif_false', bnd_ok, lk_inl, lk_inr, Int.toNat_natCast]
    | true =>
      rw [hv] at hrv
      obtain ⟨R, C, M, rfl, hR, hC, r1, r2, c1, c2, hA⟩ := valid_at hv
      have hval := h.valid
      rw [hv] at hval
      have hs' := refSmall_eq (R := R) (C := C) (by omega) (by omega) hA
      have h0 : 0 < R := by omega
      cases hsm : smallM R C M with
      | false =>
        rw [hsm] at hs'
        simp (disch := omega) only [awake_true, Bool.not_true, hb, hrv, hs', Bool.not_false, ckB_ix, ckB_inR, ckB_room, ckB_cut, ckB_mk, ckB_ne, bif_lt, bif_nlt, bif_le, bif_nle, bif_eq, bif_neq, bif_ne, bif_nne, bif_not, bif_true', bif_false', bnd_ok, lk_inl, lk_inr, Int.toNat_natCast]
      | true =>
        rw [hsm] at hs'
        have hP : pr C M R ≤ 1073741824 := of_decide_eq_true hsm
        obtain ⟨σ, hX⟩ := redR_exact hP C (Nat.le_refl C)
        have hrank := rank_val r1 r2 c1 c2 hA hval hsm
        have hker := kernel_val r1 r2 c1 c2 hA hval hsm
        have hlen := frees_all hX
        generalize redR R M C = s at hX hrank hker hlen
        have hkv : ∀ c, c ∈ frees s C → c < C ∧ KV R C M s c := fun c hc => ⟨(frees_mem.1 hc).1, kf_KV hP hX (frees_mem.1 hc).1 (frees_mem.1 hc).2⟩
        have hml : ((frees s C).map fun c => tab C (kf C s c)).length = (frees s C).length := List.length_map _
        have hL3 : law05_MatrixNullL3 (T2 R C M) ((frees s C).map fun c => tab C (kf C s c)) (((frees s C).length : Nat) : Int) (-1, 0) = some (.inl ()) := by
          refine loop_to (fun i : Nat => ((if i = 0 then (-1 : Int) else (((frees s C).getD (i - 1) 0 : Nat) : Int)), (i : Int))) (frees s C).length (many_of (by omega)) _ ?_ ?_ _ rfl
          · intro i hi
            have hrow : ((frees s C).map fun c => tab C (kf C s c)).getD i [] = tab C (kf C s ((frees s C).getD i 0)) := by
              rw [getD_at _ _ [] (by rw [hml]; exact hi), List.getElem_map, getD_at _ _ 0 hi]
            obtain ⟨hc, hK⟩ := hkv _ (getD_mem 0 hi)
            have hlast : (if i = 0 then (-1 : Int) else (((frees s C).getD (i - 1) 0 : Nat) : Int)) < (((frees s C).getD i 0 : Nat) : Int) := by
              split
              · omega
              · have := List.pairwise_iff_getElem.1 (frees_asc s C) (i - 1) i (by omega) hi (by omega)
                rw [getD_at _ _ 0 hi, getD_at _ _ 0 (by omega : i - 1 < (frees s C).length)]
                omega
            generalize (if i = 0 then (-1 : Int) else (((frees s C).getD (i - 1) 0 : Nat) : Int)) = last at hlast
            have e1 : (if i + 1 = 0 then (-1 : Int) else (((frees s C).getD (i + 1 - 1) 0 : Nat) : Int)) = (((frees s C).getD i 0 : Nat) : Int) := if_neg (by omega)
            rw [e1]
            generalize (frees s C).getD i 0 = c at hrow hc hK hlast
            have hl0 := nullL0_eq (C := C) (by omega) hK.bd (T2 R C M) last (tab C (kf C s c)) ((frees s C).map fun c => tab C (kf C s c)) ((frees s C).length : Int) (i : Int)
            have hl1 := nullL1_eq (R := R) (C := C) (by omega) (by omega) hA hK.bd hK.zero (T2 R C M) last ((frees s C).map fun c => tab C (kf C s c)) ((frees s C).length : Int) (i : Int)
            have hl2 := nullL2_eq (C := C) (by omega) hc hK.last hK.pos (T2 R C M) last ((frees s C).map fun c => tab C (kf C s c)) ((frees s C).length : Int) (i : Int)
            have hpos := hK.pos
            simp (disch := omega) only [law05_MatrixNullL3K, hml, hrow, T2_len, T2_row h0, tab_len, hl0, hl1, hl2, tab_getD hc, decide_true, ckB_ix, ckB_inR, ckB_room, ckB_cut, ckB_mk, ckB_ne, bif_lt, bif_nlt, bif_le, bif_nle, bif_eq, bif_neq, bif_ne, bif_nne, bif_not, bif_true', bif_false', bnd_ok, lk_inl, lk_inr, Int.toNat_natCast]
            rw [cast_succ]
          · simp (disch := omega) only [law05_MatrixNullL3K, ckB_ix, ckB_inR, ckB_room, ckB_cut, ckB_mk, ckB_ne, bif_lt, bif_nlt, bif_le, bif_nle, bif_eq, bif_neq, bif_ne, bif_nne, bif_not, bif_true', bif_false', bnd_ok, lk_inl, lk_inr, Int.toNat_natCast]
        have hle := hX.le
        simp (disch := omega) only [awake_true, Bool.not_true, hb, hrv, hs', hrank, hker, hml, T2_len, T2_row h0, tab_len, hL3, decide_true, ckB_ix, ckB_inR, ckB_room, ckB_cut, ckB_mk, ckB_ne, bif_lt, bif_nlt, bif_le, bif_nle, bif_eq, bif_neq, bif_ne, bif_nne, bif_not, bif_true', bif_false', bnd_ok, lk_inl, lk_inr, Int.toNat_natCast]
end
end Go.Proofs.Ytjjhanfglelldaa
