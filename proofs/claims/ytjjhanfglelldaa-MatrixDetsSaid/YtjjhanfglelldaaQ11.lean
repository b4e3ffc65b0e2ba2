/-
  Matrices: Det is the determinant (MatrixDets).
-/
import Derived.Test.YtjjhanfglelldaaQ10
set_option linter.all false
namespace Go.Proofs.Ytjjhanfglelldaa
open Go.K Go.M

section
variable {n : Nat} {M : Mat}

theorem det_small (hP : pr n M n ≤ 1073741824) : -1073741824 ≤ det n M ∧ det n M ≤ 1073741824 := by
  have h := minor_bd (R := n) (C := n) (M := M) (r := fun i => i) (q := fun i => i) (k := n) ⟨fun b hb => hb, fun a b _ _ e => e⟩ ⟨fun b hb => hb, fun a b _ _ e => e⟩
  have h2 : -pr n M n ≤ det n M ∧ det n M ≤ pr n M n := h
  omega
theorem det_of_less (hP : pr n M n ≤ 1073741824) {s : RS} {σ : Nat → Nat} (h : XI n n M n s σ) (hk : s.piv.length < n) : det n M = 0 := by
  have hlen := frees_all h
  obtain ⟨c, hc⟩ : ∃ c, c ∈ frees s n := by
    cases e : frees s n with
    | nil => rw [e] at hlen; simp at hlen; omega
    | cons c l => exact ⟨c, List.mem_cons_self ..⟩
  obtain ⟨hcn, hcp⟩ := frees_mem.1 hc
  refine Classical.byContradiction fun hne => ?_
  have hz := det_indep hne (x := zv s c) (fun u hu => by
    rw [sumN_congr (g := fun j => M u j * zv s c j) fun j _ => Int.mul_comm _ _]
    exact row_zv h hcn hu) c hcn
  rw [(zv_bd hP h hcn hcp).2.1, h.den] at hz
  exact h.d0 hz
theorem asc_id {q : Nat → Nat} : ∀ {k m : Nat}, (∀ a b, a < b → b < k → q a < q b) → (∀ a, a < k → q a < m) → k ≤ m ∧ ∀ b, b < k → q b + (k - b) ≤ m
  | 0, m, _, _ => ⟨Nat.zero_le _, fun b hb => by omega⟩
  | k + 1, m, h1, h2 => by
    obtain ⟨h3, h4⟩ := asc_id (k := k) (m := q k) (fun a b hab hb => h1 a b hab (by omega)) (fun a ha => h1 a k ha (by omega))
    have h5 := h2 k (by omega)
    refine ⟨by omega, fun b hb => ?_⟩
    by_cases e : b = k
    · subst e; omega
    · have := h4 b (by omega); omega
theorem asc_ge {q : Nat → Nat} {k : Nat} (h : ∀ a b, a < b → b < k → q a < q b) : ∀ b, b < k → b ≤ q b
  | 0, _ => Nat.zero_le _
  | b + 1, hb => by
    have h1 := asc_ge h b (by omega)
    have h2 := h b (b + 1) (by omega) hb
    omega
theorem det_of_full {s : RS} {σ : Nat → Nat} (h : XI n n M n s σ) (hk : s.piv.length = n) : det n M = sgn s.sw * s.den ∧ det n M ≠ 0 := by
  have hq : ∀ b, b < n → qs s b = b := fun b hb => by
    have h1 := asc_ge h.mono b (by omega)
    have h2 := (asc_id (k := s.piv.length) (m := n) h.mono h.lt).2 b (by omega)
    omega
  have h1 : s.den = det n (rw' M σ) := by
    rw [h.den, hk]
    exact det_congr _ fun i j _ hj => by unfold sb; rw [hq j hj]
  have h2 : det n M = sgn s.sw * s.den := by rw [h.sg, h1]
  refine ⟨h2, ?_⟩
  have hd : s.den ≠ 0 := by rw [h.den]; exact h.d0
  rw [h2]
  unfold sgn
  split <;> omega

/-- Det. -/
theorem det_val (r1 : 1 ≤ n) (r2 : n ≤ 20) (hA : Ent M) : matrix_Det (T2 n n M) = some (if smallM n n M = true then (det n M, 0) else (0, 6)) := by
  have hv := T2_valid r1 r2 r1 r2 hA
  have hval := Valid_eq (T2 n n M) (T2_rows (by omega))
  rw [hv] at hval
  have hs := small_eq (R := n) (C := n) (by omega) (by omega) hA
  have h0 : 0 < n := by omega
  cases hsm : smallM n n M with
  | false =>
    rw [hsm] at hs
    rw [if_neg (by simp)]
    unfold matrix_Det; simp (disch := omega) only [hval, Bool.not_true, hs, T2_len, T2_row h0, tab_len, Bool.not_false, ckB_ix, ckB_inR, ckB_room, ckB_cut, ckB_mk, ckB_ne, bif_lt, bif_nlt, bif_le, bif_nle, bif_eq, bif_neq, bif_ne, bif_nne, bif_not, bif_true', bif_false', bnd_ok, lk_inl, lk_inr, Int.toNat_natCast, decide_true]
  | true =>
    rw [hsm] at hs
    rw [if_pos rfl]
    have hP : pr n M n ≤ 1073741824 := of_decide_eq_true hsm
    have hred := reduce_eq (R := n) (C := n) (by omega) (by omega) r1 (cols := n) (by omega) M
    have hI := redR_inv n M n
    have hin := redR_in (R := n) (A := M) (fun i j => by have := hA i j; unfold in64; omega) n
    have hcl := casts_len (redR n M n).piv
    obtain ⟨σ, hX⟩ := redR_exact hP n (Nat.le_refl n)
    generalize redR n M n = s at *
    by_cases hfull : s.piv.length < n
    · rw [det_of_less hP hX hfull]
      unfold matrix_Det; simp (disch := omega) only [hval, Bool.not_true, hs, T2_len, T2_row h0, tab_len, hred, hcl, ckB_ix, ckB_inR, ckB_room, ckB_cut, ckB_mk, ckB_ne, bif_lt, bif_nlt, bif_le, bif_nle, bif_eq, bif_neq, bif_ne, bif_nne, bif_not, bif_true', bif_false', bnd_ok, lk_inl, lk_inr, Int.toNat_natCast, decide_true]
    · have hsw := hI.swl
      have hpl := hI.piv
      have hsg := sgn_mod s.sw (by omega) s.den hin.2
      have hdb := det_small hP
      have hdf := (det_of_full hX (by omega)).1
      rw [← hdf, w64_id (x := det n M) ⟨by omega, by omega⟩] at hsg
      rw [← hsg]
      unfold matrix_Det; simp (disch := omega) only [hval, Bool.not_true, hs, T2_len, T2_row h0, tab_len, hred, hcl, ckB_ne, ckB_ix, ckB_inR, ckB_room, ckB_cut, ckB_mk, ckB_ne, bif_lt, bif_nlt, bif_le, bif_nle, bif_eq, bif_neq, bif_ne, bif_nne, bif_not, bif_true', bif_false', bnd_ok, lk_inl, lk_inr, Int.toNat_natCast, decide_true]
      cases decide (Int.tmod (s.sw : Int) 2 = 1) <;> rfl

/-- Rank. -/
theorem rank_sq (r1 : 1 ≤ n) (r2 : n ≤ 20) (hA : Ent M) : (smallM n n M = false → matrix_Rank (T2 n n M) = some (0, 6)) ∧ (smallM n n M = true → ∃ k : Nat, k ≤ n ∧ matrix_Rank (T2 n n M) = some ((k : Int), 0) ∧ (det n M ≠ 0 ↔ k = n)) := by
  have hv := T2_valid r1 r2 r1 r2 hA
  have hval := Valid_eq (T2 n n M) (T2_rows (by omega))
  rw [hv] at hval
  refine ⟨fun hsm => ?_, fun hsm => ?_⟩
  · have hs := small_eq (R := n) (C := n) (by omega) (by omega) hA
    rw [hsm] at hs
    unfold matrix_Rank; simp (disch := omega) only [hval, Bool.not_true, hs, Bool.not_false, ckB_ix, ckB_inR, ckB_room, ckB_cut, ckB_mk, ckB_ne, bif_lt, bif_nlt, bif_le, bif_nle, bif_eq, bif_neq, bif_ne, bif_nne, bif_not, bif_true', bif_false', bnd_ok, lk_inl, lk_inr, Int.toNat_natCast, decide_true]
  · have hP : pr n M n ≤ 1073741824 := of_decide_eq_true hsm
    obtain ⟨σ, hX⟩ := redR_exact hP n (Nat.le_refl n)
    refine ⟨(redR n M n).piv.length, hX.le, rank_val r1 r2 r1 r2 hA hval hsm, ?_⟩
    constructor
    · intro hne
      have := hX.le
      by_cases hlt : (redR n M n).piv.length < n
      · exact absurd (det_of_less hP hX hlt) hne
      · omega
    · exact fun e => (det_of_full hX e).2

/-! Exchanging rows. -/
theorem swp_small {k t : Nat} (hk : k < n) (ht : t < n) : smallM n n (swp M k t) = smallM n n M := by
  have hi : Inj (fun i => if i = t then k else if i = k then t else i) n n := ⟨fun b hb => by
    show (if b = t then k else if b = k then t else b) < n
    repeat' split
    all_goals omega, fun a b ha hb hab => by
    simp only at hab
    repeat' split at hab
    all_goals omega⟩
  have e : pr n (swp M k t) n = pr n M n := by
    rw [pr_prod, pr_prod]
    have h1 := inj_prod (f := fun i => max (aS n M i) 1) hi fun i _ => Int.le_max_right _ _
    have h2 := inj_prod (f := fun i => max (aS n (swp M k t) i) 1) hi fun i _ => Int.le_max_right _ _
    have h3 : (fun b => (fun i => max (aS n (swp M k t) i) 1) ((fun i => if i = t then k else if i = k then t else i) b)) = fun i => max (aS n M i) 1 := by
      funext b
      have : aS n (swp M k t) (if b = t then k else if b = k then t else b) = aS n M b := by
        unfold aS swp
        have : (if (if b = t then k else if b = k then t else b) = t then k else if (if b = t then k else if b = k then t else b) = k then t else (if b = t then k else if b = k then t else b)) = b := by
          repeat' split
          all_goals omega
        rw [this]
      simp only [this]
    rw [h3] at h2
    have h4 : (fun b => (fun i => max (aS n M i) 1) ((fun i => if i = t then k else if i = k then t else i) b)) = fun i => max (aS n (swp M k t) i) 1 := rfl
    rw [h4] at h1
    exact Int.le_antisymm h1 h2
  unfold smallM
  rw [e]
theorem swp_same {k : Nat} : swp M k k = M := by
  funext i j
  unfold swp
  congr 1
  repeat' split
  all_goals omega
theorem swp_det {k t : Nat} (hk : k < n) (ht : t < n) (hne : k ≠ t) : det n (swp M k t) = -det n M := by
  have h1 := (det_rows n).swap' (c := k) (d := t) hk ht hne M (M k) (M t)
  rw [put_same, put_same] at h1
  have h2 : put (put M k (M t)) t (M k) = swp M k t := by
    funext i
    unfold put swp
    by_cases e1 : i = t
    · rw [if_pos e1, if_pos e1]
    · rw [if_neg e1, if_neg e1]
      by_cases e2 : i = k
      · rw [if_pos e2, if_pos e2]
      · rw [if_neg e2, if_neg e2]
  rw [h2] at h1
  omega

/-- The product. -/
theorem detsT0_eq (r1 : 1 ≤ n) (r2 : n ≤ 20) {A B : Mat} (hA : Ent A) (hB : Ent B) (hsA : smallM n n A = true) : law05_MatrixDetsT0 (T2 n n A) (T2 n n B) (det n A) = some (.inr true) := by
  have hP : pr n A n ≤ 1073741824 := of_decide_eq_true hsA
  have dA := det_small hP
  have hB' := det_val r1 r2 hB
  have hm := (mul_val r1 r2 r1 r2 r1 r2 hA hB).1
  obtain ⟨l, e, hl, hd, hc⟩ : ∃ l e, matrix_Mul (T2 n n A) (T2 n n B) = some (e, l) ∧ (∃ d f, matrix_Det l = some (d, f) ∧ (e = 0 → f = 0 → d = det n B * det n A)) ∧ True := by
    unfold mulV at hm
    split at hm
    · rename_i hv
      refine ⟨_, _, hm, ?_, trivial⟩
      have hE : Ent (fun i j => if i < n ∧ j < n then mulF n A B i j else 0) := by
        intro i j
        by_cases h : i < n ∧ j < n
        · simp only [if_pos h]
          unfold validM at hv
          simp only [Bool.and_eq_true, decide_eq_true_eq, List.all_eq_true] at hv
          have h1 := (hv.2 (tab n (mulF n A B i)) (tab_mem.2 ⟨i, h.1, rfl⟩)).2 _ (tab_mem.2 ⟨j, h.2, rfl⟩)
          simp only [entB, Bool.and_eq_true, decide_eq_true_eq] at h1
          exact h1
        · simp only [if_neg h]
          omega
      have e1 : T2 n n (mulF n A B) = T2 n n (fun i j => if i < n ∧ j < n then mulF n A B i j else 0) := T2_congr fun i j hi hj => by rw [if_pos ⟨hi, hj⟩]
      have hd := det_val r1 r2 hE
      rw [← e1] at hd
      by_cases hs : smallM n n (fun i j => if i < n ∧ j < n then mulF n A B i j else 0) = true
      · rw [if_pos hs] at hd
        refine ⟨_, _, hd, fun _ h => ?_⟩
        rw [← det_mul]
        exact det_congr _ fun i j hi hj => by rw [if_pos ⟨hi, hj⟩]; rfl
      · rw [if_neg hs] at hd
        exact ⟨_, _, hd, fun _ h => absurd h (by decide)⟩
    · refine ⟨_, _, hm, ⟨0, 1, by kernel_rfl, fun h => absurd h (by decide)⟩, trivial⟩
  obtain ⟨d, f, hd, hdd⟩ := hd
  unfold law05_MatrixDetsT0 law05_MatrixDetsT0K
  rw [hB', hl, bnd_ok, bnd_ok]
  simp only
  rw [hd, bnd_ok]
  by_cases hs : smallM n n B = true
  · rw [if_pos hs]
    have dB := det_small (n := n) (M := B) (of_decide_eq_true hs)
    have hb := mul_bound dA dB
    by_cases he : e = 0
    · by_cases hf : f = 0
      · have := hdd he hf
        rw [Int.mul_comm] at this
        subst this
        simp (disch := omega) only [decide_true, ckB_ix, ckB_inR, ckB_room, ckB_cut, ckB_mk, ckB_ne, bif_lt, bif_nlt, bif_le, bif_nle, bif_eq, bif_neq, bif_ne, bif_nne, bif_not, bif_true', bif_false', bnd_ok, lk_inl, lk_inr, Int.toNat_natCast, decide_true]
      · simp (disch := omega) only [ckB_ix, ckB_inR, ckB_room, ckB_cut, ckB_mk, ckB_ne, bif_lt, bif_nlt, bif_le, bif_nle, bif_eq, bif_neq, bif_ne, bif_nne, bif_not, bif_true', bif_false', bnd_ok, lk_inl, lk_inr, Int.toNat_natCast, decide_true]
    · simp (disch := omega) only [ckB_ix, ckB_inR, ckB_room, ckB_cut, ckB_mk, ckB_ne, bif_lt, bif_nlt, bif_le, bif_nle, bif_eq, bif_neq, bif_ne, bif_nne, bif_not, bif_true', bif_false', bnd_ok, lk_inl, lk_inr, Int.toNat_natCast, decide_true]
  · rw [if_neg hs]
    simp (disch := omega) only [ckB_ix, ckB_inR, ckB_room, ckB_cut, ckB_mk, ckB_ne, bif_lt, bif_nlt, bif_le, bif_nle, bif_eq, bif_neq, bif_ne, bif_nne, bif_not, bif_true', bif_false', bnd_ok, lk_inl, lk_inr, Int.toNat_natCast, decide_true]

theorem MatrixDets_true (a b : List (List Int)) (i j : Int) (hi : 0 ≤ i ∧ i ≤ 255) (hj : 0 ≤ j ∧ j ≤ 255) : law05_MatrixDets a b i j = some true := by
  obtain ⟨g, hg, hok⟩ := great_eq [a, b] (by simp)
  unfold law05_MatrixDets
  cases g with
  | true => simp (disch := omega) only [awake_true, Bool.not_true, hg, ckB_ix, ckB_inR, ckB_room, ckB_cut, ckB_mk, ckB_ne, bif_lt, bif_nlt, bif_le, bif_nle, bif_eq, bif_neq, bif_ne, bif_nne, bif_not, bif_true', bif_false', bnd_ok, lk_inl, lk_inr, Int.toNat_natCast, decide_true]
  | false =>
    have hra := refValid_eq a
    have hrb := refValid_eq b
    cases hva : validM a with
    | false =>
      rw [hva] at hra
      simp (disch := omega) only [awake_true, Bool.not_true, hg, hra, Bool.not_false, ckB_ix, ckB_inR, ckB_room, ckB_cut, ckB_mk, ckB_ne, bif_lt, bif_nlt, bif_le, bif_nle, bif_eq, bif_neq, bif_ne, bif_nne, bif_not, bif_true', bif_false', bnd_ok, lk_inl, lk_inr, Int.toNat_natCast, decide_true]
    | true =>
      cases hvb : validM b with
      | false =>
        rw [hva] at hra
        rw [hvb] at hrb
        simp (disch := omega) only [awake_true, Bool.not_true, hg, hra, hrb, Bool.not_false, ckB_ix, ckB_inR, ckB_room, ckB_cut, ckB_mk, ckB_ne, bif_lt, bif_nlt, bif_le, bif_nle, bif_eq, bif_neq, bif_ne, bif_nne, bif_not, bif_true', bif_false', bnd_ok, lk_inl, lk_inr, Int.toNat_natCast, decide_true]
      | true =>
        rw [hva] at hra
        rw [hvb] at hrb
        obtain ⟨n, C, A, rfl, hR, hC, r1, r2, c1, c2, hA⟩ := valid_at hva
        obtain ⟨n', C', B, rfl, hR', hC', r1', r2', c1', c2', hB⟩ := valid_at hvb
        have h0 : 0 < n := by omega
        have h0' : 0 < n' := by omega
        by_cases e1 : (n : Int) = (C : Int)
        · by_cases e2 : (n' : Int) = (n : Int)
          · by_cases e3 : (C' : Int) = (n : Int)
            · obtain rfl : n = C := by omega
              obtain rfl : n' = n := by omega
              obtain rfl : C' = n' := by omega
              have hd := det_val r1 r2 hA
              obtain ⟨hr0, hr1⟩ := rank_sq r1 r2 hA
              cases hs : smallM C' C' A with
              | false =>
                have hr := hr0 hs
                rw [hs, if_neg (by simp)] at hd
                simp (disch := omega) only [awake_true, Bool.not_true, hg, hra, hrb, T2_len, T2_row h0, tab_len, hd, hr, decide_true, law05_MatrixDetsT1, law05_MatrixDetsT1K, ckB_ix, ckB_inR, ckB_room, ckB_cut, ckB_mk, ckB_ne, bif_lt, bif_nlt, bif_le, bif_nle, bif_eq, bif_neq, bif_ne, bif_nne, bif_not, bif_true', bif_false', bnd_ok, lk_inl, lk_inr, Int.toNat_natCast, decide_true]
              | true =>
                obtain ⟨k, hk, hr, hiff⟩ := hr1 hs
                rw [hs, if_pos rfl] at hd
                have hdb := det_small (n := C') (M := A) (of_decide_eq_true hs)
                have hT0 := detsT0_eq r1 r2 hA hB hs
                have em : ∀ x : Int, 0 ≤ x → Int.tmod x (C' : Int) = ((x.toNat % C' : Nat) : Int) := fun x hx => by
                  rw [Int.tmod_eq_emod_of_nonneg hx]
                  have : ((x.toNat % C' : Nat) : Int) = (x.toNat : Int) % (C' : Int) := rfl
                  rw [this, Int.toNat_of_nonneg hx]
                have ei := em i hi.1
                have ej := em j hj.1
                have lk : i.toNat % C' < C' := Nat.mod_lt _ h0
                have ll : j.toNat % C' < C' := Nat.mod_lt _ h0
                generalize i.toNat % C' = p at *
                generalize j.toNat % C' = q at *
                have hsp := swap_T2 (R := C') (C := C') (A := A) lk ll
                have hds := det_val (M := swp A p q) r1 r2 fun x y => hA _ _
                rw [swp_small lk ll, hs, if_pos rfl] at hds
                have hbool : ((!decide (det C' A = 0)) == decide ((k : Int) = (C' : Int))) = true := by
                  by_cases h : det C' A = 0
                  · have : ¬ k = C' := fun e => hiff.2 e h
                    have h' : ¬ (k : Int) = (C' : Int) := by omega
                    simp [h, h']
                  · have := hiff.1 h
                    subst this
                    simp [h]
                have hT1 : law05_MatrixDetsT1 (T2 C' C' A) (T2 C' C' B) i j (det C' A) 0 = some (.inr true) := by
                  unfold law05_MatrixDetsT1 law05_MatrixDetsT1K
                  by_cases e : p = q
                  · subst e
                    rw [swp_same] at hds hsp
                    simp (disch := omega) only [T2_len, ei, ej, List.length_set, hsp, hds, hT0, decide_true, Bool.not_true, ckB_ix, ckB_inR, ckB_room, ckB_cut, ckB_mk, ckB_ne, bif_lt, bif_nlt, bif_le, bif_nle, bif_eq, bif_neq, bif_ne, bif_nne, bif_not, bif_true', bif_false', bnd_ok, lk_inl, lk_inr, Int.toNat_natCast, decide_true]
                  · have e' : (p : Int) ≠ (q : Int) := by omega
                    rw [swp_det lk ll e] at hds
                    have e4 : 0 - det C' A = -det C' A := by omega
                    simp (disch := omega) only [T2_len, ei, ej, List.length_set, hsp, hds, hT0, e4, decide_true, Bool.not_true, ckB_ix, ckB_inR, ckB_room, ckB_cut, ckB_mk, ckB_ne, bif_lt, bif_nlt, bif_le, bif_nle, bif_eq, bif_neq, bif_ne, bif_nne, bif_not, bif_true', bif_false', bnd_ok, lk_inl, lk_inr, Int.toNat_natCast, decide_true]
                simp (disch := omega) only [awake_true, Bool.not_true, hg, hra, hrb, T2_len, T2_row h0, tab_len, hd, hr, decide_true, hbool, hT1, ckB_ix, ckB_inR, ckB_room, ckB_cut, ckB_mk, ckB_ne, bif_lt, bif_nlt, bif_le, bif_nle, bif_eq, bif_neq, bif_ne, bif_nne, bif_not, bif_true', bif_false', bnd_ok, lk_inl, lk_inr, Int.toNat_natCast, decide_true]
            · simp (disch := omega) only [awake_true, Bool.not_true, hg, hra, hrb, T2_len, T2_row h0, T2_row h0', tab_len, ckB_ix, ckB_inR, ckB_room, ckB_cut, ckB_mk, ckB_ne, bif_lt, bif_nlt, bif_le, bif_nle, bif_eq, bif_neq, bif_ne, bif_nne, bif_not, bif_true', bif_false', bnd_ok, lk_inl, lk_inr, Int.toNat_natCast, decide_true]
          · simp (disch := omega) only [awake_true, Bool.not_true, hg, hra, hrb, T2_len, T2_row h0, tab_len, ckB_ix, ckB_inR, ckB_room, ckB_cut, ckB_mk, ckB_ne, bif_lt, bif_nlt, bif_le, bif_nle, bif_eq, bif_neq, bif_ne, bif_nne, bif_not, bif_true', bif_false', bnd_ok, lk_inl, lk_inr, Int.toNat_natCast, decide_true]
        · simp (disch := omega) only [awake_true, Bool.not_true, hg, hra, hrb, T2_len, T2_row h0, tab_len, ckB_ix, ckB_inR, ckB_room, ckB_cut, ckB_mk, ckB_ne, bif_lt, bif_nlt, bif_le, bif_nle, bif_eq, bif_neq, bif_ne, bif_nne, bif_not, bif_true', bif_false', bnd_ok, lk_inl, lk_inr, Int.toNat_natCast, decide_true]
end
end Go.Proofs.Ytjjhanfglelldaa
