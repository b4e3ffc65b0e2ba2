/-
  Matrices: the kernel's basis: what a matrix makes zero.
-/
import Derived.Test.YtjjhanfglelldaaQ8
set_option linter.all false
namespace Go.Proofs.Ytjjhanfglelldaa
open Go.K Go.M

/-! Common divisors. -/
theorem gF_dvd : ∀ (n : Nat) (a b : Int), b.natAbs < n → gF n a b ∣ a ∧ gF n a b ∣ b
  | 0, a, b, h => by omega
  | n + 1, a, b, h => by
    unfold gF
    split
    · rename_i e
      subst e
      exact ⟨Int.dvd_refl _, Int.dvd_zero _⟩
    · rename_i h0
      have hlt : (Int.tmod a b).natAbs < b.natAbs := by
        rw [Int.natAbs_tmod]
        exact Nat.mod_lt _ (by omega)
      obtain ⟨h1, h2⟩ := gF_dvd n b (Int.tmod a b) (by omega)
      refine ⟨?_, h1⟩
      have h3 := Int.mul_tdiv_add_tmod a b
      have h4 := Int.dvd_add (Int.dvd_trans h1 (Int.dvd_mul_right b (Int.tdiv a b))) h2
      rw [h3] at h4
      exact h4
theorem gI_dvd (a b : Int) : gI a b ∣ a ∧ gI a b ∣ b := gF_dvd _ a b (by omega)
theorem wab_eq {x : Int} (h : -1073741824 ≤ x ∧ x ≤ 1073741824) : wab x = if x < 0 then -x else x := by
  unfold wab
  split
  · rw [w64_id ⟨by omega, by omega⟩]; omega
  · rfl
theorem gL_dvd {f : Nat → Int} : ∀ (n : Nat), (∀ j, j < n → -1073741824 ≤ f j ∧ f j ≤ 1073741824) → ∀ j, j < n → gL f n ∣ f j
  | 0, _, j, hj => by omega
  | n + 1, hb, j, hj => by
    have h := gI_dvd (gL f n) (wab (f n))
    by_cases e : j = n
    · subst e
      have h2 := h.2
      rw [wab_eq (hb j (by omega))] at h2
      have h3 : gI (gL f j) (if f j < 0 then -f j else f j) ∣ f j := by
        split at h2
        · rename_i hlt
          rw [if_pos hlt]
          exact Int.dvd_neg.1 h2
        · rename_i hlt
          rw [if_neg hlt]
          exact h2
      have e : gL f (j + 1) = gI (gL f j) (if f j < 0 then -f j else f j) := by rw [← wab_eq (hb j (by omega))]; rfl
      rw [e]
      exact h3
    · exact Int.dvd_trans h.1 (gL_dvd n (fun j hj => hb j (by omega)) j (by omega))
/-- What was divided out. -/
def gdiv (f : Nat → Int) (n : Nat) : Int := if 1 < gL f n then gL f n else 1
theorem gdiv_pos (f : Nat → Int) (n : Nat) : 1 ≤ gdiv f n := by
  unfold gdiv
  split <;> omega
theorem prim_mul {f : Nat → Int} {n : Nat} (hb : ∀ j, j < n → -1073741824 ≤ f j ∧ f j ≤ 1073741824) {j : Nat} (hj : j < n) : prim f n j * gdiv f n = f j := by
  unfold prim gdiv
  by_cases h : 1 < gL f n
  · rw [if_pos h, if_pos h]
    obtain ⟨x, hx⟩ := gL_dvd n hb j hj
    have h1 := hb j hj
    have hq : Int.tdiv (f j) (gL f n) = x := by rw [hx, Int.mul_tdiv_cancel_left _ (by omega)]
    have h2 := Int.natAbs_tdiv_le_natAbs (f j) (gL f n)
    rw [hq] at h2
    rw [hq, w64_id ⟨by omega, by omega⟩, Int.mul_comm]
    exact hx.symm
  · rw [if_neg h, if_neg h, Int.mul_one]

/-! The vectors. -/
section
variable {R C : Nat} {M : Mat}

theorem mul_small {a b c : Int} (h : a * b = c) (hb : 1 ≤ b) (hc : -1073741824 ≤ c ∧ c ≤ 1073741824) : -1073741824 ≤ a ∧ a ≤ 1073741824 := by
  have h1 : a.natAbs * b.natAbs = c.natAbs := by rw [← Int.natAbs_mul, h]
  have h2 : a.natAbs * 1 ≤ a.natAbs * b.natAbs := Nat.mul_le_mul_left _ (by omega)
  omega

def sgd (s : RS) : Int := if s.den < 0 then -1 else 1
/-- The vector of a free column, times a sign. -/
def zv (s : RS) (c : Nat) (j : Nat) : Int := s.den * eu c j - sumN (fun t => s.A t c * eu (qs s t) j) s.piv.length

theorem kxs_zv {s : RS} {c : Nat} (hb : ∀ i, i < s.piv.length → -1073741824 ≤ s.A i c ∧ s.A i c ≤ 1073741824) (hd : -1073741824 ≤ s.den ∧ s.den ≤ 1073741824) (hc : c ∉ s.piv) (hinj : ∀ a b, a < s.piv.length → b < s.piv.length → qs s a = qs s b → a = b) (j : Nat) :
    ∀ i, i ≤ s.piv.length → kxs s.A s.den s.piv c i j = sgd s * (s.den * eu c j - sumN (fun t => s.A t c * eu (qs s t) j) i)
  | 0, _ => by
    simp only [kxs, upd, sumN]
    rw [wab_eq hd]
    unfold sgd eu
    by_cases e : j = c
    · rw [if_pos e, if_pos e]
      split <;> omega
    · rw [if_neg e, if_neg e]
      simp
  | i + 1, hi => by
    have ih := kxs_zv hb hd hc hinj j i (by omega)
    have hqc : ∀ t, t < s.piv.length → qs s t ≠ c := fun t ht e => hc (e ▸ getD_mem 0 ht)
    simp only [kxs, upd, sumN]
    have hq : s.piv.getD i 0 = qs s i := rfl
    rw [hq]
    by_cases e : j = qs s i
    · have h0 : sumN (fun t => s.A t c * eu (qs s t) j) i = 0 := sumN_zero' fun t ht => by
        rw [eu_ne, Int.mul_zero]
        intro e2
        have := hinj i t (by omega) (by omega) (e.symm.trans e2)
        omega
      have h1 : eu c j = 0 := eu_ne fun e2 => hqc i (by omega) (e.symm.trans e2)
      have h2 : eu (qs s i) j = 1 := by rw [e]; exact eu_at _
      have hbi := hb i (by omega)
      rw [if_pos e, h0, h1, h2]
      unfold kv sgd
      split
      · omega
      · rw [w64_id ⟨by omega, by omega⟩]; omega
    · rw [if_neg e, ih]
      have h2 : eu (qs s i) j = 0 := eu_ne e
      rw [h2]
      congr 1
      omega

/-- A row times such a vector. -/
theorem row_zv {s : RS} {c : Nat} {σ : Nat → Nat} (h : XI R C M C s σ) (hc : c < C) {r : Nat} (hr : r < R) : sumN (fun j => M r j * zv s c j) C = 0 := by
  have e1 : sumN (fun j => M r j * zv s c j) C = s.den * M r c - sumN (fun t => s.A t c * M r (qs s t)) s.piv.length := by
    have e2 : ∀ j, M r j * zv s c j = s.den * (M r j * eu c j) + (-1) * sumN (fun t => s.A t c * (M r j * eu (qs s t) j)) s.piv.length := fun j => by
      unfold zv
      rw [Int.mul_sub, Int.mul_left_comm, ← sumN_mul]
      rw [sumN_congr (g := fun t => s.A t c * (M r j * eu (qs s t) j)) fun t _ => Int.mul_left_comm _ _ _]
      omega
    have e3 : ∀ a, a < C → sumN (fun j => M r j * eu a j) C = M r a := fun a ha => by
      rw [sumN_one (i := a) ha fun k _ hne => by rw [eu_ne hne, Int.mul_zero], eu_at, Int.mul_one]
    rw [sumN_congr (fun j _ => e2 j), sumN_add, sumN_mul, sumN_mul, e3 c hc, sumN_swap]
    rw [sumN_congr (f := fun t => sumN (fun j => s.A t c * (M r j * eu (qs s t) j)) C) (g := fun t => s.A t c * M r (qs s t)) fun t ht => by rw [sumN_mul, e3 _ (h.lt t ht)]]
    omega
  obtain ⟨i, hi, rfl⟩ := h.sur r hr
  have h0 : eM (rw' M σ) (qs s) s.piv.length i c = 0 := by
    by_cases hk : i < s.piv.length
    · exact eM_low hk c
    · rw [← h.lo i c (by omega) hi hc]
      exact h.zero i c (by omega) hi hc hc
  have e4 : eM (rw' M σ) (qs s) s.piv.length i c = M (σ i) c * s.den - sumN (fun t => M (σ i) (qs s t) * s.A t c) s.piv.length := by
    unfold eM
    rw [← h.den]
    congr 1
    exact sumN_congr fun t ht => by rw [h.up t c ht hc]; rfl
  rw [e1, ← h0, e4, Int.mul_comm]
  congr 1
  exact sumN_congr fun t _ => Int.mul_comm _ _

theorem XI.bnd_den (hP : pr C M R ≤ 1073741824) {c : Nat} {s : RS} {σ : Nat → Nat} (h : XI R C M c s σ) (hc : c ≤ C) : -1073741824 ≤ s.den ∧ s.den ≤ 1073741824 := by
  have := dD_bd (R := R) (C := C) (M := M) h.inj h.le (h.qinj hc)
  rw [h.den]
  omega
theorem XI.bnd_up (hP : pr C M R ≤ 1073741824) {c : Nat} {s : RS} {σ : Nat → Nat} (h : XI R C M c s σ) (hc : c ≤ C) {i j : Nat} (hi : i < s.piv.length) (hj : j < C) : -1073741824 ≤ s.A i j ∧ s.A i j ≤ 1073741824 := by
  have := cM_bd (R := R) (C := C) (M := M) (s := i) (j := j) h.inj h.le (h.qinj hc) hi hj
  rw [h.up i j hi hj]
  omega
theorem XI.bnd_lo (hP : pr C M R ≤ 1073741824) {c : Nat} {s : RS} {σ : Nat → Nat} (h : XI R C M c s σ) (hc : c ≤ C) {i j : Nat} (hi : s.piv.length ≤ i) (hiR : i < R) (hj : j < C) : -1073741824 ≤ s.A i j ∧ s.A i j ≤ 1073741824 := by
  have := eM_bd (R := R) (C := C) (M := M) (i := i) (j := j) h.inj (h.qinj hc) hi hiR hj
  rw [h.lo i j hi hiR hj]
  omega

/-- A vector of the basis. -/
def kf (C : Nat) (s : RS) (c : Nat) : Nat → Int := prim (kxs s.A s.den s.piv c s.piv.length) C
structure KV (R C : Nat) (M : Mat) (s : RS) (c : Nat) : Prop where
  mul : ∃ g, g ≠ 0 ∧ ∀ j, j < C → kf C s c j * g = zv s c j
  zero : ∀ r, r < R → sumN (fun j => M r j * kf C s c j) C = 0
  bd : ∀ j, j < C → -1073741824 ≤ kf C s c j ∧ kf C s c j ≤ 1073741824
  last : ∀ j, c < j → j < C → kf C s c j = 0
  pos : 1 ≤ kf C s c c

theorem zv_bd (hP : pr C M R ≤ 1073741824) {s : RS} {c : Nat} {σ : Nat → Nat} (h : XI R C M C s σ) (hc : c < C) (hf : c ∉ s.piv) : (∀ j, -1073741824 ≤ zv s c j ∧ zv s c j ≤ 1073741824) ∧ zv s c c = s.den ∧ ∀ j, c < j → zv s c j = 0 := by
  have hq := h.qinj (Nat.le_refl C)
  have hqc : ∀ t, t < s.piv.length → qs s t ≠ c := fun t ht e => hf (e ▸ getD_mem 0 ht)
  have hd := h.bnd_den hP (Nat.le_refl C)
  have hpiv : ∀ t, t < s.piv.length → zv s c (qs s t) = -s.A t c := fun t ht => by
    unfold zv
    rw [eu_ne (hqc t ht), sumN_one (i := t) ht fun k hk hne => by rw [eu_ne fun e => hne (hq.2 k t hk ht e.symm), Int.mul_zero], eu_at]
    omega
  have hcc : zv s c c = s.den := by
    unfold zv
    rw [eu_at, sumN_zero' fun t ht => by rw [eu_ne fun e => hqc t ht e.symm, Int.mul_zero]]
    omega
  have hno : ∀ j, j ≠ c → (∀ t, t < s.piv.length → j ≠ qs s t) → zv s c j = 0 := fun j h1 h2 => by
    unfold zv
    rw [eu_ne h1, sumN_zero' fun t ht => by rw [eu_ne (h2 t ht), Int.mul_zero]]
    omega
  refine ⟨fun j => ?_, hcc, fun j hj => ?_⟩
  · by_cases e : j = c
    · rw [e, hcc]; exact hd
    · by_cases e2 : ∃ t, t < s.piv.length ∧ j = qs s t
      · obtain ⟨t, ht, rfl⟩ := e2
        rw [hpiv t ht]
        have := h.bnd_up hP (Nat.le_refl C) ht hc
        omega
      · rw [hno j e fun t ht e3 => e2 ⟨t, ht, e3⟩]
        omega
  · by_cases e2 : ∃ t, t < s.piv.length ∧ j = qs s t
    · obtain ⟨t, ht, rfl⟩ := e2
      rw [hpiv t ht, h.ech t c ht hj]; rfl
    · exact hno j (by omega) fun t ht e3 => e2 ⟨t, ht, e3⟩

theorem kf_KV (hP : pr C M R ≤ 1073741824) {s : RS} {c : Nat} {σ : Nat → Nat} (h : XI R C M C s σ) (hc : c < C) (hf : c ∉ s.piv) : KV R C M s c := by
  obtain ⟨h1, h2, h3⟩ := zv_bd hP h hc hf
  have hq := h.qinj (Nat.le_refl C)
  have hd := h.bnd_den hP (Nat.le_refl C)
  have hk : ∀ j, kxs s.A s.den s.piv c s.piv.length j = sgd s * zv s c j := fun j => kxs_zv (fun i hi => h.bnd_up hP (Nat.le_refl C) hi hc) hd hf hq.2 j s.piv.length (Nat.le_refl _)
  have hsg : sgd s = 1 ∨ sgd s = -1 := by unfold sgd; split <;> simp
  have hkb : ∀ j, -1073741824 ≤ kxs s.A s.den s.piv c s.piv.length j ∧ kxs s.A s.den s.piv c s.piv.length j ≤ 1073741824 := fun j => by
    rw [hk]
    have := h1 j
    rcases hsg with e | e <;> rw [e] <;> omega
  have hg := gdiv_pos (kxs s.A s.den s.piv c s.piv.length) C
  have hpm : ∀ j, j < C → kf C s c j * gdiv (kxs s.A s.den s.piv c s.piv.length) C = sgd s * zv s c j := fun j hj => by rw [← hk]; exact prim_mul (fun j _ => hkb j) hj
  have hmul : ∃ g, g ≠ 0 ∧ ∀ j, j < C → kf C s c j * g = zv s c j := by
    refine ⟨gdiv (kxs s.A s.den s.piv c s.piv.length) C * sgd s, ?_, fun j hj => ?_⟩
    · rcases hsg with e | e <;> rw [e] <;> omega
    · rw [← Int.mul_assoc, hpm j hj]
      rcases hsg with e | e <;> rw [e] <;> omega
  refine ⟨hmul, fun r hr => ?_, fun j hj => ?_, fun j hcj hj => ?_, ?_⟩
  · obtain ⟨g, hg0, hg1⟩ := hmul
    have h4 := row_zv h hc hr
    rw [sumN_congr (g := fun j => (M r j * kf C s c j) * g) fun j hj => by rw [← hg1 j hj, Int.mul_assoc], sumN_mul'] at h4
    exact (Int.mul_eq_zero.1 h4).resolve_right hg0
  · have h4 := hpm j hj
    rw [← hk] at h4
    exact mul_small h4 hg (hkb j)
  · have h4 := hpm j hj
    rw [h3 j hcj, Int.mul_zero] at h4
    exact (Int.mul_eq_zero.1 h4).resolve_right (by omega)
  · have h4 := hpm c hc
    rw [h2] at h4
    have hd0 : s.den ≠ 0 := by rw [h.den]; exact h.d0
    have h5 : 0 < kf C s c c * gdiv (kxs s.A s.den s.piv c s.piv.length) C := by
      rw [h4]
      unfold sgd
      split <;> omega
    have := Int.pos_of_mul_pos_left h5 (by omega : 0 < gdiv (kxs s.A s.den s.piv c s.piv.length) C)
    omega

/-! The free columns. -/
def frees (s : RS) (n : Nat) : List Nat := (List.range n).filter fun c => !decide (c ∈ s.piv)
theorem basis_frees (C : Nat) (s : RS) : ∀ n, basis C s n = (frees s n).map fun c => tab C (kf C s c)
  | 0 => rfl
  | n + 1 => by
    have ih := basis_frees C s n
    unfold basis
    have e : frees s (n + 1) = frees s n ++ (if n ∈ s.piv then [] else [n]) := by
      unfold frees
      rw [List.range_succ, List.filter_append]
      congr 1
      by_cases h : n ∈ s.piv <;> simp [h]
    rw [e]
    split
    · rename_i h
      simp [ih]
    · rename_i h
      rw [List.map_append, ih]
      rfl
theorem frees_asc (s : RS) (n : Nat) : (frees s n).Pairwise (· < ·) := List.Pairwise.filter _ List.pairwise_lt_range
theorem frees_mem {s : RS} {n c : Nat} : c ∈ frees s n ↔ c < n ∧ c ∉ s.piv := by simp [frees]
theorem frees_len {c : Nat} {s : RS} {σ : Nat → Nat} (h : XI R C M c s σ) : ∀ n, (frees s n).length + (s.piv.filter fun p => decide (p < n)).length = n
  | 0 => by simp [frees]
  | n + 1 => by
    have ih := frees_len h n
    have e : frees s (n + 1) = frees s n ++ (if n ∈ s.piv then [] else [n]) := by
      unfold frees
      rw [List.range_succ, List.filter_append]
      congr 1
      by_cases h : n ∈ s.piv <;> simp [h]
    have hcount : ∀ l : List Nat, (l.filter fun p => decide (p < n + 1)).length = (l.filter fun p => decide (p < n)).length + l.count n := fun l => by
      induction l with
      | nil => rfl
      | cons x l ih =>
        rw [List.count_cons]
        by_cases h1 : x < n
        · have h2 : x < n + 1 := by omega
          have h3 : ¬ x = n := by omega
          simp [h1, h2, h3, ih]
          omega
        · by_cases h2 : x = n
          · subst h2
            simp [ih]
            omega
          · have h3 : ¬ x < n + 1 := by omega
            simp [h1, h2, h3, ih]
    have hnd : s.piv.Nodup := by
      rw [List.nodup_iff_pairwise_ne, List.pairwise_iff_getElem]
      intro i j hi hj hij he
      have := h.mono i j hij hj
      unfold qs at this
      rw [getD_at _ _ 0 hi, getD_at _ _ 0 hj] at this
      omega
    rw [e, hcount, List.length_append]
    by_cases hm : n ∈ s.piv
    · rw [if_pos hm, hnd.count, if_pos hm]
      simp
      omega
    · rw [if_neg hm, hnd.count, if_neg hm]
      simp
      omega
theorem frees_all {s : RS} {σ : Nat → Nat} (h : XI R C M C s σ) : (frees s C).length + s.piv.length = C := by
  have h1 := frees_len h C
  have h2 : (s.piv.filter fun p => decide (p < C)) = s.piv := List.filter_eq_self.2 fun p hp => by
    obtain ⟨i, hi, rfl⟩ := mem_getD 0 hp
    exact decide_eq_true (h.lt i hi)
  rw [h2] at h1
  exact h1
end
end Go.Proofs.Ytjjhanfglelldaa
