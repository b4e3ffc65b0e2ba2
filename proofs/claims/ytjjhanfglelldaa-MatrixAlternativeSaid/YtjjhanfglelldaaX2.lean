/-
  Determinants: expansion by the last row, Cramer's rule, bounds, products. No program is named.
-/
import Derived.Test.YtjjhanfglelldaaX1
set_option linter.all false
namespace Go.M
open Go.K

section
variable {n : Nat} {F : (Nat → Nat → Int) → Int}
theorem Alt.swap' (h : Alt n F) {c d : Nat} (hc : c < n) (hd : d < n) (hne : c ≠ d) (v : Nat → Nat → Int) (f g : Nat → Int) : F (put (put v c f) d g) = -F (put (put v c g) d f) := by
  have same : ∀ f, F (put (put v c f) d f) = 0 := fun f => h.eq' hc hd hne (by rw [put_ne hne, put_at, put_at])
  have h1 := same fun k => f k + g k
  rw [h.add _ _ _ _ hd, put_comm hne, put_comm hne, h.add _ _ _ _ hc, h.add _ _ _ _ hc, ← put_comm hne, ← put_comm hne, ← put_comm hne, ← put_comm hne, same f, same g] at h1
  omega
end

/-- A unit. -/
def eu (s : Nat) : Nat → Int := fun k => if k = s then 1 else 0
theorem eu_ap (s k : Nat) : eu s k = if k = s then 1 else 0 := rfl
theorem eu_at (s : Nat) : eu s s = 1 := if_pos rfl
theorem eu_ne {s k : Nat} (h : k ≠ s) : eu s k = 0 := if_neg h
theorem eu_sum (w : Nat → Int) {n j : Nat} (h : j < n) : sumN (fun s => w s * eu s j) n = w j := by
  rw [sumN_one (i := j) h fun k _ hne => by rw [eu_ne (Ne.symm hne), Int.mul_zero], eu_at, Int.mul_one]

/-- A column put in. -/
def cput (B : Nat → Nat → Int) (s : Nat) (f : Nat → Int) : Nat → Nat → Int := fun i j => if j = s then f i else B i j
theorem cput_tr (B : Nat → Nat → Int) (s : Nat) (f : Nat → Int) : cput B s f = tr (put (tr B) s f) := by
  funext i j
  unfold cput tr put
  split <;> rfl

theorem det_bord (k : Nat) (B : Nat → Nat → Int) : det (k + 1) B = B k k * det k B - sumN (fun s => B k s * det k (cput B s fun i => B i k)) k := by
  have e1 : det (k + 1) B = det (k + 1) (put B k fun j => sumN (fun s => B k s * eu s j) (k + 1)) := by
    refine det_congr _ fun i j hi hj => ?_
    unfold put
    split
    · rename_i e
      show B i j = sumN (fun s => B k s * eu s j) (k + 1)
      rw [eu_sum (B k) hj, e]
    · rfl
  have e2 : det (k + 1) (put B k (eu k)) = det k B := by
    rw [det_last]
    · rw [put_at, eu_at, Int.one_mul]
      exact det_congr _ fun i j hi _ => by rw [put_ne (by omega)]
    · intro j hj
      rw [put_at, eu_ne (by omega)]
  have e3 : ∀ s, s < k → det (k + 1) (put B k (eu s)) = -det k (cput B s fun i => B i k) := fun s hs => by
    have h := (det_cols (k + 1)).swap' (c := s) (d := k) (by omega) (by omega) (by omega) (tr (put B k (eu s))) (tr (put B k (eu s)) s) (tr (put B k (eu s)) k)
    rw [put_same, put_same] at h
    have h0 : tr (tr (put B k (eu s))) = put B k (eu s) := rfl
    simp only [h0] at h
    rw [h, det_last]
    · have : tr (put (put (tr (put B k (eu s))) s (tr (put B k (eu s)) k)) k (tr (put B k (eu s)) s)) k k = 1 := by
        unfold tr
        rw [put_at, put_at, eu_at]
      rw [this, Int.one_mul]
      congr 1
      refine det_congr _ fun i j hi hj => ?_
      unfold tr cput
      rw [put_ne (by omega)]
      by_cases e : j = s
      · subst e
        rw [put_at, put_ne (by omega), if_pos rfl]
      · rw [put_ne e, put_ne (by omega), if_neg e]
    · intro j hj
      unfold tr
      rw [put_ne (by omega)]
      by_cases e : j = s
      · subst e
        rw [put_at, put_at, eu_ne (by omega)]
      · rw [put_ne e, put_at, eu_ne e]
  have e0 : ∀ f : Nat → Int, sumN (fun s => B k s * f s) (k + 1) = sumN (fun s => B k s * f s) k + B k k * f k := fun _ => rfl
  rw [e1, (det_rows (k + 1)).sum (by omega) B (B k) (fun s => eu s), e0, e2]
  have e4 : sumN (fun s => B k s * det (k + 1) (put B k (eu s))) k = sumN (fun s => (-1) * (B k s * det k (cput B s fun i => B i k))) k := sumN_congr fun s hs => by
    rw [e3 s hs]
    rw [Int.mul_neg, Int.neg_mul, Int.one_mul]
  rw [e4, sumN_mul]
  omega

/-- Cramer's rule. -/
def bord (k : Nat) (B : Nat → Nat → Int) (f : Nat → Int) (w : Nat → Int) (x : Int) : Nat → Nat → Int := fun i j => if i = k then (if j = k then x else w j) else (if j = k then f i else B i j)
theorem det_border (k : Nat) (B : Nat → Nat → Int) (f w : Nat → Int) (x : Int) : det (k + 1) (bord k B f w x) = x * det k B - sumN (fun s => w s * det k (cput B s f)) k := by
  rw [det_bord]
  have h0 : bord k B f w x k k = x := by simp [bord]
  have h1 : det k (bord k B f w x) = det k B := det_congr _ fun i j hi hj => by
    unfold bord
    rw [if_neg (by omega), if_neg (by omega)]
  rw [h0, h1]
  congr 1
  refine sumN_congr fun s hs => ?_
  have h2 : bord k B f w x k s = w s := by
    unfold bord
    rw [if_pos rfl, if_neg (by omega)]
  rw [h2]
  congr 1
  refine det_congr _ fun i j hi hj => ?_
  simp only [cput, bord, if_true]
  repeat' split
  all_goals first | rfl | omega
theorem cramer {k : Nat} (B : Nat → Nat → Int) (f : Nat → Int) {u : Nat} (hu : u < k) : sumN (fun s => B u s * det k (cput B s f)) k = f u * det k B := by
  have h := det_border k B f (B u) (f u)
  rw [(det_rows (k + 1)).eq' (c := u) (d := k) (by omega) (by omega) (by omega) (by
    funext j
    unfold bord
    rw [if_neg (by omega), if_pos rfl])] at h
  omega

/-- Columns with a determinant that is not 0 are independent. -/
theorem det_indep {k : Nat} {B : Nat → Nat → Int} (hB : det k B ≠ 0) {x : Nat → Int} (h : ∀ u, u < k → sumN (fun s => x s * B u s) k = 0) : ∀ s, s < k → x s = 0 := by
  intro s hs
  have hA := det_cols k
  have h1 := hA.sum hs (tr B) x (tr B) k
  have h2 : det k (tr (put (tr B) s fun i => sumN (fun u => x u * tr B u i) k)) = 0 := by
    rw [← hA.zero hs (tr B)]
    refine det_congr _ fun i j hi hj => ?_
    unfold tr put
    split
    · exact h i hi
    · rfl
  have h3 : sumN (fun u => x u * det k (tr (put (tr B) s (tr B u)))) k = x s * det k B := by
    rw [sumN_one (i := s) hs fun u hu hne => ?_]
    · rw [put_same]; rfl
    · rw [hA.eq' (c := s) (d := u) hs hu (Ne.symm hne) (by rw [put_at, put_ne hne]), Int.mul_zero]
  rw [h2, h3] at h1
  exact (Int.mul_eq_zero.1 h1.symm).resolve_right hB

/-! Sums and products along a choice without repetition. -/
def prodN (f : Nat → Int) : Nat → Int
  | 0 => 1
  | n + 1 => prodN f n * f n
theorem prodN_congr {f g : Nat → Int} : ∀ {n : Nat}, (∀ k, k < n → f k = g k) → prodN f n = prodN g n
  | 0, _ => rfl
  | n + 1, h => by rw [prodN, prodN, prodN_congr fun k hk => h k (by omega), h n (by omega)]
theorem prodN_nn {f : Nat → Int} : ∀ {n : Nat}, (∀ k, k < n → 0 ≤ f k) → 0 ≤ prodN f n
  | 0, _ => Int.one_nonneg
  | n + 1, h => Int.mul_nonneg (prodN_nn fun k hk => h k (by omega)) (h n (by omega))
theorem prodN_mono {f g : Nat → Int} : ∀ {n : Nat}, (∀ k, k < n → 0 ≤ f k ∧ f k ≤ g k) → prodN f n ≤ prodN g n
  | 0, _ => Int.le_refl _
  | n + 1, h => by
    have h1 := prodN_mono (n := n) fun k hk => h k (by omega)
    have h2 := h n (by omega)
    exact Int.mul_le_mul h1 h2.2 h2.1 (Int.le_trans (prodN_nn fun k hk => (h k (by omega)).1) h1)
theorem prodN_front (f : Nat → Int) : ∀ n, prodN f (n + 1) = f 0 * prodN (fun i => f (i + 1)) n
  | 0 => by simp [prodN]
  | n + 1 => by
    have h := prodN_front f n
    have e : prodN f (n + 1 + 1) = prodN f (n + 1) * f (n + 1) := rfl
    rw [e, h, Int.mul_assoc]; rfl
theorem sumN_nn' {f : Nat → Int} : ∀ {n : Nat}, (∀ k, k < n → 0 ≤ f k) → 0 ≤ sumN f n
  | 0, _ => Int.le_refl _
  | n + 1, h => by
    have := sumN_nn' (n := n) fun k hk => h k (by omega)
    have := h n (by omega)
    show 0 ≤ sumN f n + f n
    omega
theorem sumN_mono {f g : Nat → Int} : ∀ {n : Nat}, (∀ k, k < n → f k ≤ g k) → sumN f n ≤ sumN g n
  | 0, _ => Int.le_refl _
  | n + 1, h => by
    have := sumN_mono (n := n) fun k hk => h k (by omega)
    have := h n (by omega)
    show sumN f n + f n ≤ sumN g n + g n
    omega
theorem sumN_out {f : Nat → Int} {a : Nat} : ∀ {n : Nat}, a < n → sumN (fun j => if j = a then 0 else f j) n + f a = sumN f n
  | 0, h => by omega
  | n + 1, h => by
    show sumN (fun j => if j = a then 0 else f j) n + (if n = a then 0 else f n) + f a = sumN f n + f n
    by_cases e : n = a
    · subst e
      rw [if_pos rfl, sumN_congr (g := f) fun k hk => if_neg (by omega)]
      omega
    · rw [if_neg e]
      have := sumN_out (f := f) (a := a) (n := n) (by omega)
      omega
theorem prodN_out {f : Nat → Int} {a : Nat} : ∀ {n : Nat}, a < n → prodN (fun j => if j = a then 1 else f j) n * f a = prodN f n
  | 0, h => by omega
  | n + 1, h => by
    show prodN (fun j => if j = a then 1 else f j) n * (if n = a then 1 else f n) * f a = prodN f n * f n
    by_cases e : n = a
    · subst e
      rw [if_pos rfl, prodN_congr (g := f) fun k hk => if_neg (by omega), Int.mul_one]
    · rw [if_neg e, Int.mul_assoc, Int.mul_comm (f n), ← Int.mul_assoc, prodN_out (by omega)]
def Inj (q : Nat → Nat) (k C : Nat) : Prop := (∀ b, b < k → q b < C) ∧ ∀ a b, a < k → b < k → q a = q b → a = b
theorem Inj.pre {q : Nat → Nat} {k C : Nat} (h : Inj q (k + 1) C) : Inj q k C := ⟨fun b hb => h.1 b (by omega), fun a b ha hb => h.2 a b (by omega) (by omega)⟩
theorem inj_sum {q : Nat → Nat} {C : Nat} : ∀ {k : Nat} {f : Nat → Int}, Inj q k C → (∀ j, j < C → 0 ≤ f j) → sumN (fun b => f (q b)) k ≤ sumN f C
  | 0, f, _, h0 => sumN_nn' h0
  | k + 1, f, h, h0 => by
    have h1 := inj_sum (k := k) (f := fun j => if j = q k then 0 else f j) h.pre fun j hj => by
      show 0 ≤ if j = q k then 0 else f j
      split
      · exact Int.le_refl _
      · exact h0 j hj
    have h2 := sumN_out (f := f) (h.1 k (by omega))
    have h3 : sumN (fun b => if q b = q k then 0 else f (q b)) k = sumN (fun b => f (q b)) k := sumN_congr fun b hb => if_neg fun e => by
      have := h.2 b k (by omega) (by omega) e
      omega
    show sumN (fun b => f (q b)) k + f (q k) ≤ sumN f C
    omega
theorem prodN_pos {f : Nat → Int} : ∀ {n : Nat}, (∀ k, k < n → 1 ≤ f k) → 1 ≤ prodN f n
  | 0, _ => Int.le_refl _
  | n + 1, h => by
    have h1 := prodN_pos (n := n) fun k hk => h k (by omega)
    have h2 := h n (by omega)
    have h3 : 1 * 1 ≤ prodN f n * f n := Int.mul_le_mul h1 h2 (by omega) (by omega)
    exact h3
theorem inj_prod {q : Nat → Nat} {C : Nat} : ∀ {k : Nat} {f : Nat → Int}, Inj q k C → (∀ j, j < C → 1 ≤ f j) → prodN (fun b => f (q b)) k ≤ prodN f C
  | 0, f, _, h0 => prodN_pos h0
  | k + 1, f, h, h0 => by
    have h1 := inj_prod (k := k) (f := fun j => if j = q k then 1 else f j) h.pre fun j hj => by
      show 1 ≤ if j = q k then 1 else f j
      split
      · exact Int.le_refl _
      · exact h0 j hj
    have h2 := prodN_out (f := f) (h.1 k (by omega))
    have h3 : prodN (fun b => if q b = q k then 1 else f (q b)) k = prodN (fun b => f (q b)) k := prodN_congr fun b hb => if_neg fun e => by
      have := h.2 b k (by omega) (by omega) e
      omega
    have h4 := h0 _ (h.1 k (by omega))
    show prodN (fun b => f (q b)) k * f (q k) ≤ prodN f C
    rw [← h2, ← h3]
    exact Int.mul_le_mul_of_nonneg_right h1 (by omega)

theorem skip_inj (j n : Nat) : Inj (skip j) n (n + 1) := ⟨fun b hb => skip_lt hb, fun a b _ _ h => by unfold skip at h; split at h <;> split at h <;> omega⟩

theorem sumN_bd {f g : Nat → Int} : ∀ {n : Nat}, (∀ k, k < n → -g k ≤ f k ∧ f k ≤ g k) → -sumN g n ≤ sumN f n ∧ sumN f n ≤ sumN g n
  | 0, _ => by simp [sumN]
  | n + 1, h => by
    have := sumN_bd (n := n) fun k hk => h k (by omega)
    have := h n (by omega)
    show -(sumN g n + g n) ≤ sumN f n + f n ∧ sumN f n + f n ≤ sumN g n + g n
    omega

/-- A determinant is at most the product of the sums of the rows. -/
theorem det_bound : ∀ (n : Nat) (A f : Nat → Nat → Int), (∀ i j, i < n → j < n → -f i j ≤ A i j ∧ A i j ≤ f i j) → -prodN (fun i => sumN (f i) n) n ≤ det n A ∧ det n A ≤ prodN (fun i => sumN (f i) n) n
  | 0, _, _, _ => by simp [det, prodN]
  | n + 1, A, f, h => by
    have hnn : ∀ i j, i < n + 1 → j < n + 1 → 0 ≤ f i j := fun i j hi hj => by have := h i j hi hj; omega
    rw [prodN_front]
    have hP : 0 ≤ prodN (fun i => sumN (f (i + 1)) (n + 1)) n := prodN_nn fun i hi => sumN_nn' fun j hj => hnn _ _ (by omega) hj
    have hd : ∀ j, j < n + 1 → -prodN (fun i => sumN (f (i + 1)) (n + 1)) n ≤ det n (minor A j) ∧ det n (minor A j) ≤ prodN (fun i => sumN (f (i + 1)) (n + 1)) n := fun j hj => by
      have h1 := det_bound n (minor A j) (fun i k => f (i + 1) (skip j k)) fun i k hi hk => h _ _ (by omega) (skip_lt hk)
      have h2 : prodN (fun i => sumN (fun k => f (i + 1) (skip j k)) n) n ≤ prodN (fun i => sumN (f (i + 1)) (n + 1)) n := prodN_mono fun i hi => ⟨sumN_nn' fun k hk => hnn _ _ (by omega) (skip_lt hk), inj_sum (skip_inj j n) fun k hk => hnn _ _ (by omega) hk⟩
      omega
    generalize prodN (fun i => sumN (f (i + 1)) (n + 1)) n = P at hP hd
    have h3 := sumN_bd (f := fun j => pm j * A 0 j * det n (minor A j)) (g := fun j => f 0 j * P) (n := n + 1) fun j hj => by
      have h4 := h 0 j (by omega) hj
      have h5 : -f 0 j ≤ pm j * A 0 j ∧ pm j * A 0 j ≤ f 0 j := by
        unfold pm
        split
        · rw [Int.one_mul]; exact h4
        · rw [Int.neg_mul, Int.one_mul]; omega
      exact mul_bound h5 (hd j hj)
    rw [sumN_mul'] at h3
    exact h3

/-! Products. -/
def mulM (n : Nat) (A B : Nat → Nat → Int) : Nat → Nat → Int := fun i j => sumN (fun k => A i k * B k j) n
def insr (j : Nat) (f : Nat → Int) : Nat → Int := fun c => if c = j then 0 else f (if c < j then c else c - 1)
theorem insr_ap (j : Nat) (f : Nat → Int) (c : Nat) : insr j f c = if c = j then 0 else f (if c < j then c else c - 1) := rfl
def ins (n j : Nat) (w : Nat → Nat → Int) : Nat → Nat → Int := fun i => if i < n then insr j (w i) else eu j
theorem ins_put {n j c : Nat} (hc : c < n) (w : Nat → Nat → Int) (f : Nat → Int) : ins n j (put w c f) = put (ins n j w) c (insr j f) := by
  funext i
  unfold ins put
  by_cases e : i = c
  · subst e
    rw [if_pos hc, if_pos rfl, if_pos rfl]
  · rw [if_neg e, if_neg e]

theorem alt_clear {n j : Nat} {F : (Nat → Nat → Int) → Int} (h : Alt (n + 1) F) {v : Nat → Nat → Int} (hv : v n = eu j) : ∀ m, m ≤ n → F (fun i => if i < m then fun c => v i c - v i j * eu j c else v i) = F v
  | 0, _ => by
    congr 1
  | m + 1, hm => by
    rw [← alt_clear h hv m (by omega)]
    have h1 := h.addTo (c := m) (d := n) (by omega) (by omega) (by omega) (fun i => if i < m then fun c => v i c - v i j * eu j c else v i) (-(v m j))
    rw [← h1]
    congr 1
    funext i
    by_cases e : i = m
    · subst e
      rw [put_at, if_pos (by omega)]
      funext c
      simp only [Nat.lt_irrefl, if_false]
      rw [if_neg (by omega), hv, Int.neg_mul]
      omega
    · rw [put_ne e]
      by_cases e2 : i < m
      · rw [if_pos e2, if_pos (by omega)]
      · rw [if_neg e2, if_neg (by omega)]

/-- What respects equality in the first n rows and columns. -/
def Loc (n : Nat) (F : (Nat → Nat → Int) → Int) : Prop := ∀ v w, (∀ i j, i < n → j < n → v i j = w i j) → F v = F w

theorem alt_ins {n j : Nat} {F : (Nat → Nat → Int) → Int} (h : Alt (n + 1) F) (hj : j < n + 1) (hL : Loc (n + 1) F) : Alt n (fun w => F (ins n j w)) ∧ Loc n (fun w => F (ins n j w)) := by
  refine ⟨⟨fun v c f g hc => ?_, fun v c a f hc => ?_, fun v c hc hv => ?_⟩, fun v w hvw => ?_⟩
  · rw [ins_put hc, ins_put hc, ins_put hc, ← h.add _ _ _ _ (by omega)]
    congr 2
    funext k
    unfold insr
    split <;> simp
  · rw [ins_put hc, ins_put hc, ← h.mul _ _ _ _ (by omega)]
    congr 2
    funext k
    unfold insr
    split <;> simp
  · refine h.adj _ c (by omega) ?_
    unfold ins
    rw [if_pos (by omega), if_pos (by omega), hv]
  · refine hL _ _ fun i k hi hk => ?_
    unfold ins
    by_cases e : i < n
    · rw [if_pos e, if_pos e]
      unfold insr
      by_cases e2 : k = j
      · rw [if_pos e2, if_pos e2]
      · rw [if_neg e2, if_neg e2]
        exact hvw _ _ e (by split <;> omega)
    · rw [if_neg e, if_neg e]

/-- The last row written out. -/
theorem alt_last {n : Nat} {F : (Nat → Nat → Int) → Int} (h : Alt (n + 1) F) (hL : Loc (n + 1) F) (v : Nat → Nat → Int) : F v = sumN (fun j => v n j * F (ins n j fun i k => v i (skip j k))) (n + 1) := by
  have e1 : F v = F (put v n fun j => sumN (fun s => v n s * eu s j) (n + 1)) := by
    refine hL _ _ fun i j hi hj => ?_
    unfold put
    split
    · rename_i e
      show v i j = sumN (fun s => v n s * eu s j) (n + 1)
      rw [eu_sum (v n) hj, e]
    · rfl
  rw [e1, h.sum (by omega) v (v n) (fun s => eu s)]
  refine sumN_congr fun j hj => ?_
  congr 1
  rw [← alt_clear h (v := put v n (eu j)) (j := j) (put_at _ _ _) n (Nat.le_refl _)]
  refine hL _ _ fun i c hi hc => ?_
  unfold ins
  by_cases e : i < n
  · rw [if_pos e, if_pos e, put_ne (by omega)]
    unfold insr
    by_cases e2 : c = j
    · subst e2
      rw [if_pos rfl, eu_at, Int.mul_one, Int.sub_self]
    · rw [if_neg e2, eu_ne e2, Int.mul_zero, Int.sub_zero]
      congr 1
      unfold skip
      repeat' split
      all_goals omega
  · obtain rfl : i = n := by omega
    rw [if_neg e, if_neg e, put_at]

theorem ins_swap {n j : Nat} (hj : j < n) : ∀ i c, i < n + 1 → c < n + 1 → ins n (j + 1) eu i c = put (put (ins n j eu) j (ins n j eu n)) n (ins n j eu j) i c := by
  intro i c hi hc
  by_cases e : i = n
  · subst e
    rw [put_at]
    simp only [ins]
    rw [if_neg (by omega), if_pos hj]
    simp only [insr_ap, eu_ap]
    repeat' split
    all_goals omega
  · rw [put_ne e]
    by_cases e2 : i = j
    · subst e2
      rw [put_at]
      simp only [ins]
      rw [if_pos hj, if_neg (by omega)]
      simp only [insr_ap, eu_ap]
      repeat' split
      all_goals omega
    · rw [put_ne e2]
      simp only [ins]
      rw [if_pos (by omega), if_pos (by omega)]
      simp only [insr_ap, eu_ap]
      repeat' split
      all_goals omega

theorem alt_unit {n : Nat} {F : (Nat → Nat → Int) → Int} (h : Alt (n + 1) F) (hL : Loc (n + 1) F) : ∀ k j, j + k = n → F (ins n j eu) = F eu * det (n + 1) (ins n j eu)
  | 0, j, e => by
    obtain rfl : j = n := by omega
    have h1 : ∀ i c, i < j + 1 → c < j + 1 → ins j j eu i c = eu i c := fun i c hi hc => by
      simp only [ins]
      split
      · simp only [insr_ap, eu_ap]
        repeat' split
        all_goals omega
      · simp only [eu_ap]
        repeat' split
        all_goals omega
    rw [hL _ _ h1, det_congr _ h1]
    have h2 : ∀ m, det m eu = 1 := fun m => by
      induction m with
      | zero => rfl
      | succ m ih =>
        rw [det_last _ _ fun k hk => eu_ne (by omega), eu_at, ih]; rfl
    rw [h2, Int.mul_one]
  | k + 1, j, e => by
    have ih := alt_unit h hL k (j + 1) (by omega)
    have hj : j < n := by omega
    have s1 := h.swap' (c := j) (d := n) (by omega) (by omega) (by omega) (ins n j eu) (ins n j eu n) (ins n j eu j)
    have s2 := (det_rows (n + 1)).swap' (c := j) (d := n) (by omega) (by omega) (by omega) (ins n j eu) (ins n j eu n) (ins n j eu j)
    rw [put_same, put_same] at s1 s2
    rw [hL _ _ (ins_swap hj), det_congr _ (ins_swap hj), s1, s2, Int.mul_neg] at ih
    omega

/-- Only multiples of the determinant are alternating. -/
theorem alt_det : ∀ (n : Nat) (F : (Nat → Nat → Int) → Int), Alt n F → Loc n F → ∀ v, F v = F eu * det n v
  | 0, F, _, hL, v => by
    show F v = F eu * 1
    rw [Int.mul_one]
    exact hL _ _ fun i j hi => by omega
  | n + 1, F, h, hL, v => by
    have hLd : Loc (n + 1) (fun v => det (n + 1) v) := fun v w hvw => det_congr _ hvw
    rw [alt_last h hL v]
    have e : det (n + 1) v = _ := alt_last (det_rows (n + 1)) hLd v
    rw [e, ← sumN_mul]
    refine sumN_congr fun j hj => ?_
    have h1 := alt_ins h hj hL
    have h2 := alt_ins (det_rows (n + 1)) hj hLd
    have h3 := alt_det n _ h1.1 h1.2 fun i k => v i (skip j k)
    have h4 := alt_det n _ h2.1 h2.2 fun i k => v i (skip j k)
    rw [h3, h4, alt_unit h hL (n - j) j (by omega), Int.mul_left_comm (v n j), Int.mul_left_comm (v n j), Int.mul_left_comm (F eu)]
    rw [Int.mul_assoc]
    exact Int.mul_left_comm _ _ _

theorem det_mul (n : Nat) (A B : Nat → Nat → Int) : det n (mulM n A B) = det n B * det n A := by
  have hp : ∀ v c f, mulM n (put v c f) B = put (mulM n v B) c fun j => sumN (fun k => f k * B k j) n := fun v c f => by
    funext i
    unfold mulM put
    by_cases e : i = c
    · simp only [if_pos e]
    · simp only [if_neg e]
  have hA : Alt n fun v => det n (mulM n v B) := by
    refine ⟨fun v c f g hc => ?_, fun v c a f hc => ?_, fun v c hc hv => ?_⟩
    · rw [hp, hp, hp, ← (det_rows n).add _ _ _ _ hc]
      congr 2
      funext j
      rw [← sumN_add]
      exact sumN_congr fun k _ => Int.add_mul _ _ _
    · rw [hp, hp, ← (det_rows n).mul _ _ _ _ hc]
      congr 2
      funext j
      rw [← sumN_mul]
      exact sumN_congr fun k _ => Int.mul_assoc _ _ _
    · refine (det_rows n).adj _ c hc ?_
      unfold mulM
      funext j
      rw [hv]
  have hL : Loc n fun v => det n (mulM n v B) := fun v w hvw => det_congr _ fun i j hi hj => sumN_congr fun k hk => by rw [hvw i k hi hk]
  have h := alt_det n _ hA hL A
  have h1 : det n (mulM n eu B) = det n B := det_congr _ fun i j hi hj => by
    show sumN (fun k => eu i k * B k j) n = B i j
    rw [sumN_one (i := i) hi fun k _ hne => by rw [eu_ne hne, Int.zero_mul], eu_at, Int.one_mul]
  exact h.trans (by rw [h1])

end Go.M
