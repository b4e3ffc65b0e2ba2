/-
  Matrices: a system has a solution, or a proof that it has none (MatrixAlternative).
-/
import Derived.Test.YtjjhanfglelldaaQ13
set_option linter.all false
namespace Go.Proofs.Ytjjhanfglelldaa
open Go.K Go.M

section
variable {R C : Nat} {M : Mat} {f : Nat → Int}

/-! A solution. -/
def sX (s : RS) (C : Nat) : Nat → Nat → Int
  | 0 => fun _ => 0
  | i + 1 => fun j => if j = qs s i then s.A i C else sX s C i j
theorem sF_nf {s : RS} (hb : ∀ i, i < s.piv.length → -1073741824 ≤ s.A i C ∧ s.A i C ≤ 1073741824) (hd : -1073741824 ≤ s.den ∧ s.den ≤ 1073741824) (hd0 : s.den ≠ 0) (j : Nat) : ∀ i, i ≤ s.piv.length → NF (sF s C i j) ∧ (sF s C i j).1 * s.den = sX s C i j * (sF s C i j).2.1
  | 0, _ => ⟨nf_of (n := 0) (by omega) (by omega), by simp [sF, sX]⟩
  | i + 1, hi => by
    have ih := sF_nf hb hd hd0 j i (by omega)
    have hm := (mk1_eq (hb i (by omega)) hd hd0).2.2
    simp only [sF, sX]
    by_cases e : j = qs s i
    · rw [if_pos e, if_pos e]; exact hm
    · rw [if_neg e, if_neg e]; exact ih
theorem sX_sum {s : RS} (hinj : ∀ a b, a < s.piv.length → b < s.piv.length → qs s a = qs s b → a = b) (j : Nat) : ∀ i, i ≤ s.piv.length → sX s C i j = sumN (fun t => s.A t C * eu (qs s t) j) i
  | 0, _ => rfl
  | i + 1, hi => by
    have ih := sX_sum (s := s) hinj j i (by omega)
    simp only [sX, sumN]
    by_cases e : j = qs s i
    · have h0 : sumN (fun t => s.A t C * eu (qs s t) j) i = 0 := sumN_zero' fun t ht => by
        rw [eu_ne, Int.mul_zero]
        intro e2
        have := hinj i t (by omega) (by omega) (e.symm.trans e2)
        omega
      rw [if_pos e, h0, e, eu_at]
      omega
    · rw [if_neg e, ih, eu_ne e]
      omega

theorem wM_lt {j : Nat} (h : j < C) (r : Nat) : wM C M f r j = M r j := if_neg (by omega)
theorem wM_at (r : Nat) : wM C M f r C = f r := if_pos rfl

theorem row_sX {s : RS} {σ : Nat → Nat} (h : XI R (C + 1) (wM C M f) C s σ) (hno : noB R C s = true) {r : Nat} (hr : r < R) : sumN (fun j => M r j * sX s C s.piv.length j) C = s.den * f r := by
  have hq := h.qinj (by omega)
  have e1 : sumN (fun j => M r j * sX s C s.piv.length j) C = sumN (fun t => s.A t C * M r (qs s t)) s.piv.length := by
    have e2 : ∀ j, M r j * sX s C s.piv.length j = sumN (fun t => s.A t C * (M r j * eu (qs s t) j)) s.piv.length := fun j => by
      rw [sX_sum hq.2 j _ (Nat.le_refl _), ← sumN_mul]
      exact sumN_congr fun t _ => Int.mul_left_comm _ _ _
    have e3 : ∀ a, a < C → sumN (fun j => M r j * eu a j) C = M r a := fun a ha => by
      rw [sumN_one (i := a) ha fun k _ hne => by rw [eu_ne hne, Int.mul_zero], eu_at, Int.mul_one]
    rw [sumN_congr (fun j _ => e2 j), sumN_swap]
    exact sumN_congr fun t ht => by rw [sumN_mul, e3 _ (h.lt t ht)]
  obtain ⟨i, hi, rfl⟩ := h.sur r hr
  have h0 : eM (rw' (wM C M f) σ) (qs s) s.piv.length i C = 0 := by
    by_cases hk : i < s.piv.length
    · exact eM_low hk C
    · rw [← h.lo i C (by omega) hi (by omega)]
      have := List.all_eq_true.1 hno (i - s.piv.length) (List.mem_range.2 (by omega))
      have h2 := of_decide_eq_true this
      rw [show s.piv.length + (i - s.piv.length) = i by omega] at h2
      exact h2
  have e4 : eM (rw' (wM C M f) σ) (qs s) s.piv.length i C = f (σ i) * s.den - sumN (fun t => s.A t C * M (σ i) (qs s t)) s.piv.length := by
    unfold eM
    rw [← h.den]
    have e5 : rw' (wM C M f) σ i C = f (σ i) := wM_at _
    rw [e5]
    congr 1
    refine sumN_congr fun t ht => ?_
    have e6 : rw' (wM C M f) σ i (qs s t) = M (σ i) (qs s t) := wM_lt (h.lt t ht) _
    rw [h.up t C ht (by omega), e6, Int.mul_comm]
  rw [e1, Int.mul_comm]
  omega

/-- With a solution no row of the kernel of the transposed matrix can tell. -/
theorem no_refute {s : RS} {σ : Nat → Nat} (h : XI R (C + 1) (wM C M f) C s σ) (hno : noB R C s = true) {y : Nat → Int} (hy : ∀ j, j < C → sumN (fun i => trF M j i * y i) R = 0) : sumN (fun i => y i * f i) R = 0 := by
  have hd0 : s.den ≠ 0 := by rw [h.den]; exact h.d0
  have e : s.den * sumN (fun i => y i * f i) R = 0 := by
    rw [← sumN_mul, sumN_congr (g := fun i => sumN (fun j => sX s C s.piv.length j * (trF M j i * y i)) C) fun i hi => by
      rw [Int.mul_left_comm, ← row_sX h hno hi, ← sumN_mul]
      refine sumN_congr fun j _ => ?_
      show y i * (M i j * sX s C s.piv.length j) = sX s C s.piv.length j * (M i j * y i)
      rw [Int.mul_comm (y i), Int.mul_assoc, Int.mul_left_comm]]
    rw [sumN_swap]
    exact sumN_zero' fun j hj => by rw [sumN_mul, hy j hj, Int.mul_zero]
  exact (Int.mul_eq_zero.1 e).resolve_left hd0

/-! What the kernel's basis spans. -/
theorem span {T : Mat} (hP : pr R T C ≤ 1073741824) {s : RS} {σ : Nat → Nat} (h : XI C R T R s σ) {z : Nat → Int} (hz : ∀ r, r < C → sumN (fun j => T r j * z j) R = 0) : ∀ j, j < R → s.den * z j = sumN (fun c => if c ∈ s.piv then 0 else z c * zv s c j) R := by
  have hq := h.qinj (Nat.le_refl R)
  let w : Nat → Int := fun j => s.den * z j - sumN (fun c => if c ∈ s.piv then 0 else z c * zv s c j) R
  have hTw : ∀ r, r < C → sumN (fun j => T r j * w j) R = 0 := fun r hr => by
    have e1 : ∀ j, T r j * w j = s.den * (T r j * z j) + (-1) * sumN (fun c => (if c ∈ s.piv then 0 else z c) * (T r j * zv s c j)) R := fun j => by
      show T r j * (s.den * z j - sumN (fun c => if c ∈ s.piv then 0 else z c * zv s c j) R) = _
      rw [Int.mul_sub, Int.mul_left_comm, ← sumN_mul]
      rw [sumN_congr (g := fun c => (if c ∈ s.piv then 0 else z c) * (T r j * zv s c j)) fun c _ => by
        split
        · simp
        · exact Int.mul_left_comm _ _ _]
      omega
    rw [sumN_congr (fun j _ => e1 j), sumN_add, sumN_mul, sumN_mul, hz r hr, sumN_swap]
    rw [sumN_zero' (f := fun c => sumN (fun j => (if c ∈ s.piv then 0 else z c) * (T r j * zv s c j)) R) fun c hc => by
      rw [sumN_mul]
      rw [row_zv h hc hr, Int.mul_zero]]
    simp
  have hfree : ∀ c, c < R → c ∉ s.piv → w c = 0 := fun c hc hf => by
    show s.den * z c - sumN (fun c' => if c' ∈ s.piv then 0 else z c' * zv s c' c) R = 0
    rw [sumN_one (i := c) hc fun k hk hne => ?_]
    · rw [if_neg hf, (zv_bd hP h hc hf).2.1, Int.mul_comm]
      omega
    · by_cases hm : k ∈ s.piv
      · rw [if_pos hm]
      · rw [if_neg hm]
        have : zv s k c = 0 := by
          unfold zv
          rw [eu_ne (Ne.symm hne), sumN_zero' fun t ht => by
            rw [eu_ne (show c ≠ qs s t from fun e => hf (by rw [e]; exact getD_mem 0 ht)), Int.mul_zero]]
          simp
        rw [this, Int.mul_zero]
  have hsum : ∀ r, sumN (fun j => T r j * w j) R = sumN (fun t => w (qs s t) * T r (qs s t)) s.piv.length := fun r => by
    have e1 : ∀ j, j < R → T r j * w j = sumN (fun t => w (qs s t) * T r (qs s t) * eu (qs s t) j) s.piv.length := fun j hj => by
      by_cases hm : j ∈ s.piv
      · obtain ⟨t, ht, he⟩ := mem_getD 0 hm
        have he' : qs s t = j := he
        subst he'
        rw [sumN_one (i := t) ht fun k hk hne => by
          rw [eu_ne fun e => hne (hq.2 k t hk ht e.symm), Int.mul_zero]]
        rw [eu_at, Int.mul_one, Int.mul_comm]
      · rw [hfree j hj hm, sumN_zero' fun t ht => by
          rw [eu_ne (show j ≠ qs s t from fun e => hm (by rw [e]; exact getD_mem 0 ht)), Int.mul_zero]]
        simp
    rw [sumN_congr e1, sumN_swap]
    refine sumN_congr fun t ht => ?_
    rw [sumN_one (i := qs s t) (hq.1 t ht) fun k _ hne => by rw [eu_ne hne, Int.mul_zero], eu_at, Int.mul_one]
  have hpiv : ∀ t, t < s.piv.length → w (qs s t) = 0 := det_indep h.d0 fun u hu => by
    have h1 := hTw (σ u) (h.inj.1 u (Nat.lt_of_lt_of_le hu h.le))
    rw [hsum] at h1
    exact h1
  intro j hj
  have h0 : w j = 0 := by
    by_cases hm : j ∈ s.piv
    · obtain ⟨t, ht, rfl⟩ := mem_getD 0 hm
      exact hpiv t ht
    · exact hfree j hj hm
  have h1 : s.den * z j - sumN (fun c => if c ∈ s.piv then 0 else z c * zv s c j) R = 0 := h0
  omega

/-- A row that is left with a number on the right only is a sum of rows. -/
theorem eM_comb (N : Mat) (q : Nat → Nat) (k i : Nat) : ∃ y : Nat → Int, ∀ j, eM N q k i j = sumN (fun u => y u * N (if u = k then i else u) j) (k + 1) := by
  refine ⟨fun u => det (k + 1) (cput (bord k (sb N q) (fun _ => 0) (fun s => N i (q s)) 0) k (eu u)), fun j => ?_⟩
  have h := (det_cols (k + 1)).sum (c := k) (by omega) (tr (bord k (sb N q) (fun _ => 0) (fun s => N i (q s)) 0)) (fun u => N (if u = k then i else u) j) (fun u => eu u) (k + 1)
  have e1 : eM N q k i j = det (k + 1) (tr (put (tr (bord k (sb N q) (fun _ => 0) (fun s => N i (q s)) 0)) k fun a => sumN (fun u => N (if u = k then i else u) j * eu u a) (k + 1))) := by
    rw [eM_det]
    refine det_congr _ fun a b ha hb => ?_
    unfold tr put
    by_cases e : b = k
    · rw [if_pos e]
      have := eu_sum (fun u => N (if u = k then i else u) j) ha
      rw [this]
      unfold bord
      by_cases e2 : a = k
      · simp [e, e2]
      · simp [e, e2]
    · rw [if_neg e]
      unfold bord
      simp [e]
  rw [e1, h]
  refine sumN_congr fun u hu => ?_
  simp only [cput_tr]
  exact Int.mul_comm _ _

theorem some_refute (hP' : pr R (trF M) C ≤ 1073741824) {s s' : RS} {σ σ' : Nat → Nat} (h : XI R (C + 1) (wM C M f) C s σ) (h' : XI C R (trF M) R s' σ') (hno : noB R C s = false) : ∃ c, c ∈ frees s' R ∧ dot R s' f c ≠ 0 := by
  refine Classical.byContradiction fun hcon => ?_
  have hall : ∀ c, c ∈ frees s' R → dot R s' f c = 0 := fun c hc => Classical.byContradiction fun hne => hcon ⟨c, hc, hne⟩
  have hex : ∃ i, s.piv.length ≤ i ∧ i < R ∧ s.A i C ≠ 0 := by
    refine Classical.byContradiction fun hn => ?_
    have : noB R C s = true := by
      unfold noB
      rw [List.all_eq_true]
      intro t ht
      have ht' := List.mem_range.1 ht
      exact decide_eq_true (Classical.byContradiction fun hne => hn ⟨s.piv.length + t, by omega, by omega, hne⟩)
    rw [this] at hno
    cases hno
  obtain ⟨i, hi, hiR, hne⟩ := hex
  obtain ⟨y, hy⟩ := eM_comb (rw' (wM C M f) σ) (qs s) s.piv.length i
  let r : Nat → Nat := fun u => σ (if u = s.piv.length then i else u)
  have hr : ∀ u, u < s.piv.length + 1 → r u < R := fun u hu => h.inj.1 _ (by split <;> omega)
  let z : Nat → Int := fun a => sumN (fun u => y u * eu (r u) a) (s.piv.length + 1)
  have hz : ∀ g : Nat → Int, sumN (fun a => g a * z a) R = sumN (fun u => y u * g (r u)) (s.piv.length + 1) := fun g => by
    have e1 : ∀ a, g a * z a = sumN (fun u => y u * (g a * eu (r u) a)) (s.piv.length + 1) := fun a => by
      show g a * sumN (fun u => y u * eu (r u) a) (s.piv.length + 1) = _
      rw [← sumN_mul]
      exact sumN_congr fun u _ => Int.mul_left_comm _ _ _
    rw [sumN_congr fun a _ => e1 a, sumN_swap]
    refine sumN_congr fun u hu => ?_
    rw [sumN_mul, sumN_one (i := r u) (hr u hu) fun k _ hk => by rw [eu_ne hk, Int.mul_zero], eu_at, Int.mul_one]
  have hk : ∀ j, j < C → sumN (fun a => trF M j a * z a) R = 0 := fun j hj => by
    rw [hz (fun a => trF M j a)]
    have h1 := hy j
    rw [← h.lo i j hi hiR (by omega), h.zero i j hi hiR hj (by omega)] at h1
    rw [h1]
    refine sumN_congr fun u _ => ?_
    have : rw' (wM C M f) σ (if u = s.piv.length then i else u) j = M (r u) j := wM_lt hj _
    rw [this]
    rfl
  have hf : sumN (fun a => f a * z a) R = s.A i C := by
    rw [hz f, h.lo i C hi hiR (by omega), hy C]
    refine sumN_congr fun u _ => ?_
    have : rw' (wM C M f) σ (if u = s.piv.length then i else u) C = f (r u) := wM_at _
    rw [this]
  have hsp := span hP' h' hk
  have hd0 : s'.den ≠ 0 := by rw [h'.den]; exact h'.d0
  have e : s'.den * sumN (fun a => f a * z a) R = 0 := by
    rw [← sumN_mul, sumN_congr (g := fun a => sumN (fun c => (if c ∈ s'.piv then 0 else z c) * (f a * zv s' c a)) R) fun a ha => by
      rw [Int.mul_left_comm, hsp a ha, ← sumN_mul]
      refine sumN_congr fun c _ => ?_
      split
      · simp
      · exact Int.mul_left_comm _ _ _]
    rw [sumN_swap]
    refine sumN_zero' fun c hc => ?_
    rw [sumN_mul]
    by_cases hm : c ∈ s'.piv
    · rw [if_pos hm, Int.zero_mul]
    · obtain ⟨g, hg0, hg⟩ := (kf_KV hP' h' hc hm).mul
      have h1 := hall c (frees_mem.2 ⟨hc, hm⟩)
      unfold dot at h1
      rw [sumN_congr (g := fun a => (kf R s' c a * f a) * g) fun a ha => by rw [← hg a ha, Int.mul_left_comm, Int.mul_assoc], sumN_mul', h1]
      simp
  rw [hf] at e
  exact hne ((Int.mul_eq_zero.1 e).resolve_left hd0)

/-! The law's loops. -/
theorem altL0_eq (hC : C ≤ 50) (hA : Ent M) {X : Nat → Int} {x : Nat → Frac} {D : Int} (hD : D ≠ 0) (hx : ∀ j, NF (x j) ∧ (x j).1 * D = X j * (x j).2.1) {i : Nat} {b : Int} (hb : -1048576 ≤ b ∧ b ≤ 1048576) (hs : sumN (fun j => M i j * X j) C = D * b) (l : List Int) (a c d : Int) (v : List (List Int)) :
    ∃ o, law05_MatrixAlternativeL0 l (tab C x) a v c d (tab C (M i)) (C : Int) (0, 0, 1) = some o ∧ (o = .inr true ∨ o = .inl (b, 1)) := by
  refine loop_inv (fun s => ∃ j : Nat, s.1 = (j : Int) ∧ j ≤ C ∧ NF (s.2.1, s.2.2, ()) ∧ s.2.1 * D = s.2.2 * sumN (fun j => M i j * X j) j) (fun s => C + 1 - Int.toNat s.1) _ _ ⟨0, rfl, Nat.zero_le _, nf_of (n := 0) (by omega) (by omega), by simp [sumN]⟩ (by show C + 1 - Int.toNat 0 < many; unfold many; omega) ?_
  rintro ⟨s0, s1, s2⟩ ⟨j, rfl, hj, hnf, hsum⟩
  by_cases hlt : j < C
  · obtain ⟨hxn, hxe⟩ := hx j
    have hM := hA i j
    have hof : NF ((M i j, 1, ()) : Frac) := nf_of (by omega) (by omega)
    obtain ⟨p, hp, hpp⟩ := mul_nf hof hxn
    rcases hpp with hpp | ⟨hp0, hpn, hpe⟩
    · exact ⟨.ret true, by simp (disch := omega) only [law05_MatrixAlternativeL0K, ref01_Of, tab_len, tab_getD hlt, hp, hpp, ckB_ix, ckB_inR, ckB_room, ckB_cut, ckB_mk, ckB_ne, bif_lt, bif_nlt, bif_le, bif_nle, bif_eq, bif_neq, bif_ne, bif_nne, bif_not, bif_true', bif_false', bnd_ok, lk_inl, lk_inr, Int.toNat_natCast, decide_true], .inl rfl⟩
    · obtain ⟨q, hq, hqq⟩ := add_nf hnf hpn
      rcases hqq with hqq | ⟨hq0, hqn, hqe⟩
      · exact ⟨.ret true, by simp (disch := omega) only [law05_MatrixAlternativeL0K, ref01_Of, tab_len, tab_getD hlt, hp, hp0, hq, hqq, ckB_ix, ckB_inR, ckB_room, ckB_cut, ckB_mk, ckB_ne, bif_lt, bif_nlt, bif_le, bif_nle, bif_eq, bif_neq, bif_ne, bif_nne, bif_not, bif_true', bif_false', bnd_ok, lk_inl, lk_inr, Int.toNat_natCast, decide_true], .inl rfl⟩
      · refine ⟨.next ((j : Int) + 1, q.1.1, q.1.2.1), by simp (disch := omega) only [law05_MatrixAlternativeL0K, ref01_Of, tab_len, tab_getD hlt, hp, hp0, hq, hq0, ckB_ix, ckB_inR, ckB_room, ckB_cut, ckB_mk, ckB_ne, bif_lt, bif_nlt, bif_le, bif_nle, bif_eq, bif_neq, bif_ne, bif_nne, bif_not, bif_true', bif_false', bnd_ok, lk_inl, lk_inr, Int.toNat_natCast, decide_true], ⟨j + 1, by simp, hlt, hqn, ?_⟩, by simp only []; omega⟩
        have e0 : sumN (fun j => M i j * X j) (j + 1) = sumN (fun j => M i j * X j) j + M i j * X j := rfl
        rw [e0]
        show q.1.1 * D = q.1.2.1 * (sumN (fun j => M i j * X j) j + M i j * X j)
        have hs2 : s2 ≠ 0 := by have := hnf.d0; simp only at this; omega
        have hx2 : (x j).2.1 ≠ 0 := by have := hxn.d0; omega
        have hp2 : p.1.2.1 ≠ 0 := by have := hpn.d0; omega
        simp only at hsum hpe hqe
        generalize sumN (fun j => M i j * X j) j = S at *
        generalize p.1.1 = p1 at *
        generalize p.1.2.1 = p2 at *
        generalize q.1.1 = q1 at *
        generalize q.1.2.1 = q2 at *
        generalize (x j).1 = x1 at *
        generalize (x j).2.1 = x2 at *
        generalize M i j = m at *
        generalize X j = y at *
        have h1 : p1 * D = m * y * p2 := by
          refine Int.eq_of_mul_eq_mul_right hx2 ?_
          have e1 : p1 * D * x2 = (p1 * (1 * x2)) * D := by rw [Int.one_mul, Int.mul_right_comm]
          have e2 : m * x1 * p2 * D = m * p2 * (x1 * D) := by
            rw [Int.mul_right_comm m x1 p2, Int.mul_assoc (m * p2)]
          rw [e1, hpe, e2, hxe, Int.mul_right_comm m y p2, Int.mul_assoc (m * p2)]
        refine Int.eq_of_mul_eq_mul_right (show s2 * p2 ≠ 0 from fun e => (Int.mul_eq_zero.1 e).elim hs2 hp2) ?_
        have e1 : q1 * D * (s2 * p2) = (q1 * (s2 * p2)) * D := Int.mul_right_comm _ _ _
        have e2 : (s1 * p2 + p1 * s2) * q2 * D = ((s1 * D) * p2 + (p1 * D) * s2) * q2 := by
          rw [Int.mul_right_comm, Int.add_mul, Int.mul_right_comm s1, Int.mul_right_comm p1]
        rw [e1, hqe, e2, hsum, h1]
        have e3 : s2 * S * p2 + m * y * p2 * s2 = (S + m * y) * (s2 * p2) := by
          rw [Int.add_mul, Int.mul_comm s2 S, Int.mul_assoc S, Int.mul_assoc (m * y), Int.mul_comm p2]
        rw [e3, Int.mul_comm _ q2, ← Int.mul_assoc]
  · obtain rfl : j = C := by omega
    refine ⟨.done (s1, s2), by simp (disch := omega) only [law05_MatrixAlternativeL0K, ckB_ix, ckB_inR, ckB_room, ckB_cut, ckB_mk, ckB_ne, bif_lt, bif_nlt, bif_le, bif_nle, bif_eq, bif_neq, bif_ne, bif_nne, bif_not, bif_true', bif_false', bnd_ok, lk_inl, lk_inr, Int.toNat_natCast, decide_true], .inr ?_⟩
    rw [hs] at hsum
    have h1 : s1 = s2 * b := by
      refine Int.eq_of_mul_eq_mul_right hD ?_
      simp only at hsum
      rw [hsum, Int.mul_comm D, Int.mul_assoc]
    have hnb : NF ((b, 1, ()) : Frac) := nf_of (by omega) (by omega)
    obtain ⟨e1, e2⟩ := nf_eq hnf hnb (by
      show s1 * 1 = b * s2
      rw [Int.mul_one, h1, Int.mul_comm])
    simp only at e1 e2
    rw [e1, e2]

theorem altL1_eq (hR : R ≤ 50) (hC : C ≤ 50) (hA : Ent M) (hf : ∀ j, -1048576 ≤ f j ∧ f j ≤ 1048576) {X : Nat → Int} {x : Nat → Frac} {D : Int} (hD : D ≠ 0) (hx : ∀ j, NF (x j) ∧ (x j).1 * D = X j * (x j).2.1) (hs : ∀ i, i < R → sumN (fun j => M i j * X j) C = D * f i) :
    ∃ o, law05_MatrixAlternativeL1 (tab R f) (tab C x) (T2 R C M) (R : Int) 0 = some o ∧ (o = .inr true ∨ o = .inl ()) := by
  refine loop_inv (fun s => ∃ i : Nat, s = (i : Int) ∧ i ≤ R) (fun s => R + 1 - Int.toNat s) _ _ ⟨0, rfl, Nat.zero_le _⟩ (by show R + 1 - Int.toNat 0 < many; unfold many; omega) ?_
  rintro s ⟨i, rfl, hi⟩
  by_cases hlt : i < R
  · obtain ⟨o, ho, hp⟩ := altL0_eq (C := C) hC hA hD hx (hf i) (hs i hlt) (tab R f) (i : Int) (R : Int) (i : Int) (T2 R C M)
    rcases hp with rfl | rfl
    · exact ⟨.ret true, by simp (disch := omega) only [law05_MatrixAlternativeL1K, T2_len, T2_row hlt, tab_len, ref01_Of, ho, ckB_ix, ckB_inR, ckB_room, ckB_cut, ckB_mk, ckB_ne, bif_lt, bif_nlt, bif_le, bif_nle, bif_eq, bif_neq, bif_ne, bif_nne, bif_not, bif_true', bif_false', bnd_ok, lk_inl, lk_inr, Int.toNat_natCast, decide_true], .inl rfl⟩
    · exact ⟨.next ((i : Int) + 1), by simp (disch := omega) only [law05_MatrixAlternativeL1K, T2_len, T2_row hlt, tab_len, tab_getD hlt, ref01_Of, ho, Bool.and_self, Bool.not_true, ckB_ix, ckB_inR, ckB_room, ckB_cut, ckB_mk, ckB_ne, bif_lt, bif_nlt, bif_le, bif_nle, bif_eq, bif_neq, bif_ne, bif_nne, bif_not, bif_true', bif_false', bnd_ok, lk_inl, lk_inr, Int.toNat_natCast, decide_true], ⟨i + 1, by simp, hlt⟩, by show R + 1 - Int.toNat ((i : Int) + 1) < R + 1 - Int.toNat (i : Int); omega⟩
  · exact ⟨.done (), by simp (disch := omega) only [law05_MatrixAlternativeL1K, ckB_ix, ckB_inR, ckB_room, ckB_cut, ckB_mk, ckB_ne, bif_lt, bif_nlt, bif_le, bif_nle, bif_eq, bif_neq, bif_ne, bif_nne, bif_not, bif_true', bif_false', bnd_ok, lk_inl, lk_inr, Int.toNat_natCast, decide_true], .inr rfl⟩

theorem altL2_eq (hR : R ≤ 50) {g : Nat → Int} (hg : ∀ j, j < R → -1073741824 ≤ g j ∧ g j ≤ 1073741824) (m : List (List Int)) (b y : List Int) : law05_MatrixAlternativeL2 m b y (tab R g) (R : Int) 0 = some (.inl ()) := by
  refine loop_to (fun i : Nat => (i : Int)) R (many_of (by omega)) _ ?_ ?_ _ rfl
  · intro i hi
    have h1 := hg i hi
    simp (disch := omega) only [law05_MatrixAlternativeL2K, tab_len, tab_getD hi, ckB_ix, ckB_inR, ckB_room, ckB_cut, ckB_mk, ckB_ne, bif_lt, bif_nlt, bif_le, bif_nle, bif_eq, bif_neq, bif_ne, bif_nne, bif_not, bif_true', bif_false', bnd_ok, lk_inl, lk_inr, Int.toNat_natCast, decide_true]
    rw [cast_succ]
  · simp (disch := omega) only [law05_MatrixAlternativeL2K, ckB_ix, ckB_inR, ckB_room, ckB_cut, ckB_mk, ckB_ne, bif_lt, bif_nlt, bif_le, bif_nle, bif_eq, bif_neq, bif_ne, bif_nne, bif_not, bif_true', bif_false', bnd_ok, lk_inl, lk_inr, Int.toNat_natCast, decide_true]
theorem altL3_eq (hR : R ≤ 50) (hC : C ≤ 50) (hA : Ent M) {g : Nat → Int} (hg : ∀ j, j < R → -1073741824 ≤ g j ∧ g j ≤ 1073741824) (h0 : ∀ j, j < C → sumN (fun i => trF M j i * g i) R = 0) (b : List Int) : law05_MatrixAlternativeL3 b (tab R g) (T2 C R (trF M)) (C : Int) 0 = some (.inl ()) := by
  refine loop_to (fun i : Nat => (i : Int)) C (many_of (by omega)) _ ?_ ?_ _ rfl
  · intro i hi
    have h1 := times_eq hR (f := g) (g := trF M i) fun j hj => by
      have := mul_bound (hg j hj) (hA j i)
      show -4503599627370496 ≤ g j * M j i ∧ g j * M j i ≤ 4503599627370496
      omega
    rw [sumN_congr fun j _ => Int.mul_comm _ _, h0 i hi] at h1
    simp (disch := omega) only [law05_MatrixAlternativeL3K, T2_len, T2_row hi, h1, ckB_ix, ckB_inR, ckB_room, ckB_cut, ckB_mk, ckB_ne, bif_lt, bif_nlt, bif_le, bif_nle, bif_eq, bif_neq, bif_ne, bif_nne, bif_not, bif_true', bif_false', bnd_ok, lk_inl, lk_inr, Int.toNat_natCast, decide_true]
    rw [cast_succ]
  · simp (disch := omega) only [law05_MatrixAlternativeL3K, ckB_ix, ckB_inR, ckB_room, ckB_cut, ckB_mk, ckB_ne, bif_lt, bif_nlt, bif_le, bif_nle, bif_eq, bif_neq, bif_ne, bif_nne, bif_not, bif_true', bif_false', bnd_ok, lk_inl, lk_inr, Int.toNat_natCast, decide_true]
end

theorem MatrixAlternative_true (m : List (List Int)) (b : List Int) : law05_MatrixAlternative m b = some true := by
  obtain ⟨g, hg, hok⟩ := great_eq [m, [b]] (by simp)
  unfold law05_MatrixAlternative
  cases g with
  | true => simp (disch := omega) only [awake_true, Bool.not_true, hg, ckB_ix, ckB_inR, ckB_room, ckB_cut, ckB_mk, ckB_ne, bif_lt, bif_nlt, bif_le, bif_nle, bif_eq, bif_neq, bif_ne, bif_nne, bif_not, bif_true', bif_false', bnd_ok, lk_inl, lk_inr, Int.toNat_natCast, decide_true]
  | false =>
    have hm := hok rfl m (by simp)
    have hrv := refValid_eq m
    have hrc : ref05_Column b = some (colB b) := Column_eq b
    cases hv : validM m with
    | false =>
      rw [hv] at hrv
      simp (disch := omega) only [awake_true, Bool.not_true, hg, hrv, Bool.not_false, ckB_ix, ckB_inR, ckB_room, ckB_cut, ckB_mk, ckB_ne, bif_lt, bif_nlt, bif_le, bif_nle, bif_eq, bif_neq, bif_ne, bif_nne, bif_not, bif_true', bif_false', bnd_ok, lk_inl, lk_inr, Int.toNat_natCast, decide_true]
    | true =>
      rw [hv] at hrv
      cases hc : colB b with
      | false =>
        rw [hc] at hrc
        simp (disch := omega) only [awake_true, Bool.not_true, hg, hrv, hrc, Bool.not_false, ckB_ix, ckB_inR, ckB_room, ckB_cut, ckB_mk, ckB_ne, bif_lt, bif_nlt, bif_le, bif_nle, bif_eq, bif_neq, bif_ne, bif_nne, bif_not, bif_true', bif_false', bnd_ok, lk_inl, lk_inr, Int.toNat_natCast, decide_true]
      | true =>
        rw [hc] at hrc
        by_cases hl : (b.length : Int) = (m.length : Int)
        · obtain ⟨R, C, M, rfl, hR, hC, r1, r2, c1, c2, hA⟩ := valid_at hv
          obtain ⟨f, hbf, b1, b2, hf⟩ := colB_at hc
          rw [T2_len] at hl
          have hbR : b.length = R := by omega
          rw [hbR] at hbf
          subst hbf
          have h1 := (solve_val r1 r2 c1 c2 hA hf).1
          have h2 := (refute_val r1 r2 c1 c2 hA hf).1
          have h0 : 0 < R := by omega
          unfold solveV at h1
          unfold refuteV at h2
          by_cases hs1 : smallM R (C + 1) (wM C M f) = true
          · rw [if_pos hs1] at h1
            by_cases hs2 : smallM C R (trF M) = true
            · rw [if_pos hs2] at h2
              have hP1 : pr (C + 1) (wM C M f) R ≤ 1073741824 := of_decide_eq_true hs1
              have hP2 : pr R (trF M) C ≤ 1073741824 := of_decide_eq_true hs2
              obtain ⟨σ, hX⟩ := redR_exact hP1 C (by omega)
              obtain ⟨σ', hX'⟩ := redR_exact hP2 R (Nat.le_refl R)
              generalize redR R (wM C M f) C = s at *
              generalize redR C (trF M) R = s' at *
              have hkv : ∀ c, c ∈ frees s' R → KV C R (trF M) s' c := fun c hc => kf_KV hP2 hX' (frees_mem.1 hc).1 (frees_mem.1 hc).2
              cases hno : noB R C s with
              | true =>
                rw [if_pos hno] at h1
                have hfi : (frees s' R).find? (fun c => !decide (dot R s' f c = 0)) = none := by
                  rw [List.find?_eq_none]
                  intro c hc
                  have := no_refute hX hno (hkv c hc).zero
                  have h3 : dot R s' f c = 0 := this
                  simp [h3]
                rw [hfi] at h2
                have hb : ∀ i, i < s.piv.length → -1073741824 ≤ s.A i C ∧ s.A i C ≤ 1073741824 := fun i hi => hX.bnd_up hP1 (by omega) hi (by omega)
                have hd := hX.bnd_den hP1 (by omega)
                have hd0 : s.den ≠ 0 := by rw [hX.den]; exact hX.d0
                obtain ⟨o, ho, hp⟩ := altL1_eq (R := R) (C := C) (by omega) (by omega) hA hf hd0 (fun j => sF_nf hb hd hd0 j s.piv.length (Nat.le_refl _)) (fun i hi => row_sX hX hno hi)
                have hbb : (decide ((0 : Int) = 0) == decide ((10 : Int) = 0)) = false := by decide
                simp only at h1 h2
                rcases hp with rfl | rfl
                · simp (disch := omega) only [awake_true, Bool.not_true, hg, hrv, hrc, T2_len, T2_row h0, tab_len, h1, h2, hbb, ho, ckB_ix, ckB_inR, ckB_room, ckB_cut, ckB_mk, ckB_ne, bif_lt, bif_nlt, bif_le, bif_nle, bif_eq, bif_neq, bif_ne, bif_nne, bif_not, bif_true', bif_false', bnd_ok, lk_inl, lk_inr, Int.toNat_natCast, decide_true]
                  rfl
                · simp (disch := omega) only [awake_true, Bool.not_true, hg, hrv, hrc, T2_len, T2_row h0, tab_len, h1, h2, hbb, ho, ckB_ix, ckB_inR, ckB_room, ckB_cut, ckB_mk, ckB_ne, bif_lt, bif_nlt, bif_le, bif_nle, bif_eq, bif_neq, bif_ne, bif_nne, bif_not, bif_true', bif_false', bnd_ok, lk_inl, lk_inr, Int.toNat_natCast, decide_true]
                  rfl
              | false =>
                rw [if_neg (by rw [hno]; simp)] at h1
                obtain ⟨c0, hc0, hd0⟩ := some_refute hP2 hX hX' hno
                cases hfi : (frees s' R).find? (fun c => !decide (dot R s' f c = 0)) with
                | none =>
                  have := List.find?_eq_none.1 hfi c0 hc0
                  simp [hd0] at this
                | some c =>
                  have hcm := List.mem_of_find?_eq_some hfi
                  have hcp := List.find?_some hfi
                  have hcd : dot R s' f c ≠ 0 := by
                    intro e
                    simp [e] at hcp
                  rw [hfi] at h2
                  simp only at h2
                  have hK := hkv c hcm
                  have hL2 := altL2_eq (R := R) (by omega) hK.bd (T2 R C M) (tab R f) (tab R (kf R s' c))
                  have hL3 := altL3_eq (R := R) (C := C) (by omega) (by omega) hA hK.bd hK.zero (tab R f)
                  have htr := refTranspose_eq (R := R) (C := C) (by omega) h0 (by omega) M
                  have hT := times_eq (C := R) (by omega) (f := kf R s' c) (g := f) fun j hj => by
                    have := mul_bound (hK.bd j hj) (hf j)
                    omega
                  have hdef : sumN (fun j => kf R s' c j * f j) R = dot R s' f c := rfl
                  rw [hdef] at hT
                  have hbb : (decide ((10 : Int) = 0) == decide ((0 : Int) = 0)) = false := by decide
                  simp (disch := omega) only [awake_true, Bool.not_true, hg, hrv, hrc, T2_len, T2_row h0, tab_len, h1, h2, hbb, hL2, htr, hL3, hT, ckB_ix, ckB_inR, ckB_room, ckB_cut, ckB_mk, ckB_ne, bif_lt, bif_nlt, bif_le, bif_nle, bif_eq, bif_neq, bif_ne, bif_nne, bif_not, bif_true', bif_false', bnd_ok, lk_inl, lk_inr, Int.toNat_natCast, decide_true]
                  simp [hcd]
            · rw [if_neg hs2] at h2
              by_cases hno : noB R C (redR R (wM C M f) C) = true
              · rw [if_pos hno] at h1
                simp (disch := omega) only [awake_true, Bool.not_true, hg, hrv, hrc, T2_len, T2_row h0, tab_len, h1, h2, List.length_nil, ckB_ix, ckB_inR, ckB_room, ckB_cut, ckB_mk, ckB_ne, bif_lt, bif_nlt, bif_le, bif_nle, bif_eq, bif_neq, bif_ne, bif_nne, bif_not, bif_true', bif_false', bnd_ok, lk_inl, lk_inr, Int.toNat_natCast, decide_true]
                simp
              · rw [if_neg hno] at h1
                simp (disch := omega) only [awake_true, Bool.not_true, hg, hrv, hrc, T2_len, T2_row h0, tab_len, h1, h2, List.length_nil, ckB_ix, ckB_inR, ckB_room, ckB_cut, ckB_mk, ckB_ne, bif_lt, bif_nlt, bif_le, bif_nle, bif_eq, bif_neq, bif_ne, bif_nne, bif_not, bif_true', bif_false', bnd_ok, lk_inl, lk_inr, Int.toNat_natCast, decide_true]
          · rw [if_neg hs1] at h1
            by_cases hs2 : smallM C R (trF M) = true
            · rw [if_pos hs2] at h2
              simp (disch := omega) only [awake_true, Bool.not_true, hg, hrv, hrc, T2_len, T2_row h0, tab_len, h1, h2, List.length_nil, ckB_ix, ckB_inR, ckB_room, ckB_cut, ckB_mk, ckB_ne, bif_lt, bif_nlt, bif_le, bif_nle, bif_eq, bif_neq, bif_ne, bif_nne, bif_not, bif_true', bif_false', bnd_ok, lk_inl, lk_inr, Int.toNat_natCast, decide_true]
            · rw [if_neg hs2] at h2
              simp (disch := omega) only [awake_true, Bool.not_true, hg, hrv, hrc, T2_len, T2_row h0, tab_len, h1, h2, List.length_nil, ckB_ix, ckB_inR, ckB_room, ckB_cut, ckB_mk, ckB_ne, bif_lt, bif_nlt, bif_le, bif_nle, bif_eq, bif_neq, bif_ne, bif_nne, bif_not, bif_true', bif_false', bnd_ok, lk_inl, lk_inr, Int.toNat_natCast, decide_true]
        · simp (disch := omega) only [awake_true, Bool.not_true, hg, hrv, hrc, ckB_ix, ckB_inR, ckB_room, ckB_cut, ckB_mk, ckB_ne, bif_lt, bif_nlt, bif_le, bif_nle, bif_eq, bif_neq, bif_ne, bif_nne, bif_not, bif_true', bif_false', bnd_ok, lk_inl, lk_inr, Int.toNat_natCast, decide_true]

end Go.Proofs.Ytjjhanfglelldaa
