/-
  The service as a plain function; more servers delay nobody, a calendar hastens nobody.
-/
import Derived.Test.YtocpeankecaabaaD2
set_option linter.all false
namespace Go.Proofs.Ytocpeankecaabaa
open Go.Abs Go.T Go.M

/-- The first of the least. -/
def fm (free : List Int) : Nat := Int.toNat ((ref53_first free).getD 0)
theorem fm_eq (free : List Int) (h0 : 0 < free.length) (hl : free.length ≤ 9223372036854775807) : ref53_first free = some (fm free : Int) ∧ isMin free (fm free) ∧ ∃ v, slices_Min_int_int free = some v ∧ slices_Index_int_int free v = some (fm free : Int) := by
  obtain ⟨k, h1, h2⟩ := ref53_first_eq free h0 hl
  obtain ⟨k', h3, h4⟩ := min_index free h0 hl
  have hk := isMin_uniq h4 h2
  subst hk
  have : fm free = k' := by unfold fm; rw [h1]; rfl
  rw [this]
  exact ⟨h1, h2, h3⟩

def stp (l : List Customer) (i : Nat) (free : List Int) : Int := max (l.getD i Customer.z).1 (free.getD (fm free) 0)

/-- The service: when the servers are free, and who is served. f: the end of a service. -/
def srvG (f : Int → Int → Int × Int) (l : List Customer) (s : Nat) : Nat → List Int × List Customer
  | 0 => (List.replicate s 0, [])
  | i + 1 => ((srvG f l s i).1.set (fm (srvG f l s i).1) (f (stp l i (srvG f l s i).1) (l.getD i Customer.z).2.1).1, (srvG f l s i).2 ++ [((l.getD i Customer.z).1, (l.getD i Customer.z).2.1, stp l i (srvG f l s i).1, (f (stp l i (srvG f l s i).1) (l.getD i Customer.z).2.1).1, ())])

theorem srvG_len1 (f) (l : List Customer) (s : Nat) : ∀ i, (srvG f l s i).1.length = s
  | 0 => by simp [srvG]
  | i + 1 => by simp [srvG, srvG_len1 f l s i]
theorem srvG_len2 (f) (l : List Customer) (s : Nat) : ∀ i, (srvG f l s i).2.length = i
  | 0 => by simp [srvG]
  | i + 1 => by simp [srvG, srvG_len2 f l s i]
theorem srvG_at (f) (l : List Customer) (s : Nat) : ∀ i j, j < i → (srvG f l s i).2.getD j Customer.z = ((l.getD j Customer.z).1, (l.getD j Customer.z).2.1, stp l j (srvG f l s j).1, (f (stp l j (srvG f l s j).1) (l.getD j Customer.z).2.1).1, ())
  | i + 1, j, hj => by
    simp only [srvG, List.getD_eq_getElem?_getD]
    rcases Nat.lt_or_eq_of_le (Nat.le_of_lt_succ hj) with h | h
    · rw [List.getElem?_append_left (by rw [srvG_len2]; exact h), ← List.getD_eq_getElem?_getD]
      exact srvG_at f l s i j h
    · subst h
      rw [List.getElem?_append_right (by rw [srvG_len2]; exact Nat.le_refl _), srvG_len2]
      simp

def plainF (t n : Int) : Int × Int := (t + n, 0)

theorem set_bound {xs : List Int} {k : Nat} {v lo hi : Int} (h : ∀ j, j < xs.length → lo ≤ xs.getD j 0 ∧ xs.getD j 0 ≤ hi) (hv : lo ≤ v ∧ v ≤ hi) : ∀ j, j < (xs.set k v).length → lo ≤ (xs.set k v).getD j 0 ∧ (xs.set k v).getD j 0 ≤ hi := by
  intro j hj
  simp only [List.length_set] at hj
  rw [getD_set_int xs k v j hj]
  split
  · exact hv
  · exact h j hj

theorem rep_at (s j : Nat) (hj : j < s) : (List.replicate s (0 : Int)).getD j 0 = 0 := by
  simp only [List.getD_eq_getElem?_getD, List.getElem?_replicate, if_pos hj, Option.getD_some]

theorem plain_bound {l : List Customer} (hp : properB l = true) {s : Nat} (hs : 0 < s ∧ s ≤ 20) : ∀ i, i ≤ l.length → ∀ j, j < (srvG plainF l s i).1.length → 0 ≤ (srvG plainF l s i).1.getD j 0 ∧ (srvG plainF l s i).1.getD j 0 ≤ (i + 1) * 1099511627776
  | 0, _, j, hj => by
    simp only [srvG, List.length_replicate] at hj ⊢
    rw [rep_at s j hj]
    omega
  | i + 1, hi, j, hj => by
    have ih := plain_bound hp hs i (by omega)
    obtain ⟨h1, h2, h3, h4, _⟩ := pAt_true ((properB_at hp).2 i (by omega))
    have hlen := srvG_len1 plainF l s i
    obtain ⟨_, hk, _⟩ := fm_eq (srvG plainF l s i).1 (by omega) (by omega)
    have hb := ih _ hk.1
    refine set_bound (lo := 0) (hi := ((i + 1 : Nat) + 1) * 1099511627776) (fun j hj => ?_) ?_ j hj
    · have := ih j hj
      omega
    · simp only [plainF, stp]
      omega

theorem stp_bound {l : List Customer} (hp : properB l = true) {s : Nat} (hs : 0 < s ∧ s ≤ 20) {i : Nat} (hi : i < l.length) : 0 ≤ stp l i (srvG plainF l s i).1 ∧ stp l i (srvG plainF l s i).1 ≤ (i + 1) * 1099511627776 := by
  obtain ⟨h1, h2, h3, h4, _⟩ := pAt_true ((properB_at hp).2 i (by omega))
  have hlen := srvG_len1 plainF l s i
  obtain ⟨_, hk, _⟩ := fm_eq (srvG plainF l s i).1 (by omega) (by omega)
  have hb := plain_bound hp hs i (by omega) _ hk.1
  unfold stp
  omega

theorem serve38_eq {l : List Customer} (hp : properB l = true) {s : Nat} (hs : 0 < s ∧ s ≤ 20) : simulate_serve_38L0 l (l.length : Int) (0, List.replicate s 0, []) = some (.inl (srvG plainF l s l.length).2) := by
  have hl := (properB_at hp).1
  refine loop_to (fun i : Nat => ((i : Int), (srvG plainF l s i).1, (srvG plainF l s i).2)) l.length (many_of (by omega)) _ ?_ ?_ _ rfl
  · intro i hi
    obtain ⟨h1, h2, h3, h4, _⟩ := pAt_true ((properB_at hp).2 i hi)
    have hlen := srvG_len1 plainF l s i
    have hlen2 := srvG_len2 plainF l s i
    obtain ⟨_, hk, v, hm, hx⟩ := fm_eq (srvG plainF l s i).1 (by omega) (by omega)
    have hb := stp_bound hp hs hi
    have hkl := hk.1
    have hroom : ((srvG plainF l s i).2.length + 1) * 32 ≤ 140737488355328 := by omega
    have hpl : simulate_plain (stp l i (srvG plainF l s i).1) (l.getD i Customer.z).2.1 = some (plainF (stp l i (srvG plainF l s i).1) (l.getD i Customer.z).2.1) := by
      unfold simulate_plain
      simp (disch := omega) only [plainF, ckB_ix, ckB_inR, ckB_room, ckB_cut, ckB_mk, ckB_ne, bif_lt, bif_nlt, bif_le, bif_nle, bif_eq, bif_neq, bif_ne, bif_nne, bif_not, bif_true', bif_false', bnd_ok, lk_inl, lk_inr, Int.toNat_natCast]
    rw [show (stp l i (srvG plainF l s i).1) = max (l.getD i Customer.z).1 ((srvG plainF l s i).1.getD (fm (srvG plainF l s i).1) 0) from rfl] at hpl
    have hz : (plainF (max (l.getD i Customer.z).1 ((srvG plainF l s i).1.getD (fm (srvG plainF l s i).1) 0)) (l.getD i Customer.z).2.1).2 = 0 := rfl
    simp only [srvG, stp]
    simp (disch := omega) only [simulate_serve_38L0K, hm, hx, hpl, ckB_ix, ckB_inR, ckB_room, ckB_cut, ckB_mk, ckB_ne, bif_lt, bif_nlt, bif_le, bif_nle, bif_eq, bif_neq, bif_ne, bif_nne, bif_not, bif_true', bif_false', bnd_ok, lk_inl, lk_inr, Int.toNat_natCast]
    rw [cast_succ]
  · simp (disch := omega) only [simulate_serve_38L0K, ckB_ix, ckB_inR, ckB_room, ckB_cut, ckB_mk, ckB_ne, bif_lt, bif_nlt, bif_le, bif_nle, bif_eq, bif_neq, bif_ne, bif_nne, bif_not, bif_true', bif_false', bnd_ok, lk_inl, lk_inr, Int.toNat_natCast]

theorem refServe_eq {l : List Customer} (hp : properB l = true) {s : Nat} (hs : 0 < s ∧ s ≤ 20) : ref53_ServeL0 l (0, List.replicate s 0, []) = some (.inl (srvG plainF l s l.length).2) := by
  have hl := (properB_at hp).1
  refine loop_to (fun i : Nat => ((i : Int), (srvG plainF l s i).1, (srvG plainF l s i).2)) l.length (many_of (by omega)) _ ?_ ?_ _ rfl
  · intro i hi
    obtain ⟨h1, h2, h3, h4, _⟩ := pAt_true ((properB_at hp).2 i hi)
    have hlen := srvG_len1 plainF l s i
    have hlen2 := srvG_len2 plainF l s i
    obtain ⟨hx', hk, _⟩ := fm_eq (srvG plainF l s i).1 (by omega) (by omega)
    have hb := stp_bound hp hs hi
    have hkl := hk.1
    have hroom : ((srvG plainF l s i).2.length + 1) * 32 ≤ 140737488355328 := by omega
    unfold stp at hb
    simp only [srvG, stp, plainF]
    by_cases hc : (l.getD i Customer.z).1 < (srvG plainF l s i).1.getD (fm (srvG plainF l s i).1) 0
    · have e2 : max (l.getD i Customer.z).1 ((srvG plainF l s i).1.getD (fm (srvG plainF l s i).1) 0) = (srvG plainF l s i).1.getD (fm (srvG plainF l s i).1) 0 := by omega
      rw [e2] at hb ⊢
      simp (disch := omega) only [ref53_ServeL0K, hx', ckB_ix, ckB_inR, ckB_room, ckB_cut, ckB_mk, ckB_ne, bif_lt, bif_nlt, bif_le, bif_nle, bif_eq, bif_neq, bif_ne, bif_nne, bif_not, bif_true', bif_false', bnd_ok, lk_inl, lk_inr, Int.toNat_natCast]
      rw [cast_succ]
    · have e2 : max (l.getD i Customer.z).1 ((srvG plainF l s i).1.getD (fm (srvG plainF l s i).1) 0) = (l.getD i Customer.z).1 := by omega
      rw [e2] at hb ⊢
      simp (disch := omega) only [ref53_ServeL0K, hx', ckB_ix, ckB_inR, ckB_room, ckB_cut, ckB_mk, ckB_ne, bif_lt, bif_nlt, bif_le, bif_nle, bif_eq, bif_neq, bif_ne, bif_nne, bif_not, bif_true', bif_false', bnd_ok, lk_inl, lk_inr, Int.toNat_natCast]
      rw [cast_succ]
  · simp (disch := omega) only [ref53_ServeL0K, ckB_ix, ckB_inR, ckB_room, ckB_cut, ckB_mk, ckB_ne, bif_lt, bif_nlt, bif_le, bif_nle, bif_eq, bif_neq, bif_ne, bif_nne, bif_not, bif_true', bif_false', bnd_ok, lk_inl, lk_inr, Int.toNat_natCast]

/-- What Serve answers. -/
def serveAns (l : List Customer) (s : Int) : List Customer × Int :=
  if properB l = false then ([], 1) else if 1 ≤ s ∧ s ≤ 20 then ((srvG plainF l s.toNat l.length).2, 0) else ([], 2)

theorem serve_eq (l : List Customer) (s : Int) (hl : l.length ≤ 9223372036854775807) : simulate_Serve l s = some (serveAns l s) ∧ ref53_Serve l s = some (serveAns l s) := by
  unfold simulate_Serve ref53_Serve serveAns
  rw [ref53_Proper_eq l hl]
  cases hp : properB l with
  | false =>
    unfold simulate_given
    rw [simulate_proper_eq l hl, hp, if_pos rfl]
    constructor
    · simp (disch := omega) only [ckB_ix, ckB_inR, ckB_room, ckB_cut, ckB_mk, ckB_ne, bif_lt, bif_nlt, bif_le, bif_nle, bif_eq, bif_neq, bif_ne, bif_nne, bif_not, bif_true', bif_false', bnd_ok, lk_inl, lk_inr, Int.toNat_natCast]
    · simp (disch := omega) only [ckB_ix, ckB_inR, ckB_room, ckB_cut, ckB_mk, ckB_ne, bif_lt, bif_nlt, bif_le, bif_nle, bif_eq, bif_neq, bif_ne, bif_nne, bif_not, bif_true', bif_false', bnd_ok, lk_inl, lk_inr, Int.toNat_natCast]
  | true =>
    rw [simulate_given_eq l s hl hp, ref53_Number_eq, if_neg (show ¬ (true = false) by decide)]
    by_cases hs : 1 ≤ s ∧ s ≤ 20
    · rw [if_pos hs, if_pos hs]
      simp only [hs, and_self, decide_true]
      have h1 := serve38_eq hp (s := s.toNat) (by omega)
      have h2 := refServe_eq hp (s := s.toNat) (by omega)
      unfold simulate_serve_38
      constructor
      · simp (disch := omega) only [h1, ckB_ix, ckB_inR, ckB_room, ckB_cut, ckB_mk, ckB_ne, bif_lt, bif_nlt, bif_le, bif_nle, bif_eq, bif_neq, bif_ne, bif_nne, bif_not, bif_true', bif_false', bnd_ok, lk_inl, lk_inr, Int.toNat_natCast]
        rfl
      · simp (disch := omega) only [h2, ckB_ix, ckB_inR, ckB_room, ckB_cut, ckB_mk, ckB_ne, bif_lt, bif_nlt, bif_le, bif_nle, bif_eq, bif_neq, bif_ne, bif_nne, bif_not, bif_true', bif_false', bnd_ok, lk_inl, lk_inr, Int.toNat_natCast]
    · rw [if_neg hs, if_neg hs]
      simp only [hs, decide_false]
      constructor
      · simp (disch := omega) only [ckB_ix, ckB_inR, ckB_room, ckB_cut, ckB_mk, ckB_ne, bif_lt, bif_nlt, bif_le, bif_nle, bif_eq, bif_neq, bif_ne, bif_nne, bif_not, bif_true', bif_false', bnd_ok, lk_inl, lk_inr, Int.toNat_natCast]
      · simp (disch := omega) only [ckB_ix, ckB_inR, ckB_room, ckB_cut, ckB_mk, ckB_ne, bif_lt, bif_nlt, bif_le, bif_nle, bif_eq, bif_neq, bif_ne, bif_nne, bif_not, bif_true', bif_false', bnd_ok, lk_inl, lk_inr, Int.toNat_natCast]

/-! ### Dominance -/

def cntL (t : Int) (xs : List Int) : Nat := xs.countP (fun x => decide (x ≤ t))
/-- The servers of xb are free no later than those of xa. -/
def dom (xa xb : List Int) : Prop := ∀ t, cntL t xa ≤ cntL t xb

theorem cnt_pos {t : Int} {xs : List Int} : 0 < cntL t xs ↔ ∃ j, j < xs.length ∧ xs.getD j 0 ≤ t := by
  unfold cntL
  rw [List.countP_pos_iff]
  constructor
  · rintro ⟨x, hx, h⟩
    obtain ⟨i, hi, rfl⟩ := mem_getD 0 hx
    exact ⟨i, hi, by simpa using h⟩
  · rintro ⟨j, hj, h⟩
    exact ⟨_, getD_mem 0 hj, by simpa using h⟩

theorem cnt_set (t : Int) (xs : List Int) (k : Nat) (v : Int) (hk : k < xs.length) : cntL t (xs.set k v) + (if xs.getD k 0 ≤ t then 1 else 0) = cntL t xs + (if v ≤ t then 1 else 0) := by
  unfold cntL
  induction xs generalizing k with
  | nil => simp at hk
  | cons x xs ih =>
    cases k with
    | zero =>
      simp only [List.set_cons_zero, List.countP_cons, List.getD_cons_zero, decide_eq_true_eq]
      omega
    | succ k =>
      have := ih k (by simpa using hk)
      simp only [List.set_cons_succ, List.countP_cons, List.getD_cons_succ]
      omega

theorem dom_min {xa xb : List Int} {ka kb : Nat} (h : dom xa xb) (ha : isMin xa ka) (hb : isMin xb kb) : xb.getD kb 0 ≤ xa.getD ka 0 := by
  have h1 : 0 < cntL (xa.getD ka 0) xa := cnt_pos.mpr ⟨ka, ha.1, Int.le_refl _⟩
  have h2 := h (xa.getD ka 0)
  obtain ⟨j, hj, hle⟩ := cnt_pos.mp (show 0 < cntL (xa.getD ka 0) xb by omega)
  have := hb.2.1 j hj
  omega

theorem dom_step {xa xb : List Int} {ka kb : Nat} {ea eb : Int} (h : dom xa xb) (ha : isMin xa ka) (hb : isMin xb kb) (he : eb ≤ ea) (hm : xa.getD ka 0 ≤ ea) : dom (xa.set ka ea) (xb.set kb eb) := by
  intro t
  have hmin := dom_min h ha hb
  have h1 := cnt_set t xa ka ea ha.1
  have h2 := cnt_set t xb kb eb hb.1
  have h3 := h t
  by_cases hea : ea ≤ t
  · rw [if_pos hea, if_pos (by omega)] at h1
    rw [if_pos (by omega : eb ≤ t), if_pos (by omega)] at h2
    omega
  · rw [if_neg hea] at h1
    by_cases hma : xa.getD ka 0 ≤ t
    · rw [if_pos hma] at h1
      rw [if_pos (by omega)] at h2
      omega
    · rw [if_neg hma] at h1
      have : cntL t xa = 0 := by
        rcases Nat.eq_zero_or_pos (cntL t xa) with h0 | h0
        · exact h0
        · obtain ⟨j, hj, hle⟩ := cnt_pos.mp h0
          have := ha.2.1 j hj
          omega
      omega

theorem dom_replicate {a b : Nat} (h : a ≤ b) : dom (List.replicate a 0) (List.replicate b 0) := by
  intro t
  unfold cntL
  rw [List.countP_replicate, List.countP_replicate]
  split <;> omega

theorem stp_dom {l : List Customer} {i : Nat} {xa xb : List Int} (ha0 : 0 < xa.length) (ha1 : xa.length ≤ 20) (hb0 : 0 < xb.length) (hb1 : xb.length ≤ 20) (h : dom xa xb) : stp l i xb ≤ stp l i xa := by
  obtain ⟨_, hka, _⟩ := fm_eq xa ha0 (by omega)
  obtain ⟨_, hkb, _⟩ := fm_eq xb hb0 (by omega)
  have := dom_min h hka hkb
  unfold stp
  omega

/-- Slower ends, or fewer servers: nobody starts earlier. -/
theorem srv_dom {fa fb : Int → Int → Int × Int} {l : List Customer} {a b : Nat} (hab : a ≤ b) (ha0 : 0 < a) (hb : b ≤ 20) : ∀ i, (∀ j, j < i → (fb (stp l j (srvG fb l b j).1) (l.getD j Customer.z).2.1).1 ≤ (fa (stp l j (srvG fa l a j).1) (l.getD j Customer.z).2.1).1 ∧ stp l j (srvG fa l a j).1 ≤ (fa (stp l j (srvG fa l a j).1) (l.getD j Customer.z).2.1).1 ∨ ¬ dom (srvG fa l a j).1 (srvG fb l b j).1) → dom (srvG fa l a i).1 (srvG fb l b i).1
  | 0, _ => dom_replicate hab
  | i + 1, h => by
    have ih := srv_dom (fa := fa) (fb := fb) (l := l) hab ha0 hb i (fun j hj => h j (by omega))
    have h1 := srvG_len1 fa l a i
    have h2 := srvG_len1 fb l b i
    obtain ⟨_, hka, _⟩ := fm_eq (srvG fa l a i).1 (by omega) (by omega)
    obtain ⟨_, hkb, _⟩ := fm_eq (srvG fb l b i).1 (by omega) (by omega)
    rcases h i (by omega) with ⟨g1, g2⟩ | g
    · refine dom_step ih hka hkb g1 ?_
      have : (srvG fa l a i).1.getD (fm (srvG fa l a i).1) 0 ≤ stp l i (srvG fa l a i).1 := by unfold stp; omega
      omega
    · exact absurd ih g

end Go.Proofs.Ytocpeankecaabaa
