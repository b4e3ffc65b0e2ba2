/-
  In a calendar nobody ends earlier; in a calendar that is always open all end as without: SimulateAlways returns true.
-/
import Derived.Test.YtocpeankecaabaaD5
set_option linter.all false
namespace Go.Proofs.Ytocpeankecaabaa
open Go.Abs Go.T Go.M

/-! ### Open minutes -/

/-- The spans lie one behind the other. -/
def asc : List Span → Prop
  | [] => True
  | [_] => True
  | s :: t :: o => s.2.1 ≤ t.1 ∧ asc (t :: o)

theorem asc_of_at : ∀ (o : List Span), (∀ i, i + 1 < o.length → (o.getD i Span.z).2.1 ≤ (o.getD (i + 1) Span.z).1) → asc o
  | [], _ => trivial
  | [_], _ => trivial
  | s :: t :: o, h => ⟨by simpa using h 0 (by simp), asc_of_at (t :: o) (fun i hi => by simpa using h (i + 1) (by simpa using hi))⟩

theorem asc_of {o : List Span} (h : validB o = true) : asc o := by
  refine asc_of_at o (fun i hi => ?_)
  simp only [validB, Bool.and_eq_true, List.all_eq_true, List.mem_range] at h
  have := h.2 (i + 1) hi
  simp only [vAt, sp, Bool.and_eq_true, Bool.or_eq_true, decide_eq_true_eq] at this
  have h2 := this.2
  rw [show i + 1 - 1 = i by omega] at h2
  omega

theorem bef_cons (s : Span) (o : List Span) (w : Int) : bef (s :: o) w = max (min s.2.1 w - s.1) 0 + bef o w := rfl

/-- Spans that start at a or later hold at most w - a minutes before w. -/
theorem bef_from : ∀ (o : List Span) (a : Int), oks o → asc o → (∀ s, o.head? = some s → a ≤ s.1) → ∀ w, 0 ≤ bef o w ∧ bef o w ≤ max (w - a) 0
  | [], a, _, _, _, w => by simp [bef, sumL]; omega
  | s :: o, a, hk, ha, hh, w => by
    obtain ⟨h1, h2⟩ := oks_cons hk
    have h3 := hh s rfl
    have ih := bef_from o s.2.1 h2 (by cases o with | nil => trivial | cons t o => exact ha.2) (by cases o with | nil => simp | cons t o => intro x hx; simp at hx; subst hx; exact ha.1) w
    rw [bef_cons]
    omega

theorem bef_lip : ∀ (o : List Span), oks o → asc o → ∀ w w', w ≤ w' → bef o w ≤ bef o w' ∧ bef o w' - bef o w ≤ w' - w
  | [], _, _, w, w', h => by simp [bef, sumL]; omega
  | s :: o, hk, ha, w, w', h => by
    obtain ⟨h1, h2⟩ := oks_cons hk
    have ha2 : asc o := by cases o with | nil => trivial | cons t o => exact ha.2
    have hh : ∀ x, o.head? = some x → s.2.1 ≤ x.1 := by cases o with | nil => simp | cons t o => intro x hx; simp at hx; subst hx; exact ha.1
    have ih := bef_lip o h2 ha2 w w' h
    have f1 := bef_from o s.2.1 h2 ha2 hh w
    have f2 := bef_from o s.2.1 h2 ha2 hh w'
    rw [bef_cons, bef_cons]
    omega

theorem bef_zero : ∀ (o : List Span), oks o → bef o 0 = 0
  | [], _ => rfl
  | s :: o, hk => by
    obtain ⟨h1, h2⟩ := oks_cons hk
    rw [bef_cons, bef_zero o h2]
    omega

/-- Up to the end of minute r + 1 lie r + 1 minutes. -/
theorem bef_pk (base : Int) : ∀ (o : List Span), oks o → asc o → ∀ r, 0 ≤ r → r < sumL (fun s => s.2.1 - s.1) o → bef o (pk base o r - base) = r + 1 ∧ (∀ s, o.head? = some s → s.1 < pk base o r - base)
  | [], _, _, r, h0, h1 => by simp [sumL] at h1; omega
  | s :: o, hk, ha, r, h0, h1 => by
    obtain ⟨h2, h3⟩ := oks_cons hk
    have ha2 : asc o := by cases o with | nil => trivial | cons t o => exact ha.2
    have hh : ∀ x, o.head? = some x → s.2.1 ≤ x.1 := by cases o with | nil => simp | cons t o => intro x hx; simp at hx; subst hx; exact ha.1
    simp only [sumL] at h1
    simp only [pk]
    by_cases hr : r < s.2.1 - s.1
    · rw [if_pos hr, bef_cons]
      have f1 := bef_from o s.2.1 h3 ha2 hh (base + (s.1 + r + 1) - base)
      refine ⟨by omega, fun x hx => ?_⟩
      simp at hx; subst hx; omega
    · rw [if_neg hr, bef_cons]
      obtain ⟨i1, i2⟩ := bef_pk base o h3 ha2 (r - (s.2.1 - s.1)) (by omega) (by omega)
      have hge : s.2.1 ≤ pk base o (r - (s.2.1 - s.1)) - base := by
        cases o with
        | nil => simp [sumL] at h1; omega
        | cons t o =>
          have := i2 t rfl
          have := hh t rfl
          omega
      refine ⟨by omega, fun x hx => ?_⟩
      simp at hx; subst hx; omega

theorem after_ge {o : List Span} (hv : validB o = true) {t n : Int} (ht : 0 ≤ t ∧ t ≤ 1099511627776) (hn : 0 ≤ n ∧ n ≤ 1099511627776) (hok : (afterS o t n).2 = 0) : t + n ≤ (afterS o t n).1 := by
  obtain ⟨hl, h⟩ := oks_of hv
  have ha := asc_of hv
  unfold afterS at hok ⊢
  by_cases h0 : n = 0
  · rw [if_pos h0]; simp only; omega
  rw [if_neg h0] at hok ⊢
  by_cases hne : o = []
  · rw [if_pos hne] at hok; simp at hok
  rw [if_neg hne] at hok ⊢
  obtain ⟨n1, n2, n3, n4, n5, n6, n7, n8, n9, n10⟩ := number_at (n := n) h hl hne ht (by omega)
  obtain ⟨w1, w2, w3, w4, w5⟩ := week_at ht
  have hu : untilS o t = Int.tdiv t 10080 * bef o 10080 + bef o (Int.tmod t 10080) := rfl
  obtain ⟨p1, _⟩ := bef_pk (Int.tdiv (untilS o t + n - 1) (bef o 10080) * 10080) o h ha (Int.tmod (untilS o t + n - 1) (bef o 10080)) n7 (by rw [← bef_all h]; exact n8)
  obtain ⟨_, q2, q3⟩ := pk_pkR (Int.tdiv (untilS o t + n - 1) (bef o 10080) * 10080) o h (Int.tmod (untilS o t + n - 1) (bef o 10080)) 0 n7 (by rw [← bef_all h]; exact n8)
  by_cases hw : 109078534 < Int.tdiv (untilS o t + n - 1) (bef o 10080)
  · rw [if_pos hw] at hok; simp at hok
  rw [if_neg hw] at hok ⊢
  split at hok
  · simp at hok
  rename_i hbig
  rw [if_neg hbig]
  simp only
  generalize hB : bef o 10080 = B at *
  generalize Int.tdiv (untilS o t + n - 1) B = q at *
  generalize Int.tmod (untilS o t + n - 1) B = r at *
  generalize pk (q * 10080) o r = e at *
  generalize Int.tdiv t 10080 = a at *
  generalize Int.tmod t 10080 = w at *
  generalize hp : e - q * 10080 = p at *
  have b0 := bef_zero o h
  have lw := bef_lip o h ha 0 w (by omega)
  have lw2 := bef_lip o h ha w 10080 (by omega)
  have lp := bef_lip o h ha 0 p (by omega)
  have lp2 := bef_lip o h ha p 10080 (by omega)
  have lB := bef_lip o h ha 0 10080 (by omega)
  rcases Int.lt_trichotomy q a with hqa | hqa | hqa
  · have hm : (q + 1) * B ≤ a * B := Int.mul_le_mul_of_nonneg_right (by omega) (by omega)
    rw [Int.add_mul] at hm
    omega
  · subst hqa
    rcases Int.le_total w p with hwp | hwp
    · have := bef_lip o h ha w p hwp
      omega
    · have := bef_lip o h ha p w hwp
      omega
  · have hd : (q - a - 1) * B ≤ (q - a - 1) * 10080 := Int.mul_le_mul_of_nonneg_left (by omega) (by omega)
    have e1 : (q - a - 1) * B = q * B - a * B - B := by rw [Int.sub_mul, Int.sub_mul]; omega
    omega

theorem after_always {t n : Int} (ht : 0 ≤ t ∧ t ≤ 1099511627776) (hn : 0 ≤ n ∧ n ≤ 1099511627776) : (afterS [(0, 10080, ())] t n = (t + n, 0)) ∨ (afterS [(0, 10080, ())] t n).2 = 6 := by
  have hv : validB [(0, 10080, ())] = true := by decide
  obtain ⟨hl, h⟩ := oks_of hv
  unfold afterS
  by_cases h0 : n = 0
  · rw [if_pos h0]; left; subst h0; simp
  rw [if_neg h0, if_neg (by simp)]
  obtain ⟨n1, n2, n3, n4, n5, n6, n7, n8, n9, n10⟩ := number_at (n := n) h hl (by simp) ht (by omega)
  obtain ⟨w1, w2, w3, w4, w5⟩ := week_at ht
  have hb : ∀ w, 0 ≤ w → w ≤ 10080 → bef [(0, 10080, ())] w = w := by
    intro w h1 h2
    rw [bef_cons]
    simp only [bef, sumL]
    omega
  have hB := hb 10080 (by omega) (by omega)
  have hu : untilS [(0, 10080, ())] t = Int.tdiv t 10080 * bef [(0, 10080, ())] 10080 + bef [(0, 10080, ())] (Int.tmod t 10080) := rfl
  rw [hB, hb _ w3 (by omega)] at hu
  rw [hB] at n3 n4 n5 n6 n7 n8 n9 n10 ⊢
  have hpk : pk (Int.tdiv (untilS [(0, 10080, ())] t + n - 1) 10080 * 10080) [(0, 10080, ())] (Int.tmod (untilS [(0, 10080, ())] t + n - 1) 10080) = t + n := by
    simp only [pk]
    rw [if_pos (by omega)]
    omega
  rw [hpk]
  split
  · exact .inr rfl
  · split
    · exact .inr rfl
    · exact .inl rfl

/-! ### The service in a calendar, as a function -/

theorem serve45 {l : List Customer} {c : Calendar} (hp : properB l = true) (hv : validB c.1 = true) {s : Nat} (hs : 0 < s ∧ s ≤ 20) :
    ∃ o, simulate_serve_45L0 c l (l.length : Int) (0, List.replicate s 0, []) = some o ∧ (match o with
      | .inl x => x = (srvG (afterS c.1) l s l.length).2 ∧ ∀ j, j < l.length → (0 ≤ stp l j (srvG (afterS c.1) l s j).1 ∧ stp l j (srvG (afterS c.1) l s j).1 ≤ 1099511627776) ∧ (afterS c.1 (stp l j (srvG (afterS c.1) l s j).1) (l.getD j Customer.z).2.1).2 = 0
      | .inr r => r.1 = [] ∧ ∃ t n, (0 ≤ t ∧ t ≤ 1099511627776) ∧ (0 ≤ n ∧ n ≤ 1099511627776) ∧ r.2 = (afterS c.1 t n).2 ∧ r.2 ≠ 0) := by
  have hl := (properB_at hp).1
  refine loop_inv (step := fun a => simulate_serve_45L0K c l l.length a.1 a.2.1 a.2.2 (fun a' => some (.next a')) (fun e => some (.done e)) (fun r => some (.ret r)))
    (fun a => ∃ i : Nat, i ≤ l.length ∧ a = ((i : Int), (srvG (afterS c.1) l s i).1, (srvG (afterS c.1) l s i).2) ∧ (∀ j, j < s → 0 ≤ (srvG (afterS c.1) l s i).1.getD j 0 ∧ (srvG (afterS c.1) l s i).1.getD j 0 ≤ 1099511627776) ∧
      ∀ j, j < i → (0 ≤ stp l j (srvG (afterS c.1) l s j).1 ∧ stp l j (srvG (afterS c.1) l s j).1 ≤ 1099511627776) ∧ (afterS c.1 (stp l j (srvG (afterS c.1) l s j).1) (l.getD j Customer.z).2.1).2 = 0)
    (fun a => l.length - a.1.toNat)
    (fun o => match o with
      | .inl x => x = (srvG (afterS c.1) l s l.length).2 ∧ ∀ j, j < l.length → (0 ≤ stp l j (srvG (afterS c.1) l s j).1 ∧ stp l j (srvG (afterS c.1) l s j).1 ≤ 1099511627776) ∧ (afterS c.1 (stp l j (srvG (afterS c.1) l s j).1) (l.getD j Customer.z).2.1).2 = 0
      | .inr r => r.1 = [] ∧ ∃ t n, (0 ≤ t ∧ t ≤ 1099511627776) ∧ (0 ≤ n ∧ n ≤ 1099511627776) ∧ r.2 = (afterS c.1 t n).2 ∧ r.2 ≠ 0)
    _ ⟨0, Nat.zero_le _, rfl, fun j hj => by simp only [srvG]; rw [rep_at s j hj]; omega, fun j hj => by omega⟩ (many_of (by simp; omega)) ?_
  rintro _ ⟨i, hi, rfl, hfb, hok⟩
  have hlen := srvG_len1 (afterS c.1) l s i
  have hlen2 := srvG_len2 (afterS c.1) l s i
  by_cases hlt : i < l.length
  · obtain ⟨h1, h2, h3, h4, _⟩ := pAt_true ((properB_at hp).2 i hlt)
    obtain ⟨_, hk, v, hm, hx⟩ := fm_eq (srvG (afterS c.1) l s i).1 (by omega) (by omega)
    have hkl := hk.1
    have hfk := hfb _ (by omega : fm (srvG (afterS c.1) l s i).1 < s)
    have hst : 0 ≤ stp l i (srvG (afterS c.1) l s i).1 ∧ stp l i (srvG (afterS c.1) l s i).1 ≤ 1099511627776 := by unfold stp; omega
    have hab := afterS_bound hv hst ⟨h3, h4⟩
    have hsv : simulate_ServeIn_1 (max (l.getD i Customer.z).1 ((srvG (afterS c.1) l s i).1.getD (fm (srvG (afterS c.1) l s i).1) 0)) (l.getD i Customer.z).2.1 c = some (afterS c.1 (stp l i (srvG (afterS c.1) l s i).1) (l.getD i Customer.z).2.1) := by
      unfold simulate_ServeIn_1
      rw [clock_After_eq c hv (by exact hst) ⟨h3, h4⟩]
      rfl
    have hroom : ((srvG (afterS c.1) l s i).2.length + 1) * 32 ≤ 140737488355328 := by omega
    by_cases he : (afterS c.1 (stp l i (srvG (afterS c.1) l s i).1) (l.getD i Customer.z).2.1).2 = 0
    · refine ⟨.next ((i : Int) + 1, (srvG (afterS c.1) l s (i + 1)).1, (srvG (afterS c.1) l s (i + 1)).2), ?_, ⟨i + 1, hlt, by simp, ?_, ?_⟩, by simp only [Int.toNat_natCast]; omega⟩
      · simp only [srvG]
        simp (disch := omega) only [simulate_serve_45L0K, hm, hx, hsv, ckB_ix, ckB_inR, ckB_room, ckB_cut, ckB_mk, ckB_ne, bif_lt, bif_nlt, bif_le, bif_nle, bif_eq, bif_neq, bif_ne, bif_nne, bif_not, bif_true', bif_false', bnd_ok, lk_inl, lk_inr, Int.toNat_natCast]
        rfl
      · intro j hj
        simp only [srvG]
        rw [getD_set_int _ _ _ j (by omega)]
        split
        · exact hab
        · exact hfb j hj
      · intro j hj
        rcases Nat.lt_or_eq_of_le (Nat.le_of_lt_succ hj) with h | h
        · exact hok j h
        · subst h; exact ⟨hst, he⟩
    · refine ⟨.ret ([], (afterS c.1 (stp l i (srvG (afterS c.1) l s i).1) (l.getD i Customer.z).2.1).2), ?_, rfl, _, _, hst, ⟨h3, h4⟩, rfl, he⟩
      simp (disch := omega) only [simulate_serve_45L0K, hm, hx, hsv, ckB_ix, ckB_inR, ckB_room, ckB_cut, ckB_mk, ckB_ne, bif_lt, bif_nlt, bif_le, bif_nle, bif_eq, bif_neq, bif_ne, bif_nne, bif_not, bif_true', bif_false', bnd_ok, lk_inl, lk_inr, Int.toNat_natCast]
  · obtain rfl : i = l.length := by omega
    refine ⟨.done (srvG (afterS c.1) l s l.length).2, ?_, rfl, hok⟩
    simp (disch := omega) only [simulate_serve_45L0K, ckB_ix, ckB_inR, ckB_room, ckB_cut, ckB_mk, ckB_ne, bif_lt, bif_nlt, bif_le, bif_nle, bif_eq, bif_neq, bif_ne, bif_nne, bif_not, bif_true', bif_false', bnd_ok, lk_inl, lk_inr, Int.toNat_natCast]

theorem serveIn_fact {l : List Customer} (hp : properB l = true) (c : Calendar) (hc : c.1.length ≤ 9223372036854775807) {k : Int} (hk : 1 ≤ k ∧ k ≤ 20) :
    ∃ x, simulate_ServeIn l k c = some x ∧ (x.2 ≠ 0 → x.1 = []) ∧ (x.2 = 0 → validB c.1 = true ∧ x.1 = (srvG (afterS c.1) l k.toNat l.length).2 ∧ ∀ j, j < l.length → (0 ≤ stp l j (srvG (afterS c.1) l k.toNat j).1 ∧ stp l j (srvG (afterS c.1) l k.toNat j).1 ≤ 1099511627776) ∧ (afterS c.1 (stp l j (srvG (afterS c.1) l k.toNat j).1) (l.getD j Customer.z).2.1).2 = 0) ∧
      (validB c.1 = true → x.2 ≠ 0 → ∃ t n, (0 ≤ t ∧ t ≤ 1099511627776) ∧ (0 ≤ n ∧ n ≤ 1099511627776) ∧ x.2 = (afterS c.1 t n).2) := by
  have hl := (properB_at hp).1
  unfold simulate_ServeIn
  rw [simulate_proper_eq l (by omega), hp, clock_Valid_eq c hc]
  cases hv : validB c.1 with
  | false => exact ⟨([], 1), by simp (disch := omega) only [ckB_ix, ckB_inR, ckB_room, ckB_cut, ckB_mk, ckB_ne, bif_lt, bif_nlt, bif_le, bif_nle, bif_eq, bif_neq, bif_ne, bif_nne, bif_not, bif_true', bif_false', bnd_ok, lk_inl, lk_inr, Int.toNat_natCast], fun _ => rfl, fun h => by simp at h, fun h => by cases h⟩
  | true =>
    rw [simulate_given_eq l k (by omega) hp, if_pos hk]
    obtain ⟨o, h1, h2⟩ := serve45 hp hv (s := k.toNat) (by omega)
    unfold simulate_serve_45
    simp (disch := omega) only [h1, ckB_ix, ckB_inR, ckB_room, ckB_cut, ckB_mk, ckB_ne, bif_lt, bif_nlt, bif_le, bif_nle, bif_eq, bif_neq, bif_ne, bif_nne, bif_not, bif_true', bif_false', bnd_ok, lk_inl, lk_inr, Int.toNat_natCast]
    cases o with
    | inl x => exact ⟨(x, 0), rfl, fun h => absurd rfl h, fun _ => ⟨trivial, h2⟩, fun _ h => absurd rfl h⟩
    | inr r =>
      obtain ⟨g1, t, n, g2, g3, g4, g5⟩ := h2
      exact ⟨r, rfl, fun _ => g1, fun h => absurd h g5, fun _ _ => ⟨t, n, g2, g3, g4⟩⟩

theorem srvG_congr {f g : Int → Int → Int × Int} {l : List Customer} {s : Nat} : ∀ i, (∀ j, j < i → f (stp l j (srvG f l s j).1) (l.getD j Customer.z).2.1 = g (stp l j (srvG f l s j).1) (l.getD j Customer.z).2.1) → srvG f l s i = srvG g l s i
  | 0, _ => rfl
  | i + 1, h => by
    have ih := srvG_congr (f := f) (g := g) (l := l) (s := s) i (fun j hj => h j (by omega))
    have h1 := h i (by omega)
    rw [ih] at h1
    simp only [srvG, ih, h1]

theorem always_loop {x z : List Customer} (hxz : z.length = x.length) (hl : z.length ≤ 1000) (h : ∀ i, i < z.length → (x.getD i Customer.z).2.2.1 ≤ (z.getD i Customer.z).2.2.1 ∧ (x.getD i Customer.z).2.2.2.1 ≤ (z.getD i Customer.z).2.2.2.1) : law53_SimulateAlwaysL0 x z (z.length : Int) 0 = some (.inl ()) := by
  refine loop_to (fun i : Nat => (i : Int)) z.length (many_of (by omega)) () (fun i hi => ?_) ?_ _ rfl
  · have := h i hi
    simp (disch := omega) only [law53_SimulateAlwaysL0K, ckB_ix, ckB_inR, ckB_room, ckB_cut, ckB_mk, ckB_ne, bif_lt, bif_nlt, bif_le, bif_nle, bif_eq, bif_neq, bif_ne, bif_nne, bif_not, bif_true', bif_false', bnd_ok, lk_inl, lk_inr, Int.toNat_natCast]
    rw [cast_succ]
  · simp (disch := omega) only [law53_SimulateAlwaysL0K, ckB_ix, ckB_inR, ckB_room, ckB_cut, ckB_mk, ckB_ne, bif_lt, bif_nlt, bif_le, bif_nle, bif_eq, bif_neq, bif_ne, bif_nne, bif_not, bif_true', bif_false', bnd_ok, lk_inl, lk_inr, Int.toNat_natCast]

theorem always_true (l : List Customer) (s : Int) (c : Calendar) (hl : l.length ≤ 9223372036854775807) (hc : c.1.length ≤ 9223372036854775807) (hs : 0 ≤ s ∧ s ≤ 255) : law53_SimulateAlways l s c = some true := by
  unfold law53_SimulateAlways
  rw [awake_true, ref53_Proper_eq l hl]
  by_cases h30 : 30 < l.length
  · simp (disch := omega) only [ckB_ix, ckB_inR, ckB_room, ckB_cut, ckB_mk, ckB_ne, bif_lt, bif_nlt, bif_le, bif_nle, bif_eq, bif_neq, bif_ne, bif_nne, bif_not, bif_true', bif_false', bnd_ok, lk_inl, lk_inr, Int.toNat_natCast]
  cases hp : properB l with
  | false => simp (disch := omega) only [ckB_ix, ckB_inR, ckB_room, ckB_cut, ckB_mk, ckB_ne, bif_lt, bif_nlt, bif_le, bif_nle, bif_eq, bif_neq, bif_ne, bif_nne, bif_not, bif_true', bif_false', bnd_ok, lk_inl, lk_inr, Int.toNat_natCast]
  | true =>
    by_cases h200 : 200 < c.1.length
    · simp (disch := omega) only [ckB_ix, ckB_inR, ckB_room, ckB_cut, ckB_mk, ckB_ne, bif_lt, bif_nlt, bif_le, bif_nle, bif_eq, bif_neq, bif_ne, bif_nne, bif_not, bif_true', bif_false', bnd_ok, lk_inl, lk_inr, Int.toNat_natCast]
    have t1 := tmod_bounds (a := s) (m := 20) hs.1 (by omega)
    generalize Int.tmod s 20 = s1 at *
    have sv := (serve_eq l (1 + s1) hl).1
    have hsa : serveAns l (1 + s1) = ((srvG plainF l (1 + s1).toNat l.length).2, 0) := by
      unfold serveAns
      rw [hp, if_neg (show ¬ (true = false) by decide), if_pos (by omega)]
    rw [hsa] at sv
    obtain ⟨y, y1, y2, y3, y4⟩ := serveIn_fact hp ([(0, 10080, ())], ()) (by simp) (k := 1 + s1) (by omega)
    obtain ⟨z, z1, z2, z3, _⟩ := serveIn_fact hp c hc (k := 1 + s1) (by omega)
    have hvO : validB [(0, 10080, ())] = true := by decide
    have hlen := srvG_len2 plainF l (1 + s1).toNat l.length
    have hy : y.2 = 0 ∨ y.2 = 6 := by
      by_cases h0 : y.2 = 0
      · exact .inl h0
      · obtain ⟨t, n, g1, g2, g3⟩ := y4 hvO h0
        rcases after_always g1 g2 with h | h
        · rw [h] at g3; exact .inl g3
        · exact .inr (by rw [g3]; exact h)
    have hyx : y.2 = 0 → y.1 = (srvG plainF l (1 + s1).toNat l.length).2 := by
      intro h0
      obtain ⟨_, g1, g2⟩ := y3 h0
      rw [g1, srvG_congr (g := plainF) l.length (fun j hj => ?_)]
      obtain ⟨p1, p2⟩ := g2 j hj
      obtain ⟨h1, h2, h3, h4, _⟩ := pAt_true ((properB_at hp).2 j hj)
      rcases after_always p1 ⟨h3, h4⟩ with h | h
      · exact h
      · rw [h] at p2; simp at p2
    have heq := equalC_self (srvG plainF l (1 + s1).toNat l.length).2 (by omega)
    have hzl : z.2 = 0 → (z.1.length : Int) = ((srvG plainF l (1 + s1).toNat l.length).2.length : Int) := by
      intro h0
      rw [(z3 h0).2.1, srvG_len2, srvG_len2]
    have hloop : z.2 = 0 → law53_SimulateAlwaysL0 (srvG plainF l (1 + s1).toNat l.length).2 z.1 (z.1.length : Int) 0 = some (.inl ()) := by
      intro h0
      obtain ⟨hv, g1, g2⟩ := z3 h0
      have hzl' := hzl h0
      refine always_loop (by omega) (by omega) (fun i hi => ?_)
      have hi' : i < l.length := by omega
      rw [g1, srvG_at _ _ _ _ _ hi', srvG_at _ _ _ _ _ hi']
      have hge : ∀ j, j < l.length → stp l j (srvG (afterS c.1) l (1 + s1).toNat j).1 + (l.getD j Customer.z).2.1 ≤ (afterS c.1 (stp l j (srvG (afterS c.1) l (1 + s1).toNat j).1) (l.getD j Customer.z).2.1).1 := by
        intro j hj
        obtain ⟨h1, h2, h3, h4, _⟩ := pAt_true ((properB_at hp).2 j hj)
        obtain ⟨p1, p2⟩ := g2 j hj
        exact after_ge hv p1 ⟨h3, h4⟩ p2
      have hd : ∀ i, i ≤ l.length → dom (srvG (afterS c.1) l (1 + s1).toNat i).1 (srvG plainF l (1 + s1).toNat i).1 := by
        intro i hi
        refine srv_dom (Nat.le_refl _) (by omega) (by omega) i (fun j hj => ?_)
        by_cases hdj : dom (srvG (afterS c.1) l (1 + s1).toNat j).1 (srvG plainF l (1 + s1).toNat j).1
        · left
          have hst := stp_dom (l := l) (i := j) (by rw [srvG_len1]; omega) (by rw [srvG_len1]; omega) (by rw [srvG_len1]; omega) (by rw [srvG_len1]; omega) hdj
          obtain ⟨h1, h2, h3, h4, _⟩ := pAt_true ((properB_at hp).2 j (by omega))
          have := hge j (by omega)
          simp only [plainF]
          omega
        · exact .inr hdj
      have hst := stp_dom (l := l) (i := i) (by rw [srvG_len1]; omega) (by rw [srvG_len1]; omega) (by rw [srvG_len1]; omega) (by rw [srvG_len1]; omega) (hd i (by omega))
      have := hge i hi'
      simp only [plainF]
      omega
    have hL1 : law53_SimulateAlwaysL1 = law53_SimulateAlwaysL0 := rfl
    have hL2 : law53_SimulateAlwaysL2 = law53_SimulateAlwaysL0 := rfl
    have hL3 : law53_SimulateAlwaysL3 = law53_SimulateAlwaysL0 := rfl
    by_cases hz : z.2 = 0
    · have e1 := hloop hz
      have e2 := hzl hz
      rcases hy with h0 | h0
      · have e3 := hyx h0
        simp (disch := omega) only [sv, y1, z1, e3, heq, hL2, e1, decide_true, bif_true', ckB_ix, ckB_inR, ckB_room, ckB_cut, ckB_mk, ckB_ne, bif_lt, bif_nlt, bif_le, bif_nle, bif_eq, bif_neq, bif_ne, bif_nne, bif_not, bif_true', bif_false', bnd_ok, lk_inl, lk_inr, Int.toNat_natCast]
      · simp (disch := omega) only [sv, y1, z1, heq, hL1, e1, decide_true, bif_true', ckB_ix, ckB_inR, ckB_room, ckB_cut, ckB_mk, ckB_ne, bif_lt, bif_nlt, bif_le, bif_nle, bif_eq, bif_neq, bif_ne, bif_nne, bif_not, bif_true', bif_false', bnd_ok, lk_inl, lk_inr, Int.toNat_natCast]
    · have e2 : (z.1.length : Int) = 0 := by rw [z2 hz]; rfl
      rcases hy with h0 | h0
      · have e3 := hyx h0
        simp (disch := omega) only [sv, y1, z1, e3, heq, e2, decide_true, ckB_ix, ckB_inR, ckB_room, ckB_cut, ckB_mk, ckB_ne, bif_lt, bif_nlt, bif_le, bif_nle, bif_eq, bif_neq, bif_ne, bif_nne, bif_not, bif_true', bif_false', bnd_ok, lk_inl, lk_inr, Int.toNat_natCast]
      · simp (disch := omega) only [sv, y1, z1, heq, e2, decide_true, ckB_ix, ckB_inR, ckB_room, ckB_cut, ckB_mk, ckB_ne, bif_lt, bif_nlt, bif_le, bif_nle, bif_eq, bif_neq, bif_ne, bif_nne, bif_not, bif_true', bif_false', bnd_ok, lk_inl, lk_inr, Int.toNat_natCast]

end Go.Proofs.Ytocpeankecaabaa
