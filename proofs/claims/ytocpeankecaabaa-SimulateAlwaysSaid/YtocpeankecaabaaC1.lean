/-
  Calendars: what the program's clock and the reference's compute, in plain words; they agree.
-/
import Derived.Test.YtocpeankecaabaaMd
import Derived.Test.YtocpeankecaabaaMo2
set_option linter.all false
namespace Go.Proofs.Ytocpeankecaabaa
open Go.Abs Go.T Go.M

theorem many_of {n : Nat} (h : n ≤ 9223372036854775807) : n < many := by unfold many; omega
theorem toNat_pred (i : Nat) : Int.toNat ((i : Int) - 1) = i - 1 := by omega
theorem cast_succ (i : Nat) : ((i : Int) + 1) = ((i + 1 : Nat) : Int) := by omega

abbrev sp (o : List Span) (i : Nat) : Span := o.getD i Span.z

def vAt (o : List Span) (i : Nat) : Bool := (decide (0 ≤ (sp o i).1) && decide ((sp o i).1 < (sp o i).2.1) && decide ((sp o i).2.1 ≤ 10080)) && (decide (i = 0) || decide ((sp o (i - 1)).2.1 < (sp o i).1))
def validB (o : List Span) : Bool := decide (o.length ≤ 100) && (List.range o.length).all (vAt o)

theorem clock_ofWeek_eq (s : Span) : clock_ofWeek s = some (decide (0 ≤ s.1) && decide (s.1 < s.2.1) && decide (s.2.1 ≤ 10080)) := by
  unfold clock_ofWeek clock_ValidSpan
  by_cases h1 : 0 ≤ s.1 <;> by_cases h2 : s.1 < s.2.1 <;> by_cases h3 : s.2.1 ≤ 1099511627776 <;> by_cases h4 : s.2.1 ≤ 10080 <;> simp [h1, h2, h3, h4] <;> omega
theorem ref03_week_eq (s : Span) : ref03_week s = some (decide (0 ≤ s.1) && decide (s.1 < s.2.1) && decide (s.2.1 ≤ 10080)) := by
  unfold ref03_week ref03_ValidSpan
  by_cases h1 : 0 ≤ s.1 <;> by_cases h2 : s.1 < s.2.1 <;> by_cases h3 : s.2.1 ≤ 1099511627776 <;> by_cases h4 : s.2.1 ≤ 10080 <;> simp [h1, h2, h3, h4] <;> omega

theorem clock_Valid_eq (c : Calendar) (hl : c.1.length ≤ 9223372036854775807) : clock_Valid c = some (validB c.1) := by
  obtain ⟨o, u⟩ := c
  simp only at hl ⊢
  unfold clock_Valid validB
  simp only
  by_cases hlen : o.length ≤ 100
  · rw [bif_neg (by simp; omega)]
    have hloop : clock_ValidL0 o (o.length : Int) o 0 = some (bif (List.range o.length).all (vAt o) then .inl () else .inr false) := by
      refine loop_all (fun i : Nat => (i : Int)) o.length (many_of hl) (vAt o) () false ?_ ?_ ?_
      · intro i hi hp
        simp only [vAt, Bool.and_eq_true] at hp
        simp only [clock_ValidL0K, clock_ofWeek_eq, bnd_ok, Int.toNat_natCast]
        rw [bif_pos (by simpa using hi), ckB_pos (ix_pos hi), ckB_pos (ix_pos hi), bif_neg (by simpa using hp.1)]
        by_cases h0 : i = 0
        · subst h0
          rw [bif_neg (by simp), ckB_pos (inR_i64 (by omega) (by omega))]
          rfl
        · have h2 : (sp o (i - 1)).2.1 < (sp o i).1 := by simpa [h0] using hp.2
          have hx : ix ((i : Int) - 1) o.length = true := by simp [ix]; omega
          rw [bif_pos (by simp; omega), ckB_pos (inR_i64 (by omega) (by omega)), ckB_pos hx, ckB_pos hx, toNat_pred, bif_neg (by simpa using h2), ckB_pos (inR_i64 (by omega) (by omega)), cast_succ]
      · intro i hi hp
        simp only [vAt] at hp
        simp only [clock_ValidL0K, clock_ofWeek_eq, bnd_ok, Int.toNat_natCast]
        rw [bif_pos (by simpa using hi), ckB_pos (ix_pos hi), ckB_pos (ix_pos hi)]
        cases hw : (decide (0 ≤ (sp o i).1) && decide ((sp o i).1 < (sp o i).2.1) && decide ((sp o i).2.1 ≤ 10080)) with
        | false => rfl
        | true =>
          rw [hw] at hp
          have h0 : ¬ i = 0 := by intro e; subst e; simp at hp
          have h2 : (sp o i).1 ≤ (sp o (i - 1)).2.1 := by simpa [h0] using hp
          have hx : ix ((i : Int) - 1) o.length = true := by simp [ix]; omega
          rw [bif_neg (c := !true) rfl, bif_pos (by simp; omega), ckB_pos (inR_i64 (by omega) (by omega)), ckB_pos hx, ckB_pos hx, toNat_pred, bif_pos (by simpa using h2)]
      · simp only [clock_ValidL0K]
        rw [bif_neg (by simp)]
    rw [hloop, bnd_ok]
    cases (List.range o.length).all (vAt o) <;> simp [hlen]
  · rw [bif_pos (by simp; omega)]
    simp [hlen]

theorem ref03_Valid_eq (c : Calendar) (hl : c.1.length ≤ 9223372036854775807) : ref03_Valid c = some (validB c.1) := by
  obtain ⟨o, u⟩ := c
  simp only at hl ⊢
  unfold ref03_Valid validB
  simp only
  by_cases hlen : o.length ≤ 100
  · rw [bif_neg (by simp; omega)]
    have hloop : ref03_ValidL0 o 0 = some (bif (List.range o.length).all (vAt o) then .inl () else .inr false) := by
      refine loop_all (fun i : Nat => (i : Int)) o.length (many_of hl) (vAt o) () false ?_ ?_ ?_
      · intro i hi hp
        simp only [vAt, Bool.and_eq_true] at hp
        simp only [ref03_ValidL0K, ref03_week_eq, bnd_ok, Int.toNat_natCast]
        rw [bif_pos (by simpa using hi), ckB_pos (ix_pos hi), ckB_pos (ix_pos hi), bif_neg (by simpa using hp.1)]
        by_cases h0 : i = 0
        · subst h0
          rw [bif_neg (by simp), ckB_pos (inR_i64 (by omega) (by omega))]
          rfl
        · have h2 : (sp o (i - 1)).2.1 < (sp o i).1 := by simpa [h0] using hp.2
          have hx : ix ((i : Int) - 1) o.length = true := by simp [ix]; omega
          rw [bif_pos (by simp; omega), ckB_pos (inR_i64 (by omega) (by omega)), ckB_pos hx, ckB_pos hx, ckB_pos (ix_pos hi), ckB_pos (ix_pos hi), toNat_pred, bif_neg (by simpa using h2), ckB_pos (inR_i64 (by omega) (by omega)), cast_succ]
      · intro i hi hp
        simp only [vAt] at hp
        simp only [ref03_ValidL0K, ref03_week_eq, bnd_ok, Int.toNat_natCast]
        rw [bif_pos (by simpa using hi), ckB_pos (ix_pos hi), ckB_pos (ix_pos hi)]
        cases hw : (decide (0 ≤ (sp o i).1) && decide ((sp o i).1 < (sp o i).2.1) && decide ((sp o i).2.1 ≤ 10080)) with
        | false => rfl
        | true =>
          rw [hw] at hp
          have h0 : ¬ i = 0 := by intro e; subst e; simp at hp
          have h2 : (sp o i).1 ≤ (sp o (i - 1)).2.1 := by simpa [h0] using hp
          have hx : ix ((i : Int) - 1) o.length = true := by simp [ix]; omega
          rw [bif_neg (c := !true) rfl, bif_pos (by simp; omega), ckB_pos (inR_i64 (by omega) (by omega)), ckB_pos hx, ckB_pos hx, ckB_pos (ix_pos hi), ckB_pos (ix_pos hi), toNat_pred, bif_pos (by simpa using h2)]
      · simp only [ref03_ValidL0K]
        rw [bif_neg (by simp)]
    rw [hloop, bnd_ok]
    cases (List.range o.length).all (vAt o) <;> simp [hlen]
  · rw [bif_pos (by simp; omega)]
    simp [hlen]

/-- All spans are of the week. -/
def oks (o : List Span) : Prop := ∀ s ∈ o, 0 ≤ s.1 ∧ s.1 < s.2.1 ∧ s.2.1 ≤ 10080

theorem oks_of {o : List Span} (h : validB o = true) : o.length ≤ 100 ∧ oks o := by
  simp only [validB, Bool.and_eq_true, decide_eq_true_eq, List.all_eq_true, List.mem_range] at h
  refine ⟨h.1, fun s hs => ?_⟩
  obtain ⟨i, hi, rfl⟩ := mem_getD Span.z hs
  have := h.2 i hi
  simp only [vAt, Bool.and_eq_true, decide_eq_true_eq] at this
  exact ⟨this.1.1.1, this.1.1.2, this.1.2⟩
theorem oks_at {o : List Span} (h : oks o) {i : Nat} (hi : i < o.length) : 0 ≤ (o.getD i Span.z).1 ∧ (o.getD i Span.z).1 < (o.getD i Span.z).2.1 ∧ (o.getD i Span.z).2.1 ≤ 10080 := h _ (getD_mem Span.z hi)

/-- The open minutes of a span before minute w. -/
def befT (w : Int) (s : Span) : Int := max (min s.2.1 w - s.1) 0
def bef (o : List Span) (w : Int) : Int := sumL (befT w) o

theorem bef_bound {o : List Span} (h : oks o) (w : Int) (i : Nat) : 0 ≤ bef (o.take i) w ∧ bef (o.take i) w ≤ o.length * 10080 := by
  have := sumL_bound (f := befT w) (b := 10080) (l := o.take i) (fun s hs => by have := h s (List.mem_of_mem_take hs); unfold befT; omega)
  have h2 : ((o.take i).length : Int) ≤ o.length := by simp; omega
  unfold bef
  omega

theorem clock_before_eq (c : Calendar) (w : Int) (hl : c.1.length ≤ 100) (h : oks c.1) (hw : 0 ≤ w ∧ w ≤ 10080) : clock_before c w = some (bef c.1 w) := by
  obtain ⟨o, u⟩ := c
  simp only at hl h ⊢
  unfold clock_before
  have hloop : clock_beforeL0 w o (o.length : Int) (0, 0) = some (.inl (bef o w)) := by
    refine loop_to (fun i : Nat => (bef (o.take i) w, (i : Int))) o.length (many_of (by omega)) _ ?_ ?_ _ rfl
    · intro i hi
      have h1 := oks_at h hi
      have h2 := bef_bound h w i
      have h3 : bef (o.take (i + 1)) w = bef (o.take i) w + befT w (o.getD i Span.z) := sumL_take _ _ _ _ hi
      unfold befT at h3
      simp only [clock_beforeL0K, Int.toNat_natCast]
      generalize o.getD i Span.z = s at *
      rw [bif_pos (by simpa using hi), ckB_pos (ix_pos hi), ckB_pos (ix_pos hi), ckB_pos (inR_i64 (by omega) (by omega)), ckB_pos (inR_i64 (by omega) (by omega)), ckB_pos (inR_i64 (by omega) (by omega)), h3, cast_succ]
    · simp only [clock_beforeL0K]
      rw [bif_neg (by simp), List.take_length]
  simp only
  rw [hloop]
  rfl

theorem ref03_before_eq (c : Calendar) (w : Int) (hl : c.1.length ≤ 100) (h : oks c.1) (hw : 0 ≤ w ∧ w ≤ 10080) : ref03_before c w = some (bef c.1 w) := by
  obtain ⟨o, u⟩ := c
  simp only at hl h ⊢
  unfold ref03_before
  have hloop : ref03_beforeL0 w o (0, 0) = some (.inl (bef o w)) := by
    refine loop_to (fun i : Nat => (bef (o.take i) w, (i : Int))) o.length (many_of (by omega)) _ ?_ ?_ _ rfl
    · intro i hi
      have h1 := oks_at h hi
      have h2 := bef_bound h w i
      have h3 : bef (o.take (i + 1)) w = bef (o.take i) w + befT w (o.getD i Span.z) := sumL_take _ _ _ _ hi
      unfold befT at h3
      simp only [ref03_beforeL0K, Int.toNat_natCast]
      rw [bif_pos (by simpa using hi), ckB_pos (ix_pos hi), ckB_pos (ix_pos hi)]
      by_cases hc : (o.getD i Span.z).2.1 ≤ w
      · rw [bif_pos (by simpa using hc), ckB_pos (inR_i64 (by omega) (by omega)), ckB_pos (inR_i64 (by omega) (by omega)), ckB_pos (inR_i64 (by omega) (by omega)), cast_succ]
        have : bef (o.take i) w + (o.getD i Span.z).2.1 - (o.getD i Span.z).1 = bef (o.take (i + 1)) w := by omega
        rw [this]
      · rw [bif_neg (by simpa using hc)]
        by_cases hd : (o.getD i Span.z).1 < w
        · rw [bif_pos (by simpa using hd), ckB_pos (inR_i64 (by omega) (by omega)), ckB_pos (inR_i64 (by omega) (by omega)), ckB_pos (inR_i64 (by omega) (by omega)), cast_succ]
          have : bef (o.take i) w + w - (o.getD i Span.z).1 = bef (o.take (i + 1)) w := by omega
          rw [this]
        · rw [bif_neg (by simpa using hd), ckB_pos (inR_i64 (by omega) (by omega)), cast_succ]
          have : bef (o.take i) w = bef (o.take (i + 1)) w := by omega
          rw [this]
    · simp only [ref03_beforeL0K]
      rw [bif_neg (by simp), List.take_length]
  simp only
  rw [hloop]
  rfl

def untilS (o : List Span) (t : Int) : Int := Int.tdiv t 10080 * bef o 10080 + bef o (Int.tmod t 10080)

theorem week_at {t : Int} (h : 0 ≤ t ∧ t ≤ 1099511627776) : 0 ≤ Int.tdiv t 10080 ∧ Int.tdiv t 10080 ≤ 109078534 ∧ 0 ≤ Int.tmod t 10080 ∧ Int.tmod t 10080 < 10080 ∧ t = Int.tdiv t 10080 * 10080 + Int.tmod t 10080 := by
  rw [Int.tdiv_eq_ediv_of_nonneg h.1, Int.tmod_eq_emod_of_nonneg h.1]
  omega

theorem bef_all {o : List Span} (h : oks o) : bef o 10080 = sumL (fun s => s.2.1 - s.1) o := by
  unfold bef
  induction o with
  | nil => rfl
  | cons s o ih =>
    have h1 := h s (List.mem_cons_self ..)
    simp only [sumL, ih (fun x hx => h x (List.mem_cons_of_mem _ hx)), befT]
    omega

theorem until_bound {o : List Span} (h : oks o) (hl : o.length ≤ 100) {t : Int} (ht : 0 ≤ t ∧ t ≤ 1099511627776) : 0 ≤ Int.tdiv t 10080 * bef o 10080 ∧ Int.tdiv t 10080 * bef o 10080 ≤ 109951162272000 ∧ 0 ≤ bef o (Int.tmod t 10080) ∧ bef o (Int.tmod t 10080) ≤ 1008000 := by
  obtain ⟨w1, w2, w3, w4, _⟩ := week_at ht
  have b1 := bef_bound h 10080 o.length
  have b2 := bef_bound h (Int.tmod t 10080) o.length
  rw [List.take_length] at b1 b2
  have hb : bef o 10080 ≤ 1008000 := by omega
  refine ⟨Int.mul_nonneg w1 b1.1, ?_, b2.1, by omega⟩
  have := Int.mul_le_mul w2 hb b1.1 (by omega)
  omega

theorem clock_until_eq (c : Calendar) (hl : c.1.length ≤ 100) (h : oks c.1) {t : Int} (ht : 0 ≤ t ∧ t ≤ 1099511627776) : clock_until c t = some (untilS c.1 t) := by
  obtain ⟨w1, w2, w3, w4, _⟩ := week_at ht
  obtain ⟨b1, b2, b3, b4⟩ := until_bound h hl ht
  unfold clock_until untilS
  rw [clock_before_eq c _ hl h (by omega), clock_before_eq c _ hl h (by omega)]
  simp only [bnd_ok]
  rw [ckB_pos (by decide), ckB_pos (inR_i64 (by omega) (by omega)), ckB_pos (inR_i64 (by omega) (by omega)), ckB_pos (by decide), ckB_pos (inR_i64 (by omega) (by omega))]

theorem ref03_Until_eq (c : Calendar) (hl : c.1.length ≤ 100) (h : oks c.1) {t : Int} (ht : 0 ≤ t ∧ t ≤ 1099511627776) : ref03_Until c t = some (untilS c.1 t) := by
  obtain ⟨w1, w2, w3, w4, _⟩ := week_at ht
  obtain ⟨b1, b2, b3, b4⟩ := until_bound h hl ht
  unfold ref03_Until untilS
  rw [ref03_before_eq c _ hl h (by omega), ref03_before_eq c _ hl h (by omega)]
  simp only [bnd_ok]
  rw [ckB_pos (by decide), ckB_pos (inR_i64 (by omega) (by omega)), ckB_pos (inR_i64 (by omega) (by omega)), ckB_pos (by decide), ckB_pos (inR_i64 (by omega) (by omega))]

/-- Where the minute with number r + 1 of the week ends, counted from base. -/
def pk (base : Int) : List Span → Int → Int
  | [], _ => base
  | s :: o, r => if r < s.2.1 - s.1 then base + (s.1 + r + 1) else pk base o (r - (s.2.1 - s.1))
def pkR (base : Int) : List Span → Int × Int → Int
  | [], a => a.2
  | s :: o, a => pkR base o (a.1 - (s.2.1 - s.1), if 0 < a.1 ∧ a.1 ≤ s.2.1 - s.1 then base + s.1 + a.1 else a.2)

theorem oks_cons {s : Span} {o : List Span} (h : oks (s :: o)) : (0 ≤ s.1 ∧ s.1 < s.2.1 ∧ s.2.1 ≤ 10080) ∧ oks o := ⟨h s (List.mem_cons_self ..), fun x hx => h x (List.mem_cons_of_mem _ hx)⟩

theorem pkR_low (base : Int) : ∀ (o : List Span), oks o → ∀ r u, r ≤ 0 → pkR base o (r, u) = u
  | [], _, r, u, _ => rfl
  | s :: o, h, r, u, hr => by
    obtain ⟨h1, h2⟩ := oks_cons h
    simp only [pkR]
    rw [if_neg (by omega)]
    exact pkR_low base o h2 _ _ (by omega)
theorem pk_pkR (base : Int) : ∀ (o : List Span), oks o → ∀ r u, 0 ≤ r → r < sumL (fun s => s.2.1 - s.1) o → pkR base o (r + 1, u) = pk base o r ∧ base < pk base o r ∧ pk base o r ≤ base + 10080
  | [], _, r, u, h0, h1 => by simp [sumL] at h1; omega
  | s :: o, h, r, u, h0, h1 => by
    obtain ⟨h2, h3⟩ := oks_cons h
    simp only [sumL] at h1
    simp only [pkR, pk]
    by_cases hr : r < s.2.1 - s.1
    · rw [if_pos hr, if_pos (by omega), pkR_low base o h3 _ _ (by omega)]
      omega
    · rw [if_neg hr, if_neg (by omega)]
      have := pk_pkR base o h3 (r - (s.2.1 - s.1)) u (by omega) (by omega)
      rw [show r + 1 - (s.2.1 - s.1) = r - (s.2.1 - s.1) + 1 by omega]
      exact this

theorem clock_AfterL0_eq (o : List Span) (h : oks o) (hl : o.length ≤ 100) (base : Int) (hb : 0 ≤ base ∧ base ≤ 4000000000000000000) (r : Int) (hr : 0 ≤ r ∧ r ≤ 4000000000000000000) : clock_AfterL0 base o (o.length : Int) (r, 0) = some (.inl (pk base o r)) := by
  refine loop_list o Span.z (many_of (by omega)) (fun i r => (r, (i : Int))) (fun _ r => 0 ≤ r ∧ r ≤ 4000000000000000000) (fun o r => .inl (pk base o r)) ?_ ?_ r hr _ rfl
  · intro a ha
    simp (disch := omega) only [clock_AfterL0K, ckB_ix, ckB_inR, ckB_room, ckB_cut, ckB_mk, ckB_ne, bif_lt, bif_nlt, bif_le, bif_nle, bif_eq, bif_neq, bif_ne, bif_nne, bif_not, bif_true', bif_false', bnd_ok, lk_inl, lk_inr, Int.toNat_natCast]
    rfl
  · intro i a hi ha
    have h1 := oks_at h hi
    by_cases hc : a < (o.getD i Span.z).2.1 - (o.getD i Span.z).1
    · right
      simp (disch := omega) only [clock_AfterL0K, ckB_ix, ckB_inR, ckB_room, ckB_cut, ckB_mk, ckB_ne, bif_lt, bif_nlt, bif_le, bif_nle, bif_eq, bif_neq, bif_ne, bif_nne, bif_not, bif_true', bif_false', bnd_ok, lk_inl, lk_inr, Int.toNat_natCast]
      simp only [pk, outL]
      rw [if_pos hc]
    · left
      refine ⟨a - ((o.getD i Span.z).2.1 - (o.getD i Span.z).1), ?_, by omega, ?_⟩
      · simp (disch := omega) only [clock_AfterL0K, ckB_ix, ckB_inR, ckB_room, ckB_cut, ckB_mk, ckB_ne, bif_lt, bif_nlt, bif_le, bif_nle, bif_eq, bif_neq, bif_ne, bif_nne, bif_not, bif_true', bif_false', bnd_ok, lk_inl, lk_inr, Int.toNat_natCast]
        rw [cast_succ]
      · simp only [pk]
        rw [if_neg hc]

theorem ref03_AfterL0_eq (o : List Span) (h : oks o) (hl : o.length ≤ 100) (w : Int) (hb : 0 ≤ w ∧ w * 10080 ≤ 4000000000000000000) (r : Int) (hr : 0 ≤ r ∧ r ≤ 4000000000000000000) : ref03_AfterL0 w o (r, 0, 0) = some (.inl (pkR (w * 10080) o (r, 0))) := by
  refine loop_list o Span.z (many_of (by omega)) (fun i (a : Int × Int) => (a.1, a.2, (i : Int))) (fun i a => -((i : Int) * 10080) ≤ a.1 ∧ a.1 ≤ 4000000000000000000) (fun o a => .inl (pkR (w * 10080) o a)) ?_ ?_ (r, 0) (by simp; omega) _ rfl
  · intro a ha
    simp (disch := omega) only [ref03_AfterL0K, ckB_ix, ckB_inR, ckB_room, ckB_cut, ckB_mk, ckB_ne, bif_lt, bif_nlt, bif_le, bif_nle, bif_eq, bif_neq, bif_ne, bif_nne, bif_not, bif_true', bif_false', bnd_ok, lk_inl, lk_inr, Int.toNat_natCast]
    rfl
  · intro i a hi ha
    have h1 := oks_at h hi
    left
    refine ⟨(a.1 - ((o.getD i Span.z).2.1 - (o.getD i Span.z).1), if 0 < a.1 ∧ a.1 ≤ (o.getD i Span.z).2.1 - (o.getD i Span.z).1 then w * 10080 + (o.getD i Span.z).1 + a.1 else a.2), ?_, by constructor <;> simp only [Int.natCast_add] <;> omega, rfl⟩
    by_cases h2 : 0 < a.1
    · by_cases h3 : a.1 ≤ (o.getD i Span.z).2.1 - (o.getD i Span.z).1
      · rw [if_pos ⟨h2, h3⟩]
        simp (disch := omega) only [ref03_AfterL0K, ckB_ix, ckB_inR, ckB_room, ckB_cut, ckB_mk, ckB_ne, bif_lt, bif_nlt, bif_le, bif_nle, bif_eq, bif_neq, bif_ne, bif_nne, bif_not, bif_true', bif_false', bnd_ok, lk_inl, lk_inr, Int.toNat_natCast]
        rw [cast_succ]
      · rw [if_neg (fun e => h3 e.2)]
        simp (disch := omega) only [ref03_AfterL0K, ckB_ix, ckB_inR, ckB_room, ckB_cut, ckB_mk, ckB_ne, bif_lt, bif_nlt, bif_le, bif_nle, bif_eq, bif_neq, bif_ne, bif_nne, bif_not, bif_true', bif_false', bnd_ok, lk_inl, lk_inr, Int.toNat_natCast]
        rw [cast_succ]
    · rw [if_neg (fun e => h2 e.1)]
      simp (disch := omega) only [ref03_AfterL0K, ckB_ix, ckB_inR, ckB_room, ckB_cut, ckB_mk, ckB_ne, bif_lt, bif_nlt, bif_le, bif_nle, bif_eq, bif_neq, bif_ne, bif_nne, bif_not, bif_true', bif_false', bnd_ok, lk_inl, lk_inr, Int.toNat_natCast]
      rw [cast_succ]

end Go.Proofs.Ytocpeankecaabaa
