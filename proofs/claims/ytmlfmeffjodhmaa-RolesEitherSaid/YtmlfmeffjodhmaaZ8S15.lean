/-
  Roles: the law RolesEither.
-/
import Derived.Test.YtmlfmeffjodhmaaZ8S14
set_option linter.all false
namespace Go.Proofs.Ytmlfmeffjodhmaa
open Go.K Go.M
theorem firstB_t {a b : List Int} (h : firstB a b = true) : a.length ≤ b.length := by
  unfold firstB at h
  split at h
  · omega
  · have := of_decide_eq_true h; omega
theorem firstB_f {a b : List Int} (h : firstB a b = false) : b.length ≤ a.length := by
  unfold firstB at h
  split at h
  · omega
  · have := of_decide_eq_false h; omega
theorem ints_len (l : List Nat) : (ints l).length = l.length := List.length_map _
theorem bestN_min (bad : Nat → Bool) : ∀ M, M < 4096 → bestN bad M ≠ [] → ∃ s, 1 ≤ s ∧ s ≤ M ∧ bad s = true ∧ bestN bad M = ints (elems s 12) ∧ ∀ s', 1 ≤ s' → s' ≤ M → bad s' = true → (elems s 12).length ≤ (elems s' 12).length
  | 0, _, h => absurd rfl h
  | m + 1, hm, h => by
    have ih := bestN_min bad m (by omega)
    have hbn := bestN_ne bad m (by omega)
    rw [bestN] at h ⊢
    split
    · rename_i hc
      refine ⟨m + 1, by omega, Nat.le_refl _, hc.1, rfl, fun s' h1 h2 h3 => ?_⟩
      rcases Nat.lt_or_ge m s' with h4 | h4
      · obtain rfl : s' = m + 1 := by omega
        exact Nat.le_refl _
      · have hne := hbn.2 ⟨s', h1, h4, h3⟩
        obtain ⟨s, a1, a2, a3, a4, a5⟩ := ih hne
        have := firstB_t (hc.2.resolve_left hne)
        rw [a4, ints_len, ints_len] at this
        exact Nat.le_trans this (a5 s' h1 h4 h3)
    · rename_i hc
      rw [if_neg hc] at h
      obtain ⟨s, a1, a2, a3, a4, a5⟩ := ih h
      refine ⟨s, a1, by omega, a3, a4, fun s' h1 h2 h3 => ?_⟩
      rcases Nat.lt_or_ge m s' with h4 | h4
      · obtain rfl : s' = m + 1 := by omega
        have hf : firstB (ints (elems (m + 1) 12)) (bestN bad m) = false := by
          cases hf : firstB (ints (elems (m + 1) 12)) (bestN bad m) with
          | false => rfl
          | true => exact absurd ⟨h3, .inr hf⟩ hc
        have := firstB_f hf
        rw [a4, ints_len, ints_len] at this
        exact this
      · exact a5 s' h1 h4 h3
def nbN (g : Nat → Nat → Bool) (P : Nat) (l : List Nat) : Nat := ((List.range P).filter fun k => l.any fun i => g i k).length
theorem cnt_nb (g : Nat → Nat → Bool) (n P s : Nat) : cntH (RW g n P) s (RW g n P).length P = nbN g P (elems s n) := by
  rw [cntH_RW]
  unfold nbN elems
  congr 1
  refine List.filter_congr fun k _ => ?_
  rw [any_filter]
theorem blk_min (g : Nat → Nat → Bool) (n P : Nat) (hn : n ≤ 12) (hf : free g n P = false) : ∃ l : List Nat, blk g n P = ints l ∧ l ≠ [] ∧ l.Pairwise (· < ·) ∧ (∀ i ∈ l, i < n) ∧ nbN g P l < l.length ∧ ∀ x ∈ l, l.length ≤ nbN g P (l.filter (· != x)) + 1 := by
  have hp := pow12 hn
  have hpos : 0 < 2 ^ n := Nat.two_pow_pos _
  have hne : blk g n P ≠ [] := of_decide_eq_false hf
  obtain ⟨s, h1, h2, h3, h4, h5⟩ := bestN_min _ _ (by omega) hne
  have e12 := elems_12 (show s < 2 ^ n by omega) hn
  have hb := of_decide_eq_true h3
  rw [cnt_nb, e12] at hb
  have hsort : (elems s n).Pairwise (· < ·) := List.Pairwise.sublist List.filter_sublist List.pairwise_lt_range
  refine ⟨elems s n, by rw [← e12]; exact h4, fun e => by rw [e] at hb; simp at hb, hsort, fun i hi => List.mem_range.1 (List.mem_filter.1 hi).1, hb, fun x hx => ?_⟩
  have hnd : (elems s n).Nodup := List.Nodup.sublist List.filter_sublist List.nodup_range
  have hlen : ((elems s n).filter (· != x)).length = (elems s n).length - 1 := by
    rw [← List.Nodup.erase_eq_filter hnd, List.length_erase_of_mem hx]
  have hff : (elems s n).filter (· != x) = (List.range n).filter fun i => (i != x) && elB s i := by
    unfold elems
    rw [List.filter_filter]
  obtain ⟨s', b1, b2⟩ := set_of (fun i => (i != x) && elB s i) n
  rw [← hff] at b2
  rcases Nat.eq_zero_or_pos s' with h0 | h0
  · subst h0
    have : elems 0 n = [] := by
      unfold elems
      rw [List.filter_eq_nil_iff]
      intro k _
      rw [elB_zero]
      exact Bool.false_ne_true
    rw [this] at b2
    rw [← b2] at hlen
    simp at hlen
    omega
  · refine Classical.byContradiction fun hc => ?_
    have hpos : 0 < (elems s n).length := List.length_pos_of_mem hx
    have hbad : badR (RW g n P) P s' = true := by
      unfold badR
      rw [cnt_nb, elems_12 b1 hn]
      refine decide_eq_true ?_
      rw [b2, hlen]
      omega
    have := h5 s' h0 (by omega) hbad
    rw [e12, elems_12 b1 hn, b2, hlen] at this
    omega
def Rep (nm : Nat → ByteArray) (P : Nat) (S : Nat → Bool) (m : List (ByteArray × Bool)) : Prop :=
  ∃ ks : List Nat, m = ks.map (fun k => (nm k, true)) ∧ ks.Nodup ∧ ∀ k, k ∈ ks ↔ k < P ∧ S k = true
theorem rep_len {nm : Nat → ByteArray} {P : Nat} {S : Nat → Bool} {m : List (ByteArray × Bool)} (h : Rep nm P S m) : m.length = ((List.range P).filter S).length := by
  obtain ⟨ks, rfl, h1, h2⟩ := h
  rw [List.length_map]
  have a := nodup_sub ks ((List.range P).filter S) h1 fun k hk => by
    have := (h2 k).1 hk
    exact List.mem_filter.2 ⟨List.mem_range.2 this.1, this.2⟩
  have b := nodup_sub ((List.range P).filter S) ks (List.Nodup.sublist List.filter_sublist List.nodup_range) fun k hk => by
    have := List.mem_filter.1 hk
    exact (h2 k).2 ⟨List.mem_range.1 this.1, this.2⟩
  omega
theorem rep_ext {nm : Nat → ByteArray} {P : Nat} {S S' : Nat → Bool} {m : List (ByteArray × Bool)} (h : Rep nm P S m) (he : ∀ k, k < P → S k = S' k) : Rep nm P S' m := by
  obtain ⟨ks, h0, h1, h2⟩ := h
  refine ⟨ks, h0, h1, fun k => ?_⟩
  rw [h2]
  constructor
  · rintro ⟨a, b⟩; exact ⟨a, by rw [← he k a]; exact b⟩
  · rintro ⟨a, b⟩; exact ⟨a, by rw [he k a]; exact b⟩
theorem mput_rep (nm : Nat → ByteArray) (k : Nat) : ∀ (ks : List Nat), (∀ x ∈ ks, x ≠ k → strEq (nm k) (nm x) = false) → mput .str (nm k) true (ks.map fun x => (nm x, true)) = (if k ∈ ks then ks else ks ++ [k]).map fun x => (nm x, true)
  | [], _ => rfl
  | a :: l, h => by
    have ih := mput_rep nm k l fun x hx => h x (List.mem_cons_of_mem _ hx)
    rw [List.map_cons]
    show (bif strEq (nm k) (nm a) then (nm k, true) :: l.map (fun x => (nm x, true)) else (nm a, true) :: mput .str (nm k) true (l.map fun x => (nm x, true))) = _
    by_cases hak : a = k
    · subst hak
      rw [strEq_self, if_pos List.mem_cons_self]
      rfl
    · rw [h a List.mem_cons_self hak, ih]
      have hiff : k ∈ a :: l ↔ k ∈ l := ⟨fun hm => (List.mem_cons.1 hm).resolve_left fun e => hak e.symm, List.mem_cons_of_mem _⟩
      by_cases hm : k ∈ l
      · rw [if_pos hm, if_pos (hiff.2 hm)]; rfl
      · rw [if_neg hm, if_neg fun h => hm (hiff.1 h)]; rfl
theorem rep_put {o : Org} (hv : validO o = true) {S : Nat → Bool} {m : List (ByteArray × Bool)} (h : Rep (nmO o) o.1.length S m) {k : Nat} (hk : k < o.1.length) : Rep (nmO o) o.1.length (fun x => S x || decide (x = k)) (mput .str (nmO o k) true m) := by
  obtain ⟨ks, rfl, h1, h2⟩ := h
  have e := mput_rep (nmO o) k ks fun x hx hxk => (names_ne hv hk ((h2 x).1 hx).1 fun e => hxk e.symm).2
  refine ⟨_, e, ?_, fun x => ?_⟩
  · split
    · exact h1
    · rename_i hm
      rw [List.nodup_append]
      exact ⟨h1, by simp, fun x hx y hy e => hm (by rw [List.mem_singleton] at hy; rw [← hy, ← e]; exact hx)⟩
  · simp only [Bool.or_eq_true, decide_eq_true_eq]
    split
    · rename_i hm
      rw [h2]
      constructor
      · rintro ⟨a, b⟩; exact ⟨a, .inl b⟩
      · rintro ⟨a, b | rfl⟩
        · exact ⟨a, b⟩
        · exact (h2 x).1 hm
    · rw [List.mem_append, List.mem_singleton, h2]
      constructor
      · rintro (⟨a, b⟩ | rfl)
        · exact ⟨a, .inl b⟩
        · exact ⟨hk, .inr rfl⟩
      · rintro ⟨a, b | b⟩
        · exact .inl ⟨a, b⟩
        · exact .inr b
theorem given_ok {o : Org} (h : Few o) (acts roles : List ByteArray) (ha : acts.length ≤ 1000) (hr : roles.length ≤ 1000) (time : Int) (hs : List Task) (hl : hs.length ≤ 2000) {e : Int} (he : roles_given o acts roles time hs = some e) : e ≠ 10 ∧ (e = 0 → validO o = true ∧ acts.all nameB = true ∧ roles.all nameB = true ∧ instB time = true ∧ pastI o hs = 0) := by
  have hp : pastI o hs = 0 ∨ pastI o hs = 5 ∨ pastI o hs = 8 := by
    unfold pastI
    split
    · exact .inr (.inl rfl)
    · split
      · exact .inr (.inr rfl)
      · exact .inl rfl
  unfold roles_given at he
  rw [Valid_eq h, names_eq acts ha, names_eq roles hr, instant_eq, past_eq h hs hl] at he
  simp only [bnd_ok] at he
  revert he
  cases validO o <;> cases acts.all nameB <;> cases roles.all nameB <;> cases instB time <;> cases decide ((acts.length : Int) = (roles.length : Int)) <;> cases decide ((12 : Int) < (acts.length : Int)) <;> rcases hp with hp | hp | hp <;> rw [hp] <;> intro he <;> simp at he <;> subst he <;> simp
section
variable {o : Org} (h : Few o) (hv : validO o = true) (hP : o.1.length ≤ 12) (acts roles : List ByteArray) (hn : acts.length ≤ 12) (hr : acts.length = roles.length) (time : Int) (hs : List Task) (hl : hs.length ≤ 2000) (hna : acts.all nameB = true) (hnr : roles.all nameB = true) (hti : instB time = true) (hpa : pastI o hs = 0)
include h hv hP hn hr hl hna hnr hti hpa
theorem Allowed_at {i k : Nat} (hi : i < acts.length) (hk : k < o.1.length) : roles_Allowed o (nmO o k) (acts.getD i ⟨#[]⟩) (roles.getD i ⟨#[]⟩) time hs = some (mA o acts roles time hs i k, 0) := by
  rw [(All_val h _ _ _ time hs hl).1]
  have h1 : nameB (acts.getD i ⟨#[]⟩) = true := List.all_eq_true.1 hna _ (getD_mem _ hi)
  have h2 : nameB (roles.getD i ⟨#[]⟩) = true := List.all_eq_true.1 hnr _ (getD_mem _ (by omega))
  have h3 : 0 ≤ pix o (nmO o k) := pix_self hk
  unfold AllV mA
  rw [hv, h1, h2, hti, hpa, decide_eq_false (by omega)]
  rfl
theorem eitherL1_eq (set : List Int) (skip n17 : Int) (v117 : List Int) (v118 v119 : Int) {i : Nat} (hi : i < acts.length) {S : Nat → Bool} {m : List (ByteArray × Bool)} (hm : Rep (nmO o) o.1.length S m) :
    ∃ m', law46_RolesEitherL1 acts roles time hs set skip n17 (i : Int) v117 v118 v119 o.1 (o.1.length : Int) o.1 o.2.1 o.2.2.1 (0, m) = some (.inl m') ∧ Rep (nmO o) o.1.length (fun k => S k || mA o acts roles time hs i k) m' := by
  have hloop : ∃ out, law46_RolesEitherL1 acts roles time hs set skip n17 (i : Int) v117 v118 v119 o.1 (o.1.length : Int) o.1 o.2.1 o.2.2.1 (0, m) = some out ∧ (∃ m', out = .inl m' ∧ Rep (nmO o) o.1.length (fun k => S k || mA o acts roles time hs i k) m') := by
    refine loop_inv (fun (st : Int × List (ByteArray × Bool)) => ∃ k : Nat, k ≤ o.1.length ∧ st.1 = (k : Int) ∧ Rep (nmO o) o.1.length (fun x => S x || (decide (x < k) && mA o acts roles time hs i x)) st.2) (fun st => ((o.1.length : Int) - st.1).toNat) (fun (out : (List (ByteArray × Bool)) ⊕ Bool) => ∃ m', out = .inl m' ∧ Rep (nmO o) o.1.length (fun k => S k || mA o acts roles time hs i k) m') _ ⟨0, Nat.zero_le _, rfl, rep_ext hm fun k _ => by simp⟩ (by show ((o.1.length : Int) - 0).toNat < many; unfold many; omega) ?_
    rintro ⟨_, m⟩ ⟨k, hk, rfl, hrep⟩
    have hrep : Rep (nmO o) o.1.length (fun x => S x || (decide (x < k) && mA o acts roles time hs i x)) m := hrep
    by_cases hlt : k < o.1.length
    · have eo : ((o.1, o.2.1, o.2.2.1, ()) : Org) = o := rfl
      have hA := Allowed_at h hv hP acts roles hn hr time hs hl hna hnr hti hpa hi hlt
      cases hb : mA o acts roles time hs i k with
      | true =>
        rw [hb] at hA
        refine ⟨.next (((k + 1 : Nat) : Int), mput .str (nmO o k) true m), ?_, ⟨k + 1, by omega, rfl, rep_ext (rep_put hv hrep hlt) fun x _ => ?_⟩, by show ((o.1.length : Int) - ((k + 1 : Nat) : Int)).toNat < ((o.1.length : Int) - (k : Int)).toNat; omega⟩
        · simp only [law46_RolesEitherL1K, Int.toNat_natCast, eo]
          simp (disch := omega) only [hA, ckB_ix, ckB_inR, ckB_room, ckB_cut, ckB_mk, ckB_ne, bif_lt, bif_nlt, bif_le, bif_nle, bif_eq, bif_neq, bif_ne, bif_nne, bif_not, bif_true', bif_false', bnd_ok, lk_inl, lk_inr, Int.toNat_natCast, decide_true]
          rfl
        · by_cases hx : x = k
          · subst hx; simp [hb]
          · have : decide (x < k + 1) = decide (x < k) := decide_eq_decide.2 (by omega)
            simp [hx, this]
      | false =>
        rw [hb] at hA
        refine ⟨.next (((k + 1 : Nat) : Int), m), ?_, ⟨k + 1, by omega, rfl, rep_ext hrep fun x _ => ?_⟩, by show ((o.1.length : Int) - ((k + 1 : Nat) : Int)).toNat < ((o.1.length : Int) - (k : Int)).toNat; omega⟩
        · simp only [law46_RolesEitherL1K, Int.toNat_natCast, eo]
          simp (disch := omega) only [hA, ckB_ix, ckB_inR, ckB_room, ckB_cut, ckB_mk, ckB_ne, bif_lt, bif_nlt, bif_le, bif_nle, bif_eq, bif_neq, bif_ne, bif_nne, bif_not, bif_true', bif_false', bnd_ok, lk_inl, lk_inr, Int.toNat_natCast, decide_true]
          rfl
        · by_cases hx : x = k
          · subst hx; simp [hb]
          · have : decide (x < k + 1) = decide (x < k) := decide_eq_decide.2 (by omega)
            simp [this]
    · obtain rfl : k = o.1.length := by omega
      refine ⟨.done m, ?_, m, rfl, rep_ext hrep fun x hx => ?_⟩
      · simp only [law46_RolesEitherL1K]
        simp (disch := omega) only [ckB_ix, ckB_inR, ckB_room, ckB_cut, ckB_mk, ckB_ne, bif_lt, bif_nlt, bif_le, bif_nle, bif_eq, bif_neq, bif_ne, bif_nne, bif_not, bif_true', bif_false', bnd_ok, lk_inl, lk_inr, Int.toNat_natCast, decide_true]
      · rw [decide_eq_true hx, Bool.true_and]
  obtain ⟨_, ho, m', rfl, hm'⟩ := hloop
  exact ⟨m', ho, hm'⟩
def skN (skip : Int) (j : Nat) : Nat := ((List.range j).filter fun j' : Nat => !decide ((j' : Int) = skip)).length
omit h hv hP hn hr hl hna hnr hti hpa in
theorem skN_succ (skip : Int) (j : Nat) : skN skip (j + 1) = skN skip j + if (j : Int) = skip then 0 else 1 := by
  unfold skN
  rw [List.range_succ, List.filter_append, List.length_append]
  congr 1
  by_cases h : (j : Int) = skip <;> simp [h]
omit h hv hP hn hr hl hna hnr hti hpa in
theorem skN_le (skip : Int) (j : Nat) : skN skip j ≤ j := by
  unfold skN
  have := List.length_filter_le (fun j' : Nat => !decide ((j' : Int) = skip)) (List.range j)
  simpa using this
def skS (g : Nat → Nat → Bool) (l : List Nat) (skip : Int) (j k : Nat) : Bool := (List.range j).any fun j' : Nat => !decide ((j' : Int) = skip) && g (l.getD j' 0) k
omit h hv hP hn hr hl hna hnr hti hpa in
theorem skS_succ (g : Nat → Nat → Bool) (l : List Nat) (skip : Int) (j k : Nat) : skS g l skip (j + 1) k = (skS g l skip j k || (!decide ((j : Int) = skip) && g (l.getD j 0) k)) := by
  unfold skS
  rw [List.range_succ, List.any_append]
  simp
theorem eitherL3_eq (l : List Nat) (hl12 : l.length ≤ 12) (hsort : l.Pairwise (· < ·)) (hlt : ∀ i ∈ l, i < acts.length) (skip : Int) :
    ∃ m', law46_RolesEitherL3 acts roles time hs (ints l) skip (ints l) ((ints l).length : Int) o.1 o.2.1 o.2.2.1 (0, 0, []) = some (.inl ((skN skip l.length : Int), m')) ∧ Rep (nmO o) o.1.length (skS (mA o acts roles time hs) l skip l.length) m' := by
  have hll : (ints l).length = l.length := ints_len l
  rw [hll]
  have hloop : ∃ out, law46_RolesEitherL3 acts roles time hs (ints l) skip (ints l) (l.length : Int) o.1 o.2.1 o.2.2.1 (0, 0, []) = some out ∧ (∃ m', out = .inl ((skN skip l.length : Int), m') ∧ Rep (nmO o) o.1.length (skS (mA o acts roles time hs) l skip l.length) m') := by
    refine loop_inv (fun (st : Int × Int × List (ByteArray × Bool)) => ∃ j : Nat, j ≤ l.length ∧ st.2.1 = (j : Int) ∧ st.1 = (skN skip j : Int) ∧ Rep (nmO o) o.1.length (skS (mA o acts roles time hs) l skip j) st.2.2) (fun st => ((l.length : Int) - st.2.1).toNat) (fun (out : (Int × List (ByteArray × Bool)) ⊕ Bool) => ∃ m', out = .inl ((skN skip l.length : Int), m') ∧ Rep (nmO o) o.1.length (skS (mA o acts roles time hs) l skip l.length) m') _ ⟨0, Nat.zero_le _, rfl, rfl, [], rfl, List.nodup_nil, fun k => ⟨(fun h => by cases h), (fun h => by have := h.2; simp [skS] at this)⟩⟩ (by show ((l.length : Int) - 0).toNat < many; unfold many; omega) ?_
    rintro ⟨_, _, m⟩ ⟨j, hj, rfl, rfl, hrep⟩
    have hrep : Rep (nmO o) o.1.length (skS (mA o acts roles time hs) l skip j) m := hrep
    have hsk := skN_le skip j
    by_cases hjl : j < l.length
    · have hi := hlt _ (getD_mem 0 hjl)
      have hget : (ints l).getD j 0 = ((l.getD j 0 : Nat) : Int) := ints_at l j
      have hc1 : ¬ ((l.getD j 0 : Nat) : Int) < 0 := by omega
      have hc2 : ¬ (acts.length : Int) ≤ ((l.getD j 0 : Nat) : Int) := by omega
      have hprev : 0 < j → ¬ ((l.getD j 0 : Nat) : Int) ≤ (((l.getD (j - 1) 0 : Nat)) : Int) := fun h0 => by
        have := List.pairwise_iff_getElem.1 hsort (j - 1) j (by omega) hjl (by omega)
        rw [getD_at l j 0 hjl, getD_at l (j - 1) 0 (by omega)]
        omega
      obtain ⟨m', hm', hr'⟩ := eitherL1_eq h hv hP acts roles hn hr time hs hl hna hnr hti hpa (ints l) skip (skN skip j + 1) (ints l) (l.length : Int) (j : Int) hi hrep
      have hT2 : law46_RolesEitherT2 acts roles time hs (ints l) skip (skN skip j : Int) ((l.getD j 0 : Nat) : Int) (ints l) (l.length : Int) (j : Int) o.1 o.2.1 o.2.2.1 m = some (.inl ((skN skip j : Int) + 1, m')) := by
        unfold law46_RolesEitherT2 law46_RolesEitherT2K
        simp (disch := omega) only [hm', ckB_ix, ckB_inR, ckB_room, ckB_cut, ckB_mk, ckB_ne, bif_lt, bif_nlt, bif_le, bif_nle, bif_eq, bif_neq, bif_ne, bif_nne, bif_not, bif_true', bif_false', bnd_ok, lk_inl, lk_inr, Int.toNat_natCast, decide_true]
      have hstep : law46_RolesEitherL3K (R := LR (Int × Int × (List (ByteArray × Bool))) (Int × (List (ByteArray × Bool))) Bool) acts roles time hs (ints l) skip (ints l) (l.length : Int) o.1 o.2.1 o.2.2.1 (skN skip j : Int) (j : Int) m (fun a' => some (.next a')) (fun e => some (.done e)) (fun r => some (.ret r)) = some (bif decide ((j : Int) = skip) then .next ((skN skip j : Int), ((j + 1 : Nat) : Int), m) else .next ((skN skip j : Int) + 1, ((j + 1 : Nat) : Int), m')) := by
        have d1 : decide (((l.getD j 0 : Nat) : Int) < 0) = false := decide_eq_false hc1
        have d2 : decide ((acts.length : Int) ≤ ((l.getD j 0 : Nat) : Int)) = false := decide_eq_false hc2
        by_cases h0 : 0 < j
        · have e1 : (j : Int) - 1 = ((j - 1 : Nat) : Int) := by omega
          have hget1 : (ints l).getD (j - 1) 0 = ((l.getD (j - 1) 0 : Nat) : Int) := ints_at l (j - 1)
          have d3 : decide (((l.getD j 0 : Nat) : Int) ≤ ((l.getD (j - 1) 0 : Nat) : Int)) = false := decide_eq_false (hprev h0)
          have h0' : (0 : Int) < (j : Int) := by omega
          simp only [law46_RolesEitherL3K, Int.toNat_natCast, e1, hget, hget1, hll, d1, d2, d3, hT2]
          simp (disch := omega) only [ckB_ix, ckB_inR, ckB_room, ckB_cut, ckB_mk, ckB_ne, bif_lt, bif_nlt, bif_le, bif_nle, bif_eq, bif_neq, bif_ne, bif_nne, bif_not, bif_true', bif_false', bnd_ok, lk_inl, lk_inr, Int.toNat_natCast, decide_true]
          cases decide ((j : Int) = skip) <;> rfl
        · have h0' : ¬ (0 : Int) < (j : Int) := by omega
          simp only [law46_RolesEitherL3K, Int.toNat_natCast, hget, hll, d1, d2, hT2]
          simp (disch := omega) only [ckB_ix, ckB_inR, ckB_room, ckB_cut, ckB_mk, ckB_ne, bif_lt, bif_nlt, bif_le, bif_nle, bif_eq, bif_neq, bif_ne, bif_nne, bif_not, bif_true', bif_false', bnd_ok, lk_inl, lk_inr, Int.toNat_natCast, decide_true]
          cases decide ((j : Int) = skip) <;> rfl
      refine ⟨_, hstep, ?_⟩
      by_cases hs : (j : Int) = skip
      · rw [decide_eq_true hs]
        refine ⟨⟨j + 1, by omega, rfl, ?_, rep_ext hrep fun k _ => ?_⟩, by show ((l.length : Int) - ((j + 1 : Nat) : Int)).toNat < ((l.length : Int) - (j : Int)).toNat; omega⟩
        · show (skN skip j : Int) = _
          rw [skN_succ, if_pos hs]; rfl
        · rw [skS_succ, decide_eq_true hs]; simp
      · rw [decide_eq_false hs]
        refine ⟨⟨j + 1, by omega, rfl, ?_, rep_ext hr' fun k _ => ?_⟩, by show ((l.length : Int) - ((j + 1 : Nat) : Int)).toNat < ((l.length : Int) - (j : Int)).toNat; omega⟩
        · show (skN skip j : Int) + 1 = _
          rw [skN_succ, if_neg hs]; omega
        · rw [skS_succ, decide_eq_false hs]; simp
    · obtain rfl : j = l.length := by omega
      refine ⟨.done ((skN skip l.length : Int), m), ?_, m, rfl, hrep⟩
      simp only [law46_RolesEitherL3K]
      simp (disch := omega) only [ckB_ix, ckB_inR, ckB_room, ckB_cut, ckB_mk, ckB_ne, bif_lt, bif_nlt, bif_le, bif_nle, bif_eq, bif_neq, bif_ne, bif_nne, bif_not, bif_true', bif_false', bnd_ok, lk_inl, lk_inr, Int.toNat_natCast, decide_true]
  obtain ⟨_, ho, m', rfl, hm'⟩ := hloop
  exact ⟨m', ho, hm'⟩
theorem eitherL4_eq (l : List Nat) (hl12 : l.length ≤ 12) (hsort : l.Pairwise (· < ·)) (hlt : ∀ i ∈ l, i < acts.length) (hnb : nbN (mA o acts roles time hs) o.1.length l < l.length) (hmin : ∀ x ∈ l, l.length ≤ nbN (mA o acts roles time hs) o.1.length (l.filter (· != x)) + 1) :
    law46_RolesEitherL4 acts roles time hs (ints l) o.1 o.2.1 o.2.2.1 (-1) = some (.inl ()) := by
  have hll : (ints l).length = l.length := ints_len l
  refine loop_to (fun t : Nat => (t : Int) - 1) (l.length + 1) (many_of (by omega)) _ (fun t ht => ?_) ?_ _ rfl
  · obtain ⟨m', hm', hr'⟩ := eitherL3_eq h hv hP acts roles hn hr time hs hl hna hnr hti hpa l hl12 hsort hlt ((t : Int) - 1)
    have hlen := rep_len hr'
    have hcmp : decide ((m'.length : Int) < (skN ((t : Int) - 1) l.length : Int)) = decide ((t : Int) - 1 < 0) := by
      rw [hlen]
      refine decide_eq_decide.2 ?_
      by_cases h0 : t = 0
      · subst h0
        have e1 : skN (((0 : Nat) : Int) - 1) l.length = l.length := by
          unfold skN
          rw [List.filter_eq_self.2 fun j' _ => by
            rw [decide_eq_false (by omega)]; rfl]
          simp
        have e2 : ((List.range o.1.length).filter (skS (mA o acts roles time hs) l (((0 : Nat) : Int) - 1) l.length)).length = nbN (mA o acts roles time hs) o.1.length l := by
          unfold nbN
          congr 1
          refine List.filter_congr fun k _ => ?_
          unfold skS
          rw [Bool.eq_iff_iff, List.any_eq_true, List.any_eq_true]
          constructor
          · rintro ⟨j, hj, hg⟩
            rw [Bool.and_eq_true] at hg
            exact ⟨_, getD_mem 0 (List.mem_range.1 hj), hg.2⟩
          · rintro ⟨i, hi, hg⟩
            obtain ⟨j, hj, rfl⟩ := mem_getD 0 hi
            exact ⟨j, List.mem_range.2 hj, by rw [hg, decide_eq_false (by omega)]; rfl⟩
        rw [e1, e2]
        omega
      · have et : (t : Int) - 1 = ((t - 1 : Nat) : Int) := by omega
        rw [et]
        have htl : t - 1 < l.length := by omega
        have hx := hmin _ (getD_mem 0 htl)
        have hnd : l.Nodup := hsort.imp fun h e => absurd h (by omega)
        have e1 : skN ((t - 1 : Nat) : Int) l.length = l.length - 1 := by
          have key : ∀ n, skN ((t - 1 : Nat) : Int) n = if t - 1 < n then n - 1 else n := by
            intro n
            induction n with
            | zero => rfl
            | succ n ih =>
              rw [skN_succ, ih]
              by_cases h1 : ((n : Nat) : Int) = ((t - 1 : Nat) : Int)
              · rw [if_pos h1, if_neg (by omega), if_pos (by omega)]; omega
              · rw [if_neg h1]
                by_cases h2 : t - 1 < n
                · rw [if_pos h2, if_pos (by omega)]; omega
                · rw [if_neg h2, if_neg (by omega)]
          rw [key, if_pos htl]
        have e2 : nbN (mA o acts roles time hs) o.1.length (l.filter (· != l.getD (t - 1) 0)) ≤ ((List.range o.1.length).filter (skS (mA o acts roles time hs) l ((t - 1 : Nat) : Int) l.length)).length := by
          unfold nbN
          refine filt_le _ fun k _ hk => ?_
          obtain ⟨i, hi, hg⟩ := List.any_eq_true.1 hk
          obtain ⟨hi1, hi2⟩ := List.mem_filter.1 hi
          obtain ⟨j, hj, rfl⟩ := mem_getD 0 hi1
          unfold skS
          refine List.any_eq_true.2 ⟨j, List.mem_range.2 hj, ?_⟩
          have : ¬ ((j : Nat) : Int) = ((t - 1 : Nat) : Int) := fun e => by
            have : j = t - 1 := by omega
            rw [this] at hi2
            simp at hi2
          rw [hg, decide_eq_false this]; rfl
        rw [e1]
        omega
    simp only [law46_RolesEitherL4K, hll] at hm' ⊢
    rw [hm']
    simp (disch := omega) only [hcmp, ckB_ix, ckB_inR, ckB_room, ckB_cut, ckB_mk, ckB_ne, bif_lt, bif_nlt, bif_le, bif_nle, bif_eq, bif_neq, bif_ne, bif_nne, bif_not, bif_true', bif_false', bnd_ok, lk_inl, lk_inr, Int.toNat_natCast, decide_true]
    simp only [beq_self_eq_true, Bool.not_true, cond_false]
    refine congrArg (fun z : Int => some (LR.next z)) ?_
    omega
  · simp only [law46_RolesEitherL4K, hll]
    simp (disch := omega) only [ckB_ix, ckB_inR, ckB_room, ckB_cut, ckB_mk, ckB_ne, bif_lt, bif_nlt, bif_le, bif_nle, bif_eq, bif_neq, bif_ne, bif_nne, bif_not, bif_true', bif_false', bnd_ok, lk_inl, lk_inr, Int.toNat_natCast, decide_true]
end
theorem RolesEither_true (o : Org) (acts needs : List ByteArray) (time : Int) (hs : List Task) : law46_RolesEither o acts needs time hs = some true := by
  obtain ⟨b, hb, hF⟩ := few_eq o
  obtain ⟨c, hc, hl⟩ := tasks_eq hs
  obtain ⟨d, hd, hlen⟩ := open_eq acts needs
  unfold law46_RolesEither
  rw [awake_true, hb, hd, hc]
  simp only [bnd_ok]
  cases b with
  | false => rfl
  | true =>
    cases d with
    | false => rfl
    | true =>
      cases c with
      | false => rfl
      | true =>
        have h12 := hlen rfl
        have h := hF rfl
        have hl := hl rfl
        obtain ⟨e, hg, h0, h1, h2, h3, h4⟩ := Assign_val h (few12 hb) acts needs (by omega) (by omega) time hs hl
        obtain ⟨hne, hok⟩ := given_ok h acts needs (by omega) (by omega) time hs hl hg
        rw [h1, h3]
        simp only [bnd_ok]
        cases decide ((6 : Int) < (acts.length : Int)) with
        | true => rfl
        | false =>
          by_cases he : e = 0
          · obtain ⟨hv, hr, hn, hP⟩ := h0 he
            obtain ⟨_, hna, hnr, hti, hpa⟩ := hok he
            rw [decide_eq_true he]
            simp only [cond_true, AsgV, BlkV]
            rcases Bool.eq_false_or_eq_true (free (mA o acts needs time hs) acts.length o.1.length) with hf | hf
            · simp only [hf, cond_true]
              rw [he] at hg
              have hC := Check_asg h hv hP acts needs hn hr time hs hl hg hf
              have hT5 : law46_RolesEitherT5 acts needs time hs (asgS (nmO o) (mA o acts needs time hs) acts.length o.1.length acts.length).2 0 [] 10 o.1 o.2.1 o.2.2.1 = some (.inr true) := by
                unfold law46_RolesEitherT5 law46_RolesEitherT5K
                show (bnd (roles_Check o acts needs (asgS (nmO o) (mA o acts needs time hs) acts.length o.1.length acts.length).2 time hs) fun r8 => some (Sum.inr (α := Unit) r8)) = _
                rw [hC]
                rfl
              have d1 : decide ((0 : Int) = 0) = true := rfl
              have d2 : decide ((10 : Int) = 0) = false := rfl
              have d3 : decide ((10 : Int) = 10) = true := rfl
              simp only [law46_RolesEitherT0, law46_RolesEitherT0K, d1, d2, d3, Bool.not_true, Bool.not_false, cond_true, cond_false, bnd_ok, lk_inl]
              refine Eq.trans (congrArg (fun z => bnd z fun oe => lk oe (fun _ => none) (fun r => some r)) hT5) ?_
              rfl
            · simp only [hf, cond_false]
              obtain ⟨l, e1, e2, e3, e4, e5, e6⟩ := blk_min _ _ _ hn hf
              have hl12 : l.length ≤ 12 := by
                have := bestN_len (badR (RW (mA o acts needs time hs) acts.length o.1.length) o.1.length) (2 ^ acts.length - 1)
                have e1' : bestN (badR (RW (mA o acts needs time hs) acts.length o.1.length) o.1.length) (2 ^ acts.length - 1) = ints l := e1
                rw [e1', ints_len] at this
                exact this
              have hL := eitherL4_eq h hv hP acts needs hn hr time hs hl hna hnr hti hpa l hl12 e3 e4 e5 e6
              have hlz : decide (((ints l).length : Int) = 0) = false := by
                have := List.length_pos_iff.2 e2
                rw [ints_len]
                exact decide_eq_false (by omega)
              simp only [law46_RolesEitherT0, law46_RolesEitherT0K, law46_RolesEitherT5, law46_RolesEitherT5K, cond_false, e1, hL, hlz]
              simp
          · rw [decide_eq_false he]
            simp only [law46_RolesEitherT0, law46_RolesEitherT0K, cond_false]
            have d1 : decide (e = 0) = false := decide_eq_false he
            have d2 : decide (e = 10) = false := decide_eq_false hne
            rw [d1, d2]
            simp
end Go.Proofs.Ytmlfmeffjodhmaa
