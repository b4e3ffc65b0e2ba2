/-
  Roles: assignments exist where no set blocks; Assign's is accepted.
-/
import Derived.Test.YtmlfmeffjodhmaaZ8S13
set_option linter.all false
namespace Go.Proofs.Ytmlfmeffjodhmaa
open Go.K Go.M
theorem less_irr : ∀ a : List UInt8, Op.bytesLess a a = false
  | [] => rfl
  | a :: l => by
    have : ¬ a < a := fun h => absurd (UInt8.lt_iff_toNat_lt.1 h) (by omega)
    simp [Op.bytesLess, this, less_irr l]
theorem less_trans : ∀ a b c : List UInt8, Op.bytesLess a b = true → Op.bytesLess b c = true → Op.bytesLess a c = true
  | _, [], _, h, _ => by cases ‹List UInt8› <;> simp [Op.bytesLess] at h
  | [], b :: y, [], _, h2 => by simp [Op.bytesLess] at h2
  | [], b :: y, c :: z, _, _ => rfl
  | a :: x, b :: y, [], _, h2 => by simp [Op.bytesLess] at h2
  | a :: x, b :: y, c :: z, h1, h2 => by
    simp only [Op.bytesLess, Bool.or_eq_true, decide_eq_true_eq, Bool.and_eq_true, beq_iff_eq] at h1 h2 ⊢
    rcases h1 with h1 | ⟨rfl, h1⟩
    · rcases h2 with h2 | ⟨rfl, h2⟩
      · have h1 := UInt8.lt_iff_toNat_lt.1 h1
        have h2 := UInt8.lt_iff_toNat_lt.1 h2
        exact .inl (UInt8.lt_iff_toNat_lt.2 (by omega))
      · exact .inl h1
    · rcases h2 with h2 | ⟨rfl, h2⟩
      · exact .inl h2
      · exact .inr ⟨rfl, less_trans x y z h1 h2⟩
theorem strEq_eq {a b : ByteArray} (h : strEq a b = true) : a = b := by
  have h1 : (a.data == b.data) = true := h
  have h2 : a.data = b.data := beq_iff_eq.1 h1
  cases a
  cases b
  congr
theorem strEq_self (a : ByteArray) : strEq a a = true := by
  show (a.data == a.data) = true
  exact beq_self_eq_true _
abbrev nmO (o : Org) (k : Nat) : ByteArray := (o.1.getD k Person.z).1
theorem names_less {o : Org} (hv : validO o = true) {i j : Nat} (hij : i < j) (hj : j < o.1.length) : lessB (nmO o i) (nmO o j) = true := by
  unfold validO peopleB at hv
  simp only [Bool.and_eq_true, decide_eq_true_eq, List.all_eq_true, List.mem_range] at hv
  have hstep : ∀ j, 0 < j → j < o.1.length → lessB (nmO o (j - 1)) (nmO o j) = true := fun j h0 hj => by
    have := hv.1.1.2 j hj
    unfold badP at this
    simp only [Bool.not_eq_true', Bool.or_eq_false_iff, Bool.and_eq_false_iff, decide_eq_false_iff_not, Bool.not_eq_false'] at this
    exact this.1.2.resolve_left (by omega)
  induction j with
  | zero => omega
  | succ j ih =>
    have h1 := hstep (j + 1) (by omega) hj
    rw [show j + 1 - 1 = j from rfl] at h1
    rcases Nat.lt_or_ge i j with h | h
    · exact less_trans _ _ _ (ih h (by omega)) h1
    · obtain rfl : i = j := by omega
      exact h1
theorem names_ne {o : Org} (hv : validO o = true) {i j : Nat} (hi : i < o.1.length) (hj : j < o.1.length) (hij : i ≠ j) : eqS (nmO o i) (nmO o j) = false ∧ strEq (nmO o i) (nmO o j) = false := by
  have key : ByteArray.toList (nmO o i) ≠ ByteArray.toList (nmO o j) := by
    intro e
    rcases Nat.lt_or_ge i j with h | h
    · have := names_less hv h hj
      unfold lessB at this
      rw [e, less_irr] at this
      cases this
    · have := names_less hv (show j < i by omega) hi
      unfold lessB at this
      rw [e, less_irr] at this
      cases this
  refine ⟨?_, ?_⟩
  · unfold eqS
    exact beq_eq_false_iff_ne.2 key
  · cases hc : strEq (nmO o i) (nmO o j) with
    | false => rfl
    | true => exact absurd (congrArg _ (strEq_eq hc)) key
def Asn (g : Nat → Nat → Bool) (n P : Nat) : Prop := ∃ a : Nat → Nat, (∀ i, i < n → a i < P ∧ g i (a i) = true) ∧ ∀ i j, i < n → j < n → a i = a j → i = j
theorem free_asn (g : Nat → Nat → Bool) (n P : Nat) (hn : n ≤ 12) (hP : P ≤ 12) (hf : free g n P = true) : Asn g n P := by
  have hl : (ints (BS g n P)).length = n := by simp [ints, tab_len]
  obtain ⟨b, h1, h2, _⟩ := matched_ok (ints (BS g n P)) (by omega)
  rw [matched_BS g n P hn hP, hf] at h1
  simp only [Option.some.injEq, Prod.mk.injEq, and_true] at h1
  obtain ⟨task, h3, h4, h5⟩ := h2 h1.symm
  rw [hl] at h4 h5
  have key : ∀ j : Nat, ∃ k : Nat, j < n → fI (k : Int) task = some (j : Int) := fun j => by
    by_cases hj : j < n
    · obtain ⟨k, hk⟩ := h5 j (by omega) (by omega)
      have := (h4 _ _ hk).2.1
      exact ⟨k.toNat, fun _ => by rw [show ((k.toNat : Nat) : Int) = k by omega]; exact hk⟩
    · exact ⟨0, fun h => absurd h hj⟩
  obtain ⟨a, ha⟩ : ∃ a : Nat → Nat, ∀ j, j < n → fI ((a j : Nat) : Int) task = some (j : Int) := ⟨fun j => Classical.choose (key j), fun j => Classical.choose_spec (key j)⟩
  refine ⟨a, fun i hi => ?_, fun i j hi hj e => ?_⟩
  · have hs := ha i hi
    obtain ⟨_, ⟨_, hk⟩, hc⟩ := h4 _ _ hs
    have hc' : cAt (ints (BS g n P)) i (a i) = true := hc
    rw [cAt_bits _ _ _ (by omega), BS_at, if_pos hi, elB_bitsOf, Bool.and_eq_true, decide_eq_true_eq] at hc'
    exact hc'
  · have a1 := ha i hi
    have a2 := ha j hj
    rw [e, a2] at a1
    simp only [Option.some.injEq] at a1
    omega
theorem cntH_RW (g : Nat → Nat → Bool) (n P s : Nat) : cntH (RW g n P) s (RW g n P).length P = ((List.range P).filter fun k => (List.range n).any fun i => elB s i && g i k).length := by
  unfold cntH
  congr 1
  refine List.filter_congr fun k hk => ?_
  unfold hits
  rw [tab_len]
  refine any_eq _ fun i hi => ?_
  rw [tab_getD (List.mem_range.1 hi), tab_getD (List.mem_range.1 hk)]
theorem asn_free (g : Nat → Nat → Bool) (n P : Nat) (hn : n ≤ 12) (h : Asn g n P) : free g n P = true := by
  have hp := pow12 hn
  have hpos : 0 < 2 ^ n := Nat.two_pow_pos _
  refine decide_eq_true (Classical.byContradiction fun hc => ?_)
  obtain ⟨s, _, hs, hb⟩ := (bestN_ne _ _ (by omega)).1 hc
  have hb := of_decide_eq_true hb
  rw [cntH_RW, elems_12 (show s < 2 ^ n by omega) hn] at hb
  obtain ⟨a, h1, h2⟩ := h
  have hel : ∀ i ∈ elems s n, i < n ∧ elB s i = true := fun i hi => ⟨List.mem_range.1 (List.mem_filter.1 hi).1, (List.mem_filter.1 hi).2⟩
  have := nodup_sub ((elems s n).map a) ((List.range P).filter fun k => (List.range n).any fun i => elB s i && g i k) (nodup_map _ (List.Nodup.sublist List.filter_sublist List.nodup_range) fun x hx y hy e => h2 x y (hel x hx).1 (hel y hy).1 e) (fun k hk => by
    obtain ⟨i, hi, rfl⟩ := List.mem_map.1 hk
    obtain ⟨hi1, hi2⟩ := hel i hi
    exact List.mem_filter.2 ⟨List.mem_range.2 (h1 i hi1).1, List.any_eq_true.2 ⟨i, List.mem_range.2 hi1, by rw [hi2, (h1 i hi1).2]; rfl⟩⟩)
  rw [List.length_map] at this
  omega
structure AInv (nm : Nat → ByteArray) (g gi : Nat → Nat → Bool) (n P i : Nat) (out : List ByteArray) (ks : List Nat) : Prop where
  out : out = ks.map nm
  len : ks.length = i
  nd : ks.Nodup
  lt : ∀ k ∈ ks, k < P
  ok : ∀ j, j < i → g j (ks.getD j 0) = true
  sub : ∀ j x, i ≤ j → gi j x = true → g j x = true ∧ x ∉ ks
  left : Asn (fun j x => gi (i + j) x) (n - i) P
theorem asg_inv (nm : Nat → ByteArray) (g : Nat → Nat → Bool) (n P : Nat) (hn : n ≤ 12) (hP : P ≤ 12) (hf : free g n P = true) : ∀ i, i ≤ n → ∃ ks, AInv nm g (asgS nm g n P i).1 n P i (asgS nm g n P i).2 ks
  | 0, _ => ⟨[], rfl, rfl, List.nodup_nil, (fun k hk => by cases hk), (fun j hj => by omega), fun j x _ h => ⟨h, List.not_mem_nil⟩, by
      have := free_asn g n P hn hP hf
      simpa [asgS] using this⟩
  | i + 1, hi => by
    obtain ⟨ks, h⟩ := asg_inv nm g n P hn hP hf i (by omega)
    rw [asgS]
    generalize (asgS nm g n P i).1 = gi at h ⊢
    generalize (asgS nm g n P i).2 = out at h ⊢
    obtain ⟨a, ha1, ha2⟩ := h.left
    have hgood : goodK gi n P i (a 0) = true := by
      have h0 := ha1 0 (by omega)
      unfold goodK
      rw [Bool.and_eq_true]
      refine ⟨by simpa using h0.2, asn_free _ _ _ (by omega) ⟨fun j => a (j + 1), fun j hj => ?_, fun x y hx hy e => ?_⟩⟩
      · obtain ⟨b1, b2⟩ := ha1 (j + 1) (by omega)
        refine ⟨b1, ?_⟩
        have b2 : gi (i + (j + 1)) (a (j + 1)) = true := b2
        have b3 : ¬ a (j + 1) = a 0 := fun e => by have := ha2 (j + 1) 0 (by omega) (by omega) e; omega
        show (gi (i + 1 + j) (a (j + 1)) && !decide (a (j + 1) = a 0)) = true
        rw [show i + 1 + j = i + (j + 1) by omega, b2, decide_eq_false b3]
        rfl
      · have := ha2 (x + 1) (y + 1) (by omega) (by omega) e
        omega
    have ha0 := (ha1 0 (by omega)).1
    unfold asgR
    cases hp : pick gi n P i with
    | none => exact absurd hgood (by rw [range_none hp (a 0) ha0]; exact Bool.false_ne_true)
    | some k =>
      obtain ⟨hk1, hk2, _⟩ := range_find hp
      unfold goodK at hk2
      rw [Bool.and_eq_true] at hk2
      have hgk := h.sub i k (Nat.le_refl i) hk2.1
      refine ⟨ks ++ [k], ?_, ?_, ?_, ?_, ?_, ?_, ?_⟩
      · show out ++ [nm k] = _
        rw [h.out, List.map_append]; rfl
      · simp [h.len]
      · rw [List.nodup_append]
        exact ⟨h.nd, by simp, fun x hx y hy e => hgk.2 (by rw [List.mem_singleton] at hy; rw [← hy, ← e]; exact hx)⟩
      · intro x hx
        rcases List.mem_append.1 hx with hx | hx
        · exact h.lt x hx
        · rw [List.mem_singleton] at hx; omega
      · intro j hj
        by_cases hji : j < i
        · have := h.ok j hji
          rw [List.getD_eq_getElem?_getD, List.getElem?_append_left (by rw [h.len]; exact hji), ← List.getD_eq_getElem?_getD]
          exact this
        · obtain rfl : j = i := by omega
          rw [List.getD_eq_getElem?_getD, List.getElem?_append_right (by rw [h.len]; omega), h.len]
          simpa using hgk.1
      · intro j x hj hx
        have hx : delG gi i k j x = true := hx
        unfold delG at hx
        rw [if_pos (by omega), Bool.and_eq_true, Bool.not_eq_true', decide_eq_false_iff_not] at hx
        obtain ⟨b1, b2⟩ := h.sub j x (by omega) hx.1
        refine ⟨b1, fun hm => ?_⟩
        rcases List.mem_append.1 hm with hm | hm
        · exact b2 hm
        · exact hx.2 (List.mem_singleton.1 hm)
      · have := free_asn (restG gi i k) (n - (i + 1)) P (by omega) hP hk2.2
        have e : (fun j x => delG gi i k (i + 1 + j) x) = restG gi i k := by
          funext j x
          unfold delG restG
          rw [if_pos (by omega)]
        show Asn (fun j x => delG gi i k (i + 1 + j) x) (n - (i + 1)) P
        rw [e]
        exact this
section
variable {o : Org} (h : Few o) (hv : validO o = true) (hP : o.1.length ≤ 12) (acts roles : List ByteArray) (hn : acts.length ≤ 12) (hr : acts.length = roles.length) (time : Int) (hs : List Task) (hl : hs.length ≤ 2000)
include h hv hP hn hr hl
theorem Check_asg (hg : roles_given o acts roles time hs = some 0) (hf : free (mA o acts roles time hs) acts.length o.1.length = true) : roles_Check o acts roles (asgS (nmO o) (mA o acts roles time hs) acts.length o.1.length acts.length).2 time hs = some true := by
  obtain ⟨ks, hi⟩ := asg_inv (nmO o) (mA o acts roles time hs) acts.length o.1.length hn hP hf acts.length (Nat.le_refl _)
  generalize (asgS (nmO o) (mA o acts roles time hs) acts.length o.1.length acts.length).2 = out at hi ⊢
  have hlen : out.length = acts.length := by rw [hi.out, List.length_map, hi.len]
  have hat : ∀ i, i < acts.length → out.getD i ⟨#[]⟩ = nmO o (ks.getD i 0) := fun i h0 => by
    rw [hi.out, getD_at _ _ _ (by rw [List.length_map, hi.len]; exact h0), List.getElem_map, getD_at _ _ _ (by rw [hi.len]; exact h0)]
  have hklt : ∀ i, i < acts.length → ks.getD i 0 < o.1.length := fun i h0 => hi.lt _ (getD_mem 0 (by rw [hi.len]; exact h0))
  have hL : roles_CheckL0 acts roles out time hs out (out.length : Int) o.1 o.2.1 o.2.2.1 0 = some (.inl ()) := by
    refine loop_to (fun i : Nat => (i : Int)) out.length (many_of (by omega)) _ (fun i h0 => ?_) ?_ _ rfl
    · rw [hlen] at h0
      have eo : ((o.1, o.2.1, o.2.2.1, ()) : Org) = o := rfl
      have e1 := hat i h0
      have hpx := pix_self (hklt i h0)
      have hm := may_eq h hv hpx (acts.getD i ⟨#[]⟩) (roles.getD i ⟨#[]⟩) time hs hl
      have hok : mayB o (o.1.getD (ks.getD i 0) Person.z).1 (acts.getD i ⟨#[]⟩) (roles.getD i ⟨#[]⟩) time hs = true := hi.ok i h0
      have hCt := Contains_eq (out.take i) (by simp; omega) (nmO o (ks.getD i 0))
      have hno : ((out.take i).any fun r => eqS (nmO o (ks.getD i 0)) r) = false := by
        rw [List.any_eq_false]
        intro r hr
        obtain ⟨j, hj, rfl⟩ := mem_getD (⟨#[]⟩ : ByteArray) hr
        have hj' : j < i := by simp at hj; omega
        have e2 : (out.take i).getD j ⟨#[]⟩ = out.getD j ⟨#[]⟩ := by simp [List.getD_eq_getElem?_getD, List.getElem?_take, hj']
        rw [e2, hat j (by omega)]
        have hne : ks.getD i 0 ≠ ks.getD j 0 := fun e => by
          rw [getD_at _ _ _ (by rw [hi.len]; exact h0), getD_at _ _ _ (by rw [hi.len]; omega)] at e
          have h7 := List.getElem?_eq_getElem (l := ks) (i := i) (by rw [hi.len]; exact h0)
          have h8 := List.getElem?_eq_getElem (l := ks) (i := j) (by rw [hi.len]; omega)
          have := (List.getElem?_inj (by rw [hi.len]; exact h0) hi.nd).1 (h7.trans (by rw [e, h8]))
          omega
        rw [(names_ne hv (hklt i h0) (hklt j (by omega)) hne).1]
        exact Bool.false_ne_true
      rw [hno] at hCt
      have hge : ¬ pix o (nmO o (ks.getD i 0)) < 0 := by
        have : 0 ≤ pix o (nmO o (ks.getD i 0)) := hpx
        omega
      simp (disch := omega) only [roles_CheckL0K, eo, e1, find_eq o h.people, hCt, hm, hok, ckB_ix, ckB_inR, ckB_room, ckB_cut, ckB_mk, ckB_ne, bif_lt, bif_nlt, bif_le, bif_nle, bif_eq, bif_neq, bif_ne, bif_nne, bif_not, bif_true', bif_false', bnd_ok, lk_inl, lk_inr, Int.toNat_natCast, decide_true]
      rfl
    · simp (disch := omega) only [roles_CheckL0K, ckB_ix, ckB_inR, ckB_room, ckB_cut, ckB_mk, ckB_ne, bif_lt, bif_nlt, bif_le, bif_nle, bif_eq, bif_neq, bif_ne, bif_nne, bif_not, bif_true', bif_false', bnd_ok, lk_inl, lk_inr, Int.toNat_natCast, decide_true]
  unfold roles_Check
  rw [hg, bnd_ok, hL]
  simp [hlen]
end
end Go.Proofs.Ytmlfmeffjodhmaa
