/-
  Regions that draw their order (the theorem); a function's contract out of its body. No program is named.
-/
import Derived.Test.YtocpeankecaabaaAbs10
set_option linter.all false
namespace Go.Abs
open Go.RowKit

/-- How many of the first N are not done. -/
def undone (D : Nat → Bool) : Nat → Nat
  | 0 => 0
  | N + 1 => undone D N + if D N = true then 0 else 1

theorem undone_set (D : Nat → Bool) (i : Nat) (hi : D i = false) : ∀ N, i < N → undone (fun k => if k = i then true else D k) N + 1 = undone D N := by
  have low : ∀ N, N ≤ i → undone (fun k => if k = i then true else D k) N = undone D N := by
    intro N
    induction N with
    | zero => intro _; rfl
    | succ N ih => intro h; simp only [undone, ih (show N ≤ i by omega), show N ≠ i by omega, if_false]
  intro N
  induction N with
  | zero => intro h; omega
  | succ N ih =>
    intro h
    simp only [undone]
    by_cases he : N = i
    · subst he
      rw [low N (Nat.le_refl _)]
      simp [hi]
    · simp only [he, if_false]
      have := ih (by omega)
      omega

theorem undone_zero (D : Nat → Bool) : ∀ N, undone D N = 0 → ∀ i, i < N → D i = true := by
  intro N
  induction N with
  | zero => intro _ i hi; omega
  | succ N ih =>
    intro h i hi
    simp only [undone] at h
    by_cases hN : D N = true
    · by_cases he : i = N
      · subst he; exact hN
      · exact ih (by omega) i (by omega)
    · rw [if_neg hN] at h; omega

theorem undone_pos (D : Nat → Bool) : ∀ N i, i < N → D i = false → 0 < undone D N := by
  intro N i hi hd
  rcases Nat.eq_zero_or_pos (undone D N) with h | h
  · rw [undone_zero D N h i hi] at hd; cases hd
  · exact h

section
variable {P : Program} {tt : TT} {w0 : World}

theorem find_congr (p q : Nat → Bool) : ∀ (L : List Nat), (∀ k ∈ L, p k = q k) → L.find? p = L.find? q
  | [], _ => rfl
  | k :: L, h => by
    simp only [List.find?_cons, h k (List.mem_cons_self ..)]
    rw [find_congr p q L fun j hj => h j (List.mem_cons_of_mem _ hj)]

/-- The slots when the operations D (of the first n) are done. -/
def slotD (ops : List Oper) (n : Nat) (As : Nat → AV) (S : List AV) (D : Nat → Bool) (t : Nat) : AV :=
  match (List.range n).find? (fun k => D k && (dstOf ops k == some t)) with
  | some k => As k
  | none => S.getD t .any
def slotsD (ops : List Oper) (n : Nat) (As : Nat → AV) (S : List AV) (D : Nat → Bool) : List AV := (List.range S.length).map (slotD ops n As S D)

theorem slotD_of {ops : List Oper} {n : Nat} {As : Nat → AV} {S : List AV} {D : Nat → Bool} {t k : Nat} (hu : ∀ i k d, i < n → k < n → dstOf ops i = some d → dstOf ops k = some d → i = k) (hk : k < n) (hd : dstOf ops k = some t) (hD : D k = true) :
    slotD ops n As S D t = As k := by
  unfold slotD
  cases h : (List.range n).find? (fun k => D k && (dstOf ops k == some t)) with
  | none =>
    have := List.find?_eq_none.1 h k (List.mem_range.2 hk)
    simp [hD, hd] at this
  | some j =>
    have h1 := List.find?_some h
    have h2 := List.mem_range.1 (List.mem_of_find?_eq_some h)
    simp only [Bool.and_eq_true, beq_iff_eq] at h1
    rw [hu j k t h2 hk h1.2 hd]

theorem slotD_none {ops : List Oper} {n : Nat} {As : Nat → AV} {S : List AV} {D : Nat → Bool} {t : Nat} (h : ∀ k, k < n → dstOf ops k = some t → D k = false) : slotD ops n As S D t = S.getD t .any := by
  unfold slotD
  cases hf : (List.range n).find? (fun k => D k && (dstOf ops k == some t)) with
  | none => rfl
  | some j =>
    have h1 := List.find?_some hf
    have h2 := List.mem_range.1 (List.mem_of_find?_eq_some hf)
    simp only [Bool.and_eq_true, beq_iff_eq] at h1
    rw [h j h2 h1.2] at h1
    cases h1.1

theorem slotD_congr {ops : List Oper} {n : Nat} {As : Nat → AV} {S : List AV} {D D' : Nat → Bool} {t : Nat} (h : ∀ k, k < n → dstOf ops k = some t → D k = D' k) : slotD ops n As S D t = slotD ops n As S D' t := by
  unfold slotD
  have : (List.range n).find? (fun k => D k && (dstOf ops k == some t)) = (List.range n).find? (fun k => D' k && (dstOf ops k == some t)) := by
    refine find_congr _ _ _ fun k hk => ?_
    by_cases hd : dstOf ops k = some t
    · simp only [h k (List.mem_range.1 hk) hd]
    · have hb : (dstOf ops k == some t) = false := by simpa using hd
      simp only [hb, Bool.and_false]
  rw [this]

theorem slotsD_set {ops : List Oper} {n : Nat} {As : Nat → AV} {S : List AV} {D : Nat → Bool} (hu : ∀ i k d, i < n → k < n → dstOf ops i = some d → dstOf ops k = some d → i = k) {i : Nat} (hi : i < n) :
    slotsD ops n As S (fun k => if k = i then true else D k) = putS (slotsD ops n As S D) (dstOf ops i) (As i) := by
  cases hd : dstOf ops i with
  | none =>
    simp only [putS, slotsD]
    apply List.map_congr_left
    intro t _
    apply slotD_congr
    intro k _ hk
    have : k ≠ i := by rintro rfl; rw [hd] at hk; cases hk
    simp [this]
  | some d =>
    simp only [putS]
    apply List.ext_getElem?
    intro t
    by_cases ht : t < S.length
    · by_cases htd : d = t
      · subst htd
        rw [List.getElem?_set_self (by simpa [slotsD] using ht)]
        simp only [slotsD, List.getElem?_map, List.getElem?_range ht, Option.map_some]
        rw [slotD_of hu hi hd (by simp)]
      · rw [List.getElem?_set_ne htd]
        simp only [slotsD, List.getElem?_map, List.getElem?_range ht, Option.map_some]
        rw [slotD_congr (D' := D)]
        intro k _ hk
        have : k ≠ i := by rintro rfl; rw [hd] at hk; injection hk with hk; exact htd hk
        simp [this]
    · rw [List.getElem?_eq_none (by simpa [slotsD] using ht), List.getElem?_eq_none (by simpa [slotsD] using ht)]

theorem slotsD_none {ops : List Oper} {n : Nat} {As : Nat → AV} {S : List AV} {D : Nat → Bool} (h : ∀ k, k < n → D k = false) : slotsD ops n As S D = S := by
  apply List.ext_getElem?
  intro t
  by_cases ht : t < S.length
  · simp only [slotsD, List.getElem?_map, List.getElem?_range ht, Option.map_some]
    rw [slotD_none (fun k hk _ => h k hk), List.getD_eq_getElem?_getD, List.getElem?_eq_getElem ht]
    rfl
  · rw [List.getElem?_eq_none (by simpa [slotsD] using ht), List.getElem?_eq_none (by omega)]

theorem slotsD_lt {ops : List Oper} {n : Nat} {As : Nat → AV} {S : List AV} (hu : ∀ i k d, i < n → k < n → dstOf ops i = some d → dstOf ops k = some d → i = k) :
    ∀ i, i ≤ n → slotsD ops n As S (fun k => decide (k < i)) = slotsAt ops As S i := by
  intro i
  induction i with
  | zero => intro _; exact slotsD_none (fun k _ => by simp)
  | succ i ih =>
    intro hi
    simp only [slotsAt]
    rw [← ih (by omega), ← slotsD_set hu (show i < n by omega)]
    congr 1
    funext k
    by_cases h : k = i
    · simp [h]
    · simp only [h, if_false]
      by_cases h2 : k < i
      · simp [h2, show k < i + 1 by omega]
      · simp [h2, show ¬ k < i + 1 by omega]

theorem getD_set_bool (l : Array Bool) (i k : Nat) (hi : i < l.size) (d : Bool) : (l.setIfInBounds i true).getD k d = if k = i then true else l.getD k d := by
  by_cases h : k = i
  · subst h; simp [hi]
  · simp only [h, if_false, Array.getD_eq_getD_getElem?]
    rw [Array.getElem?_setIfInBounds_ne (Ne.symm h)]

/-- **One walk in the text's order serves every order.** -/
theorem SW.drawn (hF : Fits P tt) (hmix : P.follows .mixedOrders = true) {id : Nat} {l : List Oper} (n : Nat) (hchk : drawOK l n = true) {Q : Exit → AS → Prop} {s : AS}
    (h : dopsW P tt l (l.take n) s.heap s.slots (fun S => opsW P tt 0 l (l.drop n) ⟨S, s.heap⟩ (Q .normal))) : SW P w0 [] (.region id l.toArray true) Q s := by
  simp only [drawOK, Bool.and_eq_true, List.all_eq_true, List.mem_range, Bool.or_eq_true, beq_iff_eq, bne_iff_ne, decide_eq_true_eq, Option.isNone_iff_eq_none] at hchk
  obtain ⟨⟨⟨⟨c1, c2⟩, c3⟩, c4⟩, c5⟩ := hchk
  have hu : ∀ i k d, i < n → k < n → dstOf l i = some d → dstOf l k = some d → i = k := by
    intro i k d hi hk h1 h2
    rcases c1 i hi k hk with (h' | h') | h'
    · exact h'
    · rw [h1] at h'; cases h'
    · exact absurd (h1.trans h2.symm) h'
  obtain ⟨As, _, hAs, hend⟩ := dopsW_split (ops := l) s.slots n 0 (fun _ => .any) (by omega) (by simpa [slotsAt] using h)
  simp only [Nat.zero_add] at hAs hend
  intro a w σ hr
  refine wp_region_any hmix ?_
  have hr' : Rel w0 [] s a { w with drawn := w.drawn + 1 } σ := hr.heapEq rfl rfl rfl rfl
  clear hr
  generalize hw : ({ w with drawn := w.drawn + 1 } : World) = w1 at hr' ⊢
  clear hw w
  let Q' : Exit → Act → World → Prop := fun e a' w' => ∃ s' σ', Rel w0 [] s' a' w' σ' ∧ Q e s'
  have edge : ∀ (i : Nat) (o : Oper) (e : Edge), l[i]? = some o → e ∈ o.after → Region.binds .any e = true → e.on ∈ onOf l i := by
    intro i o e ho he hb
    simp only [onOf, ho]
    exact List.mem_map.2 ⟨e, List.mem_filter.2 ⟨by simpa using he, hb⟩, rfl⟩
  have edge' : ∀ (i : Nat) (o : Oper) (k : Nat), l[i]? = some o → k ∈ onOf l i → ∃ e ∈ o.after, Region.binds .any e = true ∧ e.on = k := by
    intro i o k ho hk
    simp only [onOf, ho] at hk
    obtain ⟨e, he, rfl⟩ := List.mem_map.1 hk
    obtain ⟨h1, h2⟩ := List.mem_filter.1 he
    exact ⟨e, by simpa using h1, h2, rfl⟩
  -- what is done is closed under what it waits for
  have closeSub : ∀ (D : Nat → Bool), (∀ i, D i = true → ∀ k ∈ onOf l i, D k = true) → ∀ (m : Nat) (L : List Nat), (∀ k ∈ L, D k = true) → ∀ k ∈ closeOn l m L, D k = true := by
    intro D hD m
    induction m with
    | zero => intro L hL k hk; exact hL k hk
    | succ m ih =>
      intro L hL k hk
      simp only [closeOn] at hk
      refine ih _ ?_ k hk
      intro j hj
      cases hmk : memK m L with
      | false => rw [hmk] at hj; exact hL j hj
      | true =>
        rw [hmk] at hj
        rcases List.mem_append.1 hj with hj | hj
        · exact hL j hj
        · exact hD m (hL m (memK_mem m L hmk)) j hj
  suffices H : ∀ (fuel : Nat) (listed : Array Bool) (a : Act) (w : World) (σ : Tags), listed.size = l.length → (∀ i, listed.getD i false = true → ∀ k ∈ onOf l i, listed.getD k false = true) →
      undone (fun k => listed.getD k false) l.length ≤ fuel →
      (((∃ i, i < n ∧ listed.getD i false = false) ∧ (∀ i, n ≤ i → listed.getD i false = false) ∧ Rel w0 [] ⟨slotsD l n As s.slots (fun k => listed.getD k false), s.heap⟩ a w σ) ∨
       (∃ m s', n ≤ m ∧ m ≤ l.length ∧ (∀ i, listed.getD i false = decide (i < m)) ∧ Rel w0 [] s' a w σ ∧ opsW P tt 0 l (l.drop m) s' (Q .normal))) →
      wpAny P .any l.toArray Q' fuel listed a w by
    have hfalse : ∀ i, (Array.replicate l.toArray.size false).getD i false = false := by
      intro i
      rw [Array.getD_eq_getD_getElem?]
      by_cases hi : i < l.length
      · simp [hi]
      · rw [Array.getElem?_eq_none (by simpa using hi)]; rfl
    refine H l.toArray.size (Array.replicate l.toArray.size false) a w1 σ (by simp) (fun i hi => by rw [hfalse] at hi; cases hi) ?_ ?_
    · have : ∀ (D : Nat → Bool) N, undone D N ≤ N := by
        intro D N
        induction N with
        | zero => exact Nat.le_refl _
        | succ N ih => simp only [undone]; split <;> omega
      simpa using this _ l.length
    · by_cases hn : n = 0
      · right
        subst hn
        exact ⟨0, s, Nat.le_refl _, Nat.zero_le _, fun i => by rw [hfalse]; simp, hr', by simpa [slotsAt] using hend⟩
      · left
        refine ⟨⟨0, by omega, hfalse 0⟩, fun i _ => hfalse i, ?_⟩
        rw [slotsD_none (fun k _ => hfalse k)]
        exact hr'
  intro fuel
  induction fuel with
  | zero =>
    intro listed a w σ hsz hcl hund hinv
    have hall := undone_zero _ l.length (Nat.le_zero.1 hund)
    rcases hinv with ⟨⟨i, hi, hd⟩, _⟩ | ⟨m, s', hnm, hml, hlist, hrel, hops⟩
    · have h2 := hall i (by omega)
      simp only [hd] at h2
      cases h2
    · have hm : m = l.length := by
        rcases Nat.lt_or_ge m l.length with h' | h'
        · have := hall m h'
          try simp only [] at this
          rw [hlist m] at this
          simp at this
        · omega
      subst hm
      refine ⟨?_, s', σ, hrel, by simpa [opsW] using hops⟩
      apply List.eq_nil_iff_forall_not_mem.2
      intro i hi
      obtain ⟨h1, o, ho, _⟩ := mem_ready.1 hi
      have hlt : i < l.length := by
        have := (Array.getElem?_eq_some_iff.1 ho).1
        simpa using this
      have := hlist i
      rw [Array.getD_eq_getD_getElem?, Array.getElem?_eq_getElem (by omega)] at this h1
      simp only [Option.getD_some] at this h1
      rw [this] at h1
      simp [hlt] at h1
  | succ fuel ih =>
    intro listed a w σ hsz hcl hund hinv
    -- the next lists
    have hnext : ∀ i, i < l.length → listed.getD i false = false → (∀ k ∈ onOf l i, listed.getD k false = true) →
        (listed.setIfInBounds i true).size = l.length ∧ (∀ j, (listed.setIfInBounds i true).getD j false = true → ∀ k ∈ onOf l j, (listed.setIfInBounds i true).getD k false = true) ∧
        undone (fun k => (listed.setIfInBounds i true).getD k false) l.length ≤ fuel ∧ (∀ k, (listed.setIfInBounds i true).getD k false = if k = i then true else listed.getD k false) := by
      intro i hi hd hon
      have hset : ∀ k, (listed.setIfInBounds i true).getD k false = if k = i then true else listed.getD k false := fun k => getD_set_bool listed i k (by omega) false
      refine ⟨by simpa using hsz, fun j hj k hk => ?_, ?_, hset⟩
      · rw [hset] at hj ⊢
        split
        · rfl
        · split at hj
          · rename_i e; subst e; exact hon k hk
          · exact hcl j hj k hk
      · have := undone_set (fun k => listed.getD k false) i hd l.length hi
        simp only [hset]
        omega
    have hready : ∀ i, i < l.length → listed.getD i false = false → (∀ k, k < i → listed.getD k false = true) → Region.ready .any l.toArray listed ≠ [] := by
      intro i hi hd hlow hnil
      have : i ∈ Region.ready .any l.toArray listed := by
        refine mem_ready.2 ⟨?_, l[i], by simp [hi], fun e he hb => ?_⟩
        · rw [Array.getD_eq_getD_getElem?, Array.getElem?_eq_getElem (by omega)] at hd ⊢
          exact hd
        · exact hlow _ (c3 i hi e.on (edge i l[i] e (by simp [hi]) he hb))
      rw [hnil] at this
      cases this
    have least : ∀ N, (∃ i, i < N ∧ listed.getD i false = false) → ∃ i, i < N ∧ listed.getD i false = false ∧ ∀ k, k < i → listed.getD k false = true := by
      intro N
      induction N with
      | zero => rintro ⟨i, hi, _⟩; omega
      | succ N ihN =>
        rintro ⟨i, hi, hd⟩
        by_cases hex : ∃ i, i < N ∧ listed.getD i false = false
        · obtain ⟨j, hj, h1, h2⟩ := ihN hex
          exact ⟨j, by omega, h1, h2⟩
        · refine ⟨i, hi, hd, fun k hk => ?_⟩
          cases hb : listed.getD k false with
          | true => rfl
          | false => exact absurd ⟨k, by omega, hb⟩ hex
    rcases hinv with ⟨hpure, htail, hrel⟩ | ⟨m, s', hnm, hml, hlist, hrel, hops⟩
    · -- some of the first n are to come
      obtain ⟨i0, hi0, hd0, hlow0⟩ := least n hpure
      refine ⟨fun hnil => absurd hnil (hready i0 (by omega) hd0 hlow0), fun i hi => ?_⟩
      obtain ⟨h1, o, ho, hon⟩ := mem_ready.1 hi
      have hil : i < l.length := by
        have := (Array.getElem?_eq_some_iff.1 ho).1
        simpa using this
      have ho' : l[i]? = some o := by simpa using ho
      have hdi : listed.getD i false = false := by
        rw [Array.getD_eq_getD_getElem?, Array.getElem?_eq_getElem (by omega)] at h1 ⊢
        exact h1
      have hon' : ∀ k ∈ onOf l i, listed.getD k false = true := by
        intro k hk
        obtain ⟨e, he, hb, rfl⟩ := edge' i o k ho' hk
        exact hon e he hb
      have hin : i < n := by
        rcases Nat.lt_or_ge i n with h' | h'
        · exact h'
        · rcases c4 i hil with h'' | h''
          · omega
          · have := closeSub (fun k => listed.getD k false) hcl i (onOf l i) hon' i0 (by
              have := h'' i0 (by omega)
              simpa using this)
            try simp only [] at this
            rw [this] at hd0
            cases hd0
      -- its operands are as in the text's order
      have huse : ∀ t ∈ usesOf l i, (slotsD l n As s.slots (fun k => listed.getD k false)).getD t .any = (slotsAt l As s.slots i).getD t .any := by
        intro t ht
        rw [← slotsD_lt hu i (by omega)]
        simp only [slotsD, List.getD_eq_getElem?_getD, List.getElem?_map]
        rcases Nat.lt_or_ge t s.slots.length with h' | h'
        · simp only [List.getElem?_range h', Option.map_some, Option.getD_some]
          apply slotD_congr
          intro k hk hdk
          have := c2 i hin t ht k hk
          by_cases hki : i = k
          · subst hki
            try simp only [] at hdi
            simp [hdi]
          · rcases this with (h2 | h2) | h2
            · exact absurd hdk h2
            · exact absurd h2 hki
            · by_cases hlt : k < i
              · rw [if_pos hlt] at h2
                have := hon' k (by simpa using h2)
                try simp only [] at this
                simp [this, hlt]
              · rw [if_neg hlt] at h2
                cases hb : listed.getD k false with
                | false => simp [hlt]
                | true =>
                  have := hcl k hb i (by simpa using h2)
                  rw [this] at hdi
                  cases hdi
        · rw [List.getElem?_eq_none (by simpa using h')]
          rfl
      have hd := dopW_congr (S' := slotsD l n As s.slots (fun k => listed.getD k false)) (fun x hx => ?_) (fun g d hg hgd => ?_) (hAs i (Nat.zero_le _) hin o ho')
      rotate_left
      · cases x with
        | tmp t =>
          simp only [evO]
          refine (huse t ?_).symm
          simp only [usesOf, ho']
          exact List.mem_append.2 (.inl (List.mem_filterMap.2 ⟨.tmp t, by simpa using hx, rfl⟩))
        | _ => rfl
      · refine (huse d ?_).symm
        simp only [usesOf, ho', hg]
        refine List.mem_append.2 (.inr ?_)
        simp only [dstOf]
        rw [hgd]
        simp
      unfold wpOp
      simp only [ho]
      obtain ⟨n1, n2, n3, n4⟩ := hnext i hil hdi hon'
      have hstep := dopW_sound (Q := Q') hF hrel hd (KK := wpAny P .any l.toArray Q' fuel (listed.setIfInBounds i true)) (fun a' w' hr2 => ?_)
      · split
        · rename_i hw; rw [if_pos hw] at hstep; exact .inl hstep
        · rename_i hw; rw [if_neg hw] at hstep; exact hstep
      · refine ih _ a' w' σ n1 n2 n3 ?_
        have hput : (⟨slotsD l n As s.slots (fun k => listed.getD k false), s.heap⟩ : AS).put o.dst (As i) = ⟨slotsD l n As s.slots (fun k => (listed.setIfInBounds i true).getD k false), s.heap⟩ := by
          have e1 : (fun k => (listed.setIfInBounds i true).getD k false) = (fun k => if k = i then true else listed.getD k false) := funext n4
          rw [e1, slotsD_set hu hin]
          have e2 : dstOf l i = o.dst := by simp [dstOf, ho']
          rw [e2]
          cases o.dst <;> rfl
        rw [hput] at hr2
        by_cases hmore : ∃ k, k < n ∧ (listed.setIfInBounds i true).getD k false = false
        · exact .inl ⟨hmore, fun k hk => by rw [n4, if_neg (by omega)]; exact htail k hk, hr2⟩
        · have hall : ∀ k, (listed.setIfInBounds i true).getD k false = decide (k < n) := by
            intro k
            rcases Nat.lt_or_ge k n with h' | h'
            · cases hb : (listed.setIfInBounds i true).getD k false with
              | true => simp [h']
              | false => exact absurd ⟨k, h', hb⟩ hmore
            · rw [n4, if_neg (by omega), htail k h']
              simp; omega
          refine .inr ⟨n, _, Nat.le_refl _, c5, hall, hr2, ?_⟩
          have e1 : (fun k => (listed.setIfInBounds i true).getD k false) = (fun k => decide (k < n)) := funext hall
          rw [e1, slotsD_lt hu n (Nat.le_refl _)]
          exact hend
    · -- the rest, in order
      by_cases hm : m = l.length
      · subst hm
        refine ⟨fun _ => ⟨s', σ, hrel, by simpa [opsW] using hops⟩, fun i hi => ?_⟩
        obtain ⟨h1, o, ho, _⟩ := mem_ready.1 hi
        have hlt : i < l.length := by
          have := (Array.getElem?_eq_some_iff.1 ho).1
          simpa using this
        have := hlist i
        rw [Array.getD_eq_getD_getElem?, Array.getElem?_eq_getElem (by omega)] at this h1
        simp only [Option.getD_some] at this h1
        rw [this] at h1
        simp [hlt] at h1
      · have hml' : m < l.length := by omega
        refine ⟨fun hnil => absurd hnil (hready m hml' (by rw [hlist]; simp) (fun k hk => by rw [hlist]; simpa using hk)), fun i hi => ?_⟩
        obtain ⟨h1, o, ho, hon⟩ := mem_ready.1 hi
        have hil : i < l.length := by
          have := (Array.getElem?_eq_some_iff.1 ho).1
          simpa using this
        have ho' : l[i]? = some o := by simpa using ho
        have hdi : listed.getD i false = false := by
          rw [Array.getD_eq_getD_getElem?, Array.getElem?_eq_getElem (by omega)] at h1 ⊢
          exact h1
        have hon' : ∀ k ∈ onOf l i, listed.getD k false = true := by
          intro k hk
          obtain ⟨e, he, hb, rfl⟩ := edge' i o k ho' hk
          exact hon e he hb
        have him : i = m := by
          have h2 := hlist i
          rw [hdi] at h2
          have h3 : m ≤ i := by
            rcases Nat.lt_or_ge i m with h' | h'
            · simp [h'] at h2
            · exact h'
          rcases Nat.lt_or_ge m i with h' | h'
          · rcases c4 i hil with h'' | h''
            · omega
            · have := closeSub (fun k => listed.getD k false) hcl i (onOf l i) hon' m (by
                have := h'' m h'
                simpa using this)
              try simp only [] at this
              rw [hlist m] at this
              simp at this
          · omega
        subst him
        rw [List.drop_eq_getElem_cons hil] at hops
        have hoi : l[i] = o := by
          rw [List.getElem?_eq_getElem hil] at ho'
          injection ho' with ho'
        rw [hoi] at hops
        obtain ⟨n1, n2, n3, n4⟩ := hnext i hil hdi hon'
        have hgo : ∀ s2 a' w' σ', Rel w0 [] s2 a' w' σ' → (∃ s3, SLe s2 s3 ∧ opsW P tt 0 l (l.drop (i + 1)) s3 (Q .normal)) → wpAny P .any l.toArray Q' fuel (listed.setIfInBounds i true) a' w' := by
          rintro s2 a' w' σ' hr2 ⟨s3, hle, ho2⟩
          obtain ⟨σ3, hr3⟩ := hle _ _ _ _ hr2
          refine ih _ a' w' σ3 n1 n2 n3 (.inr ⟨i + 1, s3, by omega, by omega, fun k => ?_, hr3, ho2⟩)
          rw [n4]
          by_cases hk : k = i
          · simp [hk]
          · rw [if_neg hk, hlist]
            by_cases h2 : k < i
            · simp [h2, show k < i + 1 by omega]
            · simp [h2, show ¬ k < i + 1 by omega]
        unfold wpOp
        simp only [ho]
        unfold opsW at hops
        split at hops
        · rename_i hg
          rw [show Region.wanted o (yielded l.toArray a.tmps) = true from by simp [Region.wanted, hg], if_pos rfl]
          exact .inl (opW_sound hF hrel hops hgo)
        · rename_i g hg
          split at hops
          · rename_i c hc
            rw [guardOf_sound (ops := l) hrel hg hc]
            have hstep := grdW_sound (Q := Q') hF hrel hops (KK := wpAny P .any l.toArray Q' fuel (listed.setIfInBounds i true)) hgo
            cases c with
            | true => rw [if_pos rfl] at hstep ⊢; exact .inl hstep
            | false => simpa using hstep
          · exact hops.elim

end
end Go.Abs
