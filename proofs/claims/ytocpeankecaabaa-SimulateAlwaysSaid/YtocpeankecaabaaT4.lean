/-
  The typed machine's pure operations agree with the abstract ones. No program is named.
-/
import Derived.Test.YtocpeankecaabaaT3
set_option linter.all false
namespace Go.T
open Go.Abs Go.M

theorem encV_ofV (H : List TOb) (v : Value) : encV H (ofV v) = ofC v := by cases v <;> rfl
theorem encL_ofV (H : List TOb) (z : List Value) : encL H (z.map ofV) = z.map ofC := by
  rw [encL_map, List.map_map]
  exact List.map_congr_left fun v _ => encV_ofV H v
theorem encL_len (H : List TOb) (l : List TV) : (encL H l).length = l.length := by rw [encL_map]; simp

theorem scalarH_enc {H : List TOb} {v : TV} (h : v.scalarH H = true) : (encV H v).scalar = true := by
  cases v <;> first | rfl | exact h | (simp [TV.scalarH, TV.scalar] at h)

theorem scalarH_notAgg {H : List TOb} {v : TV} (h : v.scalarH H = true) : ∀ k cs, encV H v ≠ .agg k cs := by
  intro k cs e
  have := scalarH_enc h
  rw [e] at this
  simp [AV.scalar] at this

/-- The cells of a value: what its abstract value says of them. -/
theorem cellsT_at {H : List TOb} {sz : Nat} {v : TV} {cs : List TV} (h : cellsT H sz v = some cs) : cs.length = sz ∧ cellsOk sz (encV H v) ∧ ∀ f, f < sz → (encV H v).cell f = encV H (cs.getD f .any) := by
  unfold cellsT at h
  split at h
  · rename_i cs'
    obtain ⟨h1, h2⟩ := bif_some h
    cases h2
    refine ⟨beq_eq h1, beq_eq h1, fun f _ => ?_⟩
    simp only [encV, AV.cell, encL_getD]
  · obtain ⟨h1, h2⟩ := bif_some h
    cases h2
    rw [Bool.and_eq_true] at h1
    have h1' := beq_eq h1.1
    subst h1'
    have hs := scalarH_enc h1.2
    have hna := scalarH_notAgg h1.2
    refine ⟨rfl, ?_, fun f hf => ?_⟩
    · unfold cellsOk
      split
      · rename_i he; exact absurd he (hna _ _)
      · exact ⟨rfl, hs⟩
    · obtain rfl : f = 0 := by omega
      unfold AV.cell
      split
      · rename_i he; exact absurd he (hna _ _)
      · rfl

theorem putL_at {L : List TV} {off : Nat} {cs L' : List TV} (h : putL L off cs = some L') : off + cs.length ≤ L.length ∧ L'.length = L.length ∧ ∀ j, L'.getD j .any = if off ≤ j ∧ j < off + cs.length then cs.getD (j - off) .any else L.getD j .any := by
  unfold putL at h
  obtain ⟨h1, h2⟩ := bif_some h
  cases h2
  have hle := ble_le h1
  refine ⟨hle, by simp; omega, fun j => ?_⟩
  simp only [List.getD_eq_getElem?_getD]
  have ht : (List.take off L).length = off := by simp; omega
  split
  · rename_i hj
    rw [List.getElem?_append_right (by omega), ht, List.getElem?_append_left (by omega)]
  · rename_i hj
    rcases Nat.lt_or_ge j off with hlt | hge
    · rw [List.getElem?_append_left (by omega), List.getElem?_take, if_pos hlt]
    · rw [List.getElem?_append_right (by omega), ht, List.getElem?_append_right (by omega), List.getElem?_drop]
      congr 2
      omega

theorem list_ext_getD {l l' : List AV} (hl : l.length = l'.length) (h : ∀ j, j < l.length → l.getD j .any = l'.getD j .any) : l = l' := by
  apply List.ext_getElem hl
  intro j h1 h2
  have := h j h1
  simpa [List.getD_eq_getElem?_getD, h1, h2] using this

theorem putCells_enc {H : List TOb} {L : List TV} {off sz : Nat} {v : TV} {cs L' : List TV} (hc : cellsT H sz v = some cs) (hp : putL L off cs = some L') : putCells (encL H L) off sz (encV H v) = some (encL H L') := by
  obtain ⟨h1, h2, h3⟩ := cellsT_at hc
  obtain ⟨p1, p2, p3⟩ := putL_at hp
  unfold putCells
  split
  · rename_i k acs he
    have hk : k = sz := by rw [he] at h2; exact h2
    rw [if_pos ⟨hk, by rw [encL_len]; omega⟩]
    congr 1
    refine list_ext_getD (by simp [encL_len, p2]) fun j hj => ?_
    simp only [List.length_map, List.length_range, encL_len] at hj
    rw [encL_getD, p3]
    simp only [List.getD_eq_getElem?_getD, List.getElem?_map, encL_len, List.getElem?_range hj, Option.map_some, Option.getD_some]
    by_cases hin : off ≤ j ∧ j < off + sz
    · rw [if_pos hin, if_pos (by omega)]
      have := h3 (j - off) (by omega)
      rw [he] at this
      simpa [AV.cell, List.getD_eq_getElem?_getD] using this
    · rw [if_neg hin, if_neg (by omega)]
      have := encL_getD H L j
      simpa [List.getD_eq_getElem?_getD] using this
  · rename_i hna
    have hs : (encV H v).scalar = true ∧ sz = 1 := by
      unfold cellsOk at h2
      split at h2
      · rename_i he; exact absurd he (hna _ _)
      · exact ⟨h2.2, h2.1⟩
    rw [if_pos ⟨hs.1, hs.2, by rw [encL_len]; omega⟩]
    congr 1
    refine list_ext_getD (by simp [encL_len, p2]) fun j hj => ?_
    simp only [List.length_set, encL_len] at hj
    rw [encL_getD, p3]
    by_cases hin : off = j
    · subst hin
      rw [if_pos (by omega)]
      have := h3 0 (by omega)
      have e0 : (encV H v).cell 0 = encV H v := by
        unfold AV.cell
        split
        · rename_i he; exact absurd he (hna _ _)
        · rfl
      rw [e0] at this
      simp only [List.getD_eq_getElem?_getD, Nat.sub_self]
      rw [List.getElem?_set_self (by rw [encL_len]; omega)]
      simpa [List.getD_eq_getElem?_getD] using this
    · rw [if_neg (by omega)]
      simp only [List.getD_eq_getElem?_getD]
      rw [List.getElem?_set_ne hin]
      have := encL_getD H L j
      simpa [List.getD_eq_getElem?_getD] using this

theorem fillT_enc {H : List TOb} {place : Nat → Option (Nat × Nat)} : ∀ (ps : List (Nat × TV)) (L L' : List TV), fillT H place L ps = some L' → fillL place (encL H L) (ps.map fun p => (p.1, encV H p.2)) = some (encL H L') := by
  intro ps
  induction ps with
  | nil => intro L L' h; cases h; rfl
  | cons p ps ih =>
    intro L L' h
    obtain ⟨i, v⟩ := p
    unfold fillT at h
    simp only [List.map_cons]
    unfold fillL
    split at h
    · rename_i off sz hpl
      simp only [hpl]
      split at h
      · rename_i cs hcs
        split at h
        · rename_i L1 hL1
          simp only [putCells_enc hcs hL1]
          exact ih L1 L' h
        · cases h
      · cases h
    · cases h

theorem fillT_len {H : List TOb} {place : Nat → Option (Nat × Nat)} : ∀ (ps : List (Nat × TV)) (L L' : List TV), fillT H place L ps = some L' → L'.length = L.length := by
  intro ps
  induction ps with
  | nil => intro L L' h; cases h; rfl
  | cons p ps ih =>
    intro L L' h
    obtain ⟨i, v⟩ := p
    unfold fillT at h
    split at h
    · split at h
      · split at h
        · rename_i L1 hL1
          rw [ih L1 L' h, (putL_at hL1).2.1]
        · cases h
      · cases h
    · cases h

theorem buildT_meets {tt : TT} {H : List TOb} {t : TypeId} {ps : List (Nat × TV)} {v : TV} (h : buildT tt H t ps = some v) : ∃ C A, buildV tt t (ps.map fun p => (p.1, encV H p.2)) = some (C, A) ∧ C ∧ ALe A (encV H v) := by
  unfold buildT at h
  unfold buildV
  split at h
  · rename_i a1 fs sz b z ht
    simp only [ht]
    split at h
    · rename_i pl hpl
      simp only [hpl]
      obtain ⟨h1, h2⟩ := bif_some h
      rw [Bool.and_eq_true] at h1
      split at h2
      · rename_i L hL
        cases h2
        have := fillT_enc _ _ _ hL
        rw [encL_ofV] at this
        simp only [this]
        have hl := fillT_len _ _ _ hL
        have hz := beq_eq h1.1
        refine ⟨_, _, rfl, ⟨hz, h1.2⟩, ALe.of_eq ?_⟩
        simp only [encV]
        rw [hl, List.length_map, hz]
      · cases h2
    · cases h
  · rename_i n el sz b z ht
    simp only [ht]
    split at h
    · rename_i ei hel
      simp only [hel]
      obtain ⟨h1, h2⟩ := bif_some h
      rw [Bool.and_eq_true] at h1
      split at h2
      · rename_i L hL
        cases h2
        have := fillT_enc _ _ _ hL
        rw [encL_ofV] at this
        simp only [this]
        have hl := fillT_len _ _ _ hL
        have hz := beq_eq h1.1
        refine ⟨_, _, rfl, ⟨hz, h1.2⟩, ALe.of_eq ?_⟩
        simp only [encV]
        rw [hl, List.length_map, hz]
      · cases h2
    · cases h
  · cases h

theorem with1_meets {tt : TT} {H : List TOb} {e : Operand → TV} {x : Operand} {r : Option (List Bool × TV)} {r' : Option (Prop × AV)} (h : Meets H r r') : Meets H (with1 (e x) r) (one (fun x => encV H (e x)) x r') := by
  intro cs v hr
  unfold with1 at hr
  split at hr
  · rename_i cs' v'
    cases hr
    obtain ⟨C, A, e1, h1⟩ := h _ _ rfl
    refine ⟨_, _, by unfold one; rw [e1], fun hc => ?_⟩
    obtain ⟨c1, c2⟩ := allT_app.1 hc
    exact ⟨⟨need_nd H _ c1, (h1 c2).1⟩, (h1 c2).2⟩
  · cases hr

theorem with2_meets {tt : TT} {H : List TOb} {e : Operand → TV} {x y : Operand} {r : Option (List Bool × TV)} {r' : Option (Prop × AV)} (h : Meets H r r') : Meets H (with2 (e x) (e y) r) (both (fun x => encV H (e x)) x y r') := by
  intro cs v hr
  unfold with2 at hr
  split at hr
  · rename_i cs' v'
    cases hr
    obtain ⟨C, A, e1, h1⟩ := h _ _ rfl
    refine ⟨_, _, by unfold both; rw [e1], fun hc => ?_⟩
    obtain ⟨c1, c2⟩ := allT_app.1 hc
    obtain ⟨c2, c3⟩ := allT_app.1 c2
    exact ⟨⟨need_nd H _ c1, need_nd H _ c2, (h1 c3).1⟩, (h1 c3).2⟩
  · cases hr

theorem nds_at {H : List TOb} {e : Operand → TV} : ∀ {l : List Operand}, allT (nds e l) → ∀ x ∈ l, (encV H (e x)).need
  | [], _, x, hx => by simp at hx
  | y :: l, h, x, hx => by
    obtain ⟨h1, h2⟩ := allT_app.1 h
    rcases List.mem_cons.1 hx with rfl | hx
    · exact need_nd H _ h1
    · exact nds_at h2 x hx

theorem imp_at {g : Bool} {l : List Bool} (h : allT (l.map fun z => !g || z)) (hg : g = true) : allT l := by
  intro c hc
  have := h _ (List.mem_map.2 ⟨c, hc, rfl⟩)
  subst hg
  simpa using this
theorem imp_at' {g : Bool} {l : List Bool} (h : allT (l.map fun z => g || z)) (hg : g = false) : allT l := by
  intro c hc
  have := h _ (List.mem_map.2 ⟨c, hc, rfl⟩)
  subst hg
  simpa using this

theorem pvT_meets (tt : TT) (H : List TOb) (e : Operand → TV) (op : Op) : Meets H (pvT tt H e op) (pvO tt (H.map (encO H)) (fun x => encV H (e x)) op) := by
  intro cs v h
  unfold pvT at h
  split at h
  · cases h; exact ⟨_, _, rfl, fun _ => ⟨trivial, ALe.refl _⟩⟩
  · cases h; exact ⟨_, _, rfl, fun _ => ⟨trivial, ALe.refl _⟩⟩
  · rename_i c a b
    split at h
    · rename_i g hg
      cases h
      simp only [pvO, get_gt, hg, encV]
      refine ⟨_, _, rfl, fun hc => ?_⟩
      obtain ⟨c1, c2⟩ := allT_app.1 hc
      obtain ⟨c2, c3⟩ := allT_app.1 c2
      exact ⟨⟨need_nd H _ c1, fun hg => need_nd H _ (imp_at c2 hg), fun hg => need_nd H _ (imp_at' c3 hg)⟩, pickT_le H g _ _⟩
    · cases h
  · simp only [pvO, get_gt]; exact with2_meets (tt := tt) (binT_meets _ _ _ _ _ _) _ _ h
  · simp only [pvO, get_gt]; exact with1_meets (tt := tt) (unT_meets _ _ _) _ _ h
  · simp only [pvO, get_gt]; exact with1_meets (tt := tt) (convT_meets _ _ _ _ _) _ _ h
  · simp only [pvO, get_gt]; exact with1_meets (tt := tt) (loadT_meets _ _ _ _) _ _ h
  · simp only [pvO, get_gt]; exact with1_meets (tt := tt) (faddrT_meets _ _ _ _ _) _ _ h
  · simp only [pvO, get_gt]; exact with1_meets (tt := tt) (fieldT_meets _ _ _ _ _) _ _ h
  · simp only [pvO, get_gt]; exact with2_meets (tt := tt) (iaddrT_meets _ _ _ _ _) _ _ h
  · simp only [pvO, get_gt]; exact with2_meets (tt := tt) (indexT_meets _ _ _ _ _) _ _ h
  · rename_i t x lo hi
    split at h
    · rename_i cs' v' hs
      cases h
      obtain ⟨C, A, e1, h1⟩ := sliceT_meets tt H t _ _ _ _ _ hs
      simp only [pvO, get_gt]
      simp only [Option.map_map] at e1
      have e1' : sliceV tt t (encV H (e x).gt) (Option.map (fun y => encV H (e y).gt) lo) (Option.map (fun y => encV H (e y).gt) hi) = some (C, A) := e1
      rw [e1']
      refine ⟨_, _, rfl, fun hc => ?_⟩
      obtain ⟨c1, c2⟩ := allT_app.1 hc
      obtain ⟨c2, c3⟩ := allT_app.1 c2
      obtain ⟨c3, c4⟩ := allT_app.1 c3
      refine ⟨⟨need_nd H _ c1, ?_, ?_, (h1 c4).1⟩, (h1 c4).2⟩
      · cases lo with
        | none => trivial
        | some y => exact need_nd H _ c2
      · cases hi with
        | none => trivial
        | some y => exact need_nd H _ c3
    · cases h
  · rename_i x i
    split at h
    · rename_i l hl
      obtain ⟨h1, h2⟩ := bif_some h
      cases h2
      simp only [pvO, get_gt, hl, encV]
      exact ⟨_, _, rfl, fun hc => ⟨⟨need_nd H _ hc, blt_lt h1⟩, ALe.of_eq (encL_getD ..)⟩⟩
    · cases h
  · simp only [pvO, get_gt]; exact with1_meets (tt := tt) (lenT_meets _ _ _ _) _ _ h
  · split at h
    · rename_i h1 h2
      cases h
      simp only [pvO, get_gt, h1, h2, encV]
      refine ⟨_, _, rfl, fun hc => ?_⟩
      obtain ⟨c1, c2⟩ := allT_app.1 hc
      exact ⟨⟨need_nd H _ c1, need_nd H _ c2⟩, ALe.refl _⟩
    · cases h
  · split at h
    · rename_i h1 h2
      cases h
      simp only [pvO, get_gt, h1, h2, encV]
      refine ⟨_, _, rfl, fun hc => ?_⟩
      obtain ⟨c1, c2⟩ := allT_app.1 hc
      exact ⟨⟨need_nd H _ c1, need_nd H _ c2⟩, ALe.refl _⟩
    · cases h
  · rename_i t ps
    split at h
    · rename_i v' hb
      cases h
      obtain ⟨C, A, e1, h1, h2⟩ := buildT_meets hb
      rw [List.map_map] at e1
      simp only [pvO, get_gt]
      have e1' : buildV tt t (ps.toList.map fun p => (p.1, encV H (e p.2).gt)) = some (C, A) := e1
      rw [e1']
      refine ⟨_, _, rfl, fun hc => ⟨⟨fun p hp => nds_at hc p.2 (List.mem_map.2 ⟨p, hp, rfl⟩), h1⟩, h2⟩⟩
    · cases h
  · rename_i f caps
    cases h
    simp only [pvO]
    refine ⟨_, _, rfl, fun _ => ⟨trivial, ALe.of_eq ?_⟩⟩
    simp only [encV, encL_map, List.map_map, List.length_map, Array.length_toList]
    rfl
  · split at h
    · rename_i h1
      cases h
      simp only [pvO, get_gt, h1, encV]
      exact ⟨_, _, rfl, fun hc => ⟨need_nd H _ hc, ALe.refl _⟩⟩
    · rename_i h1
      cases h
      simp only [pvO, get_gt, h1, encV]
      exact ⟨_, _, rfl, fun hc => ⟨need_nd H _ hc, ALe.refl _⟩⟩
    · rename_i h1
      cases h
      simp only [pvO, get_gt, h1, encV]
      exact ⟨_, _, rfl, fun hc => ⟨need_nd H _ hc, ALe.refl _⟩⟩
    · cases h
  · cases h

end Go.T
