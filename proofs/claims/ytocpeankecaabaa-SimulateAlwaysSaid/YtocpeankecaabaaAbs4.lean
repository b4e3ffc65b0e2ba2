/-
  More of the operations that write no owned object (slices of slices, structs written out), and the one theorem over all of them. No program is named.
-/
import Derived.Test.YtocpeankecaabaaAbs3
set_option linter.all false
namespace Go.Abs
open Go.RowKit

section
variable {P : Program} {tt : TT}

theorem run_sliceBounds {w : World} {n c : Nat} {lo hi : Option Value} {l h : Option Int} (hl : lo.map (fun v => ∃ k i, v = .int k i ∧ l = some i) |>.getD (l = none))
    (hh : hi.map (fun v => ∃ k i, v = .int k i ∧ h = some i) |>.getD (h = none)) (h0 : 0 ≤ l.getD 0) (h1 : l.getD 0 ≤ h.getD n) (h2 : h.getD n ≤ n) (hn : n ≤ c) :
    (Instr.sliceBounds true n c lo hi none).run P w = .ok ((l.getD 0).toNat, (h.getD n).toNat, c) w := by
  have hb : ∀ (k : IntKind) (i : Int) (y : Nat) (code : BoundsCode), 0 ≤ i → i ≤ y → (Instr.sliceBound (.int k i) y code).run P w = .ok i.toNat w := by
    intro k i y code hi0 hi1
    simp [Instr.sliceBound, asIntOf, hi0, hi1]
  cases lo with
  | none =>
    simp only [Option.map_none, Option.getD_none] at hl
    subst hl
    cases hi with
    | none =>
      simp only [Option.map_none, Option.getD_none] at hh
      subst hh
      simp [Instr.sliceBounds]
    | some v =>
      simp only [Option.map_some, Option.getD_some] at hh
      obtain ⟨k, i, rfl, rfl⟩ := hh
      simp only [Option.getD_some, Option.getD_none] at h0 h1 h2 ⊢
      simp [Instr.sliceBounds, hb k i c _ (by omega) (by omega)]
  | some v =>
    simp only [Option.map_some, Option.getD_some] at hl
    obtain ⟨k, i, rfl, rfl⟩ := hl
    cases hi with
    | none =>
      simp only [Option.map_none, Option.getD_none] at hh
      subst hh
      simp only [Option.getD_some, Option.getD_none] at h0 h1 h2 ⊢
      simp [Instr.sliceBounds, hb k i n _ (by omega) (by omega)]
    | some v' =>
      simp only [Option.map_some, Option.getD_some] at hh
      obtain ⟨k', i', rfl, rfl⟩ := hh
      simp only [Option.getD_some] at h0 h1 h2 ⊢
      simp [Instr.sliceBounds, hb k' i' c _ (by omega) (by omega), hb k i i'.toNat _ (by omega) (by omega)]

def OptV (w : World) (B : Nat) (σ : Tags) : Option AV → Option Value → Prop
  | some A, some v => V w B σ A σ v
  | none, none => True
  | _, _ => False

theorem optI_spec {w : World} {B : Nat} {σ : Tags} {X : Option AV} {x : Option Value} {l : Option Int} (h : optI X = some l) (hX : OptV w B σ X x) :
    (x.map (fun v => ∃ k i, v = .int k i ∧ l = some i)).getD (l = none) := by
  cases X with
  | none =>
    cases x with
    | none => simp only [optI, Option.some.injEq] at h; simpa using h.symm
    | some v => exact hX.elim
  | some A =>
    cases x with
    | none => exact hX.elim
    | some v =>
      cases A <;> simp only [optI, Option.some.injEq, reduceCtorEq] at h
      subst h
      simp only [OptV, V, VX] at hX
      subst hX
      exact ⟨_, _, rfl, rfl⟩

theorem sliceV_sound (hF : Fits P tt) {w : World} {B : Nat} {σ : Tags} {t : TypeId} {X : AV} {x : Value} {lo hi : Option AV} {vl vh : Option Value} (hX : V w B σ X σ x)
    (hlo : OptV w B σ lo vl) (hhi : OptV w B σ hi vh)
    {C : Prop} {A : AV} (h : sliceV tt t X lo hi = some (C, A)) (hC : C) : ∃ v, (Instr.sliceAt t x vl vh none).run P w = .ok v w ∧ V w B σ A σ v := by
  unfold sliceV at h
  split at h
  · rename_i el a b z ht
    have hu := und_slice hF ht
    split at h
    · rename_i ei l hh hel hl0 hh0
      have e1 := optI_spec hl0 hlo
      have e2 := optI_spec hh0 hhi
      split at h
      · rename_i fr sz n cs
        simp only [Option.some.injEq, Prod.mk.injEq] at h
        obtain ⟨rfl, rfl⟩ := h
        obtain ⟨rfl, h0, h1, h2⟩ := hC
        obtain ⟨ad, c, rfl, hn, hcm, hr⟩ := hX
        have hb := run_sliceBounds (P := P) (w := w) e1 e2 h0 h1 h2 hn
        clear e1 e2
        generalize l.getD 0 = lz at h0 h1 hb ⊢
        generalize hh.getD n = hz at h1 h2 hb ⊢
        refine ⟨.slice (if c = lz.toNat then ad else ad.map (·.add (lz.toNat * ei.sz))) (hz.toNat - lz.toNat) (c - lz.toNat), ?_, _, _, rfl, by omega, by omega, fun hpos => ?_⟩
        · simp [Instr.sliceAt, Instr.slice, run_underlying hu, hb, run_sizeOf' hF hel]
        · obtain ⟨bb, o, rfl, hbb, hs, hfr, hcell⟩ := hr (by omega)
          clear hr
          rw [if_neg (by omega)]
          refine ⟨bb, o + lz.toNat * ei.sz, by simp [Addr.add_lit], hbb, hs, hfr, fun i f hi hf => ?_⟩
          obtain ⟨u, hu', h1', hV⟩ := hcell (lz.toNat + i) f (by omega) hf
          refine ⟨u, ?_, h1', hV⟩
          rw [← hu']
          congr 2
          rw [Nat.add_mul]
          omega
      · rename_i tg sz n
        simp only [Option.some.injEq, Prod.mk.injEq] at h
        obtain ⟨rfl, rfl⟩ := h
        obtain ⟨rfl, h0, h1, h2⟩ := hC
        rcases hX with ⟨rfl, rfl⟩ | ⟨g, c, cur, e, hg, rfl, hn, hcm, hcur⟩
        · have hb := run_sliceBounds (P := P) (w := w) (n := 0) (c := 0) e1 e2 h0 h1 h2 (Nat.le_refl _)
          refine ⟨.slice none ((hh.getD (0 : Nat)).toNat - (l.getD 0).toNat) 0, ?_, none, 0, rfl, by omega, by unfold maxLen; omega, fun hpos => ?_⟩
          · simp [Instr.sliceAt, Instr.slice, run_underlying hu, hb, run_sizeOf' hF hel]
          · omega
        · have hb := run_sliceBounds (P := P) (w := w) e1 e2 h0 h1 h2 hn
          refine ⟨.slice (if c = (l.getD 0).toNat then some ⟨g, 0, none⟩ else (some (⟨g, 0, none⟩ : Addr)).map (·.add ((l.getD 0).toNat * ei.sz))) ((hh.getD n).toNat - (l.getD 0).toNat) (c - (l.getD 0).toNat), ?_, _, _, rfl, by omega, by omega, fun hpos => ?_⟩
          · simp [Instr.sliceAt, Instr.slice, run_underlying hu, hb, run_sizeOf' hF hel]
          · rw [if_neg (by omega)]
            exact ⟨g, hg, by simp [Addr.add_lit]⟩
      · rename_i tg sz off n
        simp only [Option.some.injEq, Prod.mk.injEq] at h
        obtain ⟨rfl, rfl⟩ := h
        obtain ⟨rfl, h0, h1, h2⟩ := hC
        obtain ⟨ad, c, rfl, hn, hcm, hr⟩ := hX
        have hb := run_sliceBounds (P := P) (w := w) e1 e2 h0 h1 h2 hn
        clear e1 e2
        generalize l.getD 0 = lz at h0 h1 hb ⊢
        generalize hh.getD n = hz at h1 h2 hb ⊢
        refine ⟨.slice (if c = lz.toNat then ad else ad.map (·.add (lz.toNat * ei.sz))) (hz.toNat - lz.toNat) (c - lz.toNat), ?_, _, _, rfl, by omega, by omega, fun hpos => ?_⟩
        · simp [Instr.sliceAt, Instr.slice, run_underlying hu, hb, run_sizeOf' hF hel]
        · obtain ⟨g, hg, rfl⟩ := hr (by omega)
          rw [if_neg (by omega)]
          exact ⟨g, hg, by simp [Addr.add_lit, Nat.add_mul]⟩
      · cases h
    · cases h
  · cases h

/-- Cells, one by one. -/
def CellsRel (w : World) (B : Nat) (σ τ : Tags) (cells : Array Value) (L : List AV) : Prop :=
  cells.size = L.length ∧ ∀ (j : Nat) A, L[j]? = some A → ∃ u, cells[j]? = some u ∧ u.oneCell' = true ∧ V w B σ A τ u

theorem foldl_cells (off : Nat) : ∀ (l : List Value) (k : Nat) (cs : Array Value),
    ((l.zipIdx k).foldl (fun cs p => cs.setIfInBounds (off + p.2) p.1) cs).size = cs.size ∧
    ∀ j, ((l.zipIdx k).foldl (fun cs p => cs.setIfInBounds (off + p.2) p.1) cs)[j]? = if off + k ≤ j ∧ j < off + k + l.length ∧ j < cs.size then l[j - (off + k)]? else cs[j]? := by
  intro l
  induction l with
  | nil => intro k cs; exact ⟨rfl, fun j => by rw [if_neg (by simp; omega)]; rfl⟩
  | cons c l ih =>
    intro k cs
    simp only [List.zipIdx_cons, List.foldl_cons]
    obtain ⟨h1, h2⟩ := ih (k + 1) (cs.setIfInBounds (off + k) c)
    refine ⟨by rw [h1]; simp, fun j => ?_⟩
    rw [h2 j]
    simp only [Array.size_setIfInBounds, List.length_cons]
    by_cases hj : off + k = j
    · subst hj
      rw [if_neg (by omega)]
      by_cases hs : off + k < cs.size
      · rw [if_pos (by omega), Array.getElem?_setIfInBounds_self_of_lt hs]; simp
      · rw [if_neg (by omega), Array.getElem?_eq_none (by simp; omega), Array.getElem?_eq_none (by omega)]
    · rw [Array.getElem?_setIfInBounds_ne hj]
      by_cases hc : off + (k + 1) ≤ j ∧ j < off + (k + 1) + l.length ∧ j < cs.size
      · rw [if_pos hc, if_pos (by omega)]
        rw [show j - (off + k) = (j - (off + (k + 1))) + 1 from by omega, List.getElem?_cons_succ]
      · rw [if_neg hc, if_neg (by omega)]

theorem putCells_sound {w : World} {B : Nat} {σ τ : Tags} {cells : Array Value} {L L' : List AV} {off sz : Nat} {A : AV} {v : Value} (hc : CellsRel w B σ τ cells L) (hA : V w B σ A τ v)
    (h : putCells L off sz A = some L') : v.cells.size = sz ∧ off + v.cells.size ≤ cells.size ∧
      CellsRel w B σ τ (v.cells.zipIdx.foldl (fun cs p => cs.setIfInBounds (off + p.2) p.1) cells) L' := by
  have key : ∀ j, (v.cells.zipIdx.foldl (fun cs p => cs.setIfInBounds (off + p.2) p.1) cells)[j]? = (if off ≤ j ∧ j < off + v.cells.size ∧ j < cells.size then v.cells[j - off]? else cells[j]?) := by
    intro j
    have := (foldl_cells off v.cells.toList 0 cells).2 j
    simp only [Nat.add_zero, Array.length_toList] at this
    rw [← Array.foldl_toList, Array.toList_zipIdx, this, Array.getElem?_toList]
  have ksz : (v.cells.zipIdx.foldl (fun cs p => cs.setIfInBounds (off + p.2) p.1) cells).size = cells.size := by
    have := (foldl_cells off v.cells.toList 0 cells).1
    rw [← Array.foldl_toList, Array.toList_zipIdx, this]
  have scal : A.scalar = true ∧ sz = 1 ∧ off < L.length → L' = L.set off A → v.cells.size = sz ∧ off + v.cells.size ≤ cells.size ∧
      CellsRel w B σ τ (v.cells.zipIdx.foldl (fun cs p => cs.setIfInBounds (off + p.2) p.1) cells) L' := by
    rintro ⟨hs, rfl, hlt⟩ rfl
    have h1 := V.scalar hs hA
    have hvc : v.cells = #[v] := by cases v <;> first | rfl | simp [Value.oneCell'] at h1
    rw [hvc] at key ksz ⊢
    refine ⟨rfl, by simp; rw [hc.1]; omega, by rw [ksz, hc.1]; simp, fun j B hB => ?_⟩
    rw [key j]
    by_cases hj : off = j
    · subst hj
      rw [List.getElem?_set_self hlt] at hB
      injection hB with hB
      subst hB
      refine ⟨v, ?_, h1, hA⟩
      rw [if_pos ⟨Nat.le_refl _, by simp, by rw [hc.1]; exact hlt⟩]
      simp
    · rw [List.getElem?_set_ne hj] at hB
      rw [if_neg (by simp; omega)]
      exact hc.2 j B hB
  unfold putCells at h
  split at h
  · rename_i k cs
    obtain ⟨l, rfl, hl, hcell⟩ := hA
    split at h
    · rename_i hcond
      obtain ⟨rfl, hle⟩ := hcond
      injection h with h
      subst h
      have key : ∀ j, (l.zipIdx.foldl (fun cs p => cs.setIfInBounds (off + p.2) p.1) cells)[j]? = (if off ≤ j ∧ j < off + l.size ∧ j < cells.size then l[j - off]? else cells[j]?) := key
      have ksz : (l.zipIdx.foldl (fun cs p => cs.setIfInBounds (off + p.2) p.1) cells).size = cells.size := ksz
      show l.size = k ∧ off + l.size ≤ cells.size ∧ CellsRel w B σ τ (l.zipIdx.foldl (fun cs p => cs.setIfInBounds (off + p.2) p.1) cells) _
      refine ⟨hl, by rw [hl, hc.1]; exact hle, by rw [ksz, hc.1]; simp, fun j B hB => ?_⟩
      rw [key j]
      have hj : j < L.length := by
        rcases Nat.lt_or_ge j L.length with h' | h'
        · exact h'
        · rw [List.getElem?_eq_none (by simpa using h')] at hB; cases hB
      rw [List.getElem?_map, List.getElem?_range hj] at hB
      simp only [Option.map_some, Option.some.injEq] at hB
      by_cases hin : off ≤ j ∧ j < off + k
      · rw [if_pos hin] at hB
        subst hB
        rw [if_pos (by rw [hl, hc.1]; omega)]
        exact hcell (j - off) (by omega)
      · rw [if_neg hin] at hB
        subst hB
        rw [if_neg (by rw [hl]; omega)]
        exact hc.2 j _ (by rw [List.getD_eq_getElem?_getD, List.getElem?_eq_getElem hj]; rfl)
    · cases h
  · split at h
    · rename_i hcond
      injection h with h
      exact scal hcond h.symm
    · cases h

theorem fillL_sound {w : World} {B : Nat} {σ τ : Tags} {place : Nat → Option (Nat × Nat)} : ∀ (ps : List (Nat × AV)) (vs : List (Nat × Value)) (cells : Array Value) (L L' : List AV), CellsRel w B σ τ cells L →
    vs.length = ps.length → (∀ (j : Nat) p v, ps[j]? = some p → vs[j]? = some v → p.1 = v.1 ∧ V w B σ p.2 τ v.2) → fillL place L ps = some L' →
    ∃ cells', Instr.fill place cells vs = some cells' ∧ CellsRel w B σ τ cells' L' := by
  intro ps
  induction ps with
  | nil =>
    intro vs cells L L' hc hlen _ h
    have : vs = [] := List.eq_nil_of_length_eq_zero (by simpa using hlen)
    subst this
    simp only [fillL, Option.some.injEq] at h
    subst h
    exact ⟨cells, rfl, hc⟩
  | cons p ps ih =>
    intro vs cells L L' hc hlen hv h
    obtain ⟨i, A⟩ := p
    cases vs with
    | nil => simp at hlen
    | cons q vs =>
      obtain ⟨i', v⟩ := q
      obtain ⟨rfl, hA⟩ := hv 0 _ _ rfl rfl
      simp only [fillL] at h
      split at h
      · rename_i off sz hp
        split at h
        · rename_i L1 hL1
          obtain ⟨h1, h2, h3⟩ := putCells_sound (v := v) hc hA hL1
          obtain ⟨cells', h4, h5⟩ := ih vs _ L1 L' h3 (by simpa using hlen) (fun j p v hj hj' => hv (j + 1) p v (by simpa using hj) (by simpa using hj')) h
          refine ⟨cells', ?_, h5⟩
          simp only [Instr.fill]
          rw [show place i = some (off, sz) from hp]
          simp only []
          rw [if_neg (by simp only [Bool.or_eq_true, decide_eq_true_eq, ne_eq]; omega)]
          exact h4
        · cases h
      · cases h

theorem run_mapM_list {α β : Type} {w : World} (f : α → Sem β) (g : α → β) : ∀ l : List α, (∀ x ∈ l, (f x).run P w = .ok (g x) w) → (l.mapM f).run P w = .ok (l.map g) w
  | [], _ => by simp
  | x :: l, h => by
    have ih := run_mapM_list f g l (fun y hy => h y (List.mem_cons_of_mem _ hy))
    simp only [List.mapM_cons, Sem.run_bind, h x (List.mem_cons_self ..), Result.andThen_ok, ih, Sem.run_pure, List.map_cons]

theorem placesL_sound (hF : Fits P tt) : ∀ (fs : List Field) (pl : List (Nat × Nat)) (w : World), placesL tt (fs.map fun f => (f.offset, f.type)) = some pl →
    (fs.mapM (fun f => (do pure (f.offset, ← sizeOf f.type) : Sem (Nat × Nat)))).run P w = .ok pl w := by
  intro fs
  induction fs with
  | nil => intro pl w h; simp only [List.map_nil, placesL, Option.some.injEq] at h; subst h; simp
  | cons f fs ih =>
    intro pl w h
    simp only [List.map_cons, placesL] at h
    split at h
    · rename_i x l hx hl
      injection h with h
      subst h
      simp only [List.mapM_cons, Sem.run_bind, run_sizeOf' hF hx, Result.andThen_ok, Sem.run_pure, ih l w hl]
    · cases h

theorem zero_cells {w : World} {B : Nat} {σ τ : Tags} {z : List Value} (h : AV.zeroOk z = true) : CellsRel w B σ τ z.toArray (z.map ofC) := by
  refine ⟨by simp, fun j A hA => ?_⟩
  rw [List.getElem?_map] at hA
  cases hz : z[j]? with
  | none => simp [hz] at hA
  | some v =>
    simp only [hz, Option.map_some, Option.some.injEq] at hA
    subst hA
    refine ⟨v, by simpa using hz, ?_, V_ofC w B σ τ v⟩
    simp only [AV.zeroOk, List.all_eq_true] at h
    exact h v (List.mem_of_getElem? hz)

theorem CellsRel.agg {w : World} {B : Nat} {σ τ : Tags} {cells : Array Value} {L : List AV} {k : Nat} (h : CellsRel w B σ τ cells L) (hk : L.length = k) : V w B σ (.agg k (fun j => L.getD j .any)) τ (.agg cells) :=
  ⟨cells, rfl, h.1.trans hk, fun j hj => by
    have hj' : j < L.length := by omega
    obtain ⟨u, hu, h1, hV⟩ := h.2 j L[j] (List.getElem?_eq_getElem hj')
    exact ⟨u, hu, h1, by show V w B σ (L.getD j .any) τ u; rw [List.getD_eq_getElem?_getD, List.getElem?_eq_getElem hj']; exact hV⟩⟩

theorem putCells_length {L L' : List AV} {off sz : Nat} {A : AV} (h : putCells L off sz A = some L') : L'.length = L.length := by
  unfold putCells at h
  split at h <;> split at h <;> cases h <;> simp

theorem fillL_length {place : Nat → Option (Nat × Nat)} : ∀ (ps : List (Nat × AV)) (L L' : List AV), fillL place L ps = some L' → L'.length = L.length := by
  intro ps
  induction ps with
  | nil => intro L L' h; simp only [fillL, Option.some.injEq] at h; subst h; rfl
  | cons p ps ih =>
    intro L L' h
    obtain ⟨i, A⟩ := p
    simp only [fillL] at h
    split at h
    · split at h
      · rename_i L1 hL1
        rw [ih L1 L' h, putCells_length hL1]
      · cases h
    · cases h

theorem buildV_sound (hF : Fits P tt) {w : World} {B : Nat} {σ : Tags} {t : TypeId} {ps : List (Nat × AV)} {vs : List (Nat × Value)} (hlen : vs.length = ps.length)
    (hv : ∀ (j : Nat) p v, ps[j]? = some p → vs[j]? = some v → p.1 = v.1 ∧ V w B σ p.2 σ v.2) {C : Prop} {A : AV} (h : buildV tt t ps = some (C, A)) (hC : C) :
    ∃ v, (Instr.build t vs.toArray).run P w = .ok v w ∧ V w B σ A σ v := by
  unfold buildV at h
  split at h
  · rename_i fs sz by_ z ht
    obtain ⟨F, hu, hf⟩ := und_struct hF ht
    obtain ⟨i, d, zv, h1, h2, h3, h4, h5, h6, h7⟩ := (hF t _ ht).1
    split at h
    · rename_i pl hpl
      split at h
      · rename_i L hL
        simp only [Option.some.injEq, Prod.mk.injEq] at h
        obtain ⟨rfl, rfl⟩ := h
        obtain ⟨hz, hz1⟩ := hC
        have hcr : CellsRel w B σ σ zv.cells (z.map ofC) := by
          have := zero_cells (w := w) (B := B) (σ := σ) (τ := σ) hz1
          rw [show zv.cells = z.toArray from by rw [← show zv.cells.toList = z from h7]]
          exact this
        obtain ⟨cells', hfill, hrel⟩ := fillL_sound ps vs zv.cells (z.map ofC) L hcr hlen hv hL
        have hplaces := placesL_sound hF F.toList pl w (by rw [hf]; exact hpl)
        refine ⟨.agg cells', ?_, hrel.agg (by rw [fillL_length _ _ _ hL]; simpa using hz)⟩
        have harr : (F.mapM (fun f => (do pure (f.offset, ← sizeOf f.type) : Sem (Nat × Nat)))).run P w = .ok pl.toArray w := by
          rw [Array.mapM_eq_mapM_toList, map_eq_pure_bind, Sem.run_bind, hplaces]
          rfl
        simp only [Instr.build, Sem.run_bind, zeroValue, typeInfo, run_program, Result.andThen_ok, h1, Sem.run_pure, h6, run_underlying hu, harr]
        simp [hfill]
      · cases h
    · cases h
  · rename_i n el sz by_ z ht
    have hu := und_arr hF ht
    obtain ⟨i, d, zv, h1, h2, h3, h4, h5, h6, h7⟩ := (hF t _ ht).1
    split at h
    · rename_i ei hel
      split at h
      · rename_i L hL
        simp only [Option.some.injEq, Prod.mk.injEq] at h
        obtain ⟨rfl, rfl⟩ := h
        obtain ⟨hz, hz1⟩ := hC
        have hcr : CellsRel w B σ σ zv.cells (z.map ofC) := by
          have := zero_cells (w := w) (B := B) (σ := σ) (τ := σ) hz1
          rw [show zv.cells = z.toArray from by rw [← show zv.cells.toList = z from h7]]
          exact this
        obtain ⟨cells', hfill, hrel⟩ := fillL_sound ps vs zv.cells (z.map ofC) L hcr hlen hv hL
        refine ⟨.agg cells', ?_, hrel.agg (by rw [fillL_length _ _ _ hL]; simpa using hz)⟩
        simp [Instr.build, zeroValue, typeInfo, h1, h6, run_underlying hu, run_sizeOf' hF hel, hfill]
      · cases h
    · cases h
  · cases h

/-- The operation o, in whatever world in which its operands are as e says and the owned objects as H says: it yields a value of which A tells, and writes nothing that was there. -/
def OpOK (P : Program) (o : Oper) (H : List AObj) (e : Operand → AV) (A : AV) : Prop :=
  ∀ (a : Act) (w : World) (B : Nat) (σ : Tags) (Q : Exit → Act → World → Prop) (K : Act → World → Prop), Heaps w B σ H → (∀ x ∈ o.op.operands, V w B σ (e x) σ (a.eval x)) →
    (∀ v w', Below w.heap.size w w' → V w' B σ A σ v → K (a.put o.dst v) w') → o.wp P a w K Q

theorem OpOK.of_run {o : Oper} {H : List AObj} {e : Operand → AV} {A : AV}
    (h : ∀ (a : Act) (w : World) (B : Nat) (σ : Tags), Heaps w B σ H → (∀ x ∈ o.op.operands, V w B σ (e x) σ (a.eval x)) → ∃ v, (execOp a.eval o).run P w = .ok (.value v) w ∧ V w B σ A σ v) : OpOK P o H e A := by
  intro a w B σ Q K hH hx hK
  obtain ⟨v, hr, hV⟩ := h a w B σ hH hx
  unfold Oper.wp
  rw [hr]
  exact hK v w (Below.refl _ _) hV

theorem both_some {e : Operand → AV} {x y : Operand} {r : Option (Prop × AV)} {C : Prop} {A : AV} (h : both e x y r = some (C, A)) : ∃ C', r = some (C', A) ∧ C = ((e x).need ∧ (e y).need ∧ C') := by
  unfold both at h
  split at h
  · rename_i C' A'
    simp only [Option.some.injEq, Prod.mk.injEq] at h
    obtain ⟨rfl, rfl⟩ := h
    exact ⟨C', rfl, rfl⟩
  · cases h

theorem one_some {e : Operand → AV} {x : Operand} {r : Option (Prop × AV)} {C : Prop} {A : AV} (h : one e x r = some (C, A)) : ∃ C', r = some (C', A) ∧ C = ((e x).need ∧ C') := by
  unfold one at h
  split at h
  · rename_i C' A'
    simp only [Option.some.injEq, Prod.mk.injEq] at h
    obtain ⟨rfl, rfl⟩ := h
    exact ⟨C', rfl, rfl⟩
  · cases h

theorem run_v {w : World} {s : Sem Value} {v : Value} (h : s.run P w = .ok v w) : (do pure (Next.value (← s)) : Sem Next).run P w = .ok (.value v) w := by simp [h]

set_option maxHeartbeats 1000000 in
theorem pvO_sound (hF : Fits P tt) {o : Oper} {H : List AObj} {e : Operand → AV} {C : Prop} {A : AV} (h : pvO tt H e o.op = some (C, A)) (hC : C) : OpOK P o H e A := by
  refine OpOK.of_run fun a w B σ hH hx => ?_
  obtain ⟨dst, op, type, pos, after, guard⟩ := o
  simp only at h hx ⊢
  unfold execOp
  simp only
  unfold pvO at h
  split at h
  · rename_i x
    simp only [Option.some.injEq, Prod.mk.injEq] at h
    obtain ⟨_, rfl⟩ := h
    exact ⟨_, by simp, hx x (by simp [Op.operands])⟩
  · rename_i x
    simp only [Option.some.injEq, Prod.mk.injEq] at h
    obtain ⟨_, rfl⟩ := h
    exact ⟨_, by simp, hx x (by simp [Op.operands])⟩
  · rename_i c x y
    have hc := hx c (by simp [Op.operands])
    have h1 := hx x (by simp [Op.operands])
    have h2 := hx y (by simp [Op.operands])
    split at h
    · rename_i g hg
      simp only [Option.some.injEq, Prod.mk.injEq] at h
      obtain ⟨rfl, rfl⟩ := h
      obtain ⟨n1, n2, n3⟩ := hC
      have hcv := hc.get n1
      rw [hg] at hcv
      simp only [V, VX] at hcv
      refine ⟨if g = true then a.eval x else a.eval y, by simp [hcv, asBool], V_pickV (fun hgt => h1.get (n2 hgt)) (fun hgf => h2.get (n3 hgf))⟩
    · cases h
  · rename_i op t x y ty
    obtain ⟨C', hb, rfl⟩ := both_some h
    obtain ⟨n1, n2, hC'⟩ := hC
    obtain ⟨r, hr, hV⟩ := binV_sound hF (x := x) (y := y) ((hx x (by simp [Op.operands])).get n1) ((hx y (by simp [Op.operands])).get n2) hb hC'
    exact ⟨r, run_v hr, hV⟩
  · rename_i op t x
    obtain ⟨C', hb, rfl⟩ := one_some h
    obtain ⟨n1, hC'⟩ := hC
    obtain ⟨r, hr, hV⟩ := unV_sound (P := P) ((hx x (by simp [Op.operands])).get n1) hb hC'
    exact ⟨r, run_v hr, hV⟩
  · rename_i src dst' x
    obtain ⟨C', hb, rfl⟩ := one_some h
    obtain ⟨n1, hC'⟩ := hC
    obtain ⟨r, hr, hV⟩ := convV_sound hF ((hx x (by simp [Op.operands])).get n1) hb hC'
    exact ⟨r, run_v hr, hV⟩
  · rename_i t x
    obtain ⟨C', hb, rfl⟩ := one_some h
    obtain ⟨n1, hC'⟩ := hC
    obtain ⟨r, hr, hV⟩ := loadV_sound hF hH ((hx x (by simp [Op.operands])).get n1) hb hC'
    exact ⟨r, run_v hr, hV⟩
  · rename_i s x f
    obtain ⟨C', hb, rfl⟩ := one_some h
    obtain ⟨n1, hC'⟩ := hC
    obtain ⟨r, hr, hV⟩ := faddrV_sound hF ((hx x (by simp [Op.operands])).get n1) hb hC'
    exact ⟨r, run_v hr, hV⟩
  · rename_i s x f
    obtain ⟨C', hb, rfl⟩ := one_some h
    obtain ⟨n1, hC'⟩ := hC
    obtain ⟨r, hr, hV⟩ := fieldV_sound hF ((hx x (by simp [Op.operands])).get n1) hb hC'
    exact ⟨r, run_v hr, hV⟩
  · rename_i t x y
    obtain ⟨C', hb, rfl⟩ := both_some h
    obtain ⟨n1, n2, hC'⟩ := hC
    obtain ⟨r, hr, hV⟩ := iaddrV_sound hF ((hx x (by simp [Op.operands])).get n1) ((hx y (by simp [Op.operands])).get n2) hb hC'
    exact ⟨r, run_v hr, hV⟩
  · rename_i t x y
    obtain ⟨C', hb, rfl⟩ := both_some h
    obtain ⟨n1, n2, hC'⟩ := hC
    obtain ⟨r, hr, hV⟩ := indexV_sound hF ((hx x (by simp [Op.operands])).get n1) ((hx y (by simp [Op.operands])).get n2) hb hC'
    exact ⟨r, run_v hr, hV⟩
  · rename_i t x lo hi
    split at h
    · rename_i C' A' hb
      simp only [Option.some.injEq, Prod.mk.injEq] at h
      obtain ⟨rfl, rfl⟩ := h
      obtain ⟨n1, n2, n3, hC'⟩ := hC
      have ho : ∀ (z : Option Operand), needO e z → (∀ y, z = some y → y ∈ (Op.slice t x lo hi none).operands) → OptV w B σ (z.map fun y => (e y).get) (z.map a.eval) := by
        intro z hz hm
        cases z with
        | none => trivial
        | some y => exact (hx y (hm y rfl)).get hz
      obtain ⟨r, hr, hV⟩ := sliceV_sound hF ((hx x (by simp [Op.operands])).get n1) (ho lo n2 (by rintro y rfl; simp [Op.operands])) (ho hi n3 (by rintro y rfl; simp [Op.operands])) hb hC'
      exact ⟨r, run_v (by simpa using hr), hV⟩
    · cases h
  · rename_i x ix
    split at h
    · rename_i k cs hg
      simp only [Option.some.injEq, Prod.mk.injEq] at h
      obtain ⟨rfl, rfl⟩ := h
      obtain ⟨n1, hlt⟩ := hC
      have hv := (hx x (by simp [Op.operands])).get n1
      rw [hg] at hv
      obtain ⟨l, hl, hk, hc⟩ := hv
      obtain ⟨u, hu, hV⟩ := hc ix hlt
      exact ⟨u, run_v (by simp [Instr.extract, hl, hu]), hV⟩
    · cases h
  · rename_i x t
    obtain ⟨C', hb, rfl⟩ := one_some h
    obtain ⟨n1, hC'⟩ := hC
    obtain ⟨r, hr, hV⟩ := lenV_sound hF (ty := type) ((hx x (by simp [Op.operands, Call.operands])).get n1) hb
    refine ⟨r, ?_, hV⟩
    simp [resolve, invoke, builtin, hr]
  · rename_i x y ts
    split at h
    · rename_i k m k' n hg1 hg2
      simp only [Option.some.injEq, Prod.mk.injEq] at h
      obtain ⟨rfl, rfl⟩ := h
      have v1 := (hx x (by simp [Op.operands, Call.operands])).get hC.1
      have v2 := (hx y (by simp [Op.operands, Call.operands])).get hC.2
      rw [hg1] at v1
      rw [hg2] at v2
      simp only [V, VX] at v1 v2
      refine ⟨.int k (max m n), ?_, rfl⟩
      simp only [resolve, invoke, builtin, Sem.run_pure, List.map_toArray, List.map_cons, List.map_nil, v1, v2, Builtin.max_, List.foldlM_cons, List.foldlM_nil, Builtin.max2, pure_bind]
      congr 3
      rw [Int.max_def]
      split <;> split <;> omega
    · cases h
  · rename_i x y ts
    split at h
    · rename_i k m k' n hg1 hg2
      simp only [Option.some.injEq, Prod.mk.injEq] at h
      obtain ⟨rfl, rfl⟩ := h
      have v1 := (hx x (by simp [Op.operands, Call.operands])).get hC.1
      have v2 := (hx y (by simp [Op.operands, Call.operands])).get hC.2
      rw [hg1] at v1
      rw [hg2] at v2
      simp only [V, VX] at v1 v2
      refine ⟨.int k (min m n), ?_, rfl⟩
      simp only [resolve, invoke, builtin, Sem.run_pure, List.map_toArray, List.map_cons, List.map_nil, v1, v2, Builtin.min_, List.foldlM_cons, List.foldlM_nil, Builtin.min2, pure_bind]
      congr 3
      rw [Int.min_def]
      split <;> split <;> omega
    · cases h
  · rename_i t ps
    split at h
    · rename_i C' A' hb
      simp only [Option.some.injEq, Prod.mk.injEq] at h
      obtain ⟨rfl, rfl⟩ := h
      obtain ⟨n1, hC'⟩ := hC
      obtain ⟨r, hr, hV⟩ := buildV_sound hF (vs := ps.toList.map fun p => (p.1, a.eval p.2)) (w := w) (B := B) (σ := σ) (by simp) (by
        intro j p v hp hv
        rw [List.getElem?_map] at hp hv
        cases hq : ps.toList[j]? with
        | none => simp [hq] at hp
        | some q =>
          simp only [hq, Option.map_some, Option.some.injEq] at hp hv
          subst hp
          subst hv
          have hm : q ∈ ps.toList := List.mem_of_getElem? hq
          refine ⟨rfl, (hx q.2 ?_).get (n1 q hm)⟩
          simp only [Op.operands]
          exact List.mem_toArray.2 (List.mem_map.2 ⟨q, hm, rfl⟩)) hb hC'
      refine ⟨r, run_v ?_, hV⟩
      rw [← hr]
      congr 2
      apply Array.ext'
      simp
    · cases h
  · rename_i f caps
    simp only [Option.some.injEq, Prod.mk.injEq] at h
    obtain ⟨_, rfl⟩ := h
    refine ⟨.func (.func f) #[] (caps.map a.eval), by simp [Instr.makeFunc], caps.map a.eval, rfl, by simp, fun j hj => ?_⟩
    refine ⟨a.eval caps[j], by simp [hj], ?_⟩
    show V w B σ ((caps.toList.map e).getD j .any) σ (a.eval caps[j])
    have hj' : j < caps.toList.length := by simpa using hj
    rw [List.getD_eq_getElem?_getD, List.getElem?_map, List.getElem?_eq_getElem hj']
    simp only [Option.map_some, Option.getD_some, Array.getElem_toList]
    exact hx _ (by simp [Op.operands])
  · rename_i x
    have h0 := hx x (by simp [Op.operands])
    split at h <;> simp only [Option.some.injEq, Prod.mk.injEq, reduceCtorEq] at h <;> obtain ⟨rfl, rfl⟩ := h <;> rename_i hg <;> have hv := h0.get hC <;> rw [hg] at hv
    · obtain ⟨g, hg', hp⟩ := hv
      exact ⟨_, by simp [hp], g, hg', rfl⟩
    · obtain ⟨b, o, hp, hrest⟩ := hv
      exact ⟨_, by simp [hp], b, o, rfl, hrest⟩
    · obtain ⟨l, hp, hrest⟩ := hv
      exact ⟨_, by simp [hp], l, rfl, hrest⟩
  · cases h

end
end Go.Abs
