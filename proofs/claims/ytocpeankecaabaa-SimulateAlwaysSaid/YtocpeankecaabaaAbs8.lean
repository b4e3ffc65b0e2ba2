/-
  The operations that make or write owned objects do what 'effW' says; regions that do not draw their order. No program is named.
-/
import Derived.Test.YtocpeankecaabaaAbs7
set_option linter.all false
namespace Go.Abs
open Go.RowKit

section
variable {P : Program} {tt : TT} {w0 : World}

theorem cells_of {w : World} {B : Nat} {σ τ : Tags} {A : AV} {v : Value} {sz : Nat} (hc : cellsOk sz A) (h : V w B σ A τ v) :
    v.cells.size = sz ∧ ∀ f, f < sz → ∃ u, v.cells[f]? = some u ∧ u.oneCell' = true ∧ V w B σ (A.cell f) τ u := by
  unfold cellsOk at hc
  split at hc
  · obtain ⟨l, rfl, hl, hcell⟩ := h
    subst hc
    exact ⟨hl, hcell⟩
  · obtain ⟨rfl, hs⟩ := hc
    have h1 := V.scalar hs h
    have hvc : v.cells = #[v] := by cases v <;> first | rfl | simp [Value.oneCell'] at h1
    have hcell : ∀ f, A.cell f = A := by intro f; cases A <;> first | rfl | (simp [AV.scalar] at hs)
    refine ⟨by rw [hvc]; rfl, fun f hf => ?_⟩
    have hf0 : f = 0 := by omega
    subst hf0
    exact ⟨v, by rw [hvc]; rfl, h1, by rw [hcell]; exact h⟩

theorem zero_cell {w : World} {B : Nat} {σ τ : Tags} {z : List Value} (h : AV.zeroOk z = true) {f : Nat} (hf : f < z.length) : ∃ u, z[f]? = some u ∧ u.oneCell' = true ∧ V w B σ ((z.map ofC).getD f .any) τ u := by
  obtain ⟨u, hu, h1, hV⟩ := (zero_cells (w := w) (B := B) (σ := σ) (τ := τ) h).2 f (ofC z[f]) (by simp [hf])
  refine ⟨u, by simpa using hu, h1, ?_⟩
  simpa [List.getD_eq_getElem?_getD, hf] using hV

theorem alloc_sound (hF : Fits P tt) {o : Oper} {s : AS} {a : Act} {w : World} {σ : Tags} (h : Rel w0 [] s a w σ) {t : TypeId} {x : TI} (ho : o.op = .alloc t) (ht : tt t = some x) (hz : x.zero.length = x.sz) (hz1 : AV.zeroOk x.zero = true)
    {K : AS → Prop} (hK : K ((s.push ⟨t, x.sz, 1, fun _ f => (x.zero.map ofC).getD f .any⟩).put o.dst (.ptr s.heap.length x.sz 0 0)))
    {Q : Exit → Act → World → Prop} {KK : Act → World → Prop} (hKK : ∀ s' a' w' σ', Rel w0 [] s' a' w' σ' → K s' → KK a' w') : o.wp P a w KK Q := by
  obtain ⟨i, d, z, h1, h2, h3, h4, h5, h6, h7⟩ := (hF t x ht).1
  have hrun : (execOp a.eval o).run P w = .ok (.value (.pointer (some ⟨w.heap.size, 0, none⟩))) (w.alloc (.cells z.cells t)) := by
    unfold execOp
    simp [ho, Instr.alloc, zeroValue, typeInfo, h1, h6, newVar, newRow]
  unfold Oper.wp
  rw [hrun]
  have hr := h.alloc ⟨t, x.sz, 1, fun _ f => (x.zero.map ofC).getD f .any⟩ z.cells (by simp only []; rw [← Array.length_toList, h7, hz]; omega) (by
    intro i f hi hf
    obtain rfl : i = 0 := by simp only [] at hi; omega
    obtain ⟨u, hu, h1', hV⟩ := zero_cell (w := w) (B := w0.heap.size) (σ := σ) (τ := σ) hz1 (f := f) (by rw [hz]; exact hf)
    refine ⟨u, ?_, h1', hV⟩
    rw [← Array.getElem?_toList, h7]
    simpa using hu)
  refine hKK _ _ _ _ (hr.put o.dst (A := .ptr s.heap.length x.sz 0 0) ⟨w.heap.size, ?_, by simp⟩) hK
  rw [← h.heaps.len, List.getElem?_append_right (Nat.le_refl _)]
  simp

theorem box_sound (hF : Fits P tt) {o : Oper} {s : AS} {a : Act} {w : World} {σ : Tags} (h : Rel w0 [] s a w σ) {t : TypeId} {x : Operand} {ti : TI} (ho : o.op = .box t x) (hn : (evO s.slots x).need) (hc : cellsOk ti.sz (evO s.slots x).get)
    {K : AS → Prop} (hK : K ((s.push ⟨t, ti.sz, 1, fun _ f => (evO s.slots x).get.cell f⟩).put o.dst (.ptr s.heap.length ti.sz 0 0)))
    {Q : Exit → Act → World → Prop} {KK : Act → World → Prop} (hKK : ∀ s' a' w' σ', Rel w0 [] s' a' w' σ' → K s' → KK a' w') : o.wp P a w KK Q := by
  have hv := (h.ev x).get hn
  obtain ⟨hsz, hcell⟩ := cells_of hc hv
  have hrun : (execOp a.eval o).run P w = .ok (.value (.pointer (some ⟨w.heap.size, 0, none⟩))) (w.alloc (.cells (a.eval x).cells t)) := by
    unfold execOp
    simp [ho, Instr.box, newVar, newRow]
  unfold Oper.wp
  rw [hrun]
  have hr := h.alloc ⟨t, ti.sz, 1, fun _ f => (evO s.slots x).get.cell f⟩ (a.eval x).cells (by simp only []; omega) (by
    intro i f hi hf
    obtain rfl : i = 0 := by simp only [] at hi; omega
    obtain ⟨u, hu, h1', hV⟩ := hcell f hf
    exact ⟨u, by simpa using hu, h1', hV⟩)
  refine hKK _ _ _ _ (hr.put o.dst (A := .ptr s.heap.length ti.sz 0 0) ⟨w.heap.size, ?_, by simp⟩) hK
  rw [← h.heaps.len, List.getElem?_append_right (Nat.le_refl _)]
  simp

theorem row_inj {sz i f i' f' : Nat} (hf : f < sz) (hf' : f' < sz) (h : i * sz + f = i' * sz + f') : i = i' ∧ f = f' := by
  have h1 : (i * sz + f) / sz = i := by rw [Nat.mul_comm, Nat.mul_add_div (by omega), Nat.div_eq_of_lt hf]; omega
  have h2 : (i' * sz + f') / sz = i' := by rw [Nat.mul_comm, Nat.mul_add_div (by omega), Nat.div_eq_of_lt hf']; omega
  have : i = i' := by rw [← h1, h, h2]
  subst this
  exact ⟨rfl, by omega⟩

theorem store_sound (hF : Fits P tt) {o : Oper} {s : AS} {a : Act} {w : World} {σ : Tags} (h : Rel w0 [] s a w σ) {t : TypeId} {p x : Operand} {ti : TI} {tg sz i f : Nat} {ob : AObj} (ho : o.op = .store t p x) (ht : tt t = some ti)
    (hp : (evO s.slots p).get = .ptr tg sz i f) (hob : s.heap[tg]? = some ob) (n1 : (evO s.slots p).need) (n2 : (evO s.slots x).need) (hc : cellsOk ti.sz (evO s.slots x).get) (hsz : ob.sz = sz) (hi : i < ob.n) (hf : f + ti.sz ≤ sz)
    {K : AS → Prop} (hK : K ({ s with heap := s.heap.set tg (storeV ti ob i f (evO s.slots x).get) }.put o.dst .any))
    {Q : Exit → Act → World → Prop} {KK : Act → World → Prop} (hKK : ∀ s' a' w' σ', Rel w0 [] s' a' w' σ' → K s' → KK a' w') : o.wp P a w KK Q := by
  subst hsz
  have hv := (h.ev x).get n2
  have hpv := (h.ev p).get n1
  rw [hp] at hpv
  obtain ⟨g, hg, hpp⟩ := hpv
  obtain ⟨hcs, hcell⟩ := cells_of hc hv
  obtain ⟨g', hg', hobj⟩ := h.heaps.obj tg ob hob
  rw [hg] at hg'
  injection hg' with hg'
  subst hg'
  obtain ⟨cur, hcur, hle, hcells⟩ := hobj
  have hone : ∀ v ∈ (a.eval x).cells.toList, v.oneCell' = true := by
    intro v hvm
    obtain ⟨j, hj⟩ := List.mem_iff_getElem?.1 hvm
    rw [Array.getElem?_toList] at hj
    have hjl : j < ti.sz := by
      rcases Nat.lt_or_ge j (a.eval x).cells.size with h' | h'
      · omega
      · rw [Array.getElem?_eq_none h'] at hj; cases hj
    obtain ⟨u, hu, h1, _⟩ := hcell j hjl
    rw [hu] at hj
    injection hj with hj
    subst hj
    exact h1
  have hlt : i * ob.sz + f + ti.sz ≤ cur.size := by
    have : (i + 1) * ob.sz ≤ ob.n * ob.sz := Nat.mul_le_mul_right _ hi
    rw [Nat.add_mul] at this
    omega
  have hst := run_storeCells_at P g (i * ob.sz + f) ob.ty (a.eval x).cells.toList 0 cur w hcur (by rw [Array.length_toList, hcs]; omega) hone
  have hrun : (execOp a.eval o).run P w = .ok .skip (w.setRow g (cur.toList.take (i * ob.sz + f + 0) ++ (a.eval x).cells.toList ++ cur.toList.drop (i * ob.sz + f + 0 + (a.eval x).cells.toList.length)).toArray) := by
    unfold execOp
    simp only [ho, Instr.storeAt, hpp, Instr.sureAddr, storeVar, Sem.run_bind, Sem.run_pure, Result.andThen_ok, run_sizeOf' hF ht, hcs, ne_eq, not_true, if_false, hst]
  simp only [Nat.add_zero, Array.length_toList, hcs] at hrun
  unfold Oper.wp
  rw [hrun]
  -- the new cells
  have key : ∀ j, (cur.toList.take (i * ob.sz + f) ++ (a.eval x).cells.toList ++ cur.toList.drop (i * ob.sz + f + ti.sz)).toArray[j]? =
      if i * ob.sz + f ≤ j ∧ j < i * ob.sz + f + ti.sz then (a.eval x).cells[j - (i * ob.sz + f)]? else cur[j]? := by
    intro j
    rw [List.getElem?_toArray, List.append_assoc]
    rcases Nat.lt_or_ge j (i * ob.sz + f) with h1 | h1
    · rw [List.getElem?_append_left (by simp; omega), List.getElem?_take, if_pos h1, Array.getElem?_toList, if_neg (by omega)]
    · rw [List.getElem?_append_right (by simp; omega)]
      have hl : (cur.toList.take (i * ob.sz + f)).length = i * ob.sz + f := by simp; omega
      rw [hl]
      rcases Nat.lt_or_ge j (i * ob.sz + f + ti.sz) with h2 | h2
      · rw [List.getElem?_append_left (by simp; omega), Array.getElem?_toList, if_pos ⟨h1, h2⟩]
      · rw [List.getElem?_append_right (by simp; omega), if_neg (by omega), List.getElem?_drop, Array.getElem?_toList]
        congr 1
        simp
        omega
  have hr := h.write (w' := w.setRow g (cur.toList.take (i * ob.sz + f) ++ (a.eval x).cells.toList ++ cur.toList.drop (i * ob.sz + f + ti.sz)).toArray) (o' := storeV ti ob i f (evO s.slots x).get) hob hg hcur (setRow_heap w g cur _ ob.ty _ hcur) rfl
    (by simp [hcs]; omega) (by simp) rfl rfl rfl (fun k hk => setRow_other w g k _ hk) (by simp only [storeV]; simp [hcs]; omega) (by
      intro i' f' hi' hf'
      simp only [storeV] at hi' hf' ⊢
      rw [key]
      by_cases hin : i' = i ∧ f ≤ f' ∧ f' < f + ti.sz
      · obtain ⟨rfl, hf1, hf2⟩ := hin
        rw [if_pos (by omega), if_pos ⟨rfl, hf1, hf2⟩]
        obtain ⟨u, hu, h1, hV⟩ := hcell (f' - f) (by omega)
        exact ⟨u, by rw [← hu]; congr 1; omega, h1, hV⟩
      · rw [if_neg, if_neg hin]
        · exact hcells i' f' hi' hf'
        · intro hcon
          apply hin
          have hd : i' * ob.sz + f' = i * ob.sz + (i' * ob.sz + f' - i * ob.sz) := by omega
          obtain ⟨e1, e2⟩ := row_inj hf' (show i' * ob.sz + f' - i * ob.sz < ob.sz by omega) hd
          exact ⟨e1, by omega, by omega⟩)
  exact hKK _ _ _ _ (hr.put o.dst (A := .any) (v := undef) trivial) hK

theorem madeCells_at (z : Array Value) (n sz i f : Nat) (hz : z.size = sz) (hf : f < sz) (hlt : i * sz + f < n) : (madeCells z n)[i * sz + f]? = z[f]? := by
  subst hz
  have : (i * z.size + f) % z.size = f := by rw [Nat.mul_comm, Nat.mul_add_mod, Nat.mod_eq_of_lt hf]
  simp [madeCells, hlt, this, hf]

theorem make_sound (hF : Fits P tt) {o : Oper} {s : AS} {a : Act} {w : World} {σ : Tags} (h : Rel w0 [] s a w σ) {t el : TypeId} {b1 b2 : Nat} {z1 : List Value} {l c : Operand} {ei : TI} {k1 k2 : IntKind} {lv cv : Int} (ho : o.op = .makeSlice t l c)
    (ht : tt t = some ⟨.slice el, b1, b2, z1⟩) (hel : tt el = some ei) (hl : (evO s.slots l).get = .int k1 lv) (hcv : (evO s.slots c).get = .int k2 cv) (n1 : (evO s.slots l).need) (n2 : (evO s.slots c).need) (h0 : 0 ≤ lv) (hlc : lv ≤ cv)
    (hby : (ei.bytes : Int) * cv ≤ 281474976710656) (h63 : cv ≤ 9223372036854775807) (hz : ei.zero.length = ei.sz) (hz1 : AV.zeroOk ei.zero = true)
    {K : AS → Prop} (hK : K ((s.push ⟨el, ei.sz, lv.toNat, fun _ f => (ei.zero.map ofC).getD f .any⟩).put o.dst (.own s.heap.length ei.sz lv.toNat)))
    {Q : Exit → Act → World → Prop} {KK : Act → World → Prop} (hKK : ∀ s' a' w' σ', Rel w0 [] s' a' w' σ' → K s' → KK a' w') : o.wp P a w KK Q := by
  obtain ⟨i, d, z, h1, h2, h3, h4, h5, h6, h7⟩ := (hF el ei hel).1
  have v1 := (h.ev l).get n1
  have v2 := (h.ev c).get n2
  rw [hl] at v1
  rw [hcv] at v2
  simp only [V, VX] at v1 v2
  have hr := run_make (P := P) w t el i z (und_slice hF ht) h1 h6 k1 k2 lv cv h0 hlc (by rw [h5]; exact hby) h63
  have hrun : (execOp a.eval o).run P w = .ok (.value (.slice (some ⟨w.heap.size, 0, none⟩) lv.toNat cv.toNat)) (w.alloc (.cells (madeCells z.cells (cv.toNat * i.size)) el)) := by
    unfold execOp
    simp only [ho, v1, v2]
    simp [hr]
  unfold Oper.wp
  rw [hrun]
  have hzs : z.cells.size = ei.sz := by rw [← Array.length_toList, h7, hz]
  have hms : (madeCells z.cells (cv.toNat * i.size)).size = cv.toNat * ei.sz := by rw [size_madeCells, h4]
  have hmul : lv.toNat * ei.sz ≤ cv.toNat * ei.sz := Nat.mul_le_mul_right _ (by omega)
  have hr := h.alloc ⟨el, ei.sz, lv.toNat, fun _ f => (ei.zero.map ofC).getD f .any⟩ (madeCells z.cells (cv.toNat * i.size)) (by rw [hms]; exact hmul) (by
    intro j f hj hf
    simp only [] at hj hf ⊢
    obtain ⟨u, hu, h1', hV⟩ := zero_cell (w := w) (B := w0.heap.size) (σ := σ) (τ := σ) hz1 (f := f) (by rw [hz]; exact hf)
    refine ⟨u, ?_, h1', hV⟩
    have : (j + 1) * ei.sz ≤ lv.toNat * ei.sz := Nat.mul_le_mul_right _ hj
    rw [Nat.add_mul] at this
    rw [madeCells_at z.cells _ ei.sz j f hzs hf (by rw [h4]; omega), ← Array.getElem?_toList, h7]
    exact hu)
  refine hKK _ _ _ _ (hr.put o.dst (A := .own s.heap.length ei.sz lv.toNat) (.inr ⟨w.heap.size, cv.toNat, _, el, ?_, rfl, by omega, by unfold maxLen; omega, heap_alloc_new w _, hms⟩)) hK
  rw [← h.heaps.len, List.getElem?_append_right (Nat.le_refl _)]
  simp

theorem buildSlice_raw (hF : Fits P tt) {o : Oper} {s : AS} {a : Act} {w : World} {σ : Tags} (h : Rel w0 [] s a w σ) {t el : TypeId} {b1 b2 : Nat} {z1 : List Value} {len : Nat} {ps : Array (Nat × Operand)} {ei : TI} {L : List AV} (ho : o.op = .buildSlice t len ps)
    (ht : tt t = some ⟨.slice el, b1, b2, z1⟩) (hel : tt el = some ei)
    (hL : fillL (fun i => some (i * ei.sz, ei.sz)) ((List.range (len * ei.sz)).map fun j => ofC (ei.zero.getD (j % ei.sz) undef)) (ps.toList.map fun p => (p.1, (evO s.slots p.2).get)) = some L)
    (hn : needs (evO s.slots) ps.toList) (hz : ei.zero.length = ei.sz) (hz1 : AV.zeroOk ei.zero = true) (hpos : 0 < ei.sz) (hcap : len * ei.sz ≤ 16777216)
    {Q : Exit → Act → World → Prop} {KK : Act → World → Prop} (hKK : ∀ cells', CellsRel w w0.heap.size σ σ cells' L → KK (a.put o.dst (.slice (some ⟨w.heap.size, 0, none⟩) len len)) (w.alloc (.cells cells' el))) : o.wp P a w KK Q := by
  obtain ⟨i, d, z, h1, h2, h3, h4, h5, h6, h7⟩ := (hF el ei hel).1
  have hzs : z.cells.size = ei.sz := by rw [← Array.length_toList, h7, hz]
  have hzero : ∀ j, j < ei.sz → z.cells[j]! = ei.zero.getD j undef := by
    intro j hj
    have hj' : j < z.cells.size := by omega
    have e1 : z.cells[j]? = ei.zero[j]? := by rw [← Array.getElem?_toList, h7]
    rw [List.getD_eq_getElem?_getD, ← e1]
    simp [hj']
  have hcr : CellsRel w w0.heap.size σ σ (if len * ei.sz = 0 then #[] else (Array.range (len * ei.sz)).map (z.cells[· % z.cells.size]!)) ((List.range (len * ei.sz)).map fun j => ofC (ei.zero.getD (j % ei.sz) undef)) := by
    refine ⟨by split <;> simp_all, fun j A hA => ?_⟩
    have hj : j < len * ei.sz := by
      rcases Nat.lt_or_ge j (len * ei.sz) with h' | h'
      · exact h'
      · rw [List.getElem?_eq_none (by simpa using h')] at hA; cases hA
    rw [List.getElem?_map, List.getElem?_range hj] at hA
    simp only [Option.map_some, Option.some.injEq] at hA
    subst hA
    have hm : j % ei.sz < ei.sz := Nat.mod_lt _ hpos
    rw [if_neg (by omega)]
    refine ⟨ei.zero.getD (j % ei.sz) undef, by simp [hj, hzs, hzero _ hm], ?_, V_ofC _ _ _ _ _⟩
    simp only [AV.zeroOk, List.all_eq_true] at hz1
    rw [List.getD_eq_getElem?_getD, List.getElem?_eq_getElem (by omega)]
    exact hz1 _ (List.getElem_mem (by omega))
  obtain ⟨cells', hfill, hrel⟩ := fillL_sound (ps.toList.map fun p => (p.1, (evO s.slots p.2).get)) (ps.toList.map fun p => (p.1, a.eval p.2)) _ _ L hcr (by simp) (by
    intro j p v hp hv
    rw [List.getElem?_map] at hp hv
    cases hq : ps.toList[j]? with
    | none => simp [hq] at hp
    | some q =>
      simp only [hq, Option.map_some, Option.some.injEq] at hp hv
      subst hp
      subst hv
      exact ⟨rfl, (h.ev q.2).get (hn q (List.mem_of_getElem? hq))⟩) hL
  have hLl : L.length = len * ei.sz := by rw [fillL_length _ _ _ hL]; simp
  have hrun : (execOp a.eval o).run P w = .ok (.value (.slice (some ⟨w.heap.size, 0, none⟩) len len)) (w.alloc (.cells cells' el)) := by
    unfold execOp
    simp only [ho, Instr.buildSlice, Sem.run_bind, run_underlying (und_slice hF ht), Result.andThen_ok, run_sizeOf' hF hel]
    rw [if_neg (by omega)]
    have hps : (ps.map fun x => (x.1, a.eval x.2)).toList = ps.toList.map fun p => (p.1, a.eval p.2) := by simp
    by_cases h0 : len * ei.sz = 0
    · simp only [h0, if_true] at hfill
      simp only [Sem.run_pure, Result.andThen_ok, pure_bind, Sem.run_bind, h0, if_true, hps]
      have : ((Array.range 0).map fun x => (#[] : Array Value)[x % (#[] : Array Value).size]!) = #[] := by simp [Array.range_zero']
      rw [this, hfill]
      simp [newRow]
    · simp only [h0, if_false] at hfill
      simp only [Sem.run_pure, Result.andThen_ok, pure_bind, Sem.run_bind, h0, if_false, hps, zeroValue, typeInfo, run_program, h1, h6, hfill]
      simp [newRow]
  unfold Oper.wp
  rw [hrun]
  exact hKK cells' hrel

theorem buildSlice_sound (hF : Fits P tt) {o : Oper} {s : AS} {a : Act} {w : World} {σ : Tags} (h : Rel w0 [] s a w σ) {t el : TypeId} {b1 b2 : Nat} {z1 : List Value} {len : Nat} {ps : Array (Nat × Operand)} {ei : TI} {L : List AV} (ho : o.op = .buildSlice t len ps)
    (ht : tt t = some ⟨.slice el, b1, b2, z1⟩) (hel : tt el = some ei)
    (hL : fillL (fun i => some (i * ei.sz, ei.sz)) ((List.range (len * ei.sz)).map fun j => ofC (ei.zero.getD (j % ei.sz) undef)) (ps.toList.map fun p => (p.1, (evO s.slots p.2).get)) = some L)
    (hn : needs (evO s.slots) ps.toList) (hz : ei.zero.length = ei.sz) (hz1 : AV.zeroOk ei.zero = true) (hpos : 0 < ei.sz) (hcap : len * ei.sz ≤ 16777216)
    {K : AS → Prop} (hK : K ((s.push ⟨el, ei.sz, len, fun i f => L.getD (i * ei.sz + f) .any⟩).put o.dst (.own s.heap.length ei.sz len)))
    {Q : Exit → Act → World → Prop} {KK : Act → World → Prop} (hKK : ∀ s' a' w' σ', Rel w0 [] s' a' w' σ' → K s' → KK a' w') : o.wp P a w KK Q := by
  refine buildSlice_raw hF h ho ht hel hL hn hz hz1 hpos hcap fun cells' hrel => ?_
  have hLl : L.length = len * ei.sz := by rw [fillL_length _ _ _ hL]; simp
  have hr := h.alloc ⟨el, ei.sz, len, fun i f => L.getD (i * ei.sz + f) .any⟩ cells' (by simp only []; rw [hrel.1, hLl]; exact Nat.le_refl _) (by
    intro j f hj hf
    simp only [] at hj hf ⊢
    have hlt : j * ei.sz + f < L.length := by
      have : (j + 1) * ei.sz ≤ len * ei.sz := Nat.mul_le_mul_right _ hj
      rw [Nat.add_mul] at this
      omega
    obtain ⟨u, hu, h1', hV⟩ := hrel.2 (j * ei.sz + f) L[j * ei.sz + f] (List.getElem?_eq_getElem hlt)
    exact ⟨u, hu, h1', by rw [List.getD_eq_getElem?_getD, List.getElem?_eq_getElem hlt]; exact hV⟩)
  refine hKK _ _ _ _ (hr.put o.dst (A := .own s.heap.length ei.sz len) (.inr ⟨w.heap.size, len, _, el, ?_, rfl, Nat.le_refl _, ?_, heap_alloc_new w _, by rw [hrel.1, hLl]⟩)) hK
  · rw [← h.heaps.len, List.getElem?_append_right (Nat.le_refl _)]
    simp
  · unfold maxLen
    have : len * 1 ≤ len * ei.sz := Nat.mul_le_mul_left _ hpos
    omega

end
end Go.Abs
