/-
  Regions that draw their order: one walk in the text's order serves every order. No program is named.
-/
import Derived.Test.YtocpeankecaabaaAbs9
set_option linter.all false
namespace Go.Abs
open Go.RowKit

section
variable {P : Program} {tt : TT} {w0 : World}

theorem pvO_congr {H : List AObj} {e e' : Operand → AV} : ∀ (op : Op), (∀ x ∈ op.operands, e x = e' x) → pvO tt H e op = pvO tt H e' op := by
  intro op h
  unfold pvO
  split
  · rename_i x; simp only [h x (by simp [Op.operands])]
  · rename_i x; simp only [h x (by simp [Op.operands])]
  · rename_i c a b; simp only [h c (by simp [Op.operands]), h a (by simp [Op.operands]), h b (by simp [Op.operands])]
  · rename_i x y _; simp only [both, h x (by simp [Op.operands]), h y (by simp [Op.operands])]
  · rename_i x; simp only [one, h x (by simp [Op.operands])]
  · rename_i x; simp only [one, h x (by simp [Op.operands])]
  · rename_i x; simp only [one, h x (by simp [Op.operands])]
  · rename_i x _; simp only [one, h x (by simp [Op.operands])]
  · rename_i x _; simp only [one, h x (by simp [Op.operands])]
  · rename_i x y; simp only [both, h x (by simp [Op.operands]), h y (by simp [Op.operands])]
  · rename_i x y; simp only [both, h x (by simp [Op.operands]), h y (by simp [Op.operands])]
  · rename_i t x lo hi
    have hx := h x (by simp [Op.operands])
    cases lo with
    | none =>
      cases hi with
      | none => simp only [hx, needO, Option.map_none]
      | some y => simp only [hx, h y (by simp [Op.operands]), needO, Option.map_none, Option.map_some]
    | some z =>
      cases hi with
      | none => simp only [hx, h z (by simp [Op.operands]), needO, Option.map_none, Option.map_some]
      | some y => simp only [hx, h z (by simp [Op.operands]), h y (by simp [Op.operands]), needO, Option.map_some]
  · rename_i x _; simp only [h x (by simp [Op.operands])]
  · rename_i x _; simp only [one, h x (by simp [Op.operands, Call.operands])]
  · rename_i x y _; simp only [h x (by simp [Op.operands, Call.operands]), h y (by simp [Op.operands, Call.operands])]
  · rename_i x y _; simp only [h x (by simp [Op.operands, Call.operands]), h y (by simp [Op.operands, Call.operands])]
  · rename_i t ps
    have hp : ∀ p ∈ ps.toList, e p.2 = e' p.2 := fun p hp => h p.2 (by simp only [Op.operands]; exact List.mem_toArray.2 (List.mem_map.2 ⟨p, hp, rfl⟩))
    have h1 : (ps.toList.map fun p => (p.1, (e p.2).get)) = (ps.toList.map fun p => (p.1, (e' p.2).get)) := List.map_congr_left fun p hpm => by rw [hp p hpm]
    have h2 : needs e ps.toList = needs e' ps.toList := by
      unfold needs
      apply propext
      exact ⟨fun hn p hpm => by rw [← hp p hpm]; exact hn p hpm, fun hn p hpm => by rw [hp p hpm]; exact hn p hpm⟩
    simp only [h1, h2]
  · rename_i f caps
    have : caps.toList.map e = caps.toList.map e' := List.map_congr_left fun x hx => h x (by simp only [Op.operands]; exact Array.mem_append.2 (.inr (Array.mem_toList_iff.1 hx)))
    simp only [this]
  · rename_i x; simp only [h x (by simp [Op.operands])]
  · rfl

/-- One operation of a region that draws, carried out in slots S: its value. -/
def dvalW (P : Program) (tt : TT) (o : Oper) (H : List AObj) (S : List AV) (k : AV → Prop) : Prop :=
  match pvO tt H (evO S) o.op with
  | some (C, A) => C ∧ ∃ A', ALe A A' ∧ k A'
  | none =>
    match o.op with
    | .call ⟨.value f, args, _⟩ => ∃ r, ((evO S f).need ∧ (∀ x ∈ args.toList, (evO S x).need) ∧ callW P H (evO S f).get (args.toList.map fun x => (evO S x).get) (isV r)) ∧ k r
    | .buildSlice t len ps =>
      match tt t with
      | some ⟨.slice el, _, _, _⟩ =>
        match tt el with
        | some ei =>
          match fillL (fun i => some (i * ei.sz, ei.sz)) ((List.range (len * ei.sz)).map fun j => ofC (ei.zero.getD (j % ei.sz) undef)) (ps.toList.map fun p => (p.1, (evO S p.2).get)) with
          | some L => (needs (evO S) ps.toList ∧ ei.zero.length = ei.sz ∧ AV.zeroOk ei.zero = true ∧ 0 < ei.sz ∧ len * ei.sz ≤ 16777216 ∧ L.all AV.closedB = true) ∧ ∃ A', ALe (.ro true ei.sz len (fun i f => L.getD (i * ei.sz + f) .any)) A' ∧ k A'
          | none => False
        | none => False
      | _ => False
    | _ => False

/-- One operation of a region that draws, in slots S: its value. -/
def dopW (P : Program) (tt : TT) (ops : List Oper) (o : Oper) (H : List AObj) (S : List AV) (k : AV → Prop) : Prop :=
  match o.guard with
  | none => dvalW P tt o H S k
  | some g =>
    match guardOf ops S g with
    | some true => dvalW P tt o H S k
    | some false => k (.cond false (.bool false))
    | none => False

theorem dvalW_split {o : Oper} {H : List AObj} {S : List AV} {k : AV → Prop} (h : dvalW P tt o H S k) : ∃ A, k A ∧ dvalW P tt o H S (· = A) := by
  unfold dvalW at h ⊢
  split at h
  · obtain ⟨h1, A', h2, h3⟩ := h
    exact ⟨_, h3, h1, A', h2, rfl⟩
  · split at h
    · obtain ⟨r, h1, h2⟩ := h
      exact ⟨r, h2, r, h1, rfl⟩
    · split at h
      · split at h
        · split at h
          · obtain ⟨h1, A', h2, h3⟩ := h
            exact ⟨_, h3, h1, A', h2, rfl⟩
          · exact h.elim
        · exact h.elim
      · exact h.elim
    · exact h.elim

theorem dopW_split {ops : List Oper} {o : Oper} {H : List AObj} {S : List AV} {k : AV → Prop} (h : dopW P tt ops o H S k) : ∃ A, k A ∧ dopW P tt ops o H S (· = A) := by
  unfold dopW at h ⊢
  split at h
  · exact dvalW_split h
  · split at h
    · exact dvalW_split h
    · exact ⟨_, h, rfl⟩
    · exact h.elim

theorem dvalW_congr {o : Oper} {H : List AObj} {S S' : List AV} {k : AV → Prop} (he : ∀ x ∈ o.op.operands, evO S x = evO S' x) (h : dvalW P tt o H S k) : dvalW P tt o H S' k := by
  have hp : pvO tt H (evO S) o.op = pvO tt H (evO S') o.op := pvO_congr o.op he
  have hcall : ∀ (f : Operand) (args : Array Operand) (ts : Array TypeId) (post : List AObj → AV → Prop), o.op = .call ⟨.value f, args, ts⟩ →
      ((evO S f).need ∧ (∀ x ∈ args.toList, (evO S x).need) ∧ callW P H (evO S f).get (args.toList.map fun x => (evO S x).get) post) →
      ((evO S' f).need ∧ (∀ x ∈ args.toList, (evO S' x).need) ∧ callW P H (evO S' f).get (args.toList.map fun x => (evO S' x).get) post) := by
    intro f args ts post ho ⟨h1, h2, h3⟩
    rw [ho] at he
    have hf := he f (by simp [Op.operands, Call.operands])
    have ha : ∀ x ∈ args.toList, evO S x = evO S' x := fun x hx => he x (by simp only [Op.operands, Call.operands]; exact Array.mem_append.2 (.inr (Array.mem_toList_iff.1 hx)))
    refine ⟨by rw [← hf]; exact h1, fun x hx => by rw [← ha x hx]; exact h2 x hx, ?_⟩
    rw [← hf, show (args.toList.map fun x => (evO S' x).get) = (args.toList.map fun x => (evO S x).get) from List.map_congr_left fun x hx => by rw [ha x hx]]
    exact h3
  unfold dvalW at h ⊢
  rw [← hp]
  split at h
  · rename_i C A hpv
    try simp only [hpv]
    exact h
  · rename_i hpv
    try simp only [hpv]
    split at h
    · rename_i f args ts ho
      try simp only [ho]
      obtain ⟨r, h1, h2⟩ := h
      exact ⟨r, hcall f args ts _ ho h1, h2⟩
    · rename_i t len ps ho
      try simp only [ho]
      have hps : ∀ p ∈ ps.toList, evO S p.2 = evO S' p.2 := fun p hpm => he p.2 (by rw [ho]; simp only [Op.operands]; exact List.mem_toArray.2 (List.mem_map.2 ⟨p, hpm, rfl⟩))
      have e1 : (ps.toList.map fun p => (p.1, (evO S p.2).get)) = (ps.toList.map fun p => (p.1, (evO S' p.2).get)) := List.map_congr_left fun p hpm => by rw [hps p hpm]
      have e2 : needs (evO S) ps.toList → needs (evO S') ps.toList := fun hn p hpm => by rw [← hps p hpm]; exact hn p hpm
      rw [← e1]
      split at h
      · rename_i ht
        try simp only [ht]
        split at h
        · rename_i hel
          try simp only [hel]
          split at h
          · rename_i hL
            try simp only [hL]
            exact ⟨⟨e2 h.1.1, h.1.2⟩, h.2⟩
          · exact h.elim
        · exact h.elim
      · exact h.elim
    · exact h.elim

theorem dopW_congr {ops : List Oper} {o : Oper} {H : List AObj} {S S' : List AV} {k : AV → Prop} (he : ∀ x ∈ o.op.operands, evO S x = evO S' x)
    (hg : ∀ g d, o.guard = some g → (ops[g.1]?).bind (·.dst) = some d → S.getD d .any = S'.getD d .any) (h : dopW P tt ops o H S k) : dopW P tt ops o H S' k := by
  have hgo : ∀ g, o.guard = some g → guardOf ops S g = guardOf ops S' g := by
    intro g hgg
    unfold guardOf
    split
    · rename_i d hd; rw [hg g d hgg hd]
    · rfl
  unfold dopW at h ⊢
  split at h
  · rename_i hgn
    try simp only [hgn]
    exact dvalW_congr he h
  · rename_i g hgg
    try simp only [hgg]
    rw [← hgo g hgg]
    split at h
    · rename_i hc
      try simp only [hc]
      exact dvalW_congr he h
    · rename_i hc
      try simp only [hc]
      exact h
    · exact h.elim

theorem closedB_sound {w : World} {B : Nat} {σ τ : Tags} {A : AV} {v : Value} (hc : A.closedB = true) (h : V w B σ A τ v) : V w B σ A [] v := by
  cases A <;> first | exact h | simp [AV.closedB] at hc

theorem dvalW_sound (hF : Fits P tt) {o : Oper} {s : AS} {a : Act} {w : World} {σ : Tags} (h : Rel w0 [] s a w σ) {A : AV} (hd : dvalW P tt o s.heap s.slots (· = A))
    {Q : Exit → Act → World → Prop} {KK : Act → World → Prop} (hKK : ∀ a' w', Rel w0 [] (s.put o.dst A) a' w' σ → KK a' w') : o.wp P a w KK Q := by
  have call : ∀ (f : Operand) (args : Array Operand) (ts : Array TypeId) (r : AV), o.op = .call ⟨.value f, args, ts⟩ →
      ((evO s.slots f).need ∧ (∀ x ∈ args.toList, (evO s.slots x).need) ∧ callW P s.heap (evO s.slots f).get (args.toList.map fun x => (evO s.slots x).get) (isV r)) →
      ∀ K2 : Act → World → Prop, (∀ v w', Below w.heap.size w w' → V w' w0.heap.size σ r σ v → K2 (a.put o.dst v) w') → o.wp P a w K2 Q := by
    intro f args ts r ho ⟨n1, n2, hc⟩ K2 hK2
    refine callW_sound h ho h.own_new n1 n2 hc ?_
    rintro v w' σ' H' A' hH hfo hV hfr hsn ⟨rfl, hAr⟩
    subst hAr
    have hσ' : σ' = [] := List.eq_nil_of_length_eq_zero (by simpa using hH.len)
    subst hσ'
    have hb : Below w.heap.size w w' := ⟨hsn.os, hsn.tape, hsn.output, hsn.size, fun k hk => hsn.blk k hk (by simp)⟩
    exact hK2 v w' hb (VX.closed _ _ _ (VX.handed (B := w.heap.size) (fun b hb' _ hn => by
      obtain ⟨t, ht⟩ := mem_tags.1 hn
      have := h.heaps.blk_lt ht
      omega) h.since.size A' v hfr hV))
  unfold dvalW at hd
  split at hd
  · rename_i C A' hp
    obtain ⟨hC, A2, hle, rfl⟩ := hd
    exact pvO_sound hF hp hC a w w0.heap.size σ Q KK h.heaps (fun x _ => h.ev x) fun v w' hb hV => hKK _ _ ((h.grow hb).put o.dst (hle _ _ _ _ _ hV))
  · split at hd
    · rename_i f args ts ho
      obtain ⟨r, h1, rfl⟩ := hd
      exact call f args ts r ho h1 KK fun v w' hb hV => hKK _ _ ((h.grow hb).put o.dst hV)
    · rename_i t len ps ho
      split at hd
      · rename_i el b1 b2 z1 ht
        split at hd
        · rename_i ei hel
          split at hd
          · rename_i L hL
            obtain ⟨⟨n1, hz, hz1, hpos, hcap, hcl⟩, A2, hle, rfl⟩ := hd
            refine buildSlice_raw hF h ho ht hel hL n1 hz hz1 hpos hcap fun cells' hrel => ?_
            have hLl : L.length = len * ei.sz := by rw [fillL_length _ _ _ hL]; simp
            have hb : Below w.heap.size w (w.alloc (.cells cells' el)) := (Below.refl _ _).alloc (Nat.le_refl _) _
            refine hKK _ _ ((h.grow hb).put o.dst (hle _ _ _ _ _ ⟨some ⟨w.heap.size, 0, none⟩, len, rfl, Nat.le_refl _, ?_, fun h0 => ⟨w.heap.size, 0, rfl, by simp, ?_, fun _ => h.since.size, fun i f hi hf => ?_⟩⟩))
            · unfold maxLen
              have : len * 1 ≤ len * ei.sz := Nat.mul_le_mul_left _ hpos
              omega
            · intro hn
              obtain ⟨t, ht⟩ := mem_tags.1 hn
              have := h.heaps.blk_lt ht
              omega
            · have hlt : i * ei.sz + f < L.length := by
                have : (i + 1) * ei.sz ≤ len * ei.sz := Nat.mul_le_mul_right _ hi
                rw [Nat.add_mul] at this
                omega
              obtain ⟨u, hu, h1, hV⟩ := hrel.2 (i * ei.sz + f) L[i * ei.sz + f] (List.getElem?_eq_getElem hlt)
              refine ⟨u, ?_, h1, ?_⟩
              · rw [Nat.zero_add, cell_of_row _ _ _ cells' el (0, 0) (heap_alloc_new w _)]
                exact hu
              · show VX _ _ _ (L.getD (i * ei.sz + f) .any) _ _
                rw [List.getD_eq_getElem?_getD, List.getElem?_eq_getElem hlt]
                have hcb : (L[i * ei.sz + f]).closedB = true := by
                  rw [List.all_eq_true] at hcl
                  exact hcl _ (List.getElem_mem hlt)
                exact closedB_sound hcb (V.grow h.heaps hb hV)
          · exact hd.elim
        · exact hd.elim
      · exact hd.elim
    · exact hd.elim

theorem dopW_sound (hF : Fits P tt) {ops : List Oper} {o : Oper} {s : AS} {a : Act} {w : World} {σ : Tags} (h : Rel w0 [] s a w σ) {A : AV} (hd : dopW P tt ops o s.heap s.slots (· = A))
    {Q : Exit → Act → World → Prop} {KK : Act → World → Prop} (hKK : ∀ a' w', Rel w0 [] (s.put o.dst A) a' w' σ → KK a' w') :
    if Region.wanted o (yielded ops.toArray a.tmps) = true then o.wp P a w KK Q else KK (a.put o.dst undef) w := by
  unfold dopW at hd
  split at hd
  · rename_i hg
    rw [show Region.wanted o (yielded ops.toArray a.tmps) = true from by simp [Region.wanted, hg], if_pos rfl]
    exact dvalW_sound hF h hd hKK
  · rename_i g hg
    split at hd
    · rename_i hc
      rw [guardOf_sound (ops := ops) h hg hc, if_pos rfl]
      exact dvalW_sound hF h hd hKK
    · rename_i hc
      rw [guardOf_sound (ops := ops) h hg hc]
      subst hd
      exact hKK _ _ (h.put o.dst V_undef)
    · exact hd.elim

/-! ### The order -/

def onOf (ops : List Oper) (i : Nat) : List Nat := match ops[i]? with | some o => (o.after.toList.filter (Region.binds .any)).map (·.on) | none => []
def dstOf (ops : List Oper) (i : Nat) : Option Tmp := (ops[i]?).bind (·.dst)
def usesOf (ops : List Oper) (i : Nat) : List Nat :=
  match ops[i]? with
  | some o => (o.op.operands.toList.filterMap fun | .tmp t => some t | _ => none) ++ (match o.guard with | some g => (dstOf ops g.1).toList | none => [])
  | none => []
def memK (k : Nat) : List Nat → Bool
  | [] => false
  | a :: l => bif Nat.beq a k then true else memK k l
theorem memK_mem (k : Nat) : ∀ l, memK k l = true → k ∈ l
  | [], h => by simp [memK] at h
  | a :: l, h => by
    unfold memK at h
    cases e : Nat.beq a k with
    | true => rw [Nat.eq_of_beq_eq_true e]; exact List.mem_cons_self ..
    | false => rw [e] at h; exact List.mem_cons_of_mem _ (memK_mem k l h)
/-- What is waited for, from place k downwards. -/
def closeOn (ops : List Oper) : Nat → List Nat → List Nat
  | 0, l => l
  | k + 1, l => closeOn ops k (bif memK k l then l ++ onOf ops k else l)

/-- The first n operations write different slots; each waits for those that it uses; the others come in the text's order, behind all of these. -/
def drawOK (ops : List Oper) (n : Nat) : Bool :=
  (List.range n).all (fun i => (List.range n).all fun k => i == k || (dstOf ops i).isNone || dstOf ops i != dstOf ops k) &&
  (List.range n).all (fun i => (usesOf ops i).all fun t => (List.range n).all fun k => dstOf ops k != some t || i == k || (if k < i then (onOf ops i).contains k else (onOf ops k).contains i)) &&
  (List.range ops.length).all (fun i => (onOf ops i).all fun k => decide (k < i)) &&
  (List.range ops.length).all (fun i => decide (i < n) || (List.range i).all fun k => (closeOn ops i (onOf ops i)).contains k) &&
  decide (n ≤ ops.length)

def putS (S : List AV) (d : Option Tmp) (A : AV) : List AV := match d with | some d => S.set d A | none => S

/-- The first operations of a region that draws, in the text's order. -/
def dopsW (P : Program) (tt : TT) (ops : List Oper) : List Oper → List AObj → List AV → (List AV → Prop) → Prop
  | [], _, S, k => k S
  | o :: rest, H, S, k => dopW P tt ops o H S (fun A => dopsW P tt ops rest H (putS S o.dst A) k)

def slotsAt (l : List Oper) (As : Nat → AV) (S : List AV) : Nat → List AV
  | 0 => S
  | i + 1 => putS (slotsAt l As S i) (dstOf l i) (As i)

theorem dopsW_split {ops : List Oper} {H : List AObj} {k : List AV → Prop} (S : List AV) : ∀ (n i : Nat) (As : Nat → AV), i + n ≤ ops.length →
    dopsW P tt ops ((ops.drop i).take n) H (slotsAt ops As S i) k → ∃ As' : Nat → AV, (∀ j, j < i → As' j = As j) ∧ (∀ j, i ≤ j → j < i + n → ∀ o, ops[j]? = some o → dopW P tt ops o H (slotsAt ops As' S j) (· = As' j)) ∧ k (slotsAt ops As' S (i + n)) := by
  have same : ∀ (As As' : Nat → AV) (i : Nat), (∀ j, j < i → As' j = As j) → slotsAt ops As' S i = slotsAt ops As S i := by
    intro As As' i
    induction i with
    | zero => intro _; rfl
    | succ i ih => intro h; simp only [slotsAt]; rw [ih (fun j hj => h j (by omega)), h i (by omega)]
  intro n
  induction n with
  | zero =>
    intro i As _ h
    simp only [List.take_zero, dopsW] at h
    exact ⟨As, fun _ _ => rfl, fun j h1 h2 => by omega, h⟩
  | succ n ih =>
    intro i As hle h
    have hi : i < ops.length := by omega
    rw [List.drop_eq_getElem_cons hi, List.take_succ_cons] at h
    simp only [dopsW] at h
    obtain ⟨A, hk, hd⟩ := dopW_split h
    let As1 : Nat → AV := fun j => if j = i then A else As j
    have h1 : ∀ j, j < i → As1 j = As j := fun j hj => by simp [As1, show j ≠ i by omega]
    have hs : slotsAt ops As1 S (i + 1) = putS (slotsAt ops As S i) (ops[i]).dst A := by
      simp only [slotsAt, same As As1 i h1, dstOf, List.getElem?_eq_getElem hi, Option.bind_some, As1, if_true]
    rw [← hs] at hk
    obtain ⟨As', h2, h3, h4⟩ := ih (i + 1) As1 (by omega) hk
    refine ⟨As', fun j hj => (h2 j (by omega)).trans (h1 j hj), fun j hj1 hj2 o ho => ?_, by rw [show i + (n + 1) = i + 1 + n by omega]; exact h4⟩
    by_cases he : j = i
    · subst he
      rw [List.getElem?_eq_getElem hi] at ho
      injection ho with ho
      subst ho
      rw [same As As' j (fun m hm => (h2 m (by omega)).trans (h1 m hm)), show As' j = A from (h2 j (by omega)).trans (by simp [As1])]
      exact hd
    · exact h3 j (by omega) (by omega) o ho

end
end Go.Abs
