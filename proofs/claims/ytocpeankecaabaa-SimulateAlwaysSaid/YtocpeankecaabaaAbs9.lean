/-
  append; all operations; regions that do not draw their order; code. No program is named.
-/
import Derived.Test.YtocpeankecaabaaAbs8
set_option linter.all false
namespace Go.Abs
open Go.RowKit

section
variable {P : Program} {tt : TT} {w0 : World}

theorem row_news {w : World} {b o m sz : Nat} {R : Nat → Nat → Value → Prop} (hpos : 0 < sz)
    (hc : ∀ i f, i < m → f < sz → ∃ u, w.cell? ⟨b, o + (i * sz + f), none⟩ = some u ∧ u.oneCell' = true ∧ R i f u) :
    ∃ news : List Value, news.length = m * sz ∧ (∀ j u, news[j]? = some u → w.cell? ((⟨b, o, none⟩ : Addr).add j) = some u) ∧ (∀ u ∈ news, u.oneCell' = true) ∧
      ∀ i f, i < m → f < sz → ∃ u, news[i * sz + f]? = some u ∧ R i f u := by
  have hj : ∀ j, j < m * sz → ∃ u, w.cell? ⟨b, o + j, none⟩ = some u ∧ u.oneCell' = true := by
    intro j hj
    have hm : j % sz < sz := Nat.mod_lt _ hpos
    have hd : j / sz < m := (Nat.div_lt_iff_lt_mul hpos).2 hj
    obtain ⟨u, hu, h1, _⟩ := hc (j / sz) (j % sz) hd hm
    refine ⟨u, ?_, h1⟩
    rw [← hu, Nat.div_add_mod']
  refine ⟨(List.range (m * sz)).map fun j => (w.cell? ⟨b, o + j, none⟩).getD undef, by simp, fun j u hu => ?_, fun u hu => ?_, fun i f hi hf => ?_⟩
  · have hlt : j < m * sz := by
      rcases Nat.lt_or_ge j (m * sz) with h' | h'
      · exact h'
      · rw [List.getElem?_eq_none (by simpa using h')] at hu; cases hu
    rw [List.getElem?_map, List.getElem?_range hlt] at hu
    simp only [Option.map_some, Option.some.injEq] at hu
    obtain ⟨x, hx, _⟩ := hj j hlt
    rw [hx] at hu
    simp only [Option.getD_some] at hu
    subst hu
    rw [Addr.add_lit, hx]
  · obtain ⟨j, hjm, rfl⟩ := List.mem_map.1 hu
    obtain ⟨x, hx, h1⟩ := hj j (List.mem_range.1 hjm)
    rw [hx]
    exact h1
  · obtain ⟨u, hu, _, hR⟩ := hc i f hi hf
    have hlt : i * sz + f < m * sz := by
      have : (i + 1) * sz ≤ m * sz := Nat.mul_le_mul_right _ hi
      rw [Nat.add_mul] at this
      omega
    exact ⟨u, by rw [List.getElem?_map, List.getElem?_range hlt]; simp [hu], hR⟩

/-- The source of an append, as the law on append wants it. -/
theorem srcV_sound {w : World} {B : Nat} {σ : Tags} {H : List AObj} (hH : Heaps w B σ H) {X : AV} {v : Value} (hX : V w B σ X σ v) {C : Prop} {sz m : Nat} {src : Nat → Nat → AV} (h : srcV H X = some (C, sz, m, src)) (hC : C) (hpos : 0 < sz) :
    ∃ (ad : Addr) (c : Nat) (news : List Value), v = .slice (some ad) m c ∧ news.length = m * sz ∧ (∀ j u, news[j]? = some u → w.cell? (ad.add j) = some u) ∧ (∀ u ∈ news, u.oneCell' = true) ∧
      ∀ i f, i < m → f < sz → ∃ u, news[i * sz + f]? = some u ∧ V w B σ (src i f) σ u := by
  unfold srcV at h
  split at h
  · rename_i fr sz' m' cs
    simp only [Option.some.injEq, Prod.mk.injEq] at h
    obtain ⟨rfl, rfl, rfl, rfl⟩ := h
    obtain ⟨a, c, rfl, hn, hcm, hr⟩ := hX
    obtain ⟨b, o, rfl, hb, hs, hfr, hcell⟩ := hr hC
    obtain ⟨news, h1, h2, h3, h4⟩ := row_news hpos hcell
    exact ⟨_, c, news, rfl, h1, h2, h3, fun i f hi hf => let ⟨u, hu, hV⟩ := h4 i f hi hf; ⟨u, hu, VX.closed _ _ _ hV⟩⟩
  · rename_i t sz' m'
    split at h
    · rename_i ob hob
      simp only [Option.some.injEq, Prod.mk.injEq] at h
      obtain ⟨rfl, rfl, rfl, rfl⟩ := h
      obtain ⟨hm0, hmn, rfl⟩ := hC
      rcases hX with ⟨h0, _⟩ | ⟨g, c, cur, e, hg, rfl, hn, hcm, hh, hcs⟩
      · omega
      · obtain ⟨news, h1, h2, h3, h4⟩ := row_news (m := m') (o := 0) hpos (fun i f hi hf => hH.cells hob hg i f (by omega) hf)
        exact ⟨_, c, news, rfl, h1, h2, h3, h4⟩
    · cases h
  · cases h

theorem none_tags {σ : Tags} {t g : Nat} (h : (σ ++ [none])[t]? = some (some g)) : σ[t]? = some (some g) := by
  rcases Nat.lt_or_ge t σ.length with hlt | hge
  · rw [List.getElem?_append_left hlt] at h; exact h
  · rw [List.getElem?_append_right hge] at h
    cases hk : t - σ.length with
    | zero => rw [hk] at h; simp at h
    | succ n => rw [hk] at h; simp at h

theorem Moves.none {w : World} {σ : Tags} : Moves (fun _ => True) w (Owned σ) σ w (Owned (σ ++ [Option.none])) (σ ++ [Option.none]) := by
  refine ⟨Nat.le_refl _, fun b _ hn hn' => ?_, fun _ _ _ => rfl, fun t g _ hg => by rw [List.getElem?_append_left (tag_lt hg)]; exact hg, fun t g cur e _ _ hh => ⟨cur, hh, rfl⟩⟩
  obtain ⟨t, ht⟩ := mem_tags.1 hn'
  exact hn (mem_tags.2 ⟨t, none_tags ht⟩)

theorem Rel.pushNil {s : AS} {a : Act} {w : World} {σ : Tags} (h : Rel w0 [] s a w σ) (o : AObj) (ho : o.n = 0) : Rel w0 [] (s.push o) a w (σ ++ [none]) := by
  refine ⟨h.defers, h.len, fun t A hA => ?_, ⟨by simp [AS.push, h.heaps.len], fun t t' g h1 h2 => h.heaps.inj t t' g (none_tags h1) (none_tags h2), fun t o' ho' => ?_⟩, ?_⟩
  · obtain ⟨v, hv, hV⟩ := h.slot t A hA
    exact ⟨v, hv, VX.moves Moves.none A σ _ v (.inr ⟨rfl, rfl, TagsIn.true A⟩) hV⟩
  · simp only [AS.push] at ho'
    rcases Nat.lt_or_ge t s.heap.length with hlt | hge
    · rw [List.getElem?_append_left hlt] at ho'
      obtain ⟨g, hg, hob⟩ := h.heaps.obj t o' ho'
      exact ⟨g, by rw [List.getElem?_append_left (by rw [h.heaps.len]; exact hlt)]; exact hg, hob.moves Moves.none (fun _ _ => rfl)⟩
    · rw [List.getElem?_append_right hge] at ho'
      cases hk : t - s.heap.length with
      | succ n => rw [hk] at ho'; simp at ho'
      | zero =>
        rw [hk] at ho'
        simp only [List.getElem?_cons_zero, Option.some.injEq] at ho'
        subst ho'
        exact ⟨none, by rw [List.getElem?_append_right (by rw [h.heaps.len]; exact hge), h.heaps.len, hk]; rfl, ho⟩
  · have hs := h.since
    exact ⟨hs.os, hs.tape, hs.output, hs.size, hs.blk, fun t ht => by simp at ht, fun t g ht hg => hs.new t g ht (none_tags hg)⟩

theorem append_own_sound (hF : Fits P tt) {o : Oper} {s : AS} {a : Act} {w : World} {σ : Tags} (h : Rel w0 [] s a w σ) {d x : Operand} {t el : TypeId} {b1 b2 : Nat} {z1 : List Value} {ei : TI} {C : Prop} {tg m : Nat} {ob : AObj} {src : Nat → Nat → AV}
    (ho : o.op = .call ⟨.builtin .append, #[d, x], #[t, t]⟩) (ht : tt t = some ⟨.slice el, b1, b2, z1⟩) (hel : tt el = some ei) (hsrc : srcV s.heap (evO s.slots x).get = some (C, ob.sz, m, src)) (hd : (evO s.slots d).get = .own tg ob.sz ob.n) (hob : s.heap[tg]? = some ob)
    (n1 : (evO s.slots d).need) (n2 : (evO s.slots x).need) (hC : C) (hsz : ei.sz = ob.sz) (hpos : 0 < ob.sz) (hty : ob.ty = el) (hz : ei.zero.length = ei.sz) (h63 : ob.n + m ≤ 9223372036854775807) (hby : (ob.n + m) * ei.bytes ≤ 140737488355328)
    {K : AS → Prop} (hK : K ((s.grown tg ob m src).put o.dst (.own tg ob.sz (ob.n + m))))
    {Q : Exit → Act → World → Prop} {KK : Act → World → Prop} (hKK : ∀ s' a' w' σ', Rel w0 [] s' a' w' σ' → K s' → KK a' w') : o.wp P a w KK Q := by
  have v1 := (h.ev d).get n1
  have v2 := (h.ev x).get n2
  rw [hd] at v1
  obtain ⟨ad, c, news, hx, hl, hnews, h1, hcell⟩ := srcV_sound h.heaps v2 hsrc hC hpos
  obtain ⟨v', w', σ', hrun, hrel, hV⟩ := h.append hF (ty := o.type) ht hel hob hty hsz hpos hz (Nat.zero_le _) v1 (c := c) hl hnews h1 hcell (by unfold maxLen; omega) hby
  have hr : (execOp a.eval o).run P w = .ok (.value v') w' := by
    unfold execOp
    simp only [ho, resolve, invoke, builtin, Sem.run_bind, Sem.run_pure, Result.andThen_ok, List.map_toArray, List.map_cons, List.map_nil, hx, hrun]
  unfold Oper.wp
  rw [hr]
  exact hKK _ _ _ _ (hrel.put o.dst hV) hK

theorem append_nil_sound (hF : Fits P tt) {o : Oper} {s : AS} {a : Act} {w : World} {σ : Tags} (h : Rel w0 [] s a w σ) {d x : Operand} {t el : TypeId} {b1 b2 : Nat} {z1 : List Value} {ei : TI} {C : Prop} {sz m : Nat} {src : Nat → Nat → AV}
    (ho : o.op = .call ⟨.builtin .append, #[d, x], #[t, t]⟩) (ht : tt t = some ⟨.slice el, b1, b2, z1⟩) (hel : tt el = some ei) (hsrc : srcV s.heap (evO s.slots x).get = some (C, sz, m, src)) (hd : (evO s.slots d).get = .val (.slice none 0 0))
    (n1 : (evO s.slots d).need) (n2 : (evO s.slots x).need) (hC : C) (hsz : ei.sz = sz) (hpos : 0 < sz) (hz : ei.zero.length = ei.sz) (h63 : m ≤ 9223372036854775807) (hby : m * ei.bytes ≤ 140737488355328)
    {K : AS → Prop} (hK : K (((s.pushNil el sz).grown s.heap.length ⟨el, sz, 0, fun _ _ => .any⟩ m src).put o.dst (.own s.heap.length sz m)))
    {Q : Exit → Act → World → Prop} {KK : Act → World → Prop} (hKK : ∀ s' a' w' σ', Rel w0 [] s' a' w' σ' → K s' → KK a' w') : o.wp P a w KK Q := by
  have v1 := (h.ev d).get n1
  have v2 := (h.ev x).get n2
  rw [hd] at v1
  simp only [V, VX] at v1
  obtain ⟨ad, c, news, hx, hl, hnews, h1, hcell⟩ := srcV_sound h.heaps v2 hsrc hC hpos
  have h' := h.pushNil ⟨el, sz, 0, fun _ _ => .any⟩ rfl
  obtain ⟨v', w', σ', hrun, hrel, hV⟩ := h'.append hF (ty := o.type) ht hel (t := s.heap.length) (o := ⟨el, sz, 0, fun _ _ => .any⟩) (by simp [AS.push]) rfl hsz hpos hz (Nat.zero_le _) (v := .slice none 0 0) (.inl ⟨rfl, rfl⟩) (c := c) hl hnews h1
    (fun i f hi hf => let ⟨u, hu, hV⟩ := hcell i f hi hf; ⟨u, hu, VX.moves Moves.none _ σ _ u (.inr ⟨rfl, rfl, TagsIn.true _⟩) hV⟩) (by simp only [Nat.zero_add]; unfold maxLen; omega) (by simpa using hby)
  have hr : (execOp a.eval o).run P w = .ok (.value v') w' := by
    unfold execOp
    simp only [ho, resolve, invoke, builtin, Sem.run_bind, Sem.run_pure, Result.andThen_ok, List.map_toArray, List.map_cons, List.map_nil, hx, v1, hrun]
  unfold Oper.wp
  rw [hr]
  simp only [Nat.zero_add] at hV
  exact hKK _ _ _ _ (hrel.put o.dst hV) hK

theorem Rel.own_new {s : AS} {a : Act} {w : World} {σ : Tags} (h : Rel w0 [] s a w σ) : ∀ g, Owned σ g → w0.heap.size ≤ g := by
  intro g hg
  obtain ⟨t, ht⟩ := mem_tags.1 hg
  exact h.since.new t g (Nat.zero_le _) ht

theorem effW_sound (hF : Fits P tt) {o : Oper} {s : AS} {a : Act} {w : World} {σ : Tags} (h : Rel w0 [] s a w σ) {K : AS → Prop} (he : effW P tt 0 o s K)
    {Q : Exit → Act → World → Prop} {KK : Act → World → Prop} (hKK : ∀ s' a' w' σ', Rel w0 [] s' a' w' σ' → K s' → KK a' w') : o.wp P a w KK Q := by
  unfold effW at he
  simp only [] at he
  split at he
  · rename_i t ho
    split at he
    · rename_i x ht
      exact alloc_sound hF h ho ht he.1 he.2.1 he.2.2 hKK
    · exact he.elim
  · rename_i t x ho
    split at he
    · rename_i ti ht
      exact box_sound hF h ho he.1 he.2.1 he.2.2 hKK
    · exact he.elim
  · rename_i t p x ho
    split at he
    · rename_i ti tg sz i f ht hp
      split at he
      · rename_i ob hob
        obtain ⟨n1, n2, hc, hsz, hi, hf, hK⟩ := he
        exact store_sound hF h ho ht hp hob n1 n2 hc hsz hi hf hK hKK
      · exact he.elim
    · exact he.elim
  · rename_i t l c ho
    split at he
    · rename_i el b1 b2 z1 ht
      split at he
      · rename_i ei k1 lv k2 cv hel hl hc
        obtain ⟨n1, n2, h0, hlc, hby, h63, hz, hz1, _, hK⟩ := he
        exact make_sound hF h ho ht hel hl hc n1 n2 h0 hlc hby h63 hz hz1 hK hKK
      · exact he.elim
    · exact he.elim
  · rename_i t len ps ho
    split at he
    · rename_i el b1 b2 z1 ht
      split at he
      · rename_i ei hel
        split at he
        · rename_i L hL
          obtain ⟨n1, hz, hz1, hpos, hcap, hK⟩ := he
          exact buildSlice_sound hF h ho ht hel hL n1 hz hz1 hpos hcap hK hKK
        · exact he.elim
      · exact he.elim
    · exact he.elim
  · rename_i d x t t' ho
    split at he
    · rename_i el b1 b2 z1 ht
      split at he
      · rename_i ei C sz m src hel hsrc
        split at he
        · rename_i tg sz' n hd
          split at he
          · rename_i ob hob
            obtain ⟨rfl, n1, n2, hC, hsz, rfl, rfl, rfl, hpos, hty, hz, _, h63, hby, hK⟩ := he
            exact append_own_sound hF h ho ht hel hsrc hd hob n1 n2 hC hsz hpos hty hz h63 hby hK hKK
          · exact he.elim
        · rename_i hd
          obtain ⟨rfl, n1, n2, hC, hsz, hpos, hz, _, h63, hby, hK⟩ := he
          exact append_nil_sound hF h ho ht hel hsrc hd n1 n2 hC hsz hpos hz h63 hby hK hKK
        · exact he.elim
      · exact he.elim
    · exact he.elim
  · rename_i f args ts ho
    obtain ⟨n1, n2, hc⟩ := he
    refine callW_sound h ho h.own_new n1 n2 hc fun v w' σ' H' A hH hfo hV hfr hsn hpo => ?_
    obtain ⟨hr, hV'⟩ := h.handed hH hfo hV hfr hsn
    exact hKK _ _ _ _ (hr.put o.dst hV') hpo
  · exact he.elim

theorem opW_sound (hF : Fits P tt) {o : Oper} {s : AS} {a : Act} {w : World} {σ : Tags} (h : Rel w0 [] s a w σ) {K : AS → Prop} (he : opW P tt 0 o s K)
    {Q : Exit → Act → World → Prop} {KK : Act → World → Prop} (hKK : ∀ s' a' w' σ', Rel w0 [] s' a' w' σ' → K s' → KK a' w') : o.wp P a w KK Q := by
  unfold opW at he
  split at he
  · rename_i C A hp
    refine pvO_sound hF hp he.1 a w w0.heap.size σ Q KK h.heaps (fun x _ => h.ev x) fun v w' hb hV => ?_
    exact hKK _ _ _ _ ((h.grow hb).put o.dst hV) he.2
  · exact effW_sound hF h he hKK

theorem asGuard_sound {w : World} {B : Nat} {σ τ : Tags} {want : Bool} : ∀ {A : AV} {c : Bool} {v : Value}, A.asGuard want = some c → V w B σ A τ v → ((match v with | .bool b => some b | _ => none) == some want) = c := by
  intro A
  induction A with
  | bool b =>
    intro c v h hv
    simp only [AV.asGuard, Option.some.injEq] at h
    simp only [V, VX] at hv
    subst hv
    subst h
    cases b <;> cases want <;> rfl
  | cond c0 a ih =>
    intro c v h hv
    simp only [AV.asGuard] at h
    cases hq : a.asGuard want with
    | none => simp [hq] at h
    | some c1 =>
      simp only [hq, Option.map_some, Option.some.injEq] at h
      subst h
      unfold V VX at hv
      split at hv
      · rename_i hc
        rw [ih hq hv, hc]
        rfl
      · rename_i hc
        subst hv
        have : c0 = false := by simpa using hc
        subst this
        rfl
  | _ => intro c v h; simp [AV.asGuard] at h

theorem guardOf_sound {ops : List Oper} {s : AS} {a : Act} {w : World} {σ : Tags} (h : Rel w0 [] s a w σ) {o : Oper} {g : Nat × Bool} (hg : o.guard = some g) {c : Bool} (hc : guardOf ops s.slots g = some c) :
    Region.wanted o (yielded ops.toArray a.tmps) = c := by
  unfold guardOf at hc
  split at hc
  · rename_i d hd
    have hsl : ∃ A, s.slots[d]? = some A ∧ A.asGuard g.2 = some c := by
      cases hq : s.slots[d]? with
      | none => simp [List.getD_eq_getElem?_getD, hq, AV.asGuard] at hc
      | some A => simp only [List.getD_eq_getElem?_getD, hq, Option.getD_some] at hc; exact ⟨A, rfl, hc⟩
    obtain ⟨A, hA, hAg⟩ := hsl
    obtain ⟨v, hv, hV⟩ := h.slot d A hA
    have := asGuard_sound hAg hV
    obtain ⟨gj, gw⟩ := g
    simp only [Region.wanted, hg, yielded]
    rw [← this]
    have e1 : ((ops.toArray[gj]?).bind (·.dst)) = some d := by simpa using hd
    rw [e1]
    simp only [Option.bind_some, hv]
    cases v <;> rfl
  · cases hc

theorem V_undef {w : World} {B : Nat} {σ τ : Tags} {A : AV} : V w B σ (.cond false A) τ undef := by unfold V VX; simp

theorem grdW_sound (hF : Fits P tt) {o : Oper} {s : AS} {a : Act} {w : World} {σ : Tags} (h : Rel w0 [] s a w σ) {c : Bool} {K : AS → Prop} (he : grdW P tt o c s K)
    {Q : Exit → Act → World → Prop} {KK : Act → World → Prop} (hKK : ∀ s' a' w' σ', Rel w0 [] s' a' w' σ' → K s' → KK a' w') : if c = true then o.wp P a w KK Q else KK (a.put o.dst undef) w := by
  cases c with
  | false => exact hKK _ _ _ _ (h.put o.dst V_undef) he
  | true =>
    rw [if_pos rfl]
    exact opW_sound hF h he hKK

theorem opsW_sound (hF : Fits P tt) (ops : List Oper) {Q : Exit → Act → World → Prop} {K : AS → Prop} (hKK : ∀ s' a' w' σ', Rel w0 [] s' a' w' σ' → K s' → Q .normal a' w') :
    ∀ (l : List Oper) (s : AS) (a : Act) (w : World) (σ : Tags), Rel w0 [] s a w σ → opsW P tt 0 ops l s K → wpList P ops.toArray Q l a w := by
  intro l
  induction l with
  | nil => intro s a w σ h hK; exact hKK s a w σ h hK
  | cons o rest ih =>
    intro s a w σ h hK
    unfold opsW at hK
    split at hK
    · rename_i hg
      exact wpList_plain hg fun K' hK' => opW_sound hF h hK fun s' a' w' σ' h' hk => by
        obtain ⟨s2, hle, hk⟩ := hk
        obtain ⟨σ2, h2⟩ := hle _ _ _ _ h'
        exact hK' _ _ (ih s2 a' w' σ2 h2 hk)
    · rename_i g hg
      split at hK
      · rename_i c hc
        have hw := guardOf_sound (ops := ops) h hg hc
        refine wpList_step fun K' hK' => ?_
        rw [hw]
        have := grdW_sound (Q := Q) hF h hK (KK := K') fun s' a' w' σ' h' hk => by
          obtain ⟨s2, hle, hk⟩ := hk
          obtain ⟨σ2, h2⟩ := hle _ _ _ _ h'
          exact hK' _ _ (ih s2 a' w' σ2 h2 hk)
        cases c <;> simpa using this
      · exact hK.elim

/-- A region that does not draw its order. -/
theorem SW.region (hF : Fits P tt) {id : Nat} {l : List Oper} {Q : Exit → AS → Prop} {s : AS} (h : opsW P tt 0 l l s (Q .normal)) : SW P w0 [] (.region id l.toArray false) Q s := by
  intro a w σ hr
  refine wp_region_lit ?_
  exact opsW_sound hF l (fun s' a' w' σ' h' hk => ⟨s', σ', h', hk⟩) l s a w σ hr h

theorem SW.mono {c : Code} {Q Q' : Exit → AS → Prop} {s : AS} (hq : ∀ e s, Q e s → Q' e s) (h : SW P w0 [] c Q s) : SW P w0 [] c Q' s :=
  fun a w σ hr => Code.wp_mono (fun _ _ _ ⟨s', σ', h1, h2⟩ => ⟨s', σ', h1, hq _ _ h2⟩) (h a w σ hr)

def Then (next : AS → Prop) (Q : Exit → AS → Prop) : Exit → AS → Prop
  | .normal, s => next s
  | e, s => Q e s

theorem SW.seq {x y : Code} {Q : Exit → AS → Prop} {s : AS} (h : SW P w0 [] x (Then (SW P w0 [] y Q) Q) s) : SW P w0 [] (.seq x y) Q s := by
  intro a w σ hr
  refine wp_seq (Code.wp_mono ?_ (h a w σ hr))
  rintro e a' w' ⟨s', σ', h1, h2⟩
  cases e with
  | normal => exact h2 a' w' σ' h1
  | _ => exact ⟨s', σ', h1, h2⟩

/-- The rest of the code out of sight. -/
theorem SW.seqK {x y : Code} {Q : Exit → AS → Prop} {s : AS} (h : ∀ K : AS → Prop, (∀ s', SW P w0 [] y Q s' → K s') → SW P w0 [] x (Then K Q) s) : SW P w0 [] (.seq x y) Q s :=
  SW.seq (h _ fun _ h => h)

theorem SW.skip {Q : Exit → AS → Prop} {s : AS} (h : Q .normal s) : SW P w0 [] .skip Q s := fun _ _ σ hr => wp_skip ⟨s, σ, hr, h⟩
theorem SW.ret {Q : Exit → AS → Prop} {s : AS} (h : Q .ret s) : SW P w0 [] .ret Q s := fun _ _ σ hr => wp_ret ⟨s, σ, hr, h⟩
theorem SW.exit {id : Nat} {Q : Exit → AS → Prop} {s : AS} (h : Q (.exit id) s) : SW P w0 [] (.exit id) Q s := fun _ _ σ hr => wp_exit ⟨s, σ, hr, h⟩

theorem SW.cond {c : Operand} {x y : Code} {Q : Exit → AS → Prop} {s : AS} {b : Bool} (hb : evO s.slots c = .bool b) (ht : b = true → SW P w0 [] x Q s) (hf : b = false → SW P w0 [] y Q s) : SW P w0 [] (.cond c x y) Q s := by
  intro a w σ hr
  have hv := hr.ev c
  rw [hb] at hv
  simp only [V, VX] at hv
  exact wp_cond_split hv (fun e => ht e a w σ hr) (fun e => hf e a w σ hr)

def InBlock (id : Nat) (Q : Exit → AS → Prop) : Exit → AS → Prop
  | .exit id', s => if id' = id then Q .normal s else Q (.exit id') s
  | e, s => Q e s

theorem SW.block {id : Nat} {x : Code} {Q : Exit → AS → Prop} {s : AS} (h : SW P w0 [] x (InBlock id Q) s) : SW P w0 [] (.block id x) Q s := by
  intro a w σ hr
  refine wp_block (Code.wp_mono ?_ (h a w σ hr))
  rintro e a' w' ⟨s', σ', h1, h2⟩
  cases e with
  | exit id' =>
    simp only [InBlock] at h2
    simp only [Exit.inBlock]
    split
    · rename_i he; rw [if_pos he] at h2; exact ⟨s', σ', h1, h2⟩
    · rename_i he; rw [if_neg he] at h2; exact ⟨s', σ', h1, h2⟩
  | _ => exact ⟨s', σ', h1, h2⟩

theorem SW.weaken {c : Code} {Q : Exit → AS → Prop} {s s' : AS} (hs : SLe s s') (h : SW P w0 [] c Q s') : SW P w0 [] c Q s :=
  fun a w σ hr => let ⟨σ', h'⟩ := hs w0 a w σ hr; h a w σ' h'

/-- A loop: at its head the state is one of the family I; each round lowers μ. -/
theorem SW.loop {ι : Type} {body : Code} {Q : Exit → AS → Prop} {s : AS} (I : ι → AS) (ok : ι → Prop) (μ : ι → Nat) (i0 : ι) (h0 : ok i0) (hs : SLe s (I i0))
    (round : ∀ i, ok i → SW P w0 [] body (Then (fun s' => ∃ j, ok j ∧ μ j < μ i ∧ SLe s' (I j)) Q) (I i)) : SW P w0 [] (.loop body) Q s := by
  intro a w σ hr
  obtain ⟨σ', h'⟩ := hs w0 a w σ hr
  -- the measure: the least μ of an i whose state fits
  suffices H : ∀ n i a w σ, ok i → μ i = n → Rel w0 [] (I i) a w σ → ∀ b k cs, ∃ e a' w', (∃ s' σ', Rel w0 [] s' a' w' σ' ∧ Q e s') ∧ Arrives P (lone (b.at a (.code body :: .inLoop body :: k)) cs w) b k cs e a' w' by
    intro b k cs
    obtain ⟨e, a', w', hq, harr⟩ := H (μ i0) i0 a w σ' h0 rfl h' b k cs
    exact ⟨e, a', w', hq, .of_steps (.one step_loop) harr⟩
  intro n
  induction n using Nat.strongRecOn with
  | _ n ih =>
    intro i a w σ hok hn hrel b k cs
    obtain ⟨e, a₁, w₁, ⟨s1, σ1, hr1, hq⟩, harr⟩ := round i hok a w σ hrel b (.inLoop body :: k) cs
    cases e with
    | normal =>
      obtain ⟨j, hj, hlt, hle⟩ := hq
      obtain ⟨σ2, hr2⟩ := hle w0 a₁ w₁ σ1 hr1
      obtain ⟨e, a', w', hq', harr'⟩ := ih (μ j) (hn ▸ hlt) j a₁ w₁ σ2 hj rfl hr2 b k cs
      exact ⟨e, a', w', hq', .of_steps (Steps.trans harr (.one step_inLoop)) harr'⟩
    | exit id => exact ⟨_, a₁, w₁, ⟨s1, σ1, hr1, hq⟩, fun k' hk => harr k' (by simpa [exitTo] using hk)⟩
    | goto l => exact ⟨_, a₁, w₁, ⟨s1, σ1, hr1, hq⟩, fun k' hk => harr k' (by simpa [gotoIn] using hk)⟩
    | ret => exact ⟨_, a₁, w₁, ⟨s1, σ1, hr1, hq⟩, harr⟩
    | panic chain => exact ⟨_, a₁, w₁, ⟨s1, σ1, hr1, hq⟩, harr⟩
    | outgrown => exact ⟨_, a₁, w₁, ⟨s1, σ1, hr1, hq⟩, harr⟩

end
end Go.Abs
