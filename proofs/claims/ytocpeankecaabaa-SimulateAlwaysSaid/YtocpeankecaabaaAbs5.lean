/-
  What new objects, stores and appends do to an abstract state. No program is named.
-/
import Derived.Test.YtocpeankecaabaaAbs4
set_option linter.all false
namespace Go.Abs
open Go.RowKit

theorem Moves.grow {w w' : World} {E : Nat → Prop} {B : Nat} {σ : Tags} {H : List AObj} (hH : HeapsX w E B σ H) (h : Below w.heap.size w w') : Moves (fun _ => True) w E σ w' E σ :=
  ⟨h.size, fun _ _ h => h, fun b hb _ => h.block b hb, fun _ _ _ h => h, fun t g cur e _ hg hh => ⟨cur, (h.block g (hH.blk_lt hg)).trans hh, rfl⟩⟩

theorem HeapsX.grow {w w' : World} {E : Nat → Prop} {B : Nat} {σ : Tags} {H : List AObj} (hH : HeapsX w E B σ H) (h : Below w.heap.size w w') : HeapsX w' E B σ H :=
  ⟨hH.len, hH.inj, fun t o ho => by
    obtain ⟨g, hg, hob⟩ := hH.obj t o ho
    refine ⟨g, hg, hob.moves (Moves.grow hH h) (fun k hk => ?_)⟩
    subst hk
    exact h.block k (hH.blk_lt hg)⟩

theorem Since.grow {w0 w w' : World} {σ0 σ : Tags} (h : Since w0 σ0 w σ) (hb : Below w.heap.size w w') : Since w0 σ0 w' σ :=
  ⟨hb.os.trans h.os, hb.tape.trans h.tape, hb.output.trans h.output, Nat.le_trans h.size hb.size,
    fun b hlt hn => (hb.block b (Nat.lt_of_lt_of_le hlt h.size)).trans (h.blk b hlt hn), h.keep, h.new⟩

theorem V.grow {w w' : World} {B : Nat} {σ : Tags} {H : List AObj} (hH : Heaps w B σ H) (h : Below w.heap.size w w') {A : AV} {v : Value} (hv : V w B σ A σ v) : V w' B σ A σ v :=
  VX.moves (Moves.grow hH h) A σ σ v (.inr ⟨rfl, rfl, TagsIn.true A⟩) hv

theorem Rel.grow {w0 : World} {σ0 : Tags} {s : AS} {a : Act} {w w' : World} {σ : Tags} (h : Rel w0 σ0 s a w σ) (hb : Below w.heap.size w w') : Rel w0 σ0 s a w' σ :=
  ⟨h.defers, h.len, fun t A hA => let ⟨v, hv, hV⟩ := h.slot t A hA; ⟨v, hv, V.grow h.heaps hb hV⟩, h.heaps.grow hb, h.since.grow hb⟩

/-- A new object. -/
def AS.push (s : AS) (o : AObj) : AS := { s with heap := s.heap ++ [o] }

theorem getElem?_push_tags {σ : Tags} {g : Nat} {t g' : Nat} (h : (σ ++ [some g])[t]? = some (some g')) : σ[t]? = some (some g') ∨ (t = σ.length ∧ g' = g) := by
  rcases Nat.lt_or_ge t σ.length with hlt | hge
  · rw [List.getElem?_append_left hlt] at h; exact .inl h
  · rw [List.getElem?_append_right hge] at h
    cases hk : t - σ.length with
    | zero =>
      rw [hk] at h
      simp at h
      exact .inr ⟨by omega, h.symm⟩
    | succ n => rw [hk] at h; simp at h

theorem Moves.alloc {w : World} {B : Nat} {σ : Tags} {H : List AObj} (hH : Heaps w B σ H) (o : Obj) : Moves (fun _ => True) w (Owned σ) σ (w.alloc o) (Owned (σ ++ [some w.heap.size])) (σ ++ [some w.heap.size]) := by
  refine ⟨by simp, fun b hb hn hn' => ?_, fun b hb _ => Below.heap_alloc w o b hb, fun t g _ hg => ?_, fun t g cur e _ hg hh => ⟨cur, (Below.heap_alloc w o g (hH.blk_lt hg)).trans hh, rfl⟩⟩
  · rcases List.mem_append.1 hn' with h | h
    · exact hn h
    · simp only [List.mem_singleton, Option.some.injEq] at h
      omega
  · rw [List.getElem?_append_left (by
      rcases Nat.lt_or_ge t σ.length with h' | h'
      · exact h'
      · rw [List.getElem?_eq_none h'] at hg; cases hg)]
    exact hg

theorem Rel.alloc {w0 : World} {σ0 : Tags} {s : AS} {a : Act} {w : World} {σ : Tags} (h : Rel w0 σ0 s a w σ) (o : AObj) (cur : Array Value) (hsz : o.n * o.sz ≤ cur.size)
    (hc : ∀ i f, i < o.n → f < o.sz → ∃ u, cur[i * o.sz + f]? = some u ∧ u.oneCell' = true ∧ V w w0.heap.size σ (o.cs i f) σ u) :
    Rel w0 σ0 (s.push o) a (w.alloc (.cells cur o.ty (0, 0))) (σ ++ [some w.heap.size]) := by
  have hm := Moves.alloc h.heaps (.cells cur o.ty (0, 0))
  refine ⟨h.defers, h.len, fun t A hA => ?_, ⟨?_, ?_, ?_⟩, ?_⟩
  · obtain ⟨v, hv, hV⟩ := h.slot t A hA
    exact ⟨v, hv, VX.moves hm A σ _ v (.inr ⟨rfl, rfl, TagsIn.true A⟩) hV⟩
  · simp [AS.push, h.heaps.len]
  · intro t t' g h1 h2
    rcases getElem?_push_tags h1 with h1 | ⟨h1, h1'⟩ <;> rcases getElem?_push_tags h2 with h2 | ⟨h2, h2'⟩
    · exact h.heaps.inj t t' g h1 h2
    · have := h.heaps.blk_lt h1; omega
    · have := h.heaps.blk_lt h2; omega
    · omega
  · intro t o' ho'
    simp only [AS.push] at ho'
    rcases Nat.lt_or_ge t s.heap.length with hlt | hge
    · rw [List.getElem?_append_left hlt] at ho'
      obtain ⟨g, hg, hob⟩ := h.heaps.obj t o' ho'
      refine ⟨g, by rw [List.getElem?_append_left (by rw [h.heaps.len]; exact hlt)]; exact hg, hob.moves hm (fun k hk => ?_)⟩
      subst hk
      exact Below.heap_alloc _ _ _ (h.heaps.blk_lt hg)
    · rw [List.getElem?_append_right hge] at ho'
      cases hk : t - s.heap.length with
      | succ n => rw [hk] at ho'; simp at ho'
      | zero =>
        rw [hk] at ho'
        simp only [List.getElem?_cons_zero, Option.some.injEq] at ho'
        subst ho'
        refine ⟨some w.heap.size, by rw [List.getElem?_append_right (by rw [h.heaps.len]; exact hge), h.heaps.len, hk]; rfl, cur, heap_alloc_new w _, hsz, fun i f hi hf => ?_⟩
        obtain ⟨u, hu, h1, hV⟩ := hc i f hi hf
        exact ⟨u, hu, h1, VX.moves hm _ σ _ u (.inr ⟨rfl, rfl, TagsIn.true _⟩) hV⟩
  · have hs := h.since
    refine ⟨hs.os, hs.tape, hs.output, Nat.le_trans hs.size (by simp), fun b hb hn => (Below.heap_alloc w _ b (Nat.lt_of_lt_of_le hb hs.size)).trans (hs.blk b hb hn), fun t ht => ?_, fun t g ht hg => ?_⟩
    · have hk := hs.keep t ht
      rcases Nat.lt_or_ge t σ.length with h' | h'
      · rw [List.getElem?_append_left h']; exact hk
      · rw [List.getElem?_eq_none h', List.getElem?_eq_getElem ht] at hk; cases hk
    · rcases getElem?_push_tags hg with h1 | ⟨_, h1⟩
      · exact hs.new t g ht h1
      · rw [h1]; exact hs.size

/-- One owned block is written anew, cell by cell; its size stays. -/
theorem Rel.write {w0 : World} {σ0 : Tags} {s : AS} {a : Act} {w w' : World} {σ : Tags} (h : Rel w0 σ0 s a w σ) {t g : Nat} {o o' : AObj} {cur cur' : Array Value} (ho : s.heap[t]? = some o) (hg : σ[t]? = some (some g))
    (hcur : w.heap[g]? = some (.cells cur o.ty (0, 0))) (hcur' : w'.heap[g]? = some (.cells cur' o'.ty (0, 0))) (hty : o'.ty = o.ty) (hs : cur'.size = cur.size) (hsize : w'.heap.size = w.heap.size) (hos : w'.os = w.os) (htape : w'.tape = w.tape) (hout : w'.output = w.output)
    (hblk : ∀ k, k ≠ g → w'.heap[k]? = w.heap[k]?) (hn : o'.n * o'.sz ≤ cur'.size)
    (hc : ∀ i f, i < o'.n → f < o'.sz → ∃ u, cur'[i * o'.sz + f]? = some u ∧ u.oneCell' = true ∧ V w w0.heap.size σ (o'.cs i f) σ u) :
    Rel w0 σ0 { s with heap := s.heap.set t o' } a w' σ := by
  have hown : Owned σ g := mem_tags.2 ⟨t, hg⟩
  have hm : Moves (fun _ => True) w (Owned σ) σ w' (Owned σ) σ := by
    refine ⟨by rw [hsize]; exact Nat.le_refl _, fun _ _ h => h, fun b _ hb => hblk b (fun e => hb (e ▸ hown)), fun _ _ _ h => h, fun t1 g1 cur1 e1 _ hg1 hh => ?_⟩
    by_cases he : g1 = g
    · subst he
      rw [hcur] at hh
      simp only [Option.some.injEq, Obj.cells.injEq] at hh
      obtain ⟨rfl, rfl, _⟩ := hh
      exact ⟨cur', by rw [hcur', hty], hs⟩
    · exact ⟨cur1, (hblk g1 he).trans hh, rfl⟩
  have htl : t < s.heap.length := by
    rcases Nat.lt_or_ge t s.heap.length with h' | h'
    · exact h'
    · rw [List.getElem?_eq_none h'] at ho; cases ho
  refine ⟨h.defers, h.len, fun t1 A hA => ?_, ⟨by simp [h.heaps.len], h.heaps.inj, fun t1 o1 ho1 => ?_⟩, ?_⟩
  · obtain ⟨v, hv, hV⟩ := h.slot t1 A hA
    exact ⟨v, hv, VX.moves hm A σ σ v (.inr ⟨rfl, rfl, TagsIn.true A⟩) hV⟩
  · by_cases he : t = t1
    · subst he
      simp only [List.getElem?_set_self htl, Option.some.injEq] at ho1
      subst ho1
      refine ⟨some g, hg, cur', hcur', hn, fun i f hi hf => ?_⟩
      obtain ⟨u, hu, h1, hV⟩ := hc i f hi hf
      exact ⟨u, hu, h1, VX.moves hm _ σ σ u (.inr ⟨rfl, rfl, TagsIn.true _⟩) hV⟩
    · simp only [List.getElem?_set_ne he] at ho1
      obtain ⟨g1, hg1, hob⟩ := h.heaps.obj t1 o1 ho1
      refine ⟨g1, hg1, hob.moves hm (fun k hk => ?_)⟩
      subst hk
      exact hblk k (fun e => he (h.heaps.inj t t1 g hg (e ▸ hg1)))
  · have hsn := h.since
    refine ⟨hos.trans hsn.os, htape.trans hsn.tape, hout.trans hsn.output, by rw [hsize]; exact hsn.size, fun b hb hnb => ?_, hsn.keep, hsn.new⟩
    refine (hblk b (fun e => ?_)).trans (hsn.blk b hb hnb)
    subst e
    rcases Nat.lt_or_ge t σ0.length with h' | h'
    · exact hnb (by rw [hsn.keep t h'] at hg; exact mem_tags.2 ⟨t, hg⟩)
    · have := hsn.new t b h' hg; omega

/-- What named tag t, forgotten. -/
def kill (t : Nat) : AV → AV
  | .agg k cs => .agg k (fun j => kill t (cs j))
  | .tup k cs => .tup k (fun j => kill t (cs j))
  | .fn f k cs => .fn f k (fun j => kill t (cs j))
  | .own t' sz n => if t' = t then .any else .own t' sz n
  | .ownS t' sz off n => if t' = t then .any else .ownS t' sz off n
  | .ptr t' sz i f => if t' = t then .any else .ptr t' sz i f
  | .cond c a => .cond c (kill t a)
  | a => a

theorem VX.kill {w : World} {E : Nat → Prop} {B : Nat} (t : Nat) : ∀ (A : AV) (τ : Tags) (v : Value), VX w E B A τ v → VX w E B (kill t A) τ v := by
  intro A
  induction A with
  | agg k cs ih => rintro τ v ⟨l, hl, hk, hc⟩; exact ⟨l, hl, hk, fun j hj => let ⟨u, hu, h1, hV⟩ := hc j hj; ⟨u, hu, h1, ih j τ u hV⟩⟩
  | tup k cs ih => rintro τ v ⟨l, hl, hk, hc⟩; exact ⟨l, hl, hk, fun j hj => let ⟨u, hu, hV⟩ := hc j hj; ⟨u, hu, ih j τ u hV⟩⟩
  | fn f k cs ih => rintro τ v ⟨l, hl, hk, hc⟩; exact ⟨l, hl, hk, fun j hj => let ⟨u, hu, hV⟩ := hc j hj; ⟨u, hu, ih j τ u hV⟩⟩
  | own t' sz n => intro τ v h; unfold Abs.kill; split <;> first | trivial | exact h
  | ownS t' sz off n => intro τ v h; unfold Abs.kill; split <;> first | trivial | exact h
  | ptr t' sz i f => intro τ v h; unfold Abs.kill; split <;> first | trivial | exact h
  | cond c a ih =>
    rintro τ v hv
    unfold Abs.kill VX
    unfold VX at hv
    split
    · rename_i hc; rw [if_pos hc] at hv; exact ih τ v hv
    · rename_i hc; rw [if_neg hc] at hv; exact hv
  | _ => intro τ v h; exact h

theorem TagsIn.kill (t : Nat) : ∀ A : AV, TagsIn (fun t' => t' ≠ t) (kill t A) := by
  intro A
  induction A with
  | agg k cs ih => exact fun j _ => ih j
  | tup k cs ih => exact fun j _ => ih j
  | fn f k cs ih => exact fun j _ => ih j
  | own t' sz n => unfold Abs.kill; split <;> first | trivial | assumption
  | ownS t' sz off n => unfold Abs.kill; split <;> first | trivial | assumption
  | ptr t' sz i f => unfold Abs.kill; split <;> first | trivial | assumption
  | cond c a ih => exact ih
  | _ => trivial

def killO (t : Nat) (o : AObj) : AObj := { o with cs := fun i f => kill t (o.cs i f) }

/-- Object t grows by m elements. -/
def AS.grown (s : AS) (t : Nat) (o : AObj) (m : Nat) (src : Nat → Nat → AV) : AS :=
  { slots := s.slots.map (kill t),
    heap := (s.heap.map (killO t)).set t { o with n := o.n + m, cs := fun i f => if i < o.n then kill t (o.cs i f) else kill t (src (i - o.n) f) } }

theorem Rel.append {P : Program} {tt : TT} (hF : Fits P tt) {w0 : World} {σ0 : Tags} {s : AS} {a : Act} {w : World} {σ : Tags} (h : Rel w0 σ0 s a w σ) {st ty el : TypeId} {b1 b2 : Nat} {z1 : List Value} {ei : TI}
    (hst : tt st = some ⟨.slice el, b1, b2, z1⟩) (hel : tt el = some ei) {t : Nat} {o : AObj} (ho : s.heap[t]? = some o) (hty : o.ty = el) (hsz : ei.sz = o.sz) (hpos : 0 < o.sz) (hz : ei.zero.length = ei.sz)
    (hlate : σ0.length ≤ t) {v : Value} (hv : V w w0.heap.size σ (.own t o.sz o.n) σ v) {ad : Addr} {m c : Nat} {news : List Value} {src : Nat → Nat → AV} (hl : news.length = m * o.sz)
    (hnews : ∀ j u, news[j]? = some u → w.cell? (ad.add j) = some u) (h1 : ∀ u ∈ news, u.oneCell' = true) (hsrc : ∀ i f, i < m → f < o.sz → ∃ u, news[i * o.sz + f]? = some u ∧ V w w0.heap.size σ (src i f) σ u)
    (h63 : o.n + m ≤ maxLen) (hbytes : (o.n + m) * ei.bytes ≤ 140737488355328) :
    ∃ v' w' σ', (Builtin.append_ #[st, st] ty #[v, .slice (some ad) m c]).run P w = .ok v' w' ∧ Rel w0 σ0 (s.grown t o m src) a w' σ' ∧ V w' w0.heap.size σ' (.own t o.sz (o.n + m)) σ' v' := by
  obtain ⟨inf, d, z, hi1, hi2, hi3, hi4, hi5, hi6, hi7⟩ := (hF el ei hel).1
  have hu := und_slice hF hst
  obtain ⟨g0, hg0, hob⟩ := h.heaps.obj t o ho
  have htl : t < s.heap.length := by
    rcases Nat.lt_or_ge t s.heap.length with h' | h'
    · exact h'
    · rw [List.getElem?_eq_none h'] at ho; cases ho
  have htσ : t < σ.length := by rw [h.heaps.len]; exact htl
  -- the row as the law on append has it
  obtain ⟨xs, hown, hxs⟩ : ∃ xs : List Value, w.ownsRow 0 el o.sz v o.n xs ∧ (∀ i f, i < o.n → f < o.sz → ∃ u, xs[i * o.sz + f]? = some u ∧ u.oneCell' = true ∧ V w w0.heap.size σ (o.cs i f) σ u) := by
    rcases hv with ⟨hn0, hv⟩ | ⟨g, cap, cur, e, hg, hv, hn, hcm, hh, hcs⟩
    · exact ⟨[], ⟨by simp [hn0], .inl ⟨hv, hn0⟩⟩, fun i f hi => by omega⟩
    · rw [hg0] at hg
      injection hg with hg
      subst hg
      obtain ⟨cur2, hc2, hle, hcell⟩ := hob
      rw [hh] at hc2
      simp only [Option.some.injEq, Obj.cells.injEq] at hc2
      obtain ⟨rfl, rfl, _⟩ := hc2
      refine ⟨cur.toList.take (o.n * o.sz), ⟨by rw [List.length_take, Array.length_toList]; exact Nat.min_eq_left hle, .inr ⟨g, cap, cur, hv, Nat.zero_le _, by rw [← hty]; exact hh, hn, hcm, hcs, rfl⟩⟩, fun i f hi hf => ?_⟩
      obtain ⟨u, hu', h1', hV⟩ := hcell i f hi hf
      refine ⟨u, ?_, h1', hV⟩
      rw [List.getElem?_take, if_pos, Array.getElem?_toList]
      · exact hu'
      · have : (i + 1) * o.sz ≤ o.n * o.sz := Nat.mul_le_mul_right _ hi
        rw [Nat.add_mul] at this
        omega
  have hvown : ∀ k, v.ownBlock = some k → σ[t]? = some (some k) := by
    intro k hk
    rcases hv with ⟨hn0, hv⟩ | ⟨g, cap, cur, e, hg, hv, _⟩
    · subst hv; simp [Value.ownBlock] at hk
    · subst hv
      simp only [Value.ownBlock, Option.some.injEq] at hk
      subst hk
      exact hg
  obtain ⟨v', w', hrun, hown', hgr, hnil', hat⟩ := run_append_own_at (P := P) w 0 st ty el inf z o.sz ei.bytes hu hi1 hi6 (hi4.trans hsz) hi5 (by rw [← Array.length_toList, hi7, hz, hsz]) hpos v o.n xs hown ad m c news hl hnews h1 h63 hbytes (Nat.zero_le _)
  -- the new tags
  let σ' : Tags := σ.set t v'.ownBlock
  have hg'new : ∀ k, v'.ownBlock = some k → σ[t]? = some (some k) ∨ k = w.heap.size := by
    intro k hk
    rcases hat with hat | hat
    · exact .inl (hvown k (hat ▸ hk))
    · rw [hat] at hk; injection hk with hk; exact .inr hk.symm
  have hex : ∀ b, b < w.heap.size → ¬ Owned σ b → ¬ Owned σ' b := by
    intro b hb hn hn'
    obtain ⟨t1, ht1⟩ := mem_tags.1 hn'
    by_cases he : t = t1
    · subst he
      simp only [σ', List.getElem?_set_self htσ, Option.some.injEq] at ht1
      rcases hg'new b ht1 with h' | h'
      · exact hn (mem_tags.2 ⟨t, h'⟩)
      · omega
    · simp only [σ', List.getElem?_set_ne he] at ht1
      exact hn (mem_tags.2 ⟨t1, ht1⟩)
  have hother : ∀ t1 g1, t1 ≠ t → σ[t1]? = some (some g1) → w'.heap[g1]? = w.heap[g1]? := by
    intro t1 g1 hne hg1
    refine hgr.block g1 (h.heaps.blk_lt hg1) (fun e => ?_)
    exact hne (h.heaps.inj t1 t g1 hg1 (hvown g1 e.symm))
  have hm : Moves (fun t' => t' ≠ t) w (Owned σ) σ w' (Owned σ') σ' := by
    refine ⟨hgr.size, hex, fun b hb hn => hgr.block b hb (fun e => hn (mem_tags.2 ⟨t, hvown b e.symm⟩)), fun t1 g1 hne hg1 => ?_, fun t1 g1 cur e hne hg1 hh => ⟨cur, (hother t1 g1 hne hg1).trans hh, rfl⟩⟩
    simp only [σ', List.getElem?_set_ne (Ne.symm hne)]
    exact hg1
  have hkill : ∀ A u, V w w0.heap.size σ A σ u → V w' w0.heap.size σ' (kill t A) σ' u := fun A u hA => VX.moves hm _ σ σ' u (.inr ⟨rfl, rfl, TagsIn.kill t A⟩) (VX.kill t A σ u hA)
  have hV' : V w' w0.heap.size σ' (.own t o.sz (o.n + m)) σ' v' := by
    rcases hown'.2 with ⟨hv', hn0⟩ | ⟨g, cap, cur, hv', _, hh, hn, hcm, hcs, _⟩
    · exact .inl ⟨hn0, hv'⟩
    · refine .inr ⟨g, cap, cur, el, ?_, hv', hn, hcm, hh, hcs⟩
      simp [σ', List.getElem?_set_self htσ, hv', Value.ownBlock]
  refine ⟨v', w', σ', hrun, ⟨h.defers, by simp [AS.grown, h.len], fun t1 A hA => ?_, ⟨by simp [σ', AS.grown, h.heaps.len], fun t1 t2 k ht1 ht2 => ?_, fun t1 o1 ho1 => ?_⟩, ?_⟩, hV'⟩
  · simp only [AS.grown, List.getElem?_map] at hA
    cases hs : s.slots[t1]? with
    | none => simp [hs] at hA
    | some B =>
      simp only [hs, Option.map_some, Option.some.injEq] at hA
      subst hA
      obtain ⟨u, hu', hV⟩ := h.slot t1 B hs
      exact ⟨u, hu', hkill B u hV⟩
  · by_cases e1 : t = t1 <;> by_cases e2 : t = t2
    · omega
    · subst e1
      simp only [σ', List.getElem?_set_self htσ, Option.some.injEq] at ht1
      simp only [σ', List.getElem?_set_ne e2] at ht2
      rcases hg'new k ht1 with h' | h'
      · exact h.heaps.inj t t2 k h' ht2
      · have := h.heaps.blk_lt ht2; omega
    · subst e2
      simp only [σ', List.getElem?_set_self htσ, Option.some.injEq] at ht2
      simp only [σ', List.getElem?_set_ne e1] at ht1
      rcases hg'new k ht2 with h' | h'
      · exact h.heaps.inj t1 t k ht1 h'
      · have := h.heaps.blk_lt ht1; omega
    · simp only [σ', List.getElem?_set_ne e1] at ht1
      simp only [σ', List.getElem?_set_ne e2] at ht2
      exact h.heaps.inj t1 t2 k ht1 ht2
  · by_cases he : t = t1
    · subst he
      simp only [AS.grown] at ho1
      rw [List.getElem?_set_self (by simpa using htl)] at ho1
      injection ho1 with ho1
      subst ho1
      refine ⟨v'.ownBlock, by simp [σ', List.getElem?_set_self htσ], ?_⟩
      rcases hown'.2 with ⟨hv', hn0⟩ | ⟨g, cap, cur, hv', _, hh, hn, hcm, hcs, htake⟩
      · rw [hv']; exact hn0
      · rw [hv']
        refine ⟨cur, by rw [hh, hty], ?_, fun i f hi hf => ?_⟩
        · simp only []
          rw [hcs]
          exact Nat.mul_le_mul_right _ hn
        · simp only [] at hi hf ⊢
          have hlt : i * o.sz + f < (o.n + m) * o.sz := by
            have : (i + 1) * o.sz ≤ (o.n + m) * o.sz := Nat.mul_le_mul_right _ hi
            rw [Nat.add_mul i 1] at this
            omega
          have hcell : cur[i * o.sz + f]? = (xs ++ news)[i * o.sz + f]? := by
            rw [← htake, List.getElem?_take, if_pos hlt, Array.getElem?_toList]
          rw [hcell]
          by_cases hin : i < o.n
          · obtain ⟨u, hu', h1', hV⟩ := hxs i f hin hf
            refine ⟨u, ?_, h1', by rw [if_pos hin]; exact hkill _ u hV⟩
            rw [List.getElem?_append_left]
            · exact hu'
            · rcases Nat.lt_or_ge (i * o.sz + f) xs.length with h' | h'
              · exact h'
              · rw [List.getElem?_eq_none h'] at hu'; cases hu'
          · obtain ⟨u, hu', hV⟩ := hsrc (i - o.n) f (by omega) hf
            have hxl : xs.length = o.n * o.sz := hown.1
            have hsub : i * o.sz + f - xs.length = (i - o.n) * o.sz + f := by
              rw [hxl, Nat.sub_mul]
              have : o.n * o.sz ≤ i * o.sz := Nat.mul_le_mul_right _ (by omega)
              omega
            refine ⟨u, ?_, h1 u (List.mem_of_getElem? hu'), by rw [if_neg hin]; exact hkill _ u hV⟩
            rw [List.getElem?_append_right (by rw [hxl]; have : o.n * o.sz ≤ i * o.sz := Nat.mul_le_mul_right _ (by omega); omega), hsub]
            exact hu'
    · simp only [AS.grown] at ho1
      rw [List.getElem?_set_ne he, List.getElem?_map] at ho1
      cases hs : s.heap[t1]? with
      | none => simp [hs] at ho1
      | some o2 =>
        simp only [hs, Option.map_some, Option.some.injEq] at ho1
        subst ho1
        obtain ⟨g1, hg1, hob1⟩ := h.heaps.obj t1 o2 hs
        refine ⟨g1, by simp only [σ', List.getElem?_set_ne he]; exact hg1, ?_⟩
        cases g1 with
        | none => exact hob1
        | some k =>
          obtain ⟨cur, hc, hle, hcell⟩ := hob1
          refine ⟨cur, (hother t1 k (Ne.symm he) hg1).trans hc, hle, fun i f hi hf => ?_⟩
          obtain ⟨u, hu', h1', hV⟩ := hcell i f hi hf
          exact ⟨u, hu', h1', hkill _ u hV⟩
  · have hsn := h.since
    refine ⟨hgr.os.trans hsn.os, hgr.tape.trans hsn.tape, hgr.output.trans hsn.output, Nat.le_trans hsn.size hgr.size, fun b hb hnb => ?_, fun t1 ht1 => ?_, fun t1 k ht1 hk => ?_⟩
    · refine (hgr.block b (Nat.lt_of_lt_of_le hb hsn.size) (fun e => ?_)).trans (hsn.blk b hb hnb)
      have := hsn.new t b hlate (hvown b e.symm)
      omega
    · simp only [σ', List.getElem?_set_ne (show t ≠ t1 by omega)]
      exact hsn.keep t1 ht1
    · by_cases he : t = t1
      · subst he
        simp only [σ', List.getElem?_set_self htσ, Option.some.injEq] at hk
        rcases hg'new k hk with h' | h'
        · exact hsn.new t k ht1 h'
        · rw [h']; exact hsn.size
      · simp only [σ', List.getElem?_set_ne he] at hk
        exact hsn.new t1 k ht1 hk

end Go.Abs
