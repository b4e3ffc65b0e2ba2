/-
  Contracts of functions over abstract values ('Con'), code over abstract states ('SW'), and the operations that make or write owned objects. No program is named.
-/
import Derived.Test.YtocpeankecaabaaAbs5
set_option linter.all false
namespace Go.Abs
open Go.RowKit

/-- All memory that a value reads is new. -/
def AllFresh : AV → Prop
  | .ro fr sz n cs => fr = true ∧ ∀ i f, i < n → f < sz → AllFresh (cs i f)
  | .rptr _ _ _ _ _ => False
  | .agg k cs => ∀ j, j < k → AllFresh (cs j)
  | .tup k cs => ∀ j, j < k → AllFresh (cs j)
  | .fn _ k cs => ∀ j, j < k → AllFresh (cs j)
  | .cond _ a => AllFresh a
  | _ => True

/-- Nothing is said to be new. -/
def NoFresh : AV → Prop
  | .ro fr sz n cs => fr = false ∧ ∀ i f, i < n → f < sz → NoFresh (cs i f)
  | .rptr sz n cs _ _ => ∀ i f, i < n → f < sz → NoFresh (cs i f)
  | .agg k cs => ∀ j, j < k → NoFresh (cs j)
  | .tup k cs => ∀ j, j < k → NoFresh (cs j)
  | .fn _ k cs => ∀ j, j < k → NoFresh (cs j)
  | .cond _ a => NoFresh a
  | _ => True

theorem VX.noFresh {w : World} {E : Nat → Prop} {B B' : Nat} : ∀ (A : AV) (τ : Tags) (v : Value), NoFresh A → VX w E B A τ v → VX w E B' A τ v := by
  intro A
  induction A with
  | agg k cs ih => rintro τ v hf ⟨l, hl, hk, hc⟩; exact ⟨l, hl, hk, fun j hj => let ⟨u, hu, h1, hV⟩ := hc j hj; ⟨u, hu, h1, ih j τ u (hf j hj) hV⟩⟩
  | tup k cs ih => rintro τ v hf ⟨l, hl, hk, hc⟩; exact ⟨l, hl, hk, fun j hj => let ⟨u, hu, hV⟩ := hc j hj; ⟨u, hu, ih j τ u (hf j hj) hV⟩⟩
  | fn f k cs ih => rintro τ v hf ⟨l, hl, hk, hc⟩; exact ⟨l, hl, hk, fun j hj => let ⟨u, hu, hV⟩ := hc j hj; ⟨u, hu, ih j τ u (hf j hj) hV⟩⟩
  | ro fr sz n cs ih =>
    rintro τ v ⟨hfr, hf⟩ ⟨a, c, hv, hn, hc, hr⟩
    refine ⟨a, c, hv, hn, hc, fun h0 => ?_⟩
    obtain ⟨b, o, ha, hb, hs, _, hcell⟩ := hr h0
    refine ⟨b, o, ha, hb, hs, (fun h => by rw [hfr] at h; cases h), fun i f hi hff => ?_⟩
    obtain ⟨u, hu, h1, hV⟩ := hcell i f hi hff
    exact ⟨u, hu, h1, ih i f [] u (hf i f hi hff) hV⟩
  | rptr sz n cs i0 f0 ih =>
    rintro τ v hf ⟨b, o, hv, hb, hs, hcell⟩
    refine ⟨b, o, hv, hb, hs, fun i f hi hff => ?_⟩
    obtain ⟨u, hu, h1, hV⟩ := hcell i f hi hff
    exact ⟨u, hu, h1, ih i f [] u (hf i f hi hff) hV⟩
  | cond c a ih =>
    rintro τ v hf hv
    unfold VX at hv ⊢
    split
    · rename_i hc; rw [if_pos hc] at hv; exact ih τ v hf hv
    · rename_i hc; rw [if_neg hc] at hv; exact hv
  | _ => intro τ v _ hv; exact hv

/-- The bound from which on memory is new, lowered. -/
theorem VX.handed_zero {w : World} {E : Nat → Prop} {B : Nat} : ∀ (A : AV) (τ : Tags) (v : Value), VX w E B A τ v → VX w E 0 A τ v := by
  intro A
  induction A with
  | agg k cs ih => rintro τ v ⟨l, hl, hk, hc⟩; exact ⟨l, hl, hk, fun j hj => let ⟨u, hu, h1, hV⟩ := hc j hj; ⟨u, hu, h1, ih j τ u hV⟩⟩
  | tup k cs ih => rintro τ v ⟨l, hl, hk, hc⟩; exact ⟨l, hl, hk, fun j hj => let ⟨u, hu, hV⟩ := hc j hj; ⟨u, hu, ih j τ u hV⟩⟩
  | fn f k cs ih => rintro τ v ⟨l, hl, hk, hc⟩; exact ⟨l, hl, hk, fun j hj => let ⟨u, hu, hV⟩ := hc j hj; ⟨u, hu, ih j τ u hV⟩⟩
  | ro fr sz n cs ih =>
    rintro τ v ⟨a, c, hv, hn, hc, hr⟩
    refine ⟨a, c, hv, hn, hc, fun h0 => ?_⟩
    obtain ⟨b, o, ha, hb, hs, _, hcell⟩ := hr h0
    refine ⟨b, o, ha, hb, hs, fun _ => Nat.zero_le _, fun i f hi hff => ?_⟩
    obtain ⟨u, hu, h1, hV⟩ := hcell i f hi hff
    exact ⟨u, hu, h1, ih i f [] u hV⟩
  | rptr sz n cs i0 f0 ih =>
    rintro τ v ⟨b, o, hv, hb, hs, hcell⟩
    refine ⟨b, o, hv, hb, hs, fun i f hi hff => ?_⟩
    obtain ⟨u, hu, h1, hV⟩ := hcell i f hi hff
    exact ⟨u, hu, h1, ih i f [] u hV⟩
  | cond c a ih =>
    rintro τ v hv
    unfold VX at hv ⊢
    split
    · rename_i hc; rw [if_pos hc] at hv; exact ih τ v hv
    · rename_i hc; rw [if_neg hc] at hv; exact hv
  | _ => intro τ v hv; exact hv

/-- Tags counted from d on. -/
def AV.shift (d : Nat) : AV → AV
  | .agg k cs => .agg k (fun j => (cs j).shift d)
  | .tup k cs => .tup k (fun j => (cs j).shift d)
  | .fn f k cs => .fn f k (fun j => (cs j).shift d)
  | .own t sz n => .own (t + d) sz n
  | .ownS t sz off n => .ownS (t + d) sz off n
  | .ptr t sz i f => .ptr (t + d) sz i f
  | .cond c a => .cond c (a.shift d)
  | a => a

/-- What was new to the callee is known to the caller, without tags. -/
theorem VX.handed {w : World} {E E2 : Nat → Prop} {B B2 : Nat} (hE : ∀ b, B ≤ b → ¬ E b → ¬ E2 b) (hB : B2 ≤ B) : ∀ (A : AV) (v : Value), AllFresh A → VX w E B A [] v → VX w E2 B2 A [] v := by
  intro A
  induction A with
  | agg k cs ih => rintro v hf ⟨l, hl, hk, hc⟩; exact ⟨l, hl, hk, fun j hj => let ⟨u, hu, h1, hV⟩ := hc j hj; ⟨u, hu, h1, ih j u (hf j hj) hV⟩⟩
  | tup k cs ih => rintro v hf ⟨l, hl, hk, hc⟩; exact ⟨l, hl, hk, fun j hj => let ⟨u, hu, hV⟩ := hc j hj; ⟨u, hu, ih j u (hf j hj) hV⟩⟩
  | fn f k cs ih => rintro v hf ⟨l, hl, hk, hc⟩; exact ⟨l, hl, hk, fun j hj => let ⟨u, hu, hV⟩ := hc j hj; ⟨u, hu, ih j u (hf j hj) hV⟩⟩
  | ro fr sz n cs ih =>
    rintro v ⟨hfr, hf⟩ ⟨a, c, hv, hn, hc, hr⟩
    refine ⟨a, c, hv, hn, hc, fun h0 => ?_⟩
    obtain ⟨b, o, ha, hb, hs, hfb, hcell⟩ := hr h0
    refine ⟨b, o, ha, hb, hE b (hfb hfr) hs, fun _ => Nat.le_trans hB (hfb hfr), fun i f hi hff => ?_⟩
    obtain ⟨u, hu, h1, hV⟩ := hcell i f hi hff
    exact ⟨u, hu, h1, ih i f u (hf i f hi hff) hV⟩
  | rptr sz n cs i0 f0 ih => intro v hf; exact hf.elim
  | cond c a ih =>
    rintro v hf hv
    unfold VX at hv ⊢
    split
    · rename_i hc; rw [if_pos hc] at hv; exact ih v hf hv
    · rename_i hc; rw [if_neg hc] at hv; exact hv
  | _ => intro v _ hv; exact hv

theorem VX.shift {w : World} {E E2 : Nat → Prop} {B B2 d : Nat} {σ σ2 : Tags} (hE : ∀ b, B ≤ b → ¬ E b → ¬ E2 b) (hB : B2 ≤ B) (hσ : ∀ t g, σ[t]? = some (some g) → σ2[t + d]? = some (some g)) :
    ∀ (A : AV) (v : Value), AllFresh A → VX w E B A σ v → VX w E2 B2 (A.shift d) σ2 v := by
  intro A
  induction A with
  | agg k cs ih => rintro v hf ⟨l, hl, hk, hc⟩; exact ⟨l, hl, hk, fun j hj => let ⟨u, hu, h1, hV⟩ := hc j hj; ⟨u, hu, h1, ih j u (hf j hj) hV⟩⟩
  | tup k cs ih => rintro v hf ⟨l, hl, hk, hc⟩; exact ⟨l, hl, hk, fun j hj => let ⟨u, hu, hV⟩ := hc j hj; ⟨u, hu, ih j u (hf j hj) hV⟩⟩
  | fn f k cs ih => rintro v hf ⟨l, hl, hk, hc⟩; exact ⟨l, hl, hk, fun j hj => let ⟨u, hu, hV⟩ := hc j hj; ⟨u, hu, ih j u (hf j hj) hV⟩⟩
  | ro fr sz n cs ih =>
    rintro v ⟨hfr, hf⟩ ⟨a, c, hv, hn, hc, hr⟩
    refine ⟨a, c, hv, hn, hc, fun h0 => ?_⟩
    obtain ⟨b, o, ha, hb, hs, hfb, hcell⟩ := hr h0
    refine ⟨b, o, ha, hb, hE b (hfb hfr) hs, fun _ => Nat.le_trans hB (hfb hfr), fun i f hi hff => ?_⟩
    obtain ⟨u, hu, h1, hV⟩ := hcell i f hi hff
    exact ⟨u, hu, h1, VX.handed hE hB _ u (hf i f hi hff) hV⟩
  | rptr sz n cs i0 f0 ih => intro v hf; exact hf.elim
  | own t sz n =>
    rintro v _ hv
    rcases hv with hv | ⟨g, c, cur, e, hg, hv, hn, hc, hh, hs⟩
    · exact .inl hv
    · exact .inr ⟨g, c, cur, e, hσ t g hg, hv, hn, hc, hh, hs⟩
  | ownS t sz off n =>
    rintro v _ ⟨a, c, hv, hn, hc, hr⟩
    exact ⟨a, c, hv, hn, hc, fun h0 => let ⟨g, hg, ha⟩ := hr h0; ⟨g, hσ t g hg, ha⟩⟩
  | ptr t sz i f => rintro v _ ⟨g, hg, hv⟩; exact ⟨g, hσ t g hg, hv⟩
  | cond c a ih =>
    rintro v hf hv
    unfold AV.shift VX
    unfold VX at hv
    split
    · rename_i hc; rw [if_pos hc] at hv; exact ih v hf hv
    · rename_i hc; rw [if_neg hc] at hv; exact hv
  | _ => intro v _ hv; exact hv

def shiftO (d : Nat) (o : AObj) : AObj := { o with cs := fun i f => (o.cs i f).shift d }
def FreshO (o : AObj) : Prop := ∀ i f, i < o.n → f < o.sz → AllFresh (o.cs i f)

/-- In a state whose owned objects are H, whatever A tells of, A' tells of too, and A' names no tag. -/
def Sub (H : List AObj) (A A' : AV) : Prop :=
  ∀ (w : World) (B : Nat) (σ : Tags) (v : Value), Heaps w B σ H → (∀ g, Owned σ g → B ≤ g) → V w B σ A σ v → VX w (fun _ => False) B A' [] v

def SubL (H : List AObj) : List AV → List AV → Prop
  | [], [] => True
  | A :: l, A' :: l' => Sub H A A' ∧ SubL H l l'
  | _, _ => False

theorem SubL.length {H : List AObj} : ∀ {l l' : List AV}, SubL H l l' → l.length = l'.length
  | [], [], _ => rfl
  | _ :: _, _ :: _, h => by simp [SubL.length h.2]
  | [], _ :: _, h => h.elim
  | _ :: _, [], h => h.elim

theorem SubL.at_ {H : List AObj} : ∀ {l l' : List AV}, SubL H l l' → ∀ (j : Nat) A', l'[j]? = some A' → ∃ A, l[j]? = some A ∧ Sub H A A'
  | [], [], _, j, A', h => by simp at h
  | A :: l, A1 :: l', hs, 0, A', h => by simp at h; subst h; exact ⟨A, rfl, hs.1⟩
  | A :: l, A1 :: l', hs, j + 1, A', h => by
    obtain ⟨A2, h1, h2⟩ := SubL.at_ hs.2 j A' (by simpa using h)
    exact ⟨A2, by simpa using h1, h2⟩
  | [], _ :: _, hs, _, _, _ => hs.elim
  | _ :: _, [], hs, _, _, _ => hs.elim

/-- A function of the program with a body. -/
def Callable (P : Program) (f : FuncId) : Prop := ∃ fn, P.funcs[f]? = some fn ∧ (fn.name == "runtime.NumGoroutine") = false ∧ fn.body.isNone = false

/-- Called with values of which 'args' tells, function f returns one of which 'post' tells, all of whose memory is new; nothing that was there has turned. -/
def Con (P : Program) (f : FuncId) (args : List AV) (post : List AObj → AV → Prop) : Prop :=
  Callable P f ∧ ∀ (w : World) (vs : List Value), vs.length = args.length → (∀ (j : Nat) A v, args[j]? = some A → vs[j]? = some v → VX w (fun _ => False) 0 A [] v) →
    Calls P f vs.toArray w fun e w' => ∃ v σ' H' A, e = .returned v ∧ Heaps w' w.heap.size σ' H' ∧ (∀ o ∈ H', FreshO o) ∧ V w' w.heap.size σ' A σ' v ∧ AllFresh A ∧ Since w [] w' σ' ∧ post H' A

theorem Con.mono {P : Program} {f : FuncId} {args : List AV} {post post' : List AObj → AV → Prop} (h : Con P f args post) (hp : ∀ H A, post H A → post' H A) : Con P f args post' :=
  ⟨h.1, fun w vs hl hv => (h.2 w vs hl hv).mono fun _ _ ⟨v, σ', H', A, he, hH, hfo, hV, hfr, hs, hpo⟩ => ⟨v, σ', H', A, he, hH, hfo, hV, hfr, hs, hp _ _ hpo⟩⟩

def AS.pushes (s : AS) (H : List AObj) : AS := { s with heap := s.heap ++ H.map (shiftO s.heap.length) }

theorem tags_append {σ σ' : Tags} {t g : Nat} (h : (σ ++ σ')[t]? = some (some g)) : (t < σ.length ∧ σ[t]? = some (some g)) ∨ (σ.length ≤ t ∧ σ'[t - σ.length]? = some (some g)) := by
  rcases Nat.lt_or_ge t σ.length with hlt | hge
  · rw [List.getElem?_append_left hlt] at h; exact .inl ⟨hlt, h⟩
  · rw [List.getElem?_append_right hge] at h; exact .inr ⟨hge, h⟩

theorem tag_lt {σ : Tags} {t : Nat} {g : Option Nat} (h : σ[t]? = some g) : t < σ.length := by
  rcases Nat.lt_or_ge t σ.length with h' | h'
  · exact h'
  · rw [List.getElem?_eq_none h'] at h; cases h

/-- What a call hands back is added to the caller's state. -/
theorem Rel.handed {w0 : World} {σ0 : Tags} {s : AS} {a : Act} {w w' : World} {σ σ' : Tags} (h : Rel w0 σ0 s a w σ) {H' : List AObj} {A : AV} {v : Value} (hH : Heaps w' w.heap.size σ' H') (hfo : ∀ o ∈ H', FreshO o)
    (hV : V w' w.heap.size σ' A σ' v) (hfr : AllFresh A) (hs : Since w [] w' σ') : Rel w0 σ0 (s.pushes H') a w' (σ ++ σ') ∧ V w' w0.heap.size (σ ++ σ') (A.shift s.heap.length) (σ ++ σ') v := by
  have hlen : σ.length = s.heap.length := h.heaps.len
  have hnew : ∀ t g, σ'[t]? = some (some g) → w.heap.size ≤ g := fun t g hg => hs.new t g (Nat.zero_le _) hg
  have hbelow : Below w.heap.size w w' := ⟨hs.os, hs.tape, hs.output, hs.size, fun k hk => hs.blk k hk (by simp)⟩
  have hE : ∀ b, w.heap.size ≤ b → ¬ Owned σ' b → ¬ Owned (σ ++ σ') b := by
    intro b hb hn hn'
    obtain ⟨t, ht⟩ := mem_tags.1 hn'
    rcases tags_append ht with ⟨_, h'⟩ | ⟨_, h'⟩
    · have := h.heaps.blk_lt h'; omega
    · exact hn (mem_tags.2 ⟨_, h'⟩)
  have hσ : ∀ t g, σ'[t]? = some (some g) → (σ ++ σ')[t + s.heap.length]? = some (some g) := by
    intro t g hg
    rw [List.getElem?_append_right (by omega), hlen, Nat.add_sub_cancel]
    exact hg
  have hm : Moves (fun _ => True) w (Owned σ) σ w' (Owned (σ ++ σ')) (σ ++ σ') := by
    refine ⟨hs.size, fun b hb hn hn' => ?_, fun b hb _ => hbelow.block b hb, fun t g _ hg => ?_, fun t g cur e _ hg hh => ⟨cur, (hbelow.block g (h.heaps.blk_lt hg)).trans hh, rfl⟩⟩
    · obtain ⟨t, ht⟩ := mem_tags.1 hn'
      rcases tags_append ht with ⟨_, h'⟩ | ⟨_, h'⟩
      · exact hn (mem_tags.2 ⟨_, h'⟩)
      · have := hnew _ _ h'; omega
    · rw [List.getElem?_append_left (tag_lt hg)]; exact hg
  refine ⟨⟨h.defers, h.len, fun t B hB => ?_, ⟨?_, ?_, ?_⟩, ?_⟩, VX.shift hE h.since.size hσ A v hfr hV⟩
  · obtain ⟨u, hu, hV⟩ := h.slot t B hB
    exact ⟨u, hu, VX.moves hm B σ _ u (.inr ⟨rfl, rfl, TagsIn.true B⟩) hV⟩
  · simp [AS.pushes, hlen, hH.len]
  · intro t t' g h1 h2
    rcases tags_append h1 with ⟨_, h1'⟩ | ⟨ha, h1'⟩ <;> rcases tags_append h2 with ⟨_, h2'⟩ | ⟨hb, h2'⟩
    · exact h.heaps.inj t t' g h1' h2'
    · have := h.heaps.blk_lt h1'; have := hnew _ _ h2'; omega
    · have := h.heaps.blk_lt h2'; have := hnew _ _ h1'; omega
    · have := hH.inj _ _ g h1' h2'; omega
  · intro t o ho
    simp only [AS.pushes] at ho
    rcases Nat.lt_or_ge t s.heap.length with hlt | hge
    · rw [List.getElem?_append_left hlt] at ho
      obtain ⟨g, hg, hob⟩ := h.heaps.obj t o ho
      refine ⟨g, by rw [List.getElem?_append_left (by omega)]; exact hg, hob.moves hm (fun k hk => ?_)⟩
      subst hk
      exact hbelow.block k (h.heaps.blk_lt hg)
    · rw [List.getElem?_append_right hge, List.getElem?_map] at ho
      cases hq : H'[t - s.heap.length]? with
      | none => simp [hq] at ho
      | some o' =>
        simp only [hq, Option.map_some, Option.some.injEq] at ho
        subst ho
        obtain ⟨g, hg, hob⟩ := hH.obj _ o' hq
        refine ⟨g, by rw [List.getElem?_append_right (by omega), hlen]; exact hg, ?_⟩
        cases g with
        | none => exact hob
        | some k =>
          obtain ⟨cur, hc, hle, hcell⟩ := hob
          refine ⟨cur, hc, hle, fun i f hi hf => ?_⟩
          obtain ⟨u, hu, h1, hV'⟩ := hcell i f hi hf
          exact ⟨u, hu, h1, VX.shift hE h.since.size hσ _ u (hfo o' (List.mem_of_getElem? hq) i f hi hf) hV'⟩
  · have hsn := h.since
    refine ⟨hs.os.trans hsn.os, hs.tape.trans hsn.tape, hs.output.trans hsn.output, Nat.le_trans hsn.size hs.size, fun b hb hn => (hbelow.block b (Nat.lt_of_lt_of_le hb hsn.size)).trans (hsn.blk b hb hn), fun t ht => ?_, fun t g ht hg => ?_⟩
    · have hk := hsn.keep t ht
      rcases Nat.lt_or_ge t σ.length with h' | h'
      · rw [List.getElem?_append_left h']; exact hk
      · rw [List.getElem?_eq_none h', List.getElem?_eq_getElem ht] at hk; cases hk
    · rcases tags_append hg with ⟨_, h'⟩ | ⟨_, h'⟩
      · exact hsn.new t g ht h'
      · exact Nat.le_trans hsn.size (hnew _ _ h')

end Go.Abs
