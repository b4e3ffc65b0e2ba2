/-
  Abstract values over Go's memory, and what they say of a world: the ground of all contracts here. No program is named.
-/
import Derived.WalkKit
import Derived.Maps.AppendAt
import Derived.Deep.Quiet
set_option linter.all false
namespace Go.Abs

/-- What is known of a value. 'ro': a slice that is only read, n elements of sz cells; 'own': a slice over an owned object, whole; 'ownS': a part of one;
'ptr': an address in an owned object (element i, cell f); 'rptr': an address in a row that is only read. -/
inductive AV where
  | any
  | int (k : IntKind) (n : Int)
  | bool (b : Bool)
  | val (v : Value)
  | agg (k : Nat) (cs : Nat → AV)
  | tup (k : Nat) (cs : Nat → AV)
  | ro (fr : Bool) (sz n : Nat) (cs : Nat → Nat → AV)
  | rptr (sz n : Nat) (cs : Nat → Nat → AV) (i f : Nat)
  | own (t sz n : Nat)
  | ownS (t sz off n : Nat)
  | ptr (t sz i f : Nat)
  | fn (f : FuncId) (k : Nat) (cap : Nat → AV)
  | cond (c : Bool) (a : AV)

abbrev Tags := List (Option Nat)

def VX (w : World) (E : Nat → Prop) (B : Nat) : AV → Tags → Value → Prop
  | .any, _, _ => True
  | .int k n, _, v => v = .int k n
  | .bool b, _, v => v = .bool b
  | .val u, _, v => v = u
  | .agg k cs, τ, v => ∃ l : Array Value, v = .agg l ∧ l.size = k ∧ ∀ j, j < k → ∃ u, l[j]? = some u ∧ u.oneCell' = true ∧ VX w E B (cs j) τ u
  | .tup k cs, τ, v => ∃ l : Array Value, v = .tuple l ∧ l.size = k ∧ ∀ j, j < k → ∃ u, l[j]? = some u ∧ VX w E B (cs j) τ u
  | .ro fr sz n cs, _, v => ∃ a c, v = .slice a n c ∧ n ≤ c ∧ c ≤ maxLen ∧
      (0 < n → ∃ b o, a = some ⟨b, o, none⟩ ∧ b < w.heap.size ∧ ¬ E b ∧ (fr = true → B ≤ b) ∧
        ∀ i f, i < n → f < sz → ∃ u, w.cell? ⟨b, o + (i * sz + f), none⟩ = some u ∧ u.oneCell' = true ∧ VX w E B (cs i f) [] u)
  | .rptr sz n cs i f, _, v => ∃ b o, v = .pointer (some ⟨b, o + (i * sz + f), none⟩) ∧ b < w.heap.size ∧ ¬ E b ∧
        ∀ i f, i < n → f < sz → ∃ u, w.cell? ⟨b, o + (i * sz + f), none⟩ = some u ∧ u.oneCell' = true ∧ VX w E B (cs i f) [] u
  | .own t sz n, τ, v => (n = 0 ∧ v = .slice none 0 0) ∨ ∃ g c cur e, τ[t]? = some (some g) ∧ v = .slice (some ⟨g, 0, none⟩) n c ∧ n ≤ c ∧ c ≤ maxLen ∧
        w.heap[g]? = some (.cells cur e (0, 0)) ∧ cur.size = c * sz
  | .ownS t sz off n, τ, v => ∃ a c, v = .slice a n c ∧ n ≤ c ∧ c ≤ maxLen ∧ (0 < n → ∃ g, τ[t]? = some (some g) ∧ a = some ⟨g, off * sz, none⟩)
  | .ptr t sz i f, τ, v => ∃ g, τ[t]? = some (some g) ∧ v = .pointer (some ⟨g, i * sz + f, none⟩)
  | .fn f k cap, τ, v => ∃ l : Array Value, v = .func (.func f) #[] l ∧ l.size = k ∧ ∀ j, j < k → ∃ u, l[j]? = some u ∧ VX w E B (cap j) τ u
  | .cond c a, τ, v => if c = true then VX w E B a τ v else v = undef

/-- The blocks that are owned. -/
def Owned (σ : Tags) (b : Nat) : Prop := some b ∈ σ

abbrev V (w : World) (B : Nat) (σ : Tags) (A : AV) (τ : Tags) (v : Value) : Prop := VX w (Owned σ) B A τ v

/-- Every tag that an abstract value names (outside rows that are only read: those name none) satisfies p. -/
def TagsIn (p : Nat → Prop) : AV → Prop
  | .agg k cs => ∀ j, j < k → TagsIn p (cs j)
  | .tup k cs => ∀ j, j < k → TagsIn p (cs j)
  | .fn _ k cs => ∀ j, j < k → TagsIn p (cs j)
  | .own t _ _ => p t
  | .ownS t _ _ _ => p t
  | .ptr t _ _ _ => p t
  | .cond _ a => TagsIn p a
  | _ => True

theorem TagsIn.true (A : AV) : TagsIn (fun _ => True) A := by
  induction A with
  | agg k cs ih => exact fun j _ => ih j
  | tup k cs ih => exact fun j _ => ih j
  | fn f k cs ih => exact fun j _ => ih j
  | cond c a ih => exact ih
  | _ => trivial

/-- How a world and its owned blocks may go on so that what was known stays known. -/
structure Moves (p : Nat → Prop) (w : World) (E : Nat → Prop) (σ : Tags) (w' : World) (E' : Nat → Prop) (σ' : Tags) : Prop where
  size : w.heap.size ≤ w'.heap.size
  ex : ∀ b, b < w.heap.size → ¬ E b → ¬ E' b
  blk : ∀ b, b < w.heap.size → ¬ E b → w'.heap[b]? = w.heap[b]?
  tag : ∀ (t g : Nat), p t → σ[t]? = some (some g) → σ'[t]? = some (some g)
  room : ∀ (t g : Nat) cur e, p t → σ[t]? = some (some g) → w.heap[g]? = some (.cells cur e (0, 0)) → ∃ cur', w'.heap[g]? = some (.cells cur' e (0, 0)) ∧ cur'.size = cur.size

theorem VX.moves {p : Nat → Prop} {w w' : World} {E E' : Nat → Prop} {B : Nat} {σ σ' : Tags} (h : Moves p w E σ w' E' σ') : ∀ (A : AV) (τ τ' : Tags) (v : Value),
    (τ = [] ∧ τ' = []) ∨ (τ = σ ∧ τ' = σ' ∧ TagsIn p A) → VX w E B A τ v → VX w' E' B A τ' v := by
  intro A
  induction A with
  | any => intros; trivial
  | int k n => intro τ τ' v _ hv; exact hv
  | bool b => intro τ τ' v _ hv; exact hv
  | val u => intro τ τ' v _ hv; exact hv
  | agg k cs ih =>
    rintro τ τ' v ht ⟨l, hl, hk, hc⟩
    refine ⟨l, hl, hk, fun j hj => ?_⟩
    obtain ⟨u, hu, h1, hV⟩ := hc j hj
    refine ⟨u, hu, h1, ih j τ τ' u ?_ hV⟩
    rcases ht with ht | ⟨h1, h2, h3⟩
    · exact .inl ht
    · exact .inr ⟨h1, h2, h3 j hj⟩
  | tup k cs ih =>
    rintro τ τ' v ht ⟨l, hl, hk, hc⟩
    refine ⟨l, hl, hk, fun j hj => ?_⟩
    obtain ⟨u, hu, hV⟩ := hc j hj
    refine ⟨u, hu, ih j τ τ' u ?_ hV⟩
    rcases ht with ht | ⟨h1, h2, h3⟩
    · exact .inl ht
    · exact .inr ⟨h1, h2, h3 j hj⟩
  | fn f k cs ih =>
    rintro τ τ' v ht ⟨l, hl, hk, hc⟩
    refine ⟨l, hl, hk, fun j hj => ?_⟩
    obtain ⟨u, hu, hV⟩ := hc j hj
    refine ⟨u, hu, ih j τ τ' u ?_ hV⟩
    rcases ht with ht | ⟨h1, h2, h3⟩
    · exact .inl ht
    · exact .inr ⟨h1, h2, h3 j hj⟩
  | ro fr sz n cs ih =>
    rintro τ τ' v _ ⟨a, c, hv, hn, hc, hr⟩
    refine ⟨a, c, hv, hn, hc, fun h0 => ?_⟩
    obtain ⟨b, o, ha, hb, hs, hfr, hcell⟩ := hr h0
    refine ⟨b, o, ha, Nat.lt_of_lt_of_le hb h.size, h.ex b hb hs, hfr, fun i f hi hf => ?_⟩
    obtain ⟨u, hu, h1, hV⟩ := hcell i f hi hf
    exact ⟨u, (World.cell?_of_block (w := w) (h.blk b hb hs)).trans hu, h1, ih i f [] [] u (.inl ⟨rfl, rfl⟩) hV⟩
  | rptr sz n cs i0 f0 ih =>
    rintro τ τ' v _ ⟨b, o, hv, hb, hs, hcell⟩
    refine ⟨b, o, hv, Nat.lt_of_lt_of_le hb h.size, h.ex b hb hs, fun i f hi hf => ?_⟩
    obtain ⟨u, hu, h1, hV⟩ := hcell i f hi hf
    exact ⟨u, (World.cell?_of_block (w := w) (h.blk b hb hs)).trans hu, h1, ih i f [] [] u (.inl ⟨rfl, rfl⟩) hV⟩
  | own t sz n =>
    rintro τ τ' v ht hv
    rcases hv with hv | ⟨g, c, cur, e, hg, hv, hn, hc, hh, hs⟩
    · exact .inl hv
    · rcases ht with ⟨rfl, rfl⟩ | ⟨rfl, rfl, hp⟩
      · simp at hg
      · obtain ⟨cur', hh', hs'⟩ := h.room t g cur e hp hg hh
        exact .inr ⟨g, c, cur', e, h.tag t g hp hg, hv, hn, hc, hh', hs'.trans hs⟩
  | ownS t sz off n =>
    rintro τ τ' v ht ⟨a, c, hv, hn, hc, hr⟩
    refine ⟨a, c, hv, hn, hc, fun h0 => ?_⟩
    obtain ⟨g, hg, ha⟩ := hr h0
    rcases ht with ⟨rfl, rfl⟩ | ⟨rfl, rfl, hp⟩
    · simp at hg
    · exact ⟨g, h.tag t g hp hg, ha⟩
  | ptr t sz i f =>
    rintro τ τ' v ht ⟨g, hg, hv⟩
    rcases ht with ⟨rfl, rfl⟩ | ⟨rfl, rfl, hp⟩
    · simp at hg
    · exact ⟨g, h.tag t g hp hg, hv⟩
  | cond c a ih =>
    rintro τ τ' v ht hv
    unfold VX at hv ⊢
    split
    · rename_i hc
      rw [if_pos hc] at hv
      exact ih τ τ' v ht hv
    · rename_i hc
      rw [if_neg hc] at hv
      exact hv

/-- What is known without any tag is known under whatever tags. -/
theorem VX.closed {w : World} {E : Nat → Prop} {B : Nat} : ∀ (A : AV) (τ : Tags) (v : Value), VX w E B A [] v → VX w E B A τ v := by
  intro A
  induction A with
  | agg k cs ih => rintro τ v ⟨l, hl, hk, hc⟩; exact ⟨l, hl, hk, fun j hj => let ⟨u, hu, h1, hV⟩ := hc j hj; ⟨u, hu, h1, ih j τ u hV⟩⟩
  | tup k cs ih => rintro τ v ⟨l, hl, hk, hc⟩; exact ⟨l, hl, hk, fun j hj => let ⟨u, hu, hV⟩ := hc j hj; ⟨u, hu, ih j τ u hV⟩⟩
  | fn f k cs ih => rintro τ v ⟨l, hl, hk, hc⟩; exact ⟨l, hl, hk, fun j hj => let ⟨u, hu, hV⟩ := hc j hj; ⟨u, hu, ih j τ u hV⟩⟩
  | own t sz n =>
    rintro τ v hv
    rcases hv with hv | ⟨g, c, cur, e, hg, _⟩
    · exact .inl hv
    · simp at hg
  | ownS t sz off n =>
    rintro τ v ⟨a, c, hv, hn, hc, hr⟩
    exact ⟨a, c, hv, hn, hc, fun h0 => by obtain ⟨g, hg, _⟩ := hr h0; simp at hg⟩
  | ptr t sz i f => rintro τ v ⟨g, hg, _⟩; simp at hg
  | cond c a ih =>
    rintro τ v hv
    unfold VX at hv ⊢
    split
    · rename_i hc; rw [if_pos hc] at hv; exact ih τ v hv
    · rename_i hc; rw [if_neg hc] at hv; exact hv
  | _ => intro τ v hv; exact hv

theorem V.closed {w : World} {B : Nat} {σ : Tags} (A : AV) (τ : Tags) (v : Value) (h : V w B σ A [] v) : V w B σ A τ v := VX.closed A τ v h

/-- An owned object: rows of n elements of sz cells each; its block's element type is ty. -/
structure AObj where
  ty : TypeId
  sz : Nat
  n : Nat
  cs : Nat → Nat → AV

/-- Object o lies in block g; where it lies in none, it is empty. -/
def HObjX (w : World) (E : Nat → Prop) (B : Nat) (σ : Tags) (o : AObj) : Option Nat → Prop
  | none => o.n = 0
  | some g => ∃ cur, w.heap[g]? = some (.cells cur o.ty (0, 0)) ∧ o.n * o.sz ≤ cur.size ∧
      ∀ i f, i < o.n → f < o.sz → ∃ u, cur[i * o.sz + f]? = some u ∧ u.oneCell' = true ∧ VX w E B (o.cs i f) σ u

abbrev HObj (w : World) (B : Nat) (σ : Tags) (o : AObj) (g : Option Nat) : Prop := HObjX w (Owned σ) B σ o g

/-- An abstract state: what the slots hold, and the owned objects. -/
structure AS where
  slots : List AV
  heap : List AObj

/-- What the owned objects say of a world. -/
structure HeapsX (w : World) (E : Nat → Prop) (B : Nat) (σ : Tags) (H : List AObj) : Prop where
  len : σ.length = H.length
  inj : ∀ (t t' g : Nat), σ[t]? = some (some g) → σ[t']? = some (some g) → t = t'
  obj : ∀ (t : Nat) o, H[t]? = some o → ∃ g, σ[t]? = some g ∧ HObjX w E B σ o g

abbrev Heaps (w : World) (B : Nat) (σ : Tags) (H : List AObj) : Prop := HeapsX w (Owned σ) B σ H

/-- Since the world w0, in which the blocks σ0 were owned: all other old blocks are as they were; what is owned now was owned then under the same tag, or is new. -/
structure Since (w0 : World) (σ0 : Tags) (w : World) (σ : Tags) : Prop where
  os : w.os = w0.os
  tape : w.tape = w0.tape
  output : w.output = w0.output
  size : w0.heap.size ≤ w.heap.size
  blk : ∀ b, b < w0.heap.size → some b ∉ σ0 → w.heap[b]? = w0.heap[b]?
  keep : ∀ t : Nat, t < σ0.length → σ[t]? = σ0[t]?
  new : ∀ (t g : Nat), σ0.length ≤ t → σ[t]? = some (some g) → w0.heap.size ≤ g

structure Rel (w0 : World) (σ0 : Tags) (s : AS) (a : Act) (w : World) (σ : Tags) : Prop where
  defers : a.defers = []
  len : a.tmps.size = s.slots.length
  slot : ∀ (t : Nat) A, s.slots[t]? = some A → ∃ v, a.tmps[t]? = some v ∧ V w w0.heap.size σ A σ v
  heaps : Heaps w w0.heap.size σ s.heap
  since : Since w0 σ0 w σ

theorem HeapsX.blk_lt {w : World} {E : Nat → Prop} {B : Nat} {σ : Tags} {H : List AObj} (h : HeapsX w E B σ H) {t g : Nat} (hg : σ[t]? = some (some g)) : g < w.heap.size := by
  have ht : t < σ.length := by
    rcases Nat.lt_or_ge t σ.length with h' | h'
    · exact h'
    · rw [List.getElem?_eq_none h'] at hg; cases hg
  have ht' : t < H.length := h.len ▸ ht
  obtain ⟨g', hg', ho⟩ := h.obj t H[t] (List.getElem?_eq_getElem ht')
  rw [hg] at hg'
  injection hg' with hg'
  subst hg'
  obtain ⟨cur, hc, _⟩ := ho
  rcases Nat.lt_or_ge g w.heap.size with h' | h'
  · exact h'
  · rw [Array.getElem?_eq_none h'] at hc; cases hc

theorem mem_tags {σ : Tags} {g : Nat} : Owned σ g ↔ ∃ t : Nat, σ[t]? = some (some g) := List.mem_iff_getElem?

/-- A world whose heap is the same in every block. -/
theorem Moves.same {w w' : World} {E : Nat → Prop} {σ : Tags} (h : w'.heap = w.heap) : Moves (fun _ => True) w E σ w' E σ :=
  ⟨by rw [h]; exact Nat.le_refl _, fun _ _ h => h, fun _ _ _ => by rw [h], fun _ _ _ h => h, fun t g cur e _ _ hh => ⟨cur, by rw [h]; exact hh, rfl⟩⟩

theorem V.heapEq {w w' : World} {B : Nat} {σ : Tags} (h : w'.heap = w.heap) {A : AV} {v : Value} (hv : V w B σ A σ v) : V w' B σ A σ v :=
  VX.moves (Moves.same h) A σ σ v (.inr ⟨rfl, rfl, TagsIn.true A⟩) hv

theorem HObjX.moves {w w' : World} {E E' : Nat → Prop} {B : Nat} {σ σ' : Tags} (h : Moves (fun _ => True) w E σ w' E' σ') {o : AObj} {g : Option Nat}
    (hb : ∀ k, g = some k → w'.heap[k]? = w.heap[k]?) (ho : HObjX w E B σ o g) : HObjX w' E' B σ' o g := by
  cases g with
  | none => exact ho
  | some k =>
    obtain ⟨cur, hc, hs, hcell⟩ := ho
    refine ⟨cur, (hb k rfl).trans hc, hs, fun i f hi hf => ?_⟩
    obtain ⟨u, hu, h1, hV⟩ := hcell i f hi hf
    exact ⟨u, hu, h1, VX.moves h _ σ σ' u (.inr ⟨rfl, rfl, TagsIn.true _⟩) hV⟩

theorem Rel.heapEq {w0 : World} {σ0 : Tags} {s : AS} {a : Act} {w w' : World} {σ : Tags} (h : Rel w0 σ0 s a w σ) (hh : w'.heap = w.heap) (ho : w'.os = w.os) (ht : w'.tape = w.tape) (hu : w'.output = w.output) : Rel w0 σ0 s a w' σ := by
  refine ⟨h.defers, h.len, fun t A hA => ?_, ⟨h.heaps.len, h.heaps.inj, fun t o ho' => ?_⟩, ?_⟩
  · obtain ⟨v, hv, hV⟩ := h.slot t A hA
    exact ⟨v, hv, hV.heapEq hh⟩
  · obtain ⟨g, hg, hob⟩ := h.heaps.obj t o ho'
    exact ⟨g, hg, HObjX.moves (Moves.same hh) (fun k _ => by rw [hh]) hob⟩
  · obtain ⟨a1, a2, a3, a4, a5, a6, a7⟩ := h.since
    exact ⟨ho.trans a1, ht.trans a2, hu.trans a3, by rw [hh]; exact a4, fun b hb hs => by rw [hh]; exact a5 b hb hs, a6, a7⟩

/-- s' tells no more than s. -/
def SLe (s s' : AS) : Prop := ∀ (w0 : World) (a : Act) (w : World) (σ : Tags), Rel w0 [] s a w σ → ∃ σ', Rel w0 [] s' a w σ'

theorem SLe.refl (s : AS) : SLe s s := fun _ _ _ σ h => ⟨σ, h⟩
theorem SLe.trans {s t u : AS} (h : SLe s t) (k : SLe t u) : SLe s u := fun w0 a w σ hr => let ⟨σ', h'⟩ := h w0 a w σ hr; k w0 a w σ' h'

/-- Of whatever A tells, A' tells. -/
def ALe (A A' : AV) : Prop := ∀ (w : World) (E : Nat → Prop) (B : Nat) (τ : Tags) (v : Value), VX w E B A τ v → VX w E B A' τ v
theorem ALe.refl (A : AV) : ALe A A := fun _ _ _ _ _ h => h

/-- The slots of a state, one put anew. -/
def AS.put (s : AS) (d : Option Tmp) (A : AV) : AS :=
  match d with
  | some d => { s with slots := s.slots.set d A }
  | none => s

theorem Rel.put {w0 : World} {σ0 : Tags} {s : AS} {a : Act} {w : World} {σ : Tags} (h : Rel w0 σ0 s a w σ) (d : Option Tmp) {A : AV} {v : Value} (hv : V w w0.heap.size σ A σ v) :
    Rel w0 σ0 (s.put d A) (a.put d v) w σ := by
  cases d with
  | none => exact h
  | some d =>
    refine ⟨h.defers, by simp [AS.put, Act.put, h.len], fun t B hB => ?_, h.heaps, h.since⟩
    simp only [AS.put] at hB
    simp only [Act.put]
    by_cases htd : d = t
    · subst htd
      have hlt : d < s.slots.length := by
        rcases Nat.lt_or_ge d s.slots.length with h' | h'
        · exact h'
        · rw [List.getElem?_eq_none (by simpa using h')] at hB; cases hB
      rw [List.getElem?_set_self hlt] at hB
      injection hB with hB
      subst hB
      exact ⟨v, by rw [Array.getElem?_setIfInBounds_self_of_lt (by rw [h.len]; exact hlt)], hv⟩
    · rw [List.getElem?_set_ne htd] at hB
      rw [Array.getElem?_setIfInBounds_ne htd]
      exact h.slot t B hB

/-- The abstract value of an operand. -/
def ofC : Value → AV
  | .int k n => .int k n
  | .bool b => .bool b
  | v => .val v

theorem V_ofC (w : World) (B : Nat) (σ τ : Tags) (v : Value) : V w B σ (ofC v) τ v := by cases v <;> simp [ofC, V, VX]

def evO (s : List AV) : Operand → AV
  | .tmp t => s.getD t .any
  | .const v => ofC v
  | .func f => .fn f 0 (fun _ => .any)
  | .global _ => .any

theorem Rel.ev {w0 : World} {σ0 : Tags} {s : AS} {a : Act} {w : World} {σ : Tags} (h : Rel w0 σ0 s a w σ) (x : Operand) : V w w0.heap.size σ (evO s.slots x) σ (a.eval x) := by
  cases x with
  | tmp t =>
    simp only [evO, Act.eval, List.getD_eq_getElem?_getD, Array.getD_eq_getD_getElem?]
    cases hA : s.slots[t]? with
    | none => simp [V, VX]
    | some A =>
      obtain ⟨v, hv, hV⟩ := h.slot t A hA
      simpa [hv] using hV
  | const v => exact V_ofC w _ σ σ v
  | func f => exact ⟨#[], rfl, rfl, fun j hj => absurd hj (by omega)⟩
  | global g => simp [evO, V, VX]

end Go.Abs
