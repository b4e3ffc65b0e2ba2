/-
  From a contract to a statement: an argument of any readable type, opened; the end of a law that returns true. No program is named.
-/
import Derived.Test.YtocpeankecaabaaAbs12
import Derived.ProofKit
import Derived.Deep.Slices
import Derived.Deep.Fields
import Derived.ChangeSame
import Derived.Below
import Derived.Carry
set_option linter.all false
namespace Go.Abs
open Go.RowKit Go.ChangeShapes Go.WideShapes Go.Deep

section
variable {P : Program}

/-- Whatever is read as a value of type t is, cell by cell, the picture of some m that is good. -/
def Opn (P : Program) (t : TypeId) {M : Type} (sz : Nat) (en : M → Nat → AV) (good : M → Prop) : Prop :=
  ∀ (H : Type) (enc : TypeId × Value → H) (w : World) (sp : Nat → Bool) (held : Bool) (fuel : Nat) (cs : List Value) (x : DataW H × List MemPlace), DataW.trod enc P w 0 sp held fuel t cs = some x →
    ∃ m, good m ∧ cs.length = sz ∧ ∀ f, f < sz → ∃ u, cs[f]? = some u ∧ u.oneCell' = true ∧ VX w (fun _ => False) 0 (en m f) [] u

theorem Opn.map {t : TypeId} {M M' : Type} {sz : Nat} {en : M → Nat → AV} {good : M → Prop} (h : Opn P t sz en good) (g : M → M') {en' : M' → Nat → AV} {good' : M' → Prop}
    (hg : ∀ m, good m → good' (g m)) (he : ∀ m, good m → ∀ f, f < sz → en' (g m) f = en m f) : Opn P t sz en' good' := by
  intro H enc w sp held fuel cs x hx
  obtain ⟨m, hm, hl, hc⟩ := h H enc w sp held fuel cs x hx
  exact ⟨g m, hg m hm, hl, fun f hf => by rw [he m hm f hf]; exact hc f hf⟩

theorem Opn.int {t : TypeId} {k : IntKind} (ht : P.underlying t = some (.int k)) : Opn P t 1 (fun (n : Int) _ => .int k n) (fun n => k.min ≤ n ∧ n ≤ k.max) := by
  intro H enc w sp held fuel cs x hx
  obtain ⟨n, rfl, _, hw⟩ := DataW.trod_int ht hx
  simp only [Lit.wf, Bool.and_eq_true, decide_eq_true_eq] at hw
  refine ⟨n, hw, rfl, fun f hf => ?_⟩
  obtain rfl : f = 0 := by omega
  exact ⟨_, rfl, rfl, rfl⟩

theorem Opn.bool {t : TypeId} (ht : P.underlying t = some .bool) : Opn P t 1 (fun (b : Bool) _ => .bool b) (fun _ => True) := by
  intro H enc w sp held fuel cs x hx
  obtain ⟨b, rfl, _⟩ := DataW.trod_bool ht hx
  refine ⟨b, trivial, rfl, fun f hf => ?_⟩
  obtain rfl : f = 0 := by omega
  exact ⟨_, rfl, rfl, rfl⟩

theorem Opn.slice {t e : TypeId} {M : Type} {sz : Nat} {en : M → Nat → AV} {good : M → Prop} (h : Opn P e sz en good) (d : M) (ht : P.underlying t = some (.slice e)) (hc : P.cellsOf e = sz) (h0 : 0 < sz) :
    Opn P t 1 (fun (l : List M) _ => .ro false sz l.length (fun i f => en (l.getD i d) f)) (fun l => l.length ≤ maxLen ∧ ∀ x ∈ l, good x) := by
  intro H enc w sp held fuel cs x hx
  rcases open_slice ht hx with ⟨rfl, _⟩ | ⟨a, len, cap, m, n, D, Pl, rfl, hb, hl, hm, hmm, _, hi⟩
  · refine ⟨[], ⟨by simp [maxLen], fun x hx => by simp at hx⟩, rfl, fun f hf => ?_⟩
    obtain rfl : f = 0 := by omega
    exact ⟨_, rfl, rfl, none, 0, rfl, Nat.le_refl _, by simp [maxLen], fun h => by simp at h⟩
  · have hlm : len ≤ m := by rw [hmm]; split <;> omega
    have hel : ∀ i, i < len → ∃ y, good y ∧ ∀ f, f < sz → ∃ u, w.cell? (a.add (i * sz + f)) = some u ∧ u.oneCell' = true ∧ VX w (fun _ => False) 0 (en y f) [] u := by
      intro i hil
      obtain ⟨cs', h1, h2⟩ := hi i (by omega)
      rw [hc] at h1
      obtain ⟨_, hcl, hat⟩ := World.cells?_some h1
      obtain ⟨y, hy, hyl, hyc⟩ := h H enc w sp held n cs' _ h2
      refine ⟨y, hy, fun f hf => ?_⟩
      obtain ⟨u, hu, h3⟩ := hyc f hf
      exact ⟨u, by rw [← Go.Deep.add_add, hat f hf]; exact hu, h3⟩
    have hch : ∃ g : Nat → M, ∀ i, i < len → good (g i) ∧ ∀ f, f < sz → ∃ u, w.cell? (a.add (i * sz + f)) = some u ∧ u.oneCell' = true ∧ VX w (fun _ => False) 0 (en (g i) f) [] u := by
      refine ⟨fun i => if hi : i < len then Classical.choose (hel i hi) else d, fun i hil => ?_⟩
      simp only [hil, dif_pos]
      exact Classical.choose_spec (hel i hil)
    obtain ⟨g, hg⟩ := hch
    refine ⟨(List.range len).map g, ⟨by simpa using by omega, fun y hy => ?_⟩, rfl, fun f hf => ?_⟩
    · obtain ⟨i, hir, rfl⟩ := List.mem_map.1 hy
      exact (hg i (List.mem_range.1 hir)).1
    · obtain rfl : f = 0 := by omega
      refine ⟨_, rfl, rfl, some a, cap, by simp, by simpa using hl, hm, fun h0' => ?_⟩
      have hlen : 0 < len := by simpa using h0'
      obtain ⟨u0, hu0, _⟩ := (hg 0 hlen).2 0 h0
      have hs : a.spot = none ∧ a.block < w.heap.size := by
        unfold World.cell? at hu0
        split at hu0
        · rename_i hb'
          split at hu0
          · cases hu0
          · rename_i hsp
            refine ⟨by simpa [Addr.add] using hsp, ?_⟩
            have := (Array.getElem?_eq_some_iff.1 hb').1
            simpa [Addr.add] using this
        · cases hu0
      obtain ⟨b, o, s⟩ := a
      obtain rfl : s = none := hs.1
      refine ⟨b, o, rfl, hs.2, fun h => h, fun h => by simp at h, fun i f hi' hf' => ?_⟩
      have hil : i < len := by simpa using hi'
      obtain ⟨u, hu, h1, h2⟩ := (hg i hil).2 f hf'
      have ha : (⟨b, o, none⟩ : Addr).add (i * sz + f) = ⟨b, o + (i * sz + f), none⟩ := by
        unfold Addr.add
        split
        · rename_i h; simp [h]
        · rfl
      refine ⟨u, ha ▸ hu, h1, ?_⟩
      have e : ((List.range len).map g).getD i d = g i := by simp [List.getD_eq_getElem?_getD, hil]
      show VX w _ 0 (en (((List.range len).map g).getD i d) f) [] u
      rw [e]
      exact h2

/-- A struct: field i begins at off i; cell j belongs to field idx j. -/
theorem Opn.struct {t : TypeId} {fs : Array Field} {M : Nat → Type} {szs off idx : Nat → Nat} {sz : Nat} {en : (i : Nat) → M i → Nat → AV} {good : (i : Nat) → M i → Prop} (d : (i : Nat) → M i) (ht : P.underlying t = some (.struct fs)) (hc : P.cellsOf t = sz)
    (h : ∀ (i : Nat) (f : Field), fs[i]? = some f → f.offset = off i ∧ P.cellsOf f.type = szs i ∧ Opn P f.type (szs i) (en i) (good i)) (hidx : ∀ j, j < sz → idx j < fs.size ∧ off (idx j) ≤ j ∧ j - off (idx j) < szs (idx j)) :
    Opn P t sz (fun (m : (i : Nat) → M i) j => en (idx j) (m (idx j)) (j - off (idx j))) (fun m => ∀ i, i < fs.size → good i (m i)) := by
  intro H enc w sp held fuel cs x hx
  obtain ⟨xs, n, hf, _, hcl, hxl, hfl⟩ := DataW.trod_struct ht hx
  have hel : ∀ i, i < fs.size → ∃ y : M i, good i y ∧ ∀ f, f < szs i → ∃ u, cs[off i + f]? = some u ∧ u.oneCell' = true ∧ VX w (fun _ => False) 0 (en i y f) [] u := by
    intro i hi
    have hfi : fs[i]? = some fs[i] := Array.getElem?_eq_getElem hi
    obtain ⟨h1, h2, h3⟩ := h i fs[i] hfi
    have h4 := hfl i fs[i] hfi
    have hxi : xs[i]? = some (xs[i]'(by omega)) := List.getElem?_eq_getElem (by omega)
    rw [hxi, h1, h2] at h4
    obtain ⟨y, hy, hyl, hyc⟩ := h3 H enc w sp held n _ _ h4
    refine ⟨y, hy, fun f hf => ?_⟩
    obtain ⟨u, hu, h5⟩ := hyc f hf
    refine ⟨u, ?_, h5⟩
    rw [List.getElem?_take, if_pos hf, List.getElem?_drop] at hu
    exact hu
  have hch : ∃ g : (i : Nat) → M i, ∀ i, i < fs.size → good i (g i) ∧ ∀ f, f < szs i → ∃ u, cs[off i + f]? = some u ∧ u.oneCell' = true ∧ VX w (fun _ => False) 0 (en i (g i) f) [] u := by
    refine ⟨fun i => if hi : i < fs.size then Classical.choose (hel i hi) else d i, fun i hil => ?_⟩
    simp only [hil, dif_pos]
    exact Classical.choose_spec (hel i hil)
  obtain ⟨g, hg⟩ := hch
  refine ⟨g, fun i hi => (hg i hi).1, by omega, fun j hj => ?_⟩
  obtain ⟨h1, h2, h3⟩ := hidx j hj
  obtain ⟨u, hu, h4⟩ := (hg (idx j) h1).2 _ h3
  refine ⟨u, ?_, h4⟩
  rw [show j = off (idx j) + (j - off (idx j)) by omega]
  exact hu

/-- An argument of one cell; a struct by value. -/
theorem Opn.arg1 {t : TypeId} {M : Type} {en : M → Nat → AV} {good : M → Prop} (h : Opn P t 1 en good) {H : Type} {enc : TypeId × Value → H} {w : World} {sp : Nat → Bool} {held : Bool} {v : Value} {d : DataW H} {ps : List MemPlace}
    (hv : v.cells = #[v]) (ht : DataW.Trod enc P w 0 sp held t v d ps) : ∃ m, good m ∧ VX w (fun _ => False) 0 (en m 0) [] v := by
  obtain ⟨fuel, hf⟩ := ht
  rw [hv] at hf
  obtain ⟨m, hm, _, hc⟩ := h H enc w sp held fuel _ _ hf
  obtain ⟨u, hu, _, hV⟩ := hc 0 (by omega)
  simp at hu
  subst hu
  exact ⟨m, hm, hV⟩
theorem Opn.argS {t : TypeId} {M : Type} {sz : Nat} {en : M → Nat → AV} {good : M → Prop} (h : Opn P t sz en good) {H : Type} {enc : TypeId × Value → H} {w : World} {sp : Nat → Bool} {held : Bool} {l : Array Value} {d : DataW H} {ps : List MemPlace}
    (ht : DataW.Trod enc P w 0 sp held t (.agg l) d ps) : ∃ m, good m ∧ VX w (fun _ => False) 0 (.agg sz (en m)) [] (.agg l) := by
  obtain ⟨fuel, hf⟩ := ht
  obtain ⟨m, hm, hl, hc⟩ := h H enc w sp held fuel _ _ hf
  refine ⟨m, hm, l, rfl, by simpa [Value.cells] using hl, fun j hj => ?_⟩
  obtain ⟨u, hu, h1, h2⟩ := hc j hj
  exact ⟨u, by simpa [Value.cells] using hu, h1, h2⟩
theorem Opn.argSlice {t e : TypeId} {M : Type} {en : M → Nat → AV} {good : M → Prop} (h : Opn P t 1 en good) (hs : P.underlying t = some (.slice e)) {H : Type} {enc : TypeId × Value → H} {w : World} {sp : Nat → Bool} {held : Bool} {r : Reach} {b0 : Nat} {v : Value} {d : DataW H} {ps : List MemPlace}
    (hval : Value.okWide P w r b0 t v) (ht : DataW.Trod enc P w 0 sp held t v d ps) : ∃ m, good m ∧ VX w (fun _ => False) 0 (en m 0) [] v := by
  obtain ⟨a, len, cap, rfl⟩ := okWide_slice hs hval
  exact h.arg1 rfl ht
theorem Opn.argInt {t : TypeId} {k : IntKind} {M : Type} {en : M → Nat → AV} {good : M → Prop} (h : Opn P t 1 en good) (hs : P.underlying t = some (.int k)) {H : Type} {enc : TypeId × Value → H} {w : World} {sp : Nat → Bool} {held : Bool} {r : Reach} {b0 : Nat} {v : Value} {d : DataW H} {ps : List MemPlace}
    (hval : Value.okWide P w r b0 t v) (ht : DataW.Trod enc P w 0 sp held t v d ps) : ∃ m, good m ∧ VX w (fun _ => False) 0 (en m 0) [] v := by
  obtain ⟨n, rfl⟩ := okWide_int hs hval
  exact h.arg1 rfl ht

/-! ### The end -/

theorem trodAll_below {H : Type} {enc : TypeId × Value → H} (hl : laidOutB P = true) {W W' : World} {sp : Nat → Bool} (hb : Below W.heap.size W W') : ∀ {ts : List TypeId} {vs : List Value} {ds : List (DataW H)} {ps : List MemPlace},
    ts.all (fun t => P.readableRec t && decide (t < P.types.size)) = true → DataW.TrodAll enc P W 0 (fun _ => true) true ts vs ds ps → (∀ x ∈ ps, x.block < W.heap.size) → (∀ x ∈ ps, sp x.block = true) → DataW.TrodAll enc P W' 0 sp true ts vs ds ps
  | [], [], [], _, _, h, _, _ => h
  | [], _ :: _, _, _, _, h, _, _ => h.elim
  | [], [], _ :: _, _, _, h, _, _ => h.elim
  | _ :: _, [], _, _, _, h, _, _ => h.elim
  | _ :: _, _ :: _, [], _, _, h, _, _ => h.elim
  | t :: ts, v :: vs, d :: ds, ps, hr, h, hlt, hsp => by
    obtain ⟨p, q, h1, h2, e⟩ := h
    subst e
    simp only [List.all_cons, Bool.and_eq_true, decide_eq_true_eq] at hr
    exact ⟨p, q, WideElems.Trod_stays hl hr.1.1 hr.1.2 h1 (fun x hx => hb.same (hlt x (List.mem_append_left _ hx))) (fun x hx => hsp x (List.mem_append_left _ hx)),
      trodAll_below hl hb hr.2 h2 (fun x hx => hlt x (List.mem_append_right _ hx)) (fun x hx => hsp x (List.mem_append_right _ hx)), rfl⟩

theorem post_of_below {H : Type} {enc : TypeId × Value → H} {f : Func} {s : ChangeSpec} {apart fresh handsOn again : Bool} {W W' : World} {args : Array Value} {v : Value} {ds gs : List (DataW H)} {before pa pv : List MemPlace}
    (hW : DataW.Whole enc P f.params.toList s.vars apart W args.toList ds gs before)
    (hres : ∀ (b : Nat) (sp : Nat → Bool) (hd : Bool), DataW.TrodAll enc P W' b sp hd f.resultTypes.toList (v.resultList f.resultTypes.size) (s.fn H (ds ++ gs)).results [])
    (hargs : ∀ sp : Nat → Bool, (∀ p ∈ before, sp p.block = true) → DataW.TrodAll enc P W' 0 sp true f.params.toList args.toList (s.fn H (ds ++ gs)).args pa)
    (hvars : ∀ sp : Nat → Bool, (∀ p ∈ before, sp p.block = true) → DataW.TrodVars enc P W' sp s.vars (s.fn H (ds ++ gs)).vars pv)
    (hps : before = pa ++ pv) (hb : Below W.heap.size W W')
    (hok : ∀ (j : Nat) (t : TypeId) (r : Value), f.resultTypes[j]? = some t → (v.resultList f.resultTypes.size)[j]? = some r → Value.okWide P W' .any 0 t r) :
    s.post enc P f apart fresh handsOn again W args v W' := by
  have hlt : ∀ p ∈ before, p.block < W.heap.size := fun p hp => hW.lt p hp
  have hold : ∀ p ∈ before, (fun b => decide (b < W.heap.size)) p.block = true := fun p hp => by simpa using hlt p hp
  refine ⟨ds, gs, before, [], pa, pv, hW, hres _ _ _, hargs _ hold, hvars _ hold, World.keptBut_mono (fun p hp => ⟨hp, ?_⟩) (hb.frame (· ∈ before)), fun _ => ?_⟩
  · rw [hps, List.mem_append] at hp
    exact Or.inr hp
  · obtain ⟨_, _, _, _, _, hz, hn⟩ := hW
    refine ⟨hok, _, _, ([] ++ pa) ++ pv, ⟨[] ++ pa, pv, trodAll_append (hargs _ (fun _ _ => rfl)) (hres _ _ _), hvars _ (fun _ _ => rfl), rfl, ?_, ?_⟩, ?_⟩
    · intro b off hp
      have hin : MemPlace.cell b off ∈ before := by rw [hps]; simpa using hp
      rw [hb.frozen (hlt _ hin)]
      exact hz b off hin
    · intro ha
      have := hn ha
      rw [hps] at this
      simpa using this
    · intro p hp _
      rw [hps]
      simpa using hp

/-- The end of a law: its contract says true; its arguments read as they did. -/
theorem law_end {H : Type} {enc : TypeId × Value → H} {F : FuncId} {f : Func} {s : ChangeSpec} {apart fresh handsOn again : Bool} {W : World} {args : Array Value} {As : List AV} {ds : List (DataW H)} {before : List MemPlace} {rt : TypeId}
    (hc : Con P F As (isV (.bool true))) (hl : laidOutB P = true) (hr : f.params.toList.all (fun t => P.readableRec t && decide (t < P.types.size)) = true)
    (hv0 : s.vars = []) (hW : DataW.Whole enc P f.params.toList s.vars apart W args.toList ds [] before) (hA : DataW.TrodAll enc P W 0 (fun _ => true) true f.params.toList args.toList ds before)
    (hlen : args.size = As.length) (hargs : ∀ (j : Nat) A v, As[j]? = some A → args.toList[j]? = some v → VX W (fun _ => False) 0 A [] v)
    (hsr : (s.fn H (ds ++ [])).results = [.lit (.bool true)]) (hsa : (s.fn H (ds ++ [])).args = ds) (hsv : (s.fn H (ds ++ [])).vars = []) (hrt : f.resultTypes = #[rt]) (hbt : P.underlying rt = some .bool) :
    Calls P F args W fun e W' => ∃ v, e = .returned v ∧ s.post enc P f apart fresh handsOn again W args v W' := by
  refine (hc.2 W args.toList (by simpa using hlen) hargs).mono fun e W' => ?_
  rintro ⟨v, σ', H', A, rfl, _, _, hV, _, hS, hpo⟩
  have hb : Below W.heap.size W W' := ⟨hS.os, hS.tape, hS.output, hS.size, fun k hk => hS.blk k hk (by simp)⟩
  have hAe : A = .bool true := hpo.2
  subst hAe
  have hv : v = .bool true := hV
  subst hv
  refine ⟨_, rfl, post_of_below (pa := before) (pv := []) hW ?_ ?_ ?_ (by simp) hb ?_⟩
  · intro b sp hd
    rw [hsr, hrt]
    exact trodAll_mk1 (shut_bool hbt true)
  · intro sp hsp
    rw [hsa]
    exact trodAll_below hl hb hr hA (fun x hx => hW.lt x hx) hsp
  · intro sp hsp
    rw [hsv, hv0]
    exact rfl
  · exact ok_one hrt rfl (okWide_bool_mk hbt true)
end

end Go.Abs
