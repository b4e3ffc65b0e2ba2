/-
  The abstract values of the operations that write no owned object are right. No program is named.
-/
import Derived.Test.YtocpeankecaabaaAbs2
set_option linter.all false
namespace Go.Abs
open Go.RowKit

section
variable {P : Program} {tt : TT}

theorem Fits.underlying (hF : Fits P tt) {t : TypeId} {x : TI} (h : tt t = some x) : ∃ d, P.underlying t = some d ∧ TK.of d = x.k.plain := by
  obtain ⟨i, d, z, h1, h2, h3, _⟩ := (hF t x h).1
  exact ⟨d, h2, h3⟩

theorem run_sizeOf' {t : TypeId} {x : TI} (hF : Fits P tt) (h : tt t = some x) (w : World) : (sizeOf t).run P w = .ok x.sz w := by
  obtain ⟨i, d, z, h1, h2, h3, h4, _⟩ := (hF t x h).1
  simp [sizeOf, typeInfo, h1, h4]

theorem run_isAgg' {t : TypeId} {x : TI} (hF : Fits P tt) (h : tt t = some x) (w : World) : (isAgg t).run P w = .ok x.k.agg w := by
  obtain ⟨i, d, z, h1, h2, h3, h4, _⟩ := (hF t x h).1
  have e : x.k.agg = x.k.plain.agg := by cases x.k <;> rfl
  rw [e, ← h3]
  cases d <;> simp [isAgg, run_underlying h2, TK.of, TK.agg]

theorem und_slice (hF : Fits P tt) {t el : TypeId} {a b : Nat} {z : List Value} (h : tt t = some ⟨.slice el, a, b, z⟩) : P.underlying t = some (.slice el) := by
  obtain ⟨d, h1, h2⟩ := hF.underlying h
  cases d <;> simp [TK.of, TK.plain] at h2
  subst h2
  exact h1

theorem und_arr (hF : Fits P tt) {t el : TypeId} {n a b : Nat} {z : List Value} (h : tt t = some ⟨.arr n el, a, b, z⟩) : P.underlying t = some (.array n el) := by
  obtain ⟨d, h1, h2⟩ := hF.underlying h
  cases d <;> simp [TK.of, TK.plain] at h2
  obtain ⟨rfl, rfl⟩ := h2
  exact h1

theorem und_int (hF : Fits P tt) {t : TypeId} {k : IntKind} {a b : Nat} {z : List Value} (h : tt t = some ⟨.int k, a, b, z⟩) : P.underlying t = some (.int k) := by
  obtain ⟨d, h1, h2⟩ := hF.underlying h
  cases d <;> simp [TK.of, TK.plain] at h2
  subst h2
  exact h1

theorem und_bool (hF : Fits P tt) {t : TypeId} {a b : Nat} {z : List Value} (h : tt t = some ⟨.bool, a, b, z⟩) : P.underlying t = some .bool := by
  obtain ⟨d, h1, h2⟩ := hF.underlying h
  cases d <;> simp [TK.of, TK.plain] at h2
  exact h1

theorem und_struct (hF : Fits P tt) {t : TypeId} {c : Bool} {fs : List (Nat × TypeId)} {a b : Nat} {z : List Value} (h : tt t = some ⟨.strct c fs, a, b, z⟩) :
    ∃ F : Array Field, P.underlying t = some (.struct F) ∧ F.toList.map (fun f => (f.offset, f.type)) = fs := by
  obtain ⟨d, h1, h2⟩ := hF.underlying h
  cases d <;> simp [TK.of, TK.plain] at h2
  exact ⟨_, h1, by simpa using h2⟩

/-- Cells in a row, read as one value. -/
theorem run_loadVar_of (hF : Fits P tt) {t : TypeId} {x : TI} (h : tt t = some x) {w : World} {B : Nat} {σ τ : Tags} {b o : Nat} {n sz : Nat} {cs : Nat → Nat → AV}
    (hc : ∀ i f, i < n → f < sz → ∃ u, w.cell? ⟨b, o + (i * sz + f), none⟩ = some u ∧ u.oneCell' = true ∧ V w B σ (cs i f) τ u) (i f : Nat)
    (hC : (rowV x.sz x.k.agg sz n cs i f).1) : ∃ v, (loadVar t ⟨b, o + (i * sz + f), none⟩).run P w = .ok v w ∧ V w B σ (rowV x.sz x.k.agg sz n cs i f).2 τ v := by
  have ha := run_isAgg' hF h w
  have hs := run_sizeOf' hF h w
  cases hk : x.k.agg with
  | false =>
    simp only [rowV, hk] at hC ⊢
    obtain ⟨u, hu, _, hV⟩ := hc i f hC.1 hC.2
    refine ⟨u, ?_, hV⟩
    simp [loadVar, ha, hk, hu]
  | true =>
    simp only [rowV, hk] at hC ⊢
    have hex : ∀ j, j < x.sz → ∃ u, w.cell? ((⟨b, o + (i * sz + f), none⟩ : Addr).add j) = some u ∧ u.oneCell' = true ∧ V w B σ (cs i (f + j)) τ u := by
      intro j hj
      obtain ⟨u, hu, h1, hV⟩ := hc i (f + j) hC.1 (by omega)
      refine ⟨u, ?_, h1, hV⟩
      rw [Addr.add_lit, ← hu]
      congr 2
      omega
    have hl := run_loadCells (P := P) w ⟨b, o + (i * sz + f), none⟩ x.sz (fun j => (w.cell? ((⟨b, o + (i * sz + f), none⟩ : Addr).add j)).getD undef)
      (fun j hj => by obtain ⟨u, hu, _⟩ := hex j hj; rw [hu]; rfl)
    refine ⟨.agg _, by simp only [loadVar, Sem.run_bind, ha, hk, Result.andThen_ok, if_true, hs, hl, Sem.run_pure]; rfl, _, rfl, by simp, fun j hj => ?_⟩
    obtain ⟨u, hu, h1, hV⟩ := hex j hj
    exact ⟨u, by simp [hj, hu], h1, hV⟩

theorem HeapsX.cells {w : World} {B : Nat} {σ : Tags} {H : List AObj} (h : Heaps w B σ H) {t g : Nat} {o : AObj} (ho : H[t]? = some o) (hg : σ[t]? = some (some g)) :
    ∀ i f, i < o.n → f < o.sz → ∃ u, w.cell? ⟨g, 0 + (i * o.sz + f), none⟩ = some u ∧ u.oneCell' = true ∧ V w B σ (o.cs i f) σ u := by
  intro i f hi hf
  obtain ⟨g', hg', ho'⟩ := h.obj t o ho
  rw [hg] at hg'
  injection hg' with hg'
  subst hg'
  obtain ⟨cur, hc, _, hcell⟩ := ho'
  obtain ⟨u, hu, h1, hV⟩ := hcell i f hi hf
  exact ⟨u, by rw [Nat.zero_add, cell_of_row w g _ cur o.ty (0, 0) hc]; exact hu, h1, hV⟩

theorem loadV_sound (hF : Fits P tt) {w : World} {B : Nat} {σ : Tags} {H : List AObj} (hH : Heaps w B σ H) {t : TypeId} {X : AV} {x : Value} (hX : V w B σ X σ x) {C : Prop} {A : AV}
    (h : loadV tt H t X = some (C, A)) (hC : C) : ∃ v, (Instr.loadAt t x).run P w = .ok v w ∧ V w B σ A σ v := by
  unfold loadV at h
  cases ht : tt t with
  | none => simp [ht] at h
  | some ti =>
    simp only [ht] at h
    cases X <;> simp only [reduceCtorEq] at h
    case ptr tg sz i f =>
      obtain ⟨g, hg, rfl⟩ := hX
      cases ho : H[tg]? with
      | none => simp [ho] at h
      | some o =>
        simp only [ho, Option.some.injEq, Prod.mk.injEq] at h
        obtain ⟨rfl, rfl⟩ := h
        obtain ⟨rfl, hC⟩ := hC
        have := run_loadVar_of hF ht (hH.cells ho hg) i f hC
        simpa [Instr.loadAt, Instr.sureAddr] using this
    case rptr sz n cs i f =>
      obtain ⟨b, o, rfl, hb, hs, hcell⟩ := hX
      simp only [Option.some.injEq] at h
      obtain ⟨v, hv, hV⟩ := run_loadVar_of hF ht (τ := []) hcell i f (by rw [h]; exact hC)
      rw [h] at hV
      exact ⟨v, by simpa [Instr.loadAt, Instr.sureAddr] using hv, V.closed _ _ _ hV⟩

theorem faddrV_sound (hF : Fits P tt) {w : World} {B : Nat} {σ : Tags} {s : TypeId} {X : AV} {x : Value} {f : Nat} (hX : V w B σ X σ x) {C : Prop} {A : AV}
    (h : faddrV tt s X f = some (C, A)) (hC : C) : ∃ v, (Instr.fieldAt s x f).run P w = .ok v w ∧ V w B σ A σ v := by
  unfold faddrV at h
  split at h
  · rename_i fs a b z ht
    obtain ⟨F, hu, hf⟩ := und_struct hF ht
    split at h
    · rename_i off ft hfs
      split at h
      · rename_i fi hft
        rw [← hf, List.getElem?_map] at hfs
        cases hq : F.toList[f]? with
        | none => simp [hq] at hfs
        | some fd =>
          simp only [hq, Option.map_some, Option.some.injEq, Prod.mk.injEq] at hfs
          obtain ⟨rfl, rfl⟩ := hfs
          have hq' : F[f]? = some fd := by simpa using hq
          split at h
          · rename_i t sz i f0
            simp only [Option.some.injEq, Prod.mk.injEq] at h
            obtain ⟨rfl, rfl⟩ := h
            obtain ⟨g, hg, rfl⟩ := hX
            exact ⟨.pointer (some ⟨g, i * sz + (f0 + fd.offset), none⟩), by simp [Instr.fieldAt, run_underlying hu, hq', Instr.sureAddr, fieldPlace, run_sizeOf' hF hft, hC, Addr.add_lit, Nat.add_assoc], g, hg, rfl⟩
          · rename_i sz n cs i f0
            simp only [Option.some.injEq, Prod.mk.injEq] at h
            obtain ⟨rfl, rfl⟩ := h
            obtain ⟨b, o, rfl, hb, hs, hcell⟩ := hX
            exact ⟨.pointer (some ⟨b, o + (i * sz + (f0 + fd.offset)), none⟩), by simp [Instr.fieldAt, run_underlying hu, hq', Instr.sureAddr, fieldPlace, run_sizeOf' hF hft, hC, Addr.add_lit, Nat.add_assoc], b, o, rfl, hb, hs, hcell⟩
          · cases h
      · cases h
    · cases h
  · cases h

theorem partV_sound (hF : Fits P tt) {t : TypeId} {x : TI} (h : tt t = some x) {w : World} {B : Nat} {σ τ : Tags} {l : Array Value} {k : Nat} {cs : Nat → AV} (hl : l.size = k)
    (hc : ∀ j, j < k → ∃ u, l[j]? = some u ∧ u.oneCell' = true ∧ V w B σ (cs j) τ u) (off : Nat) (hC : (partV x k cs off).1) :
    ∃ v, (part t l off).run P w = .ok v w ∧ V w B σ (partV x k cs off).2 τ v := by
  have ha := run_isAgg' hF h w
  have hs := run_sizeOf' hF h w
  cases hk : x.k.agg with
  | false =>
    simp only [partV, hk] at hC ⊢
    obtain ⟨u, hu, _, hV⟩ := hc off hC
    exact ⟨u, by simp [part, ha, hk, hu], hV⟩
  | true =>
    simp only [partV, hk] at hC ⊢
    refine ⟨.agg (l.extract off (off + x.sz)), by simp [part, ha, hk, hs], _, rfl, by rw [Array.size_extract]; omega, fun j hj => ?_⟩
    obtain ⟨u, hu, h1, hV⟩ := hc (off + j) (by omega)
    exact ⟨u, by rw [Array.getElem?_extract, if_pos (by omega)]; exact hu, h1, hV⟩

theorem fieldV_sound (hF : Fits P tt) {w : World} {B : Nat} {σ : Tags} {s : TypeId} {X : AV} {x : Value} {f : Nat} (hX : V w B σ X σ x) {C : Prop} {A : AV}
    (h : fieldV tt s X f = some (C, A)) (hC : C) : ∃ v, (Instr.field s x f).run P w = .ok v w ∧ V w B σ A σ v := by
  unfold fieldV at h
  split at h
  · rename_i fs a b z ht
    obtain ⟨F, hu, hf⟩ := und_struct hF ht
    split at h
    · rename_i off ft hfs
      split at h
      · rename_i fi k cs hft
        rw [← hf, List.getElem?_map] at hfs
        cases hq : F.toList[f]? with
        | none => simp [hq] at hfs
        | some fd =>
          simp only [hq, Option.map_some, Option.some.injEq, Prod.mk.injEq] at hfs
          obtain ⟨rfl, rfl⟩ := hfs
          have hq' : F[f]? = some fd := by simpa using hq
          obtain ⟨l, rfl, hl, hc⟩ := hX
          simp only [Option.some.injEq] at h
          obtain ⟨v, hv, hV⟩ := partV_sound hF hft hl hc fd.offset (by rw [h]; exact hC)
          rw [h] at hV
          exact ⟨v, by simp [Instr.field, run_underlying hu, hq', asAgg, hv], hV⟩
      · cases h
    · cases h
  · cases h

theorem indexV_sound (hF : Fits P tt) {w : World} {B : Nat} {σ : Tags} {t : TypeId} {X Y : AV} {x y : Value} (hX : V w B σ X σ x) (hY : V w B σ Y σ y) {C : Prop} {A : AV}
    (h : indexV tt t X Y = some (C, A)) (hC : C) : ∃ v, (Instr.index t x y).run P w = .ok v w ∧ V w B σ A σ v := by
  unfold indexV at h
  split at h
  · rename_i len el a b z ht
    have hu := und_arr hF ht
    split at h
    · rename_i ei k cs kk i hel
      obtain ⟨l, rfl, hl, hc⟩ := hX
      simp only [V, VX] at hY
      subst hY
      simp only [Option.some.injEq, Prod.mk.injEq] at h
      obtain ⟨rfl, rfl⟩ := h
      obtain ⟨h0, h1, h2⟩ := hC
      obtain ⟨v, hv, hV⟩ := partV_sound hF hel hl hc (i.toNat * ei.sz) h2
      exact ⟨v, by simp [Instr.index, asIntOf, run_underlying hu, h0, h1, run_sizeOf' hF hel, hv], hV⟩
    · cases h
  · cases h

theorem iaddrV_sound (hF : Fits P tt) {w : World} {B : Nat} {σ : Tags} {t : TypeId} {X Y : AV} {x y : Value} (hX : V w B σ X σ x) (hY : V w B σ Y σ y) {C : Prop} {A : AV}
    (h : iaddrV tt t X Y = some (C, A)) (hC : C) : ∃ v, (Instr.indexAt t x y).run P w = .ok v w ∧ V w B σ A σ v := by
  unfold iaddrV at h
  split at h
  · rename_i el a b z ht
    have hu := und_slice hF ht
    split at h
    · rename_i ei hel
      split at h
      · rename_i fr sz n cs kk i
        simp only [Option.some.injEq, Prod.mk.injEq] at h
        obtain ⟨rfl, rfl⟩ := h
        obtain ⟨rfl, h0, h1⟩ := hC
        simp only [V, VX] at hY
        subst hY
        obtain ⟨ad, c, rfl, hn, hcm, hr⟩ := hX
        obtain ⟨bb, o, rfl, hb, hs, hfr, hcell⟩ := hr (by omega)
        exact ⟨.pointer (some ⟨bb, o + (i.toNat * ei.sz + 0), none⟩), by simp [Instr.indexAt, asIntOf, run_underlying hu, h0, h1, run_sizeOf' hF hel, Addr.add_lit], bb, o, rfl, hb, hs, hcell⟩
      · rename_i tg sz n kk i
        simp only [Option.some.injEq, Prod.mk.injEq] at h
        obtain ⟨rfl, rfl⟩ := h
        obtain ⟨rfl, h0, h1⟩ := hC
        simp only [V, VX] at hY
        subst hY
        rcases hX with ⟨rfl, _⟩ | ⟨g, c, cur, e, hg, rfl, _⟩
        · omega
        · exact ⟨.pointer (some ⟨g, i.toNat * ei.sz + 0, none⟩), by simp [Instr.indexAt, asIntOf, run_underlying hu, h0, h1, run_sizeOf' hF hel, Addr.add_lit], g, hg, rfl⟩
      · rename_i tg sz off n kk i
        simp only [Option.some.injEq, Prod.mk.injEq] at h
        obtain ⟨rfl, rfl⟩ := h
        obtain ⟨rfl, h0, h1⟩ := hC
        simp only [V, VX] at hY
        subst hY
        obtain ⟨ad, c, rfl, hn, hcm, hr⟩ := hX
        obtain ⟨g, hg, rfl⟩ := hr (by omega)
        exact ⟨.pointer (some ⟨g, (off + i.toNat) * ei.sz + 0, none⟩), by simp [Instr.indexAt, asIntOf, run_underlying hu, h0, h1, run_sizeOf' hF hel, Addr.add_lit, Nat.add_mul], g, hg, rfl⟩
      · cases h
    · cases h
  · rename_i len el a b z ht
    have hu := und_arr hF ht
    split at h
    · rename_i ei hel
      split at h
      · rename_i tg sz i0 f0 kk i
        simp only [Option.some.injEq, Prod.mk.injEq] at h
        obtain ⟨rfl, rfl⟩ := h
        obtain ⟨h0, h1⟩ := hC
        simp only [V, VX] at hY
        subst hY
        obtain ⟨g, hg, rfl⟩ := hX
        exact ⟨.pointer (some ⟨g, i0 * sz + (f0 + i.toNat * ei.sz), none⟩), by simp [Instr.indexAt, asIntOf, run_underlying hu, h0, h1, run_sizeOf' hF hel, Addr.add_lit, Instr.sureAddr, Nat.add_assoc], g, hg, rfl⟩
      · rename_i sz n cs i0 f0 kk i
        simp only [Option.some.injEq, Prod.mk.injEq] at h
        obtain ⟨rfl, rfl⟩ := h
        obtain ⟨h0, h1⟩ := hC
        simp only [V, VX] at hY
        subst hY
        obtain ⟨bb, o, rfl, hb, hs, hcell⟩ := hX
        exact ⟨.pointer (some ⟨bb, o + (i0 * sz + (f0 + i.toNat * ei.sz)), none⟩), by simp [Instr.indexAt, asIntOf, run_underlying hu, h0, h1, run_sizeOf' hF hel, Addr.add_lit, Instr.sureAddr, Nat.add_assoc], bb, o, rfl, hb, hs, hcell⟩
      · cases h
    · cases h
  · cases h

theorem lenV_sound (hF : Fits P tt) {w : World} {B : Nat} {σ : Tags} {t ty : TypeId} {X : AV} {x : Value} (hX : V w B σ X σ x) {C : Prop} {A : AV}
    (h : lenV tt t X = some (C, A)) : ∃ v, (Builtin.len_ #[t] ty #[x]).run P w = .ok v w ∧ V w B σ A σ v := by
  unfold lenV at h
  split at h
  · rename_i el a b z ht
    have hu := und_slice hF ht
    split at h <;> simp only [Option.some.injEq, Prod.mk.injEq, reduceCtorEq] at h <;> obtain ⟨_, rfl⟩ := h
    · obtain ⟨ad, c, rfl, _⟩ := hX
      exact ⟨_, by simp [Builtin.len_, run_underlying hu, goInt], rfl⟩
    · rcases hX with ⟨rfl, rfl⟩ | ⟨g, c, cur, e, _, rfl, _⟩ <;> exact ⟨_, by simp [Builtin.len_, run_underlying hu, goInt], rfl⟩
    · obtain ⟨ad, c, rfl, _⟩ := hX
      exact ⟨_, by simp [Builtin.len_, run_underlying hu, goInt], rfl⟩
    · simp only [V, VX] at hX
      subst hX
      exact ⟨_, by simp [Builtin.len_, run_underlying hu, goInt], rfl⟩
  · rename_i n el a b z ht
    have hu := und_arr hF ht
    simp only [Option.some.injEq, Prod.mk.injEq] at h
    obtain ⟨_, rfl⟩ := h
    exact ⟨_, by simp [Builtin.len_, run_underlying hu, goInt], rfl⟩
  · cases h

theorem eqFields_sound (hF : Fits P tt) {w : World} {B : Nat} {σ : Tags} {xs ys : Array Value} {k k' : Nat} {cs cs' : Nat → AV} (hx : ∀ j, j < k → ∃ u, xs[j]? = some u ∧ u.oneCell' = true ∧ V w B σ (cs j) σ u)
    (hy : ∀ j, j < k' → ∃ u, ys[j]? = some u ∧ u.oneCell' = true ∧ V w B σ (cs' j) σ u) : ∀ (F : List Field) (r : Bool), F.all (fun f => f.name != "_") = true → (∀ p ∈ F.map (fun f => (f.offset, f.type)), p.1 < k ∧ p.1 < k') → eqC tt cs cs' (F.map fun f => (f.offset, f.type)) = some r →
      (Op.eqFields 9999 xs ys F).run P w = .ok r w := by
  intro F
  induction F with
  | nil => intro r _ _ h; simp [eqC] at h; subst h; simp [Op.eqFields]
  | cons f F ih =>
    intro r hn hl h
    simp only [List.all_cons, Bool.and_eq_true, bne_iff_ne] at hn
    simp only [List.map_cons, List.mem_cons, forall_eq_or_imp] at hl
    simp only [List.map_cons, eqC] at h
    split at h
    · rename_i r' hr'
      have ih := ih r' hn.2 hl.2 hr'
      obtain ⟨u, hu, _, hU⟩ := hx f.offset hl.1.1
      obtain ⟨v, hv, _, hV⟩ := hy f.offset hl.1.2
      have hpu : ∀ {q : TI}, tt f.type = some q → q.k.agg = false → (part f.type xs f.offset).run P w = .ok u w := fun hq ha => by simp [part, run_isAgg' hF hq w, ha, hu]
      have hpv : ∀ {q : TI}, tt f.type = some q → q.k.agg = false → (part f.type ys f.offset).run P w = .ok v w := fun hq ha => by simp [part, run_isAgg' hF hq w, ha, hv]
      split at h
      · rename_i ki _ _ _ kk a kk' b ht hca hcb
        split at h
        · rename_i hk
          subst hk
          simp only [Option.some.injEq] at h
          subst h
          rw [hca] at hU
          rw [hcb] at hV
          have e1 : u = .int kk a := hU
          have e2 : v = .int kk b := hV
          subst e1
          subst e2
          unfold Op.eqFields
          rw [if_pos hn.1]
          simp only [Sem.run_bind, hpu ht rfl, hpv ht rfl, Result.andThen_ok, run_equalIn_int w 9998 f.type kk ki a b (und_int hF ht)]
          by_cases hab : a = b
          · subst hab; simp [ih]
          · simp [hab]
        · cases h
      · rename_i _ _ _ a b ht hca hcb
        simp only [Option.some.injEq] at h
        subst h
        rw [hca] at hU
        rw [hcb] at hV
        have e1 : u = .bool a := hU
        have e2 : v = .bool b := hV
        subst e1
        subst e2
        unfold Op.eqFields
        rw [if_pos hn.1]
        simp only [Sem.run_bind, hpu ht rfl, hpv ht rfl, Result.andThen_ok, run_equalIn_bool' w 9998 f.type a b (und_bool hF ht)]
        cases hab : (a == b)
        · simp
        · simp [ih]
      · cases h
    · cases h

theorem eqStruct_sound (hF : Fits P tt) {w : World} {B : Nat} {σ : Tags} {t : TypeId} {fs : List (Nat × TypeId)} {a b : Nat} {z : List Value} (ht : tt t = some ⟨.strct true fs, a, b, z⟩) {xs ys : Array Value} {k k' : Nat} {cs cs' : Nat → AV}
    (hx : ∀ j, j < k → ∃ u, xs[j]? = some u ∧ u.oneCell' = true ∧ V w B σ (cs j) σ u) (hy : ∀ j, j < k' → ∃ u, ys[j]? = some u ∧ u.oneCell' = true ∧ V w B σ (cs' j) σ u) {r : Bool} (hC : ∀ p ∈ fs, p.1 < k ∧ p.1 < k') (h : eqC tt cs cs' fs = some r) :
    (Op.equalIn 10000 t (.agg xs) (.agg ys)).run P w = .ok r w ∧ P.eqGuardType P.depth t = false := by
  obtain ⟨F, hu, hf⟩ := und_struct hF ht
  obtain ⟨c1, c2, c3⟩ := (hF t _ ht).2 rfl
  have hF' : P.fieldsOf t = F := by simp [Program.fieldsOf, hu]
  rw [hF'] at c3
  refine ⟨?_, c2⟩
  rw [show (10000 : Nat) = 9999 + 1 from rfl, run_equalIn_struct w 9999 t xs ys (by rw [hF']; exact hu) c1, hF']
  subst hf
  exact eqFields_sound hF hx hy F.toList r c3 hC h

theorem binV_sound (hF : Fits P tt) {w : World} {B : Nat} {σ : Tags} {op : BinOp} {t : TypeId} {x y : Operand} {X Y : AV} {u v : Value} (hX : V w B σ X σ u) (hY : V w B σ Y σ v) {C : Prop} {A : AV}
    (h : binV tt op t X Y = some (C, A)) (hC : C) : ∃ r, (do eqGuard op t x y u v; binOp op t u v : Sem Value).run P w = .ok r w ∧ V w B σ A σ r := by
  unfold binV at h
  split at h
  · rename_i k a k' b
    simp only [V, VX] at hX hY
    subst hX
    subst hY
    split at h
    · rename_i hk
      subst hk
      cases op <;> simp only [binI, Option.some.injEq, Prod.mk.injEq, reduceCtorEq] at h <;> obtain ⟨rfl, rfl⟩ := h <;>
        simp only [eqGuard_at_int, pure_bind, binOp_add, binOp_sub, binOp_mul, binOp_quo, binOp_rem, binOp_eql, binOp_neq, binOp_lss, binOp_leq, binOp_gtr, binOp_geq, Op.intArith, Op.intDiv, Sem.run_pure, V, VX]
      · exact ⟨_, rfl, by rw [InR.wrap hC]⟩
      · exact ⟨_, rfl, by rw [InR.wrap hC]⟩
      · exact ⟨_, rfl, by rw [InR.wrap hC]⟩
      · rw [if_neg hC.1]; exact ⟨_, rfl, by rw [InR.wrap hC.2]⟩
      · rw [if_neg hC]; exact ⟨_, rfl, rfl⟩
      · exact ⟨_, rfl, rfl⟩
      · exact ⟨_, rfl, rfl⟩
      · exact ⟨_, rfl, rfl⟩
      · exact ⟨_, rfl, rfl⟩
      · exact ⟨_, rfl, rfl⟩
      · exact ⟨_, rfl, rfl⟩
    · cases h
  · rename_i a b
    simp only [V, VX] at hX hY
    subst hX
    subst hY
    split at h <;> simp only [Option.some.injEq, Prod.mk.injEq, reduceCtorEq] at h <;> obtain ⟨rfl, rfl⟩ := h
    · rename_i ht
      have hu := und_bool hF ht
      exact ⟨_, by simp only [eqGuard_at_bool, pure_bind, binOp, Op.equal, Op.maxDepth, Sem.run_bind, run_equalIn_bool' w 9999 t a b hu, Result.andThen_ok, Sem.run_pure], rfl⟩
    · rename_i ht
      have hu := und_bool hF ht
      exact ⟨_, by simp only [eqGuard_at_bool, pure_bind, binOp, Op.equal, Op.maxDepth, Sem.run_bind, run_equalIn_bool' w 9999 t a b hu, Result.andThen_ok, Sem.run_pure], rfl⟩
  · rename_i k cs k' cs'
    obtain ⟨xs, rfl, hxk, hx⟩ := hX
    obtain ⟨ys, rfl, hyk, hy⟩ := hY
    split at h
    · rename_i fs _ _ _ ht
      split at h
      · rename_i r hr
        split at h
        · simp only [Option.some.injEq, Prod.mk.injEq] at h
          obtain ⟨rfl, rfl⟩ := h
          obtain ⟨e1, e2⟩ := eqStruct_sound hF ht hx hy hC hr
          exact ⟨_, by rw [Sem.run_bind, run_eqGuard_agg w _ t x y xs ys e2, Result.andThen_ok, run_eql_struct, e1]; rfl, rfl⟩
        · simp only [Option.some.injEq, Prod.mk.injEq] at h
          obtain ⟨rfl, rfl⟩ := h
          obtain ⟨e1, e2⟩ := eqStruct_sound hF ht hx hy hC hr
          exact ⟨_, by rw [Sem.run_bind, run_eqGuard_agg w _ t x y xs ys e2, Result.andThen_ok, run_neq_struct, e1]; rfl, rfl⟩
        · cases h
      · cases h
    · cases h
  · cases h

theorem unV_sound {w : World} {B : Nat} {σ : Tags} {op : UnOp} {X : AV} {u : Value} (hX : V w B σ X σ u) {C : Prop} {A : AV}
    (h : unV op X = some (C, A)) (hC : C) : ∃ r, (Op.unary op u).run P w = .ok r w ∧ V w B σ A σ r := by
  unfold unV at h
  split at h
  · simp only [V, VX] at hX
    subst hX
    simp only [Option.some.injEq, Prod.mk.injEq] at h
    obtain ⟨_, rfl⟩ := h
    exact ⟨_, by simp [Op.unary], rfl⟩
  · rename_i k n
    simp only [V, VX] at hX
    subst hX
    split at h <;> simp only [Option.some.injEq, Prod.mk.injEq] at h <;> obtain ⟨rfl, rfl⟩ := h
    · exact ⟨.int k (0 - n), by simp only [Op.unary, Op.intArith, Sem.run_pure, InR.wrap hC], rfl⟩
    · exact ⟨_, by simp only [Op.unary, Op.intArith, Sem.run_pure], rfl⟩
  · cases h

theorem convV_sound (hF : Fits P tt) {w : World} {B : Nat} {σ : Tags} {src dst : TypeId} {X : AV} {u : Value} (hX : V w B σ X σ u) {C : Prop} {A : AV}
    (h : convV tt src dst X = some (C, A)) (hC : C) : ∃ r, (convert src dst u).run P w = .ok r w ∧ V w B σ A σ r := by
  unfold convV at h
  split at h
  · rename_i k0 n k1 _ _ _ k _ _ _ hs hd
    have hus := und_int hF hs
    have hud := und_int hF hd
    simp only [V, VX] at hX
    subst hX
    split at h <;> simp only [Option.some.injEq, Prod.mk.injEq] at h <;> obtain ⟨rfl, rfl⟩ := h
    · exact ⟨.int k n, by simp only [convert, Sem.run_bind, run_underlying hus, run_underlying hud, Result.andThen_ok, Conv.intToInt, Sem.run_pure, InR.wrap hC], rfl⟩
    · exact ⟨_, by simp only [convert, Sem.run_bind, run_underlying hus, run_underlying hud, Result.andThen_ok, Conv.intToInt, Sem.run_pure], rfl⟩
  · cases h

end
end Go.Abs
