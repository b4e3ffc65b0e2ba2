/-
  From models to statements: arguments of any type that has a code, opened; a law whose model returns true. No program is named.
-/
import Derived.Test.YtocpeankecaabaaT11
import Derived.OpenShut
set_option linter.all false
namespace Go.T
open Go.Abs Go.M Go.RowKit Go.ChangeShapes Go.WideShapes Go.Deep

mutual
/-- What is known of an argument of this type. -/
def Ty.good : (t : Ty) → t.den → Prop
  | .int k, n => @LE.le Int _ k.min n ∧ @LE.le Int _ n k.max
  | .bool, _ => True
  | .str, s => ByteArray.size s ≤ maxLen
  | .slice t, xs => List.length (α := t.den) xs ≤ maxLen ∧ ∀ x : t.den, @Membership.mem t.den (List t.den) _ xs x → t.good x
  | .struct l, x => l.good x
def TyL.good : (l : TyL) → l.den → Prop
  | .nil, _ => True
  | .cons t l, x => t.good x.1 ∧ l.good x.2
end

def szIs (tt : TT) (t : TypeId) (n : Nat) : Bool := match tt t with | some x => Nat.beq x.sz n | none => false

/-- The fields of a struct are these types, one behind the other. -/
def fsOk (tt : TT) (ok : TypeId → Ty → Bool) : List (Nat × TypeId) → TyL → Nat → Bool
  | [], .nil, _ => true
  | (o, t) :: fs, .cons u l, off => Nat.beq o off && (ok t u && (szIs tt t u.sz && fsOk tt ok fs l (off + u.sz)))
  | _, _, _ => false
def arrOk (ok : TypeId → Ty → Bool) (e : TypeId) (z : Nat) : Nat → TyL → Bool
  | 0, .nil => true
  | n + 1, .cons u l => ok e u && (Nat.beq u.sz z && arrOk ok e z n l)
  | _, _ => false
/-- The code is that of the type. -/
def tyOk (tt : TT) : Nat → TypeId → Ty → Bool
  | 0, _, _ => false
  | n + 1, t, u =>
    match u, tt t with
    | .int k, some ⟨.int k', _, _, _⟩ => decide (k = k')
    | .bool, some ⟨.bool, _, _, _⟩ => true
    | .str, some ⟨.str, _, _, _⟩ => true
    | .slice u, some ⟨.slice e, _, _, _⟩ => tyOk tt n e u && (szIs tt e u.sz && Nat.blt 0 u.sz)
    | .struct l, some ⟨.strct _ fs, sz, _, _⟩ => fsOk tt (tyOk tt n) fs l 0 && Nat.beq l.sz sz
    | .struct l, some ⟨.arr k e, sz, _, _⟩ => match tt e with | some ei => arrOk (tyOk tt n) e ei.sz k l && Nat.beq l.sz sz | none => false
    | _, _ => false

section
variable {P : Program} {tt : TT}

theorem fits_cells (hF : Fits P tt) {t : TypeId} {x : TI} (h : tt t = some x) : P.cellsOf t = x.sz := by
  obtain ⟨i, d, z, h1, h2, h3, h4, _⟩ := (hF t x h).1
  simp [Program.cellsOf, h1, h4]
theorem fits_und (hF : Fits P tt) {t : TypeId} {x : TI} (h : tt t = some x) : ∃ d, P.underlying t = some d ∧ TK.of d = x.k.plain := by
  obtain ⟨i, d, z, h1, h2, h3, _⟩ := (hF t x h).1
  exact ⟨d, h2, h3⟩
theorem szIs_at (hF : Fits P tt) {t : TypeId} {n : Nat} (h : szIs tt t n = true) : P.cellsOf t = n := by
  unfold szIs at h
  split at h
  · rename_i x hx
    rw [fits_cells hF hx]
    exact beq_eq h
  · cases h

theorem of_int {d : TypeDesc} {k : IntKind} (h : TK.of d = .int k) : d = .int k := by cases d <;> simp_all [TK.of]
theorem of_bool {d : TypeDesc} (h : TK.of d = .bool) : d = .bool := by cases d <;> simp_all [TK.of]
theorem of_str {d : TypeDesc} (h : TK.of d = .str) : d = .string := by cases d <;> simp_all [TK.of]
theorem of_slice {d : TypeDesc} {e : TypeId} (h : TK.of d = .slice e) : d = .slice e := by cases d <;> simp_all [TK.of]
theorem of_arr {d : TypeDesc} {n : Nat} {e : TypeId} (h : TK.of d = .arr n e) : d = .array n e := by cases d <;> simp_all [TK.of]
theorem of_strct {d : TypeDesc} {l : List (Nat × TypeId)} (h : TK.of d = .strct false l) : ∃ fs : Array Field, d = .struct fs ∧ (fs.toList.map fun f => (f.offset, f.type)) = l := by
  cases d <;> simp_all [TK.of]

/-- What is read of a type. -/
def OpnT (P : Program) (t : TypeId) (u : Ty) : Prop := Opn P t u.sz (fun x f => u.av false x f) u.good

theorem fields_open {H : Type} {enc : TypeId × Value → H} {w : World} {sp : Nat → Bool} {held : Bool} {n : Nat} {cs : List Value} (hF : Fits P tt) {ok : TypeId → Ty → Bool} (hok : ∀ t u, ok t u = true → OpnT P t u) :
    ∀ (fs : List (Nat × TypeId)) (l : TyL) (off : Nat), fsOk tt ok fs l off = true → (∀ p ∈ fs, ∃ y, DataW.trod enc P w 0 sp held n p.2 ((cs.drop p.1).take (P.cellsOf p.2)) = some y) →
      ∃ x : l.den, l.good x ∧ ∀ f, f < l.sz → ∃ u, cs[off + f]? = some u ∧ u.oneCell' = true ∧ VX w (fun _ => False) 0 (l.av false x f) [] u
  | [], .nil, off, _, _ => ⟨(), trivial, fun f hf => by simp [TyL.sz] at hf⟩
  | [], .cons _ _, off, h, _ => by simp [fsOk] at h
  | _ :: _, .nil, off, h, _ => by simp [fsOk] at h
  | (o, t) :: fs, .cons u l, off, h, hr => by
    simp only [fsOk, Bool.and_eq_true] at h
    obtain ⟨h1, h2, h3, h4⟩ := h
    have ho := beq_eq h1
    subst ho
    have hc := szIs_at hF h3
    obtain ⟨y, hy⟩ := hr (o, t) (List.mem_cons_self ..)
    obtain ⟨x1, g1, _, c1⟩ := hok t u h2 H enc w sp held n _ y hy
    obtain ⟨x2, g2, c2⟩ := fields_open hF hok fs l (o + u.sz) h4 (fun p hp => hr p (List.mem_cons_of_mem _ hp))
    refine ⟨(x1, x2), ⟨g1, g2⟩, fun f hf => ?_⟩
    unfold TyL.sz at hf
    show ∃ u', cs[o + f]? = some u' ∧ u'.oneCell' = true ∧ VX w (fun _ => False) 0 (if f < u.sz then u.av false x1 f else l.av false x2 (f - u.sz)) [] u'
    split
    · rename_i hlt
      obtain ⟨u', hu', hh⟩ := c1 f hlt
      simp only [hc] at hu'
      rw [List.getElem?_take, if_pos hlt, List.getElem?_drop] at hu'
      exact ⟨u', hu', hh⟩
    · rename_i hge
      obtain ⟨u', hu', hh⟩ := c2 (f - u.sz) (by omega)
      refine ⟨u', ?_, hh⟩
      rw [← hu']
      congr 1
      omega

theorem elems_open {H : Type} {enc : TypeId × Value → H} {w : World} {sp : Nat → Bool} {held : Bool} {n : Nat} {cs : List Value} {e : TypeId} {z : Nat} (hz : P.cellsOf e = z) {ok : TypeId → Ty → Bool} (hok : ∀ t u, ok t u = true → OpnT P t u) :
    ∀ (k : Nat) (l : TyL) (i0 : Nat), arrOk ok e z k l = true → (∀ i, i < k → ∃ y, DataW.trod enc P w 0 sp held n e ((cs.drop ((i0 + i) * z)).take z) = some y) →
      ∃ x : l.den, l.good x ∧ ∀ f, f < l.sz → ∃ u, cs[i0 * z + f]? = some u ∧ u.oneCell' = true ∧ VX w (fun _ => False) 0 (l.av false x f) [] u
  | 0, .nil, i0, _, _ => ⟨(), trivial, fun f hf => by simp [TyL.sz] at hf⟩
  | 0, .cons _ _, i0, h, _ => by simp [arrOk] at h
  | _ + 1, .nil, i0, h, _ => by simp [arrOk] at h
  | k + 1, .cons u l, i0, h, hr => by
    simp only [arrOk, Bool.and_eq_true] at h
    obtain ⟨h1, h2, h3⟩ := h
    have hu := beq_eq h2
    obtain ⟨y, hy⟩ := hr 0 (by omega)
    obtain ⟨x1, g1, _, c1⟩ := hok e u h1 H enc w sp held n _ y hy
    obtain ⟨x2, g2, c2⟩ := elems_open hz hok k l (i0 + 1) h3 (fun i hi => by have := hr (i + 1) (by omega); rwa [show i0 + (i + 1) = i0 + 1 + i by omega] at this)
    refine ⟨(x1, x2), ⟨g1, g2⟩, fun f hf => ?_⟩
    unfold TyL.sz at hf
    show ∃ u', cs[i0 * z + f]? = some u' ∧ u'.oneCell' = true ∧ VX w (fun _ => False) 0 (if f < u.sz then u.av false x1 f else l.av false x2 (f - u.sz)) [] u'
    split
    · rename_i hlt
      obtain ⟨u', hu', hh⟩ := c1 f hlt
      rw [List.getElem?_take, if_pos (by omega), List.getElem?_drop] at hu'
      exact ⟨u', by simpa using hu', hh⟩
    · rename_i hge
      obtain ⟨u', hu', hh⟩ := c2 (f - u.sz) (by omega)
      refine ⟨u', ?_, hh⟩
      rw [← hu']
      congr 1
      rw [Nat.add_mul]
      omega

theorem opnT (hF : Fits P tt) : ∀ (n : Nat) (t : TypeId) (u : Ty), tyOk tt n t u = true → OpnT P t u := by
  intro n
  induction n with
  | zero => intro t u h; simp [tyOk] at h
  | succ n ih =>
    intro t u h
    unfold tyOk at h
    split at h
    · rename_i k k' a1 a2 a3 ht
      have hk : k = k' := by simpa using h
      subst hk
      obtain ⟨d, hd, hk⟩ := fits_und hF ht
      exact Opn.int (of_int hk ▸ hd)
    · rename_i a1 a2 a3 ht
      obtain ⟨d, hd, hk⟩ := fits_und hF ht
      exact Opn.bool (of_bool hk ▸ hd)
    · rename_i a1 a2 a3 ht
      obtain ⟨d, hd, hk⟩ := fits_und hF ht
      have hs := of_str hk
      subst hs
      intro H enc w sp held fuel cs x hx
      obtain ⟨s, rfl, _, hsz⟩ := DataW.trod_string hd hx
      refine ⟨s, hsz, rfl, fun f hf => ?_⟩
      obtain rfl : f = 0 := by simp [Ty.sz] at hf; omega
      exact ⟨_, rfl, rfl, rfl⟩
    · rename_i u e a1 a2 a3 ht
      simp only [Bool.and_eq_true] at h
      obtain ⟨h1, h2, h3⟩ := h
      obtain ⟨d, hd, hk⟩ := fits_und hF ht
      exact Opn.slice (ih e u h1) u.dft (of_slice hk ▸ hd) (szIs_at hF h2) (blt_lt h3)
    · rename_i l c fs sz a2 a3 ht
      simp only [Bool.and_eq_true] at h
      obtain ⟨h1, h2⟩ := h
      obtain ⟨d, hd, hk⟩ := fits_und hF ht
      obtain ⟨fs', hfs, hl⟩ := of_strct hk
      subst hfs
      intro H enc w sp held fuel cs x hx
      obtain ⟨xs, m, hf, _, hcl, hxl, hfl⟩ := DataW.trod_struct hd hx
      obtain ⟨y, gy, cy⟩ := fields_open (H := H) (enc := enc) (w := w) (sp := sp) (held := held) (n := m) (cs := cs) hF ih fs l 0 h1 (by
        intro p hp
        rw [← hl] at hp
        obtain ⟨f, hfm, rfl⟩ := List.mem_map.1 hp
        obtain ⟨i, hi, hif⟩ := List.getElem_of_mem hfm
        have hfi : fs'[i]? = some f := by rw [← hif]; simp at hi; simp [hi]
        have h4 := hfl i f hfi
        have hi' : i < fs'.size := by simpa using hi
        rw [List.getElem?_eq_getElem (by omega)] at h4
        exact ⟨_, h4⟩)
      have hsz : cs.length = l.sz := by rw [hcl, fits_cells hF ht]; exact (beq_eq h2).symm
      exact ⟨y, gy, hsz, fun f hf => by have := cy f hf; rw [Nat.zero_add] at this; exact this⟩
    · rename_i l k e sz a2 a3 ht
      split at h
      · rename_i ei he
        simp only [Bool.and_eq_true] at h
        obtain ⟨h1, h2⟩ := h
        obtain ⟨d, hd, hk⟩ := fits_und hF ht
        have hd' := of_arr hk
        subst hd'
        intro H enc w sp held fuel cs x hx
        obtain ⟨xs, m, hf, _, hcl, hxl, hfl⟩ := DataW.trod_array hd hx
        have hz := fits_cells hF he
        obtain ⟨y, gy, cy⟩ := elems_open (H := H) (enc := enc) (w := w) (sp := sp) (held := held) (n := m) (cs := cs) hz ih k l 0 h1 (by
          intro i hi
          have h4 := hfl i hi
          rw [List.getElem?_eq_getElem (by omega), hz] at h4
          exact ⟨_, by simpa using h4⟩)
        have hsz : cs.length = l.sz := by rw [hcl, fits_cells hF ht]; exact (beq_eq h2).symm
        exact ⟨y, gy, hsz, fun f hf => by have := cy f hf; rw [Nat.zero_mul, Nat.zero_add] at this; exact this⟩
      · cases h
    · cases h

mutual
def Ar.good : (s : Ar) → s.den → Prop
  | .d t, x => t.good x
  | .rp t, x => t.good x
  | .fn _ l, x => l.good x
  | .agg l, x => l.good x
def ArL.good : (l : ArL) → l.den → Prop
  | .nil, _ => True
  | .cons s l, x => s.good x.1 ∧ l.good x.2
end

/-- The arguments' codes are those of the parameters. -/
def arOk (tt : TT) : List TypeId → ArL → Bool
  | [], .nil => true
  | t :: ts, .cons (.d u) l => tyOk tt 12 t u && arOk tt ts l
  | _, _ => false

theorem args_open {H : Type} {enc : TypeId × Value → H} {W : World} {sp : Nat → Bool} {held : Bool} {base : Nat} (hF : Fits P tt) : ∀ (ts : List TypeId) (ars : ArL), arOk tt ts ars = true → ∀ (vs : List Value) (ds : List (DataW H)) (ps : List MemPlace),
    DataW.TrodAll enc P W 0 sp held ts vs ds ps → (∀ (j : Nat) t v, ts[j]? = some t → vs[j]? = some v → Value.okWide P W .any base t v) →
    ∃ a : ars.den, ars.good a ∧ vs.length = (encL [] (ars.enc a)).length ∧ ∀ (j : Nat) A v, (encL [] (ars.enc a))[j]? = some A → vs[j]? = some v → VX W (fun _ => False) 0 A [] v
  | [], .nil, _, vs, ds, ps, h, _ => by
    obtain ⟨rfl, _, _⟩ := trodAll_nil h
    exact ⟨(), trivial, rfl, fun j A v hj => by simp [ArL.enc, encL] at hj⟩
  | [], .cons _ _, h, _, _, _, _, _ => by simp [arOk] at h
  | _ :: _, .nil, h, _, _, _, _, _ => by simp [arOk] at h
  | t :: ts, .cons (.rp _) l, h, _, _, _, _, _ => by simp [arOk] at h
  | t :: ts, .cons (.fn _ _) l, h, _, _, _, _, _ => by simp [arOk] at h
  | t :: ts, .cons (.agg _) l, h, _, _, _, _, _ => by simp [arOk] at h
  | t :: ts, .cons (.d u) l, h, vs, ds, ps, hA, hval => by
    simp only [arOk, Bool.and_eq_true] at h
    obtain ⟨v, vs', d, ds', p, q, rfl, rfl, rfl, h1, h2⟩ := trodAll_cons hA
    obtain ⟨a2, g2, l2, c2⟩ := args_open hF ts l h.2 vs' ds' q h2 (fun j t' v' hj hv => hval (j + 1) t' v' (by simpa using hj) (by simpa using hv))
    have hv0 := hval 0 t v rfl rfl
    have key : ∃ x : u.den, u.good x ∧ VX W (fun _ => False) 0 (encV [] (valF u x)) [] v := by
      have hop := opnT hF 12 t u h.1
      obtain ⟨fuel, hf⟩ := h1
      obtain ⟨x, gx, hl, hc⟩ := hop H enc W sp held fuel _ _ hf
      refine ⟨x, gx, ?_⟩
      have one : u.sz = 1 → v.cells = #[v] → VX W (fun _ => False) 0 (u.av false x 0) [] v := by
        intro hu hv
        obtain ⟨u', hu', _, hV⟩ := hc 0 (by omega)
        rw [hv] at hu'
        simp at hu'
        subst hu'
        exact hV
      have hty := h.1
      unfold tyOk at hty
      split at hty
      · rename_i k k' a1 a2 a3 ht
        obtain ⟨d', hd, hk⟩ := fits_und hF ht
        have := of_int hk
        subst this
        obtain ⟨m, rfl⟩ := okWide_int hd hv0
        exact one rfl rfl
      · rename_i a1 a2 a3 ht
        obtain ⟨d', hd, hk⟩ := fits_und hF ht
        have := of_bool hk
        subst this
        obtain ⟨m, rfl⟩ := okWide_bool hd hv0
        exact one rfl rfl
      · rename_i a1 a2 a3 ht
        obtain ⟨d', hd, hk⟩ := fits_und hF ht
        have := of_str hk
        subst this
        obtain ⟨m, rfl⟩ := okWide_string hd hv0
        exact one rfl rfl
      · rename_i u' e a1 a2 a3 ht
        obtain ⟨d', hd, hk⟩ := fits_und hF ht
        have := of_slice hk
        subst this
        obtain ⟨a, len, cap, rfl⟩ := okWide_slice hd hv0
        exact one rfl rfl
      · rename_i l' c fs sz a2 a3 ht
        obtain ⟨d', hd, hk⟩ := fits_und hF ht
        obtain ⟨fs', hfs, _⟩ := of_strct hk
        subst hfs
        have hv1 := hv0
        unfold Value.okWide at hv1
        rw [hd] at hv1
        obtain ⟨cs, rfl, _⟩ := hv1
        exact strct hl hc
      · rename_i l' k e sz a2 a3 ht
        obtain ⟨d', hd, hk⟩ := fits_und hF ht
        have := of_arr hk
        subst this
        have hv1 := hv0
        unfold Value.okWide at hv1
        rw [hd] at hv1
        obtain ⟨cs, rfl, _⟩ := hv1
        exact strct hl hc
      · cases hty
    obtain ⟨x, gx, hV⟩ := key
    refine ⟨(x, a2), ⟨gx, g2⟩, by simpa [ArL.enc, encL] using l2, fun j A v' hj hv' => ?_⟩
    simp only [ArL.enc, encL] at hj
    cases j with
    | zero =>
      simp only [List.getElem?_cons_zero, Option.some.injEq] at hj hv'
      subst hj
      subst hv'
      exact hV
    | succ j => exact c2 j A v' (by simpa using hj) (by simpa using hv')
where
  strct {W : World} {l' : TyL} {x : l'.den} {cs : Array Value} (hl : (Value.cells (.agg cs)).toList.length = (Ty.struct l').sz) (hc : ∀ f, f < (Ty.struct l').sz → ∃ u, (Value.cells (.agg cs)).toList[f]? = some u ∧ u.oneCell' = true ∧ VX W (fun _ => False) 0 ((Ty.struct l').av false x f) [] u) :
      VX W (fun _ => False) 0 (encV [] (valF (.struct l') x)) [] (.agg cs) := by
    have hlen : (TyL.cells false l' x).length = l'.sz := TyL.cells_len false l' x
    refine ⟨cs, rfl, ?_, fun j hj => ?_⟩
    · show cs.size = (TyL.cells false l' x).length
      rw [hlen]
      have : cs.toList.length = l'.sz := hl
      simpa using this
    · have hj' : j < l'.sz := by rw [← hlen]; exact hj
      obtain ⟨u, hu, h1, h2⟩ := hc j hj'
      refine ⟨u, by simpa [Value.cells] using hu, h1, ?_⟩
      show VX W _ 0 ((encL [] (TyL.cells false l' x)).getD j .any) [] u
      rw [encL_getD, TyL.cells_av [] false l' x j hj']
      exact h2

mutual
theorem Ty.pack_cells {fr : Bool} : ∀ (t : Ty) (x : t.den) (r : List TV), ∃ g, t.pack (t.cells fr x ++ r) = some (x, g, r)
  | .int k, x, r => ⟨true, by unfold Ty.pack Ty.cells; simp⟩
  | .bool, x, r => ⟨true, rfl⟩
  | .str, x, r => ⟨true, rfl⟩
  | .slice t, xs, r => by
    refine ⟨fr, ?_⟩
    show packS t (TV.sl fr t xs :: r) = some (xs, fr, r)
    simp only [packS, Ty.eq_self t]
    rfl
  | .struct l, x, r => TyL.pack_cells l x r
theorem TyL.pack_cells {fr : Bool} : ∀ (l : TyL) (x : l.den) (r : List TV), ∃ g, l.pack (l.cells fr x ++ r) = some (x, g, r)
  | .nil, x, r => ⟨true, rfl⟩
  | .cons t l, x, r => by
    obtain ⟨g1, h1⟩ := Ty.pack_cells (fr := fr) t x.1 (l.cells fr x.2 ++ r)
    obtain ⟨g2, h2⟩ := TyL.pack_cells (fr := fr) l x.2 r
    refine ⟨g1 && g2, ?_⟩
    unfold TyL.pack TyL.cells
    rw [List.append_assoc, h1]
    simp only [h2]
    rfl
theorem Ty.eq_self : ∀ t : Ty, t.eq? t = some ⟨rfl⟩
  | .int k => by unfold Ty.eq?; simp
  | .bool => rfl
  | .str => rfl
  | .slice t => by unfold Ty.eq?; rw [Ty.eq_self t]
  | .struct l => by unfold Ty.eq?; rw [TyL.eq_self l]
theorem TyL.eq_self : ∀ l : TyL, l.eq? l = some ⟨rfl⟩
  | .nil => rfl
  | .cons t l => by unfold TyL.eq?; rw [Ty.eq_self t, TyL.eq_self l]
end

theorem decF_valF (t : Ty) (x : t.den) : decF t (valF t x) = some x := by
  obtain ⟨g, h⟩ := Ty.pack_cells (fr := false) t x []
  rw [List.append_nil] at h
  cases t with
  | struct l =>
    show (match Ty.pack1 (.struct l) (TyL.cells false l x) with | some (x, _) => some x | _ => none) = some x
    have : Ty.pack1 (.struct l) (TyL.cells false l x) = some (x, g) := by
      unfold Ty.pack1
      rw [show (Ty.struct l).pack (TyL.cells false l x) = some (x, g, []) from h]
    rw [this]
  | int k => simp [decF, valF, Ty.pack1, Ty.pack]
  | bool => rfl
  | str => rfl
  | slice t =>
    have : Ty.pack1 (.slice t) [.sl false t x] = some (x, g) := by
      unfold Ty.pack1
      rw [show (Ty.slice t).pack [.sl false t x] = some (x, g, []) from h]
    simp only [decF, valF]
    rw [this]

theorem ArL.dec_cons {s : Ar} {l : ArL} {v : TV} {r : List TV} {x : s.den} {y : l.den} (h1 : s.dec v = some x) (h2 : l.dec r = some y) : (ArL.cons s l).dec (v :: r) = some (x, y) := by
  unfold ArL.dec
  simp only [h1, h2]
  rfl

theorem arl_dec_enc : ∀ (ts : List TypeId) (ars : ArL), arOk tt ts ars = true → ∀ a : ars.den, ars.dec (ars.enc a) = some a
  | [], .nil, _, a => rfl
  | [], .cons _ _, h, _ => by simp [arOk] at h
  | _ :: _, .nil, h, _ => by simp [arOk] at h
  | t :: ts, .cons (.rp _) l, h, _ => by simp [arOk] at h
  | t :: ts, .cons (.fn _ _) l, h, _ => by simp [arOk] at h
  | t :: ts, .cons (.agg _) l, h, _ => by simp [arOk] at h
  | t :: ts, .cons (.d u) l, h, a => by
    simp only [arOk, Bool.and_eq_true] at h
    have h1 := decF_valF u a.1
    have h2 := arl_dec_enc ts l h.2 a.2
    exact ArL.dec_cons (s := .d u) (v := (Ar.d u).enc a.1) (x := a.1) h1 h2

/-- A law whose model returns true on all arguments. -/
theorem law_of_model {H : Type} {enc : TypeId × Value → H} {F : FuncId} {f : Func} {s : ChangeSpec} {apart fresh handsOn again : Bool} {W : World} {args : Array Value} {ds : List (DataW H)} {before : List MemPlace} {rt : TypeId} {base : Nat} (hF : Fits P tt)
    {ars : ArL} {m : ars.den → Option (RL.den [.bool])} (hM : MdlOK P F (mdlOf ars [.bool] m)) (har : arOk tt f.params.toList ars = true) (htrue : ∀ a, ars.good a → m a = some true)
    (hl : laidOutB P = true) (hr : f.params.toList.all (fun t => P.readableRec t && decide (t < P.types.size)) = true)
    (hv0 : s.vars = []) (hW : DataW.Whole enc P f.params.toList s.vars apart W args.toList ds [] before) (hA : DataW.TrodAll enc P W 0 (fun _ => true) true f.params.toList args.toList ds before)
    (hval : ∀ (j : Nat) t v, f.params[j]? = some t → args[j]? = some v → Value.okWide P W .any base t v)
    (hsr : (s.fn H (ds ++ [])).results = [.lit (.bool true)]) (hsa : (s.fn H (ds ++ [])).args = ds) (hsv : (s.fn H (ds ++ [])).vars = []) (hrt : f.resultTypes = #[rt]) (hbt : P.underlying rt = some .bool) :
    Calls P F args W fun e W' => ∃ v, e = .returned v ∧ s.post enc P f apart fresh handsOn again W args v W' := by
  obtain ⟨a, ga, hlen, hc⟩ := args_open hF f.params.toList ars har args.toList ds before hA (fun j t v hj hv => hval j t v (by simpa using hj) (by simpa using hv))
  obtain ⟨args', hle, hcon⟩ := hM.con (ars.enc a) a true (arl_dec_enc _ ars har a) (htrue a ga)
  have hl' := hle.len
  refine law_end (As := args') hcon hl hr hv0 hW hA (by rw [← hl', ← hlen]; simp) (fun j A v hj hv => ?_) hsr hsa hsv hrt hbt
  have hj2 : j < (encL [] (ars.enc a)).length := by
    rw [hl']
    rcases Nat.lt_or_ge j args'.length with h | h
    · exact h
    · rw [List.getElem?_eq_none h] at hj; cases hj
  have h1 := hle.at_ j
  rw [List.getD_eq_getElem?_getD, List.getElem?_eq_getElem hj2, List.getD_eq_getElem?_getD, hj] at h1
  exact h1 _ _ _ _ _ (hc j _ v (List.getElem?_eq_getElem hj2) hv)

theorem trodAll_len {H : Type} {enc : TypeId × Value → H} {W : World} {sp : Nat → Bool} {held : Bool} : ∀ {ts : List TypeId} {vs : List Value} {ds : List (DataW H)} {ps : List MemPlace}, DataW.TrodAll enc P W 0 sp held ts vs ds ps → ds.length = ts.length
  | [], vs, ds, ps, h => by obtain ⟨_, rfl, _⟩ := trodAll_nil h; rfl
  | t :: ts, vs, ds, ps, h => by
    obtain ⟨v, vs', d, ds', p, q, rfl, rfl, rfl, h1, h2⟩ := trodAll_cons h
    simp [trodAll_len h2]

theorem len_of {t : Ty} {xs : List t.den} (h : Ty.good (.slice t) xs) : xs.length ≤ 9223372036854775807 := Nat.le_trans h.1 (by unfold maxLen; omega)
theorem i64_of {n : Int} (h : Ty.good (.int .i64) n) : -9223372036854775808 ≤ n ∧ n ≤ 9223372036854775807 := by
  obtain ⟨h1, h2⟩ := h
  simp only [IntKind.min, IntKind.max, IntKind.signed, IntKind.bits] at h1 h2
  exact ⟨by simpa using h1, by simpa using h2⟩
theorem u8_of {n : Int} (h : Ty.good (.int .u8) n) : 0 ≤ n ∧ n ≤ 255 := by
  obtain ⟨h1, h2⟩ := h
  simp only [IntKind.min, IntKind.max, IntKind.signed, IntKind.bits] at h1 h2
  exact ⟨by simpa using h1, by simpa using h2⟩

end
end Go.T
