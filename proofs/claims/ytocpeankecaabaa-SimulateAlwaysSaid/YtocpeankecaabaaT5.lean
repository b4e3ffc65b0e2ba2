/-
  The typed machine's operations that make or write owned objects agree with the abstract ones. No program is named.
-/
import Derived.Test.YtocpeankecaabaaT4
set_option linter.all false
namespace Go.T
open Go.Abs Go.M

/-! ### States -/

def OLe (o o' : AObj) : Prop := o.ty = o'.ty ∧ o.sz = o'.sz ∧ o.n = o'.n ∧ ∀ i f, i < o.n → f < o.sz → ALe (o.cs i f) (o'.cs i f)

theorem SLe.ofALe {s s' : AS} (hl : s.slots.length = s'.slots.length) (hs : ∀ (t : Nat) A', s'.slots[t]? = some A' → ∃ A, s.slots[t]? = some A ∧ ALe A A')
    (hh : s.heap.length = s'.heap.length) (ho : ∀ (t : Nat) o', s'.heap[t]? = some o' → ∃ o, s.heap[t]? = some o ∧ OLe o o') : SLe s s' := by
  intro w0 a w σ hr
  refine ⟨σ, hr.defers, hr.len.trans hl, fun t A' hA' => ?_, ⟨hr.heaps.len.trans hh, hr.heaps.inj, fun t o' ho' => ?_⟩, hr.since⟩
  · obtain ⟨A, hA, hle⟩ := hs t A' hA'
    obtain ⟨v, hv, hV⟩ := hr.slot t A hA
    exact ⟨v, hv, hle _ _ _ _ _ hV⟩
  · obtain ⟨o, hob, h1, h2, h3, h4⟩ := ho t o' ho'
    obtain ⟨g, hg, hobj⟩ := hr.heaps.obj t o hob
    refine ⟨g, hg, ?_⟩
    cases g with
    | none => exact h3.symm.trans hobj
    | some k =>
      obtain ⟨cur, hc, hle, hcell⟩ := hobj
      refine ⟨cur, by rw [← h1]; exact hc, by rw [← h2, ← h3]; exact hle, fun i f hi hf => ?_⟩
      obtain ⟨u, hu, h1', hV⟩ := hcell i f (by omega) (by omega)
      exact ⟨u, by rw [← h2]; exact hu, h1', h4 i f (by omega) (by omega) _ _ _ _ _ hV⟩

theorem slots_at (N : Nat) (s : TS) (t : Nat) : (encS N s).slots[t]? = if t < N then some (encV s.H (getS s.S t)) else none := by
  simp only [encS, List.getElem?_map]
  split
  · rename_i h; rw [List.getElem?_range h]; rfl
  · rename_i h; rw [List.getElem?_eq_none (by simpa using h)]; rfl

theorem rd_enc (N : Nat) (s : TS) (t : Nat) : (encS N s).slots.getD t .any = encV s.H (rd N s.S t) := by
  rw [List.getD_eq_getElem?_getD, slots_at]
  unfold rd
  by_cases h : t < N
  · have hb : Nat.blt t N = true := Nat.ble_eq_true_of_le h
    rw [if_pos h, hb]; rfl
  · have hb : Nat.blt t N = false := by
      cases hq : Nat.blt t N with
      | false => rfl
      | true => exact absurd (blt_lt hq) h
    rw [if_neg h, hb]; rfl

theorem ev_enc (N : Nat) (s : TS) (x : Operand) : evO (encS N s).slots x = encV s.H (evT N s.S x) := by
  cases x with
  | tmp t => exact rd_enc N s t
  | const v => exact (encV_ofV s.H v).symm
  | func f => rfl
  | global g => rfl
theorem ev_enc' (N : Nat) (s : TS) : evO (encS N s).slots = fun x => encV s.H (evT N s.S x) := funext (ev_enc N s)

theorem getS_put (S : List (Nat × TV)) (d t : Nat) (v : TV) : getS ((d, v) :: S) t = if d = t then v else getS S t := by
  show (bif Nat.beq d t then v else getS S t) = _
  by_cases h : d = t
  · subst h
    simp [Nat.beq_refl]
  · have : Nat.beq d t = false := by
      cases hq : Nat.beq d t with
      | false => rfl
      | true => exact absurd (beq_eq hq) h
    rw [this, if_neg h]; rfl

/-- A slot put anew, in a state whose other parts agree. -/
theorem put_le {N : Nat} {s1 : AS} {s : TS} (h : SLe s1 (encS N s)) {d : Option Tmp} {A : AV} {v : TV} (hA : ALe A (encV s.H v)) (hsl : s1.slots.length = N) (hh : s1.heap.length = s.H.length)
    (hs : ∀ (t : Nat) A', (encS N s).slots[t]? = some A' → ∃ A, s1.slots[t]? = some A ∧ ALe A A') (ho : ∀ (t : Nat) o', (encS N s).heap[t]? = some o' → ∃ o, s1.heap[t]? = some o ∧ OLe o o') : SLe (s1.put d A) (encS N (s.put d v)) := by
  cases d with
  | none => exact h
  | some d =>
    refine SLe.ofALe (by simp [AS.put, encS, hsl]) (fun t A' hA' => ?_) (by simp [AS.put, encS, TS.put, hh]) ho
    rw [slots_at] at hA'
    split at hA'
    · rename_i ht
      injection hA' with hA'
      subst hA'
      simp only [TS.put, AS.put]
      rw [getS_put]
      by_cases hd : d = t
      · subst hd
        rw [if_pos rfl]
        exact ⟨A, by rw [List.getElem?_set_self (by omega)], hA⟩
      · rw [if_neg hd, List.getElem?_set_ne hd]
        exact hs t _ (by rw [slots_at, if_pos ht])
    · cases hA'

/-- One state is told by the abstract one, slot by slot and object by object. -/
structure Told (N : Nat) (s1 : AS) (s : TS) : Prop where
  sl : s1.slots.length = N
  hl : s1.heap.length = s.H.length
  slot : ∀ t, t < N → ∃ A, s1.slots[t]? = some A ∧ ALe A (encV s.H (getS s.S t))
  obj : ∀ (t : Nat) o', s.H[t]? = some o' → ∃ o, s1.heap[t]? = some o ∧ OLe o (encO s.H o')

theorem Told.le {N : Nat} {s1 : AS} {s : TS} (h : Told N s1 s) : SLe s1 (encS N s) := by
  refine SLe.ofALe (by simp [encS, h.sl]) (fun t A' hA' => ?_) (by simp [encS, h.hl]) (fun t o' ho' => ?_)
  · rw [slots_at] at hA'
    split at hA'
    · rename_i ht
      injection hA' with hA'
      subst hA'
      exact h.slot t ht
    · cases hA'
  · simp only [encS, List.getElem?_map] at ho'
    cases hq : s.H[t]? with
    | none => rw [hq] at ho'; cases ho'
    | some o =>
      rw [hq] at ho'
      injection ho' with ho'
      subst ho'
      exact h.obj t o hq

theorem OLe.refl (o : AObj) : OLe o o := ⟨rfl, rfl, rfl, fun _ _ _ _ => ALe.refl _⟩

theorem Told.refl (N : Nat) (s : TS) : Told N (encS N s) s := by
  refine ⟨by simp [encS], by simp [encS], fun t ht => ⟨_, by rw [slots_at, if_pos ht], ALe.refl _⟩, fun t o' ho' => ⟨encO s.H o', by simp [encS, ho'], OLe.refl _⟩⟩

theorem Told.put {N : Nat} {s1 : AS} {s : TS} (h : Told N s1 s) (d : Option Tmp) {A : AV} {v : TV} (hA : ALe A (encV s.H v)) : Told N (s1.put d A) (s.put d v) := by
  cases d with
  | none => exact h
  | some d =>
    refine ⟨by simp [AS.put, h.sl], h.hl, fun t ht => ?_, h.obj⟩
    simp only [TS.put, AS.put]
    rw [getS_put]
    by_cases hd : d = t
    · subst hd
      rw [if_pos rfl]
      exact ⟨A, by rw [List.getElem?_set_self (by rw [h.sl]; omega)], hA⟩
    · rw [if_neg hd, List.getElem?_set_ne hd]
      exact h.slot t ht

/-! ### Objects of the same size -/

mutual
theorem encV_same {H H' : List TOb} (h : ∀ t, szAt H' t = szAt H t ∧ nAt H' t = nAt H t) : ∀ v : TV, encV H' v = encV H v
  | .any => rfl
  | .int _ _ => rfl
  | .bool _ => rfl
  | .val _ => rfl
  | .sl _ _ _ => rfl
  | .rptr _ _ _ _ _ => rfl
  | .own t => by simp only [encV, h]
  | .ownS t _ _ => by simp only [encV, h]
  | .ptr t _ _ => by simp only [encV, h]
  | .fn f cs => by simp only [encV, encL_same h cs]
  | .agg cs => by simp only [encV, encL_same h cs]
  | .tup cs => by simp only [encV, encL_same h cs]
  | .cond c a => by simp only [encV, encV_same h a]
theorem encL_same {H H' : List TOb} (h : ∀ t, szAt H' t = szAt H t ∧ nAt H' t = nAt H t) : ∀ l : List TV, encL H' l = encL H l
  | [] => rfl
  | v :: l => by simp only [encL, encV_same h v, encL_same h l]
end

theorem encO_same {H H' : List TOb} (h : ∀ t, szAt H' t = szAt H t ∧ nAt H' t = nAt H t) (o : TOb) : encO H' o = encO H o := by
  cases o with
  | arr => rfl
  | box ty cs => simp only [encO, encV_same h]

theorem set_same {H : List TOb} {tg : Nat} {o o' : TOb} (ho : H[tg]? = some o) (hs : o'.sz = o.sz) (hn : o'.n = o.n) : ∀ t, szAt (H.set tg o') t = szAt H t ∧ nAt (H.set tg o') t = nAt H t := by
  intro t
  have hlt : tg < H.length := by
    rcases Nat.lt_or_ge tg H.length with h | h
    · exact h
    · rw [List.getElem?_eq_none h] at ho; cases ho
  unfold szAt nAt
  by_cases h : tg = t
  · subst h
    rw [List.getElem?_set_self hlt, ho]
    exact ⟨hs, hn⟩
  · rw [List.getElem?_set_ne h]
    exact ⟨rfl, rfl⟩

/-! ### Freshness, packing -/

mutual
theorem Ty.av_mono {fr fr' : Bool} (h : fr' = true → fr = true) : ∀ (t : Ty) (x : t.den) (f : Nat), ALe (t.av fr x f) (t.av fr' x f)
  | .int _, _, _ => ALe.refl _
  | .bool, _, _ => ALe.refl _
  | .str, _, _ => ALe.refl _
  | .slice t, xs, _ => by
    unfold Ty.av
    exact ALe.ro h fun i f _ _ => Ty.av_mono h t _ f
  | .struct l, x, f => TyL.av_mono h l x f
theorem TyL.av_mono {fr fr' : Bool} (h : fr' = true → fr = true) : ∀ (l : TyL) (x : l.den) (f : Nat), ALe (l.av fr x f) (l.av fr' x f)
  | .nil, _, _ => ALe.refl _
  | .cons t l, x, f => by
    unfold TyL.av
    split
    · exact Ty.av_mono h t _ f
    · exact TyL.av_mono h l _ _
end

theorem ALe.trans {A B C : AV} (h : ALe A B) (k : ALe B C) : ALe A C := fun w E b τ v hv => k w E b τ v (h w E b τ v hv)

theorem ALe.nil (fr : Bool) (sz : Nat) (cs : Nat → Nat → AV) : ALe (.val (.slice none 0 0)) (.ro fr sz 0 cs) := by
  intro w E B τ v hv
  simp only [VX] at hv
  subst hv
  exact ⟨none, 0, rfl, Nat.le_refl _, Nat.zero_le _, fun h => absurd h (by omega)⟩

theorem packS_av {H : List TOb} {u : Ty} {cs r : List TV} {xs : List u.den} {g fr : Bool} (h : packS u cs = some (xs, g, r)) (hfr : fr = true → g = true) :
    ∃ c, cs = c :: r ∧ ALe (encV H c) (.ro fr u.sz xs.length (fun i f => u.av fr (xs.getD i u.dft) f)) := by
  unfold packS at h
  split at h
  · rename_i fr0 t' ys r0
    split at h
    · rename_i he _
      cases he
      cases h
      refine ⟨_, rfl, ?_⟩
      simp only [encV, castL]
      exact ALe.ro hfr fun i f _ _ => u.av_mono hfr _ f
    · cases h
  · rename_i r0
    cases h
    exact ⟨_, rfl, ALe.nil _ _ _⟩
  · cases h

mutual
theorem Ty.pack_av {H : List TOb} {fr : Bool} : ∀ (t : Ty) (cs : List TV) (x : t.den) (g : Bool) (r : List TV), t.pack cs = some (x, g, r) → (fr = true → g = true) →
    ∃ cs0, cs = cs0 ++ r ∧ cs0.length = t.sz ∧ ∀ f, f < t.sz → ALe (encV H (cs0.getD f .any)) (t.av fr x f)
  | .int k, cs, x, g, r, h, _ => by
    unfold Ty.pack at h
    split at h
    · rename_i k' n r0
      split at h
      · rename_i hk
        subst hk
        cases h
        refine ⟨[.int k x], rfl, rfl, fun f hf => ?_⟩
        obtain rfl : f = 0 := by simp [Ty.sz] at hf; omega
        exact ALe.refl _
      · cases h
    · cases h
  | .bool, cs, x, g, r, h, _ => by
    unfold Ty.pack at h
    split at h
    · rename_i b r0
      cases h
      refine ⟨[.bool x], rfl, rfl, fun f hf => ?_⟩
      obtain rfl : f = 0 := by simp [Ty.sz] at hf; omega
      exact ALe.refl _
    · cases h
  | .str, cs, x, g, r, h, _ => by
    unfold Ty.pack at h
    split at h
    · rename_i s r0
      cases h
      refine ⟨[.val (.string x)], rfl, rfl, fun f hf => ?_⟩
      obtain rfl : f = 0 := by simp [Ty.sz] at hf; omega
      exact ALe.refl _
    · cases h
  | .slice t, cs, x, g, r, h, hfr => by
    unfold Ty.pack at h
    obtain ⟨c, hc, hle⟩ := packS_av (H := H) (fr := fr) h hfr
    refine ⟨[c], hc, rfl, fun f hf => ?_⟩
    obtain rfl : f = 0 := by simp [Ty.sz] at hf; omega
    exact hle
  | .struct l, cs, x, g, r, h, hfr => TyL.pack_av l cs x g r h hfr
theorem TyL.pack_av {H : List TOb} {fr : Bool} : ∀ (l : TyL) (cs : List TV) (x : l.den) (g : Bool) (r : List TV), l.pack cs = some (x, g, r) → (fr = true → g = true) →
    ∃ cs0, cs = cs0 ++ r ∧ cs0.length = l.sz ∧ ∀ f, f < l.sz → ALe (encV H (cs0.getD f .any)) (l.av fr x f)
  | .nil, cs, x, g, r, h, _ => by
    unfold TyL.pack at h
    cases h
    exact ⟨[], rfl, rfl, fun f hf => by simp [TyL.sz] at hf⟩
  | .cons t l, cs, x, g, r, h, hfr => by
    unfold TyL.pack at h
    split at h
    · rename_i x1 f1 r1 h1
      split at h
      · rename_i y g1 r2 h2
        cases h
        have hfr' : fr = true → f1 = true ∧ g1 = true := fun e => by simpa using hfr e
        obtain ⟨c1, e1, l1, a1⟩ := Ty.pack_av t cs x1 f1 r1 h1 (fun e => (hfr' e).1)
        obtain ⟨c2, e2, l2, a2⟩ := TyL.pack_av l r1 y g1 r h2 (fun e => (hfr' e).2)
        refine ⟨c1 ++ c2, by rw [e1, e2, List.append_assoc], by rw [List.length_append, l1, l2]; rfl, fun f hf => ?_⟩
        unfold TyL.sz at hf
        show ALe _ (if f < t.sz then t.av fr x1 f else l.av fr y (f - t.sz))
        simp only [List.getD_eq_getElem?_getD]
        split
        · rename_i hlt
          rw [List.getElem?_append_left (by omega)]
          simpa [List.getD_eq_getElem?_getD] using a1 f hlt
        · rename_i hge
          rw [List.getElem?_append_right (by omega), l1]
          simpa [List.getD_eq_getElem?_getD] using a2 (f - t.sz) (by omega)
      · cases h
    · cases h
end

theorem Ty.pack1_av {H : List TOb} {fr g : Bool} {t : Ty} {cs : List TV} {x : t.den} (h : t.pack1 cs = some (x, g)) (hfr : fr = true → g = true) : cs.length = t.sz ∧ ∀ f, f < t.sz → ALe (encV H (cs.getD f .any)) (t.av fr x f) := by
  unfold Ty.pack1 at h
  split at h
  · rename_i x1 f1 h1
    cases h
    obtain ⟨c0, e0, l0, a0⟩ := Ty.pack_av (H := H) (fr := fr) t cs x g [] h1 hfr
    rw [List.append_nil] at e0
    subst e0
    exact ⟨l0, a0⟩
  · cases h

theorem Ty.packN_av {H : List TOb} {fr : Bool} {t : Ty} : ∀ (n : Nat) (cs : List TV) (xs : List t.den) (g : Bool), t.packN n cs = some (xs, g) → (fr = true → g = true) →
    xs.length = n ∧ ∀ i f, i < n → f < t.sz → ALe (encV H (cs.getD (i * t.sz + f) .any)) (t.av fr (xs.getD i t.dft) f) := by
  intro n
  induction n with
  | zero =>
    intro cs xs g h _
    cases cs with
    | nil => simp only [Ty.packN, Option.some.injEq, Prod.mk.injEq] at h; rw [← h.1]; exact ⟨rfl, fun i f hi => by omega⟩
    | cons c cs => simp [Ty.packN] at h
  | succ n ih =>
    intro cs xs g h hfr
    simp only [Ty.packN] at h
    split at h
    · rename_i x1 f1 r1 h1
      split at h
      · rename_i ys g1 h2
        simp only [Option.some.injEq, Prod.mk.injEq] at h
        obtain ⟨rfl, rfl⟩ := h
        have hfr' : fr = true → f1 = true ∧ g1 = true := fun e => by simpa using hfr e
        obtain ⟨c0, e0, l0, a0⟩ := Ty.pack_av (H := H) (fr := fr) t cs x1 f1 r1 h1 (fun e => (hfr' e).1)
        obtain ⟨l1, a1⟩ := ih r1 ys g1 h2 (fun e => (hfr' e).2)
        refine ⟨by simp [l1], fun i f hi hf => ?_⟩
        subst e0
        cases i with
        | zero =>
          have := a0 f hf
          simp only [Nat.zero_mul, Nat.zero_add, List.getD_cons_zero]
          rw [List.getD_eq_getElem?_getD, List.getElem?_append_left (by omega), ← List.getD_eq_getElem?_getD]
          exact this
        | succ i =>
          have := a1 i f (by omega) hf
          rw [List.getD_cons_succ, List.getD_eq_getElem?_getD, List.getElem?_append_right (by rw [l0, Nat.add_mul]; omega), ← List.getD_eq_getElem?_getD, l0, show (i + 1) * t.sz + f - t.sz = i * t.sz + f by rw [Nat.add_mul]; omega]
          exact this
      · cases h
    · cases h

theorem zeroB_at {H : List TOb} : ∀ (l : List TV) (z : List Value), zeroB l z = true → l.length = z.length ∧ ∀ f, ALe ((z.map ofC).getD f .any) (encV H (l.getD f .any))
  | [], [], _ => ⟨rfl, fun f => by simp [List.getD_eq_getElem?_getD, encV, ALe.refl]⟩
  | [], v :: z, h => by simp [zeroB] at h
  | v :: l, [], h => by unfold zeroB at h; split at h <;> simp_all
  | v :: l, w :: z, h => by
    have key : zeroB l z = true ∧ ALe (ofC w) (encV H v) := by
      unfold zeroB at h
      split at h
      · simp_all
      · rename_i k n l0 k' m l0' h1 h2
        cases h1
        cases h2
        simp only [Bool.and_eq_true, decide_eq_true_eq] at h
        obtain ⟨⟨rfl, rfl⟩, h3⟩ := h
        exact ⟨h3, ALe.refl _⟩
      · rename_i b l0 b' l0' h1 h2
        cases h1
        cases h2
        simp only [Bool.and_eq_true, beq_iff_eq] at h
        obtain ⟨rfl, h3⟩ := h
        exact ⟨h3, ALe.refl _⟩
      · rename_i l0 l0' h1 h2
        cases h1
        cases h2
        exact ⟨h, ALe.refl _⟩
      · rename_i fr t l0 l0' h1 h2
        cases h1
        cases h2
        exact ⟨h, ALe.nil _ _ _⟩
      · cases h
    obtain ⟨h1, h2⟩ := zeroB_at (H := H) l z key.1
    refine ⟨by simp [h1], fun f => ?_⟩
    cases f with
    | zero => simpa [List.getD_eq_getElem?_getD] using key.2
    | succ f => simpa [List.getD_eq_getElem?_getD] using h2 f

/-! ### Tags that are forgotten -/

mutual
theorem kill_enc {H H' : List TOb} {t : Nat} (h : ∀ t', t' ≠ t → szAt H' t' = szAt H t' ∧ nAt H' t' = nAt H t') : ∀ v : TV, kill t (encV H v) = encV H' (killT t v)
  | .any => rfl
  | .int _ _ => rfl
  | .bool _ => rfl
  | .val _ => rfl
  | .sl _ _ _ => rfl
  | .rptr _ _ _ _ _ => rfl
  | .own t' => by
    simp only [encV, kill, killT]
    by_cases he : t' = t
    · subst he; simp [Nat.beq_refl, encV]
    · rw [if_neg he, beq_no he]; simp only [cond_false, encV, h t' he]
  | .ownS t' off n => by
    simp only [encV, kill, killT]
    by_cases he : t' = t
    · subst he; simp [Nat.beq_refl, encV]
    · rw [if_neg he, beq_no he]; simp only [cond_false, encV, h t' he]
  | .ptr t' i f => by
    simp only [encV, kill, killT]
    by_cases he : t' = t
    · subst he; simp [Nat.beq_refl, encV]
    · rw [if_neg he, beq_no he]; simp only [cond_false, encV, h t' he]
  | .fn f cs => by
    simp only [encV, kill, killT, killTL_len]
    congr 1
    funext j
    exact killL_enc h cs j
  | .agg cs => by
    simp only [encV, kill, killT, killTL_len]
    congr 1
    funext j
    exact killL_enc h cs j
  | .tup cs => by
    simp only [encV, kill, killT, killTL_len]
    congr 1
    funext j
    exact killL_enc h cs j
  | .cond c a => by simp only [encV, kill, killT, kill_enc h a]
theorem killL_enc {H H' : List TOb} {t : Nat} (h : ∀ t', t' ≠ t → szAt H' t' = szAt H t' ∧ nAt H' t' = nAt H t') : ∀ (l : List TV) (j : Nat), kill t ((encL H l).getD j .any) = (encL H' (killTL t l)).getD j .any
  | [], j => by simp [encL, killTL, kill]
  | v :: l, 0 => by simpa [encL, killTL] using kill_enc h v
  | v :: l, j + 1 => by simpa [encL, killTL] using killL_enc h l j
theorem killTL_len {t : Nat} : ∀ l : List TV, (killTL t l).length = l.length
  | [] => rfl
  | v :: l => by simp [killTL, killTL_len l]
end

theorem killTL_getD (t : Nat) : ∀ (l : List TV) (j : Nat), (killTL t l).getD j .any = killT t (l.getD j .any)
  | [], j => by simp [killTL, killT]
  | v :: l, 0 => by simp [killTL]
  | v :: l, j + 1 => by simpa [killTL] using killTL_getD t l j

theorem getS_kill (t : Nat) : ∀ (S : List (Nat × TV)) (a : Nat), getS (killS t S) a = killT t (getS S a)
  | [], a => by simp [killS, getS, killT]
  | (b, v) :: S, a => by
    unfold killS getS
    cases Nat.beq b a
    · exact getS_kill t S a
    · rfl

theorem killH_map (t : Nat) : ∀ H : List TOb, killH t H = H.map (killO1 t)
  | [] => rfl
  | .box ty cs :: l => by simp [killH, killO1, killH_map t l]
  | .arr ty fr u xs :: l => by simp [killH, killO1, killH_map t l]
theorem killO1_sz (t : Nat) (o : TOb) : (killO1 t o).sz = o.sz := by cases o <;> simp [killO1, TOb.sz, killTL_len]
theorem killO1_n (t : Nat) (o : TOb) : (killO1 t o).n = o.n := by cases o <;> rfl

theorem ALe.kill (t : Nat) (A : AV) : ALe A (kill t A) := fun _ _ _ τ v h => VX.kill t A τ v h

mutual
theorem Ty.kill_av (t : Nat) (fr : Bool) : ∀ (u : Ty) (x : u.den) (f : Nat), kill t (u.av fr x f) = u.av fr x f
  | .int _, _, _ => rfl
  | .bool, _, _ => rfl
  | .str, _, _ => rfl
  | .slice _, _, _ => rfl
  | .struct l, x, f => TyL.kill_av t fr l x f
theorem TyL.kill_av (t : Nat) (fr : Bool) : ∀ (l : TyL) (x : l.den) (f : Nat), kill t (l.av fr x f) = l.av fr x f
  | .nil, _, _ => rfl
  | .cons u l, x, f => by
    unfold TyL.av
    split
    · exact Ty.kill_av t fr u _ _
    · exact TyL.kill_av t fr l _ _
end

/-- A heap with its tag t forgotten and a new object at t. -/
theorem killO_enc {H H' : List TOb} {t : Nat} (h : ∀ t', t' ≠ t → szAt H' t' = szAt H t' ∧ nAt H' t' = nAt H t') (o : TOb) : OLe (killO t (encO H o)) (encO H' (killO1 t o)) := by
  cases o with
  | arr ty fr u xs => exact ⟨rfl, rfl, rfl, fun i f _ _ => ALe.of_eq (Ty.kill_av ..)⟩
  | box ty cs =>
    refine ⟨rfl, by simp [killO1, killO, encO, killTL_len], rfl, fun i f _ _ => ALe.of_eq ?_⟩
    show kill t (encV H (cs.getD f .any)) = encV H' ((killTL t cs).getD f .any)
    rw [killTL_getD, kill_enc h]

end Go.T
