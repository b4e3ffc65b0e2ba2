/-
  The typed machine's operations and regions agree with the abstract ones. No program is named.
-/
import Derived.Test.YtocpeankecaabaaT6
set_option linter.all false
namespace Go.T
open Go.Abs Go.M Go.RowKit

theorem OLe.trans {a b c : AObj} (h : OLe a b) (k : OLe b c) : OLe a c := by
  obtain ⟨h1, h2, h3, h4⟩ := h
  obtain ⟨k1, k2, k3, k4⟩ := k
  exact ⟨h1.trans k1, h2.trans k2, h3.trans k3, fun i f hi hf => ALe.trans (h4 i f hi hf) (k4 i f (by omega) (by omega))⟩
theorem OLe.kill (t : Nat) (o : AObj) : OLe o (killO t o) := ⟨rfl, rfl, rfl, fun _ _ _ _ => ALe.kill t _⟩

theorem push_same (H : List TOb) (o : TOb) : ∀ t', t' ≠ H.length → szAt (killH H.length H ++ [o]) t' = szAt H t' ∧ nAt (killH H.length H ++ [o]) t' = nAt H t' := by
  intro t' ht
  unfold szAt nAt
  rw [killH_map]
  rcases Nat.lt_or_ge t' H.length with h | h
  · rw [List.getElem?_append_left (by simpa using h), List.getElem?_map]
    cases H[t']? with
    | none => exact ⟨rfl, rfl⟩
    | some o' => exact ⟨killO1_sz _ _, killO1_n _ _⟩
  · rw [List.getElem?_eq_none (by simp; omega), List.getElem?_eq_none h]
    exact ⟨rfl, rfl⟩

theorem push_at (H : List TOb) (o : TOb) : (killH H.length H ++ [o])[H.length]? = some o := by
  rw [killH_map, List.getElem?_append_right (by simp)]
  simp

theorem Told.push {N : Nat} {s1 : AS} {s : TS} (h : Told N s1 s) {o1 : AObj} {o : TOb} (ho : OLe o1 (encO (killH s.H.length s.H ++ [killO1 s.H.length o]) (killO1 s.H.length o))) : Told N (s1.push o1) (s.push o) := by
  have hs := push_same s.H (killO1 s.H.length o)
  refine ⟨h.sl, by simp [AS.push, TS.push, killH_map, h.hl], fun t ht => ?_, fun t o' ho' => ?_⟩
  · obtain ⟨A, hA, hle⟩ := h.slot t ht
    refine ⟨A, hA, ?_⟩
    simp only [TS.push]
    rw [getS_kill, ← kill_enc hs]
    exact ALe.trans hle (ALe.kill _ _)
  · simp only [TS.push, AS.push] at ho' ⊢
    rcases Nat.lt_or_ge t s.H.length with hlt | hge
    · rw [killH_map, List.getElem?_append_left (by simpa using hlt), List.getElem?_map] at ho'
      cases hq : s.H[t]? with
      | none => rw [hq] at ho'; cases ho'
      | some o2 =>
        rw [hq] at ho'
        simp only [Option.map_some, Option.some.injEq] at ho'
        subst ho'
        obtain ⟨o3, h3, h4⟩ := h.obj t o2 hq
        refine ⟨o3, by rw [List.getElem?_append_left (by rw [h.hl]; exact hlt)]; exact h3, ?_⟩
        exact h4.trans ((OLe.kill s.H.length _).trans (killO_enc hs o2))
    · rcases Nat.eq_or_lt_of_le hge with heq | hgt
      · subst heq
        rw [push_at] at ho'
        cases ho'
        exact ⟨o1, by rw [List.getElem?_append_right (by rw [h.hl]; omega), h.hl]; simp, ho⟩
      · rw [List.getElem?_eq_none (by simp [killH_map]; omega)] at ho'
        cases ho'

theorem Told.set {N : Nat} {s1 : AS} {s : TS} (h : Told N s1 s) {tg : Nat} {o o' : TOb} {o1 : AObj} (ho : s.H[tg]? = some o) (hs : o'.sz = o.sz) (hn : o'.n = o.n) (hle : OLe o1 (encO s.H o')) :
    Told N { s1 with heap := s1.heap.set tg o1 } ⟨s.S, s.H.set tg o'⟩ := by
  have hsame := set_same ho hs hn
  have hlt : tg < s.H.length := by
    rcases Nat.lt_or_ge tg s.H.length with h | h
    · exact h
    · rw [List.getElem?_eq_none h] at ho; cases ho
  refine ⟨h.sl, by simp [h.hl], fun t ht => ?_, fun t o2 ho2 => ?_⟩
  · obtain ⟨A, hA, hle⟩ := h.slot t ht
    exact ⟨A, hA, by rw [encV_same hsame]; exact hle⟩
  · simp only [] at ho2 ⊢
    rw [encO_same hsame]
    by_cases he : tg = t
    · subst he
      rw [List.getElem?_set_self hlt] at ho2
      cases ho2
      exact ⟨o1, by rw [List.getElem?_set_self (by rw [h.hl]; exact hlt)], hle⟩
    · rw [List.getElem?_set_ne he] at ho2 ⊢
      exact h.obj t o2 ho2

theorem killT_ofV (t : Nat) (v : Value) : killT t (ofV v) = ofV v := by cases v <;> rfl
theorem killTL_ofV (t : Nat) : ∀ z : List Value, killTL t (z.map ofV) = z.map ofV
  | [] => rfl
  | v :: z => by simp [killTL, killT_ofV, killTL_ofV t z]

theorem szAt_push (H : List TOb) (o : TOb) : szAt (killH H.length H ++ [o]) H.length = o.sz := szAt_of (push_at H o)
theorem nAt_push (H : List TOb) (o : TOb) : nAt (killH H.length H ++ [o]) H.length = o.n := nAt_of (push_at H o)

theorem elT_at {tt : TT} {el : TypeId} {u : Ty} {ei : TI} (h : elT tt el = some (u, ei)) : tt el = some ei ∧ u.sz = ei.sz ∧ 0 < ei.sz ∧ ei.zero.length = ei.sz ∧ AV.zeroOk ei.zero = true ∧ zeroB (u.cells true u.dft) ei.zero = true := by
  unfold elT at h
  split at h
  · rename_i ei' u' h1 h2
    obtain ⟨h3, h4⟩ := bif_some h
    cases h4
    simp only [Bool.and_eq_true] at h3
    obtain ⟨⟨⟨⟨a1, a2⟩, a3⟩, a4⟩, a5⟩ := h3
    exact ⟨h1, beq_eq a1, blt_lt a2, beq_eq a3, a4, a5⟩
  · cases h

theorem eq_list {u u' : Ty} {H : List TOb} (h : u' = u) (ys : List u'.den) (fr : Bool) : u'.sz = u.sz ∧ (castL h ys).length = ys.length ∧ ∀ i f, u.av fr ((castL h ys).getD i u.dft) f = u'.av fr (ys.getD i u'.dft) f := by
  subst h
  exact ⟨rfl, rfl, fun _ _ => rfl⟩

theorem neC_pos {α : Type} {ys : List α} (h : allT (neC ys)) : 0 < ys.length := by
  cases ys with
  | nil => have := h false (by simp [neC]); cases this
  | cons y ys => simp

theorem room_at {n b : Nat} (h : room n b = true) : n ≤ 9223372036854775807 ∧ n * b ≤ 140737488355328 := by
  simp only [room, Bool.and_eq_true, decide_eq_true_eq] at h; exact h

theorem srcT_src {H : List TOb} {v : TV} {fr : Bool} {u : Ty} {ys : List u.den} (h : srcT H v = some (fr, ⟨u, ys⟩)) (hpos : 0 < ys.length) :
    ∃ C src, srcV (H.map (encO H)) (encV H v) = some (C, u.sz, ys.length, src) ∧ C ∧ ∀ i f, src i f = u.av fr (ys.getD i u.dft) f := by
  unfold srcT at h
  split at h
  · cases h
    exact ⟨_, _, rfl, hpos, fun _ _ => rfl⟩
  · rename_i t
    split at h
    · rename_i ty fr' u' xs ho
      cases h
      have ho' : (H.map (encO H))[t]? = some (encO H (.arr ty fr u ys)) := by rw [List.getElem?_map, ho]; rfl
      simp only [encV, srcV, ho', szAt_of ho, nAt_of ho]
      exact ⟨_, _, rfl, ⟨hpos, Nat.le_refl _, rfl⟩, fun _ _ => rfl⟩
    · cases h
  · cases h

theorem and_l {a b : Bool} (h : (a && b) = true) : a = true := by cases a <;> simp_all
theorem and_r {a b : Bool} (h : (a && b) = true) : b = true := by cases a <;> simp_all

/-- A row that has grown. -/
theorem grown_told {N : Nat} {s : TS} {tg : Nat} {ty : TypeId} {fr fr' : Bool} {u : Ty} {xs ys : List u.den} (ho : s.H[tg]? = some (.arr ty fr u xs)) {src : Nat → Nat → AV}
    (hsrc : ∀ i f, i < ys.length → src i f = u.av fr' (ys.getD i u.dft) f) : Told N ((encS N s).grown tg (encO s.H (.arr ty fr u xs)) ys.length src) ⟨killS tg s.S, (killH tg s.H).set tg (.arr ty (fr && fr') u (xs ++ ys))⟩ := by
  have hlt : tg < s.H.length := by
    rcases Nat.lt_or_ge tg s.H.length with h | h
    · exact h
    · rw [List.getElem?_eq_none h] at ho; cases ho
  have hsame : ∀ t', t' ≠ tg → szAt ((killH tg s.H).set tg (.arr ty (fr && fr') u (xs ++ ys))) t' = szAt s.H t' ∧ nAt ((killH tg s.H).set tg (.arr ty (fr && fr') u (xs ++ ys))) t' = nAt s.H t' := by
    intro t' ht
    unfold szAt nAt
    rw [List.getElem?_set_ne (Ne.symm ht), killH_map, List.getElem?_map]
    cases s.H[t']? with
    | none => exact ⟨rfl, rfl⟩
    | some o' => exact ⟨killO1_sz _ _, killO1_n _ _⟩
  refine ⟨by simp [AS.grown, encS], by simp [AS.grown, killH_map, encS], fun t ht => ?_, fun t o' ho' => ?_⟩
  · refine ⟨kill tg (encV s.H (getS s.S t)), by simp only [AS.grown, List.getElem?_map, slots_at, if_pos ht, Option.map_some], ?_⟩
    simp only []
    rw [getS_kill, ← kill_enc hsame]
    exact ALe.refl _
  · simp only [AS.grown] at ho' ⊢
    by_cases he : tg = t
    · subst he
      rw [List.getElem?_set_self (by simpa [killH_map] using hlt)] at ho'
      cases ho'
      refine ⟨_, by rw [List.getElem?_set_self (by simpa [encS] using hlt)], ?_⟩
      refine ⟨rfl, rfl, by simp [encO], fun i f hi hf => ?_⟩
      have e1 : ∀ (fr0 : Bool) (x : u.den), ((fr && fr') = true → fr0 = true) → ALe (u.av fr0 x f) (u.av (fr && fr') x f) := fun fr0 x hx => u.av_mono hx x f
      show ALe (if i < xs.length then kill tg (u.av fr (xs.getD i u.dft) f) else kill tg (src (i - xs.length) f)) (u.av (fr && fr') ((xs ++ ys).getD i u.dft) f)
      have hi2 : i < xs.length + ys.length := hi
      split
      · rename_i hi1
        have hx : (xs ++ ys).getD i u.dft = xs.getD i u.dft := by simp only [List.getD_eq_getElem?_getD]; rw [List.getElem?_append_left (by omega)]
        rw [hx, Ty.kill_av]
        exact e1 fr _ and_l
      · rename_i hi1
        have hx : (xs ++ ys).getD i u.dft = ys.getD (i - xs.length) u.dft := by simp only [List.getD_eq_getElem?_getD]; rw [List.getElem?_append_right (by omega)]
        rw [hx, hsrc (i - xs.length) f (by omega), Ty.kill_av]
        exact e1 fr' _ and_r
    · rw [List.getElem?_set_ne he, killH_map, List.getElem?_map] at ho'
      cases hq : s.H[t]? with
      | none => rw [hq] at ho'; cases ho'
      | some o3 =>
        rw [hq] at ho'
        simp only [Option.map_some, Option.some.injEq] at ho'
        subst ho'
        exact ⟨killO tg (encO s.H o3), by rw [List.getElem?_set_ne he]; simp [encS, hq], killO_enc hsame o3⟩

/-- A row that grows out of nil. -/
theorem grownNil_told {N : Nat} {s : TS} {ty : TypeId} {fr' : Bool} {u : Ty} {ys : List u.den} {sz : Nat} (hsz : sz = u.sz) {src : Nat → Nat → AV}
    (hsrc : ∀ i f, i < ys.length → src i f = u.av fr' (ys.getD i u.dft) f) : Told N (((encS N s).pushNil ty sz).grown s.H.length ⟨ty, sz, 0, fun _ _ => .any⟩ ys.length src) (s.push (.arr ty fr' u ys)) := by
  subst hsz
  have hsame := push_same s.H (killO1 s.H.length (.arr ty fr' u ys))
  refine ⟨by simp [AS.grown, AS.pushNil, AS.push, encS], by simp [AS.grown, AS.pushNil, AS.push, TS.push, killH_map, encS], fun t ht => ?_, fun t o' ho' => ?_⟩
  · refine ⟨kill s.H.length (encV s.H (getS s.S t)), by simp only [AS.grown, AS.pushNil, AS.push, List.getElem?_map, slots_at, if_pos ht, Option.map_some], ?_⟩
    simp only [TS.push]
    rw [getS_kill, ← kill_enc hsame]
    exact ALe.refl _
  · simp only [AS.grown, AS.pushNil, AS.push, TS.push] at ho' ⊢
    have hhl : (encS N s).heap.length = s.H.length := by simp [encS]
    rcases Nat.lt_or_ge t s.H.length with hlt | hge
    · rw [killH_map, List.getElem?_append_left (by simpa using hlt), List.getElem?_map] at ho'
      cases hq : s.H[t]? with
      | none => rw [hq] at ho'; cases ho'
      | some o3 =>
        rw [hq] at ho'
        simp only [Option.map_some, Option.some.injEq] at ho'
        subst ho'
        refine ⟨killO s.H.length (encO s.H o3), ?_, killO_enc hsame o3⟩
        rw [List.getElem?_set_ne (by omega), List.getElem?_map, List.getElem?_append_left (by omega)]
        simp [encS, hq]
    · rcases Nat.eq_or_lt_of_le hge with heq | hgt
      · subst heq
        rw [push_at] at ho'
        cases ho'
        refine ⟨_, by rw [List.getElem?_set_self (by simp [encS])], ?_⟩
        refine ⟨rfl, rfl, by simp [encO, killO1], fun i f hi hf => ?_⟩
        show ALe (if i < 0 then kill s.H.length .any else kill s.H.length (src (i - 0) f)) (u.av fr' (ys.getD i u.dft) f)
        rw [if_neg (by omega), Nat.sub_zero, hsrc i f (by simpa using hi), Ty.kill_av]
        exact ALe.refl _
      · rw [List.getElem?_eq_none (by simp [killH_map]; omega)] at ho'
        cases ho'

section
variable {P : Program} {R Rf : Type}

theorem heap_at {N : Nat} {s : TS} {t : Nat} {o : TOb} (h : s.H[t]? = some o) : (encS N s).heap[t]? = some (encO s.H o) := by simp [encS, h]
theorem heap_len {N : Nat} {s : TS} : (encS N s).heap.length = s.H.length := by simp [encS]

/-- An operation that makes or writes, or calls. -/
theorem effT_sound {X : Ctx Rf} (hΓ : CtxOK P X) {o : Oper} {s : TS} {k : TS → Option R} {r : R} (h : effT X o s k = some r) {K : AS → Prop}
    (hK : ∀ s1 s', SLe s1 (encS X.N s') → k s' = some r → K s1) : opW P X.tt 0 o (encS X.N s) K := by
  unfold effT at h
  unfold opW
  split at h
  · -- alloc
    rename_i t ho
    simp only [ho, pvO]
    unfold effW
    simp only [ho]
    split at h
    · rename_i x ht
      simp only [ht]
      obtain ⟨h1, h2⟩ := bif_some h
      rw [Bool.and_eq_true] at h1
      have hz := beq_eq h1.1
      refine ⟨hz, h1.2, hK _ _ ((Told.push (Told.refl X.N s) (o := .box t (x.zero.map ofV)) ?_).put o.dst ?_).le h2⟩
      · simp only [killO1, killTL_ofV, encO]
        refine ⟨rfl, by simp [hz], rfl, fun i f _ _ => ALe.of_eq ?_⟩
        show (List.map ofC x.zero).getD f .any = encV _ ((List.map ofV x.zero).getD f .any)
        rw [← encL_getD, encL_ofV]
      · refine ALe.of_eq ?_
        simp only [TS.push, encV, szAt_push, killO1_sz, heap_len]; simp only [TOb.sz, List.length_map, hz]
        rfl
    · cases h
  · -- box
    rename_i t x ho
    simp only [ho, pvO]
    unfold effW
    simp only [ho, ev_enc, get_gt]
    split at h
    · rename_i ti ht
      simp only [ht]
      split at h
      · rename_i cs hcs
        obtain ⟨h1, h2⟩ := ckL_some h
        obtain ⟨c1, c2, c3⟩ := cellsT_at hcs
        have hs := push_same s.H (killO1 s.H.length (.box t cs))
        refine ⟨need_nd _ _ h1, c2, hK _ _ ((Told.push (Told.refl X.N s) (o := .box t cs) ?_).put o.dst ?_).le h2⟩
        · refine ⟨rfl, by simp [killO1, encO, killTL_len, c1], rfl, fun i f _ hf => ?_⟩
          show ALe ((encV s.H (evT X.N s.S x).gt).cell f) (encV _ ((killTL s.H.length cs).getD f .any))
          rw [c3 f hf, killTL_getD, ← kill_enc hs]
          exact ALe.kill _ _
        · refine ALe.of_eq ?_
          simp only [TS.push, encV, szAt_push, killO1_sz, heap_len]; simp only [TOb.sz, c1]
          rfl
      · cases h
    · cases h
  · -- store
    rename_i t p x ho
    simp only [ho, pvO]
    unfold effW
    simp only [ho, ev_enc, get_gt]
    split at h
    · rename_i ti ht
      simp only [ht]
      split at h
      · rename_i tg i f hp
        split at h
        · rename_i new hnew
          obtain ⟨c1, c2, c3⟩ := cellsT_at hnew
          split at h
          · rename_i ty cs hob
            split at h
            · split at h
              · rename_i cs' hcs'
                obtain ⟨h1, h2⟩ := ckL_some h
                obtain ⟨n1, n2⟩ := allT_app.1 h1
                obtain ⟨p1, p2, p3⟩ := putL_at hcs'
                simp only [hp, encV, szAt_of hob, heap_at hob]
                refine ⟨need_nd _ _ n1, need_nd _ _ n2, c2, rfl, by simp [encO], by simp only [TOb.sz]; omega, hK _ _ ((Told.set (Told.refl X.N s) hob (o' := .box ty cs') (by simp [TOb.sz, p2]) rfl ?_).put o.dst (ALe.any _)).le h2⟩
                refine ⟨rfl, by simp [encO, storeV, p2], rfl, fun i' f' hi' hf' => ?_⟩
                have hi0 : i' = 0 := by simp [storeV, encO] at hi'; omega
                subst hi0
                show ALe (if 0 = Int.toNat (Int.ofNat 0) ∧ f ≤ f' ∧ f' < f + ti.sz then _ else encV s.H (cs.getD f' .any)) (encV s.H (cs'.getD f' .any))
                rw [p3 f', c1]
                by_cases hin : f ≤ f' ∧ f' < f + ti.sz
                · rw [if_pos hin, if_pos ⟨rfl, hin⟩, c3 (f' - f) (by omega)]
                  exact ALe.refl _
                · rw [if_neg hin, if_neg (fun e => hin e.2)]
                  exact ALe.refl _
              · cases h
            · cases h
          · rename_i ty fr u xs hob
            split at h
            · rename_i cs' hcs'
              split at h
              · rename_i x' g hpk
                obtain ⟨h1, h2⟩ := ckL_some h
                obtain ⟨n1, n2⟩ := allT_app.1 h1
                obtain ⟨n2, n3⟩ := allT_app.1 n2
                obtain ⟨i0, i1⟩ := ix_at (n3 _ (List.mem_singleton.2 rfl))
                obtain ⟨p1, p2, p3⟩ := putL_at hcs'
                rw [Ty.cells_len] at p1 p2
                simp only [hp, encV, szAt_of hob, heap_at hob]
                refine ⟨need_nd _ _ n1, need_nd _ _ n2, c2, rfl, by simp only [encO]; omega, by simp only [TOb.sz]; omega, hK _ _ ((Told.set (Told.refl X.N s) hob (o' := .arr ty (fr && g) u (xs.set i.toNat x')) rfl (by simp [TOb.n]) ?_).put o.dst (ALe.any _)).le h2⟩
                refine ⟨rfl, rfl, by simp [encO, storeV], fun i' f' hi' hf' => ?_⟩
                have hi2 : i' < xs.length := hi'
                have hf2 : f' < u.sz := hf'
                show ALe (if i' = i.toNat ∧ f ≤ f' ∧ f' < f + ti.sz then _ else u.av fr (xs.getD i' u.dft) f') (u.av (fr && g) ((xs.set i.toNat x').getD i' u.dft) f')
                obtain ⟨q1, q2⟩ := Ty.pack1_av (H := s.H) (fr := fr && g) hpk and_r
                by_cases hie : i' = i.toNat
                · subst hie
                  have hx : (xs.set i.toNat x').getD i.toNat u.dft = x' := by rw [List.getD_eq_getElem?_getD, List.getElem?_set_self hi2]; rfl
                  rw [hx]
                  have := q2 f' hf2
                  rw [p3 f', c1] at this
                  by_cases hin : f ≤ f' ∧ f' < f + ti.sz
                  · rw [if_pos hin] at this
                    rw [if_pos ⟨rfl, hin⟩, c3 (f' - f) (by omega)]
                    exact this
                  · rw [if_neg hin, Ty.cells_av s.H fr u _ f' hf2] at this
                    rw [if_neg (fun e => hin e.2)]
                    exact this
                · have hx : (xs.set i.toNat x').getD i' u.dft = xs.getD i' u.dft := by rw [List.getD_eq_getElem?_getD, List.getElem?_set_ne (Ne.symm hie), List.getD_eq_getElem?_getD]
                  rw [hx, if_neg (fun e => hie e.1)]
                  exact u.av_mono and_l _ _
              · cases h
            · cases h
          · cases h
        · cases h
      · cases h
    · cases h
  · -- makeSlice
    rename_i t l c ho
    simp only [ho, pvO]
    unfold effW
    simp only [ho, ev_enc, get_gt]
    split at h
    · rename_i el a1 a2 a3 ht
      simp only [ht]
      split at h
      · rename_i u ei hel
        obtain ⟨e1, e2, e3, e4, e5, e6⟩ := elT_at hel
        split at h
        · rename_i k1 lv k2 cv hl hc
          simp only [e1, hl, hc, encV]
          obtain ⟨h1, h2⟩ := ckL_some h
          obtain ⟨n1, n2⟩ := allT_app.1 h1
          obtain ⟨n2, n3⟩ := allT_app.1 n2
          have hm := n3 _ (List.mem_singleton.2 rfl)
          simp only [mkOk, Bool.and_eq_true, decide_eq_true_eq] at hm
          obtain ⟨⟨⟨m1, m2⟩, m3⟩, m4⟩ := hm
          refine ⟨need_nd _ _ n1, need_nd _ _ n2, m1, m2, m3, m4, e4, e5, e3, hK _ _ ((Told.push (Told.refl X.N s) (o := .arr el true u (List.replicate lv.toNat u.dft)) ?_).put o.dst ?_).le h2⟩
          · refine ⟨rfl, by simp [killO1, encO, e2], by simp [killO1, encO], fun i f hi hf => ?_⟩
            have hi2 : i < lv.toNat := hi
            have hf2 : f < u.sz := by rw [e2]; exact hf
            show ALe ((List.map ofC ei.zero).getD f .any) (u.av true ((List.replicate lv.toNat u.dft).getD i u.dft) f)
            have hx : (List.replicate lv.toNat u.dft).getD i u.dft = u.dft := by rw [List.getD_eq_getElem?_getD, List.getElem?_replicate, if_pos hi2]; rfl
            rw [hx, ← Ty.cells_av s.H true u _ f hf2]
            exact (zeroB_at _ _ e6).2 f
          · refine ALe.of_eq ?_
            simp only [TS.push, encV, szAt_push, nAt_push, killO1_sz, killO1_n, heap_len]; simp only [TOb.sz, TOb.n, List.length_replicate, e2]
        · cases h
      · cases h
    · cases h
  · -- buildSlice
    rename_i t len ps ho
    simp only [ho, pvO]
    unfold effW
    simp only [ho, ev_enc, get_gt]
    split at h
    · rename_i el a1 a2 a3 ht
      simp only [ht]
      split at h
      · rename_i u ei hel
        obtain ⟨e1, e2, e3, e4, e5, e6⟩ := elT_at hel
        simp only [e1]
        split at h
        · rename_i L hL
          have hfe := fillT_enc _ _ _ hL
          have e7 : encL s.H (List.map (fun j => ofV (ei.zero.getD (j % ei.sz) undef)) (List.range (len * ei.sz))) = List.map (fun j => ofC (ei.zero.getD (j % ei.sz) undef)) (List.range (len * ei.sz)) := by
            rw [encL_map, List.map_map]
            exact List.map_congr_left fun j _ => encV_ofV s.H _
          rw [e7, List.map_map] at hfe
          have hfe' : fillL (fun i => some (i * ei.sz, ei.sz)) (List.map (fun j => ofC (ei.zero.getD (j % ei.sz) undef)) (List.range (len * ei.sz))) (List.map (fun p => (p.1, encV s.H (evT X.N s.S p.2).gt)) ps.toList) = some (encL s.H L) := hfe
          simp only [hfe']
          split at h
          · rename_i xs fr hpk
            obtain ⟨hb, h3⟩ := bif_some h
            obtain ⟨h1, h2⟩ := ckL_some h3
            obtain ⟨q1, q2⟩ := Ty.packN_av (H := s.H) (fr := fr) len L xs fr hpk id
            refine ⟨fun p hp => ?_, e4, e5, e3, ble_le hb, hK _ _ ((Told.push (Told.refl X.N s) (o := .arr el fr u xs) ?_).put o.dst ?_).le h2⟩
            · rw [ev_enc]; exact nds_at h1 p.2 (List.mem_map.2 ⟨p, hp, rfl⟩)
            · refine ⟨rfl, by simp [killO1, encO, e2], by simp [killO1, encO, q1], fun i f hi hf => ?_⟩
              show ALe ((encL s.H L).getD (i * ei.sz + f) .any) (u.av fr (xs.getD i u.dft) f)
              rw [encL_getD, ← e2]
              exact q2 i f hi (by rw [e2]; exact hf)
            · refine ALe.of_eq ?_
              simp only [TS.push, encV, szAt_push, nAt_push, killO1_sz, killO1_n, heap_len]; simp only [TOb.sz, TOb.n, e2, q1]
          · cases h
        · cases h
      · cases h
    · cases h
  · -- append
    rename_i d x t t' ho
    obtain ⟨htt, h⟩ := bif_some h
    have htt' := beq_eq htt
    simp only [ho, pvO]
    unfold effW
    simp only [ho, ev_enc, get_gt]
    split at h
    · rename_i el a1 a2 a3 ht
      simp only [ht]
      split at h
      · rename_i u ei fr' u' ys hel hsrc
        obtain ⟨e1, e2, e3, e4, e5, e6⟩ := elT_at hel
        split at h
        · rename_i hu _
          subst hu
          split at h
          · rename_i tg hd
            split at h
            · rename_i ty fr u2 xs hob
              split at h
              · rename_i hu2 _
                subst hu2
                obtain ⟨hb, h⟩ := bif_some h
                have hty := beq_eq hb
                obtain ⟨h1, h2⟩ := ckL_some h
                obtain ⟨n1, n2⟩ := allT_app.1 h1
                obtain ⟨n2, n3⟩ := allT_app.1 n2
                obtain ⟨n3, n4⟩ := allT_app.1 n3
                have hpos := neC_pos n3
                obtain ⟨r1, r2⟩ := room_at (n4 _ (List.mem_singleton.2 rfl))
                obtain ⟨C, src, s1, s2, s3⟩ := srcT_src hsrc hpos
                have s1' : srcV (encS X.N s).heap (encV s.H (evT X.N s.S x).gt) = some (C, u'.sz, ys.length, src) := s1
                simp only [e1, s1', hd, encV, szAt_of hob, nAt_of hob, heap_at hob]
                refine ⟨htt', need_nd _ _ n1, need_nd _ _ n2, s2, by simp [encO, e2], by simp [encO], by simp [encO, TOb.sz], by simp [encO, TOb.n], by simp only [encO]; omega, hty, e4, Nat.zero_le _, r1, r2, hK _ _ ((grown_told (fr' := fr') hob (fun i f _ => s3 i f)).put o.dst ?_).le h2⟩
                refine ALe.of_eq ?_
                have hlt : tg < (killH tg s.H).length := by
                  rw [killH_map, List.length_map]
                  rcases Nat.lt_or_ge tg s.H.length with h | h
                  · exact h
                  · rw [List.getElem?_eq_none h] at hob; cases hob
                have := List.getElem?_set_self (a := TOb.arr ty (fr && fr') u' (xs ++ ys)) hlt
                simp only [encV, szAt_of this, nAt_of this, TOb.sz, TOb.n, List.length_append]
              · cases h
            · cases h
          · rename_i hd
            obtain ⟨h1, h2⟩ := ckL_some h
            obtain ⟨n1, n2⟩ := allT_app.1 h1
            obtain ⟨n2, n3⟩ := allT_app.1 n2
            obtain ⟨n3, n4⟩ := allT_app.1 n3
            have hpos := neC_pos n3
            obtain ⟨r1, r2⟩ := room_at (n4 _ (List.mem_singleton.2 rfl))
            obtain ⟨C, src, s1, s2, s3⟩ := srcT_src hsrc hpos
            have s1' : srcV (encS X.N s).heap (encV s.H (evT X.N s.S x).gt) = some (C, u'.sz, ys.length, src) := s1
            simp only [e1, s1', hd, encV]
            refine ⟨htt', need_nd _ _ n1, need_nd _ _ n2, s2, e2.symm, by omega, e4, Nat.zero_le _, r1, r2, hK _ _ ?_ h2⟩
            rw [heap_len]
            refine ((grownNil_told (N := X.N) (s := s) (fr' := fr') (u := u') (ys := ys) rfl (fun i f _ => s3 i f)).put o.dst ?_).le
            refine ALe.of_eq ?_
            simp only [TS.push, encV, szAt_push, nAt_push, killO1_sz, killO1_n]; simp only [TOb.sz, TOb.n]
          · cases h
        · cases h
      · cases h
    · cases h
  · -- call
    rename_i f args ts ho
    simp only [ho, pvO]
    unfold effW
    simp only [ho, ev_enc, get_gt]
    split at h
    · rename_i fid caps hf
      obtain ⟨hcs, hcall⟩ := ckL_some h
      obtain ⟨v, hv, hk, args', ha, hcn⟩ := callM_ok (hΓ fid) hcall
      obtain ⟨c1, c2⟩ := allT_app.1 hcs
      obtain ⟨c2, c3⟩ := allT_app.1 c2
      refine ⟨need_nd s.H _ c1, fun x hx => nds_at c2 x hx, ?_⟩
      have := call_W (X := X) s.H (l := args.toList.map fun x => (evT X.N s.S x).gt) c3 ha hcn
      rw [encL_map, List.map_map, ← hf] at this
      have hmono : ∀ {A : AV} {l : List AV} {p q : List AObj → AV → Prop}, (∀ H a, p H a → q H a) → callW P (encS X.N s).heap A l p → callW P (encS X.N s).heap A l q := by
        intro A l p q hpq hw
        unfold callW at hw ⊢
        split at hw
        · obtain ⟨a', h1, h2⟩ := hw
          exact ⟨a', h1, h2.mono hpq⟩
        · exact hw.elim
      refine hmono ?_ this
      rintro H' A ⟨rfl, rfl⟩
      rw [pure_shift [] _ v hv]
      have hpush : (encS X.N s).pushes [] = encS X.N s := by simp [AS.pushes]
      rw [hpush, pure_enc [] s.H v hv]
      exact hK _ _ (((Told.refl X.N s).put o.dst (ALe.refl _)).le) hk
    · cases h
  · cases h

end
end Go.T
