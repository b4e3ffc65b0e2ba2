/-
  The typed machine tells what code does ('den_sound'). No program is named.
-/
import Derived.Test.YtocpeankecaabaaT7
set_option linter.all false
namespace Go.T
open Go.Abs Go.M Go.RowKit

section
variable {P : Program} {R Rf : Type}

theorem opT_sound {X : Ctx Rf} (hΓ : CtxOK P X) {o : Oper} {s : TS} {k : TS → Option R} {r : R} (h : opT X o s k = some r) {K : AS → Prop}
    (hK : ∀ s1 s', SLe s1 (encS X.N s') → k s' = some r → K s1) : opW P X.tt 0 o (encS X.N s) K := by
  unfold opT at h
  split at h
  · rename_i cs v hp
    obtain ⟨C, A, e1, h1⟩ := pvT_meets X.tt s.H _ _ _ _ hp
    obtain ⟨hcs, hk⟩ := ckL_some h
    unfold opW
    rw [ev_enc']
    have e1' : pvO X.tt (encS X.N s).heap (fun x => encV s.H (evT X.N s.S x)) o.op = some (C, A) := e1
    rw [e1']
    exact ⟨(h1 hcs).1, hK _ _ ((Told.refl X.N s).put o.dst (h1 hcs).2).le hk⟩
  · exact effT_sound hΓ h hK

theorem stepT_sound {X : Ctx Rf} (hΓ : CtxOK P X) {all : List Oper} {o : Oper} {rest : List Oper} {s : TS} {k : TS → Option R} {r : R} (h : stepT X all o s k = some r) {K : AS → Prop}
    (hK : ∀ s', k s' = some r → opsW P X.tt 0 all rest (encS X.N s') K) : opsW P X.tt 0 all (o :: rest) (encS X.N s) K := by
  unfold stepT at h
  unfold opsW
  split at h
  · rename_i hg
    simp only [hg]
    exact opT_sound hΓ h fun s1 s' hle hk => ⟨_, hle, hK s' hk⟩
  · rename_i g hg
    simp only [hg]
    obtain ⟨c, S, hgo, he, hrun⟩ := grdT_at h
    rw [hgo]
    cases c with
    | true =>
      simp only [] at hrun ⊢
      unfold grdW
      simp only []
      rw [← he]
      exact opT_sound hΓ hrun fun s1 s' hle hk => ⟨_, hle, hK s' hk⟩
    | false =>
      simp only [] at hrun ⊢
      unfold grdW
      simp only []
      rw [← he]
      exact ⟨_, ((Told.refl X.N ⟨S, s.H⟩).put o.dst (v := .undef) (ALe.refl _)).le, hK _ hrun⟩

theorem runT_sound {X : Ctx Rf} (hΓ : CtxOK P X) {all : List Oper} {k : TS → Option R} {r : R} {K : AS → Prop} (hK : ∀ s1, (∃ s', SLe s1 (encS X.N s') ∧ k s' = some r) → K s1) : ∀ (l : List Oper) (s : TS), runT X all l s k = some r → opsW P X.tt 0 all l (encS X.N s) K := by
  intro l
  induction l with
  | nil => intro s h; exact hK _ ⟨s, SLe.refl _, h⟩
  | cons o rest ih =>
    intro s h
    unfold runT at h
    exact stepT_sound hΓ h fun s' hk => ih s' hk

theorem slots_put (N : Nat) (S : List (Nat × TV)) (H : List TOb) (d : Option Tmp) (v : TV) : putS (encS N ⟨S, H⟩).slots d (encV H v) = (encS N ⟨putT S d v, H⟩).slots := by
  cases d with
  | none => rfl
  | some d =>
    apply List.ext_getElem?
    intro t
    rw [slots_at]
    simp only [putS, putT]
    rw [getS_put]
    by_cases hd : d = t
    · subst hd
      by_cases ht : d < N
      · rw [if_pos ht, if_pos rfl, List.getElem?_set_self (by simpa [encS] using ht)]
      · rw [if_neg ht, List.getElem?_eq_none (by simp [encS]; exact Nat.le_of_not_lt ht)]
    · rw [List.getElem?_set_ne hd, slots_at, if_neg hd]

theorem encL_closed {H : List TOb} : ∀ {L : List TV}, dataL L = true → (encL H L).all AV.closedB = true
  | [], _ => rfl
  | v :: L, h => by
    simp only [encL, List.all_cons, Bool.and_eq_true]
    cases v <;> first | exact ⟨rfl, encL_closed h⟩ | (simp [dataL] at h)

theorem fillT_H {H' : List TOb} {place : Nat → Option (Nat × Nat)} : ∀ (ps : List (Nat × TV)) (L L' : List TV), fillT [] place L ps = some L' → fillT H' place L ps = some L' := by
  intro ps
  induction ps with
  | nil => intro L L' h; exact h
  | cons p ps ih =>
    intro L L' h
    obtain ⟨i, v⟩ := p
    unfold fillT at h ⊢
    split at h
    · rename_i off sz hpl
      try simp only [hpl]
      split at h
      · rename_i cs hcs
        have hcs' : cellsT H' sz v = some cs := by
          unfold cellsT at hcs ⊢
          split at hcs
          · exact hcs
          · obtain ⟨h1, h2⟩ := bif_some hcs
            rw [Bool.and_eq_true] at h1
            have : v.scalarH H' = true := by
              have := h1.2
              cases v <;> first | exact this | (simp [TV.scalarH, lenO] at this)
            rw [h1.1, this]
            exact h2
        simp only [hcs']
        split at h
        · rename_i L1 hL1
          try simp only [hL1]
          exact ih L1 L' h
        · cases h
      · cases h
    · cases h

theorem valD_sound {X : Ctx Rf} (hΓ : CtxOK P X) {o : Oper} {H : List TOb} {S : List (Nat × TV)} {k : TV → Option R} {r : R} (h : valT X o H S k = some r) {K : AV → Prop}
    (hK : ∀ v, k v = some r → K (encV H v)) : dvalW P X.tt o (H.map (encO H)) (encS X.N ⟨S, H⟩).slots K := by
  have hev : evO (encS X.N ⟨S, H⟩).slots = fun x => encV H (evT X.N S x) := ev_enc' X.N ⟨S, H⟩
  obtain ⟨v, hk, hor⟩ := valT_sound hΓ h
  unfold dvalW
  rw [hev]
  rcases hor with ⟨C, A, e1, hC, hle⟩ | ⟨e1, f, args, ts, ho, n1, n2, hc⟩
  · rw [e1]
    exact ⟨hC, _, hle, hK v hk⟩
  · rw [e1]
    simp only [ho]
    exact ⟨encV H v, ⟨n1, n2, hc⟩, hK v hk⟩

theorem stepD_sound {X : Ctx Rf} (hΓ : CtxOK P X) {all : List Oper} {o : Oper} {H : List TOb} {S : List (Nat × TV)} {k : List (Nat × TV) → TV → Option R} {r : R} (h : stepD X all o H S k = some r) {K : AV → Prop}
    (hK : ∀ S' v, (encS X.N ⟨S', H⟩).slots = (encS X.N ⟨S, H⟩).slots → k S' v = some r → K (encV H v)) : dopW P X.tt all o (H.map (encO H)) (encS X.N ⟨S, H⟩).slots K := by
  unfold stepD at h
  unfold dopW
  split at h
  · rename_i hg
    simp only [hg]
    split at h
    · rename_i t len ps ho
      have hev : evO (encS X.N ⟨S, H⟩).slots = fun x => encV H (evT X.N S x) := ev_enc' X.N ⟨S, H⟩
      unfold dvalW
      rw [hev]
      simp only [ho, pvO]
      split at h
      · rename_i el a1 a2 a3 ht
        simp only [ht]
        split at h
        · rename_i u ei hel
          obtain ⟨e1, e2, e3, e4, e5, e6⟩ := elT_at hel
          simp only [e1]
          split at h
          · rename_i L hL
            have hL' := fillT_H (H' := H) _ _ _ hL
            have hfe := fillT_enc _ _ _ hL'
            have e7 : encL H (List.map (fun j => ofV (ei.zero.getD (j % ei.sz) undef)) (List.range (len * ei.sz))) = List.map (fun j => ofC (ei.zero.getD (j % ei.sz) undef)) (List.range (len * ei.sz)) := by
              rw [encL_map, List.map_map]
              exact List.map_congr_left fun j _ => encV_ofV H _
            rw [e7, List.map_map] at hfe
            have hfe' : fillL (fun i => some (i * ei.sz, ei.sz)) (List.map (fun j => ofC (ei.zero.getD (j % ei.sz) undef)) (List.range (len * ei.sz))) (List.map (fun p => (p.1, encV H (evT X.N S p.2).gt)) ps.toList) = some (encL H L) := hfe
            simp only [get_gt, hfe']
            split at h
            · rename_i xs fr hpk
              obtain ⟨hb, h3⟩ := bif_some h
              simp only [Bool.and_eq_true] at hb
              obtain ⟨⟨hfr, hb⟩, hda⟩ := hb
              obtain ⟨h1, h2⟩ := ckL_some h3
              obtain ⟨q1, q2⟩ := Ty.packN_av (H := H) (fr := true) len L xs fr hpk (fun _ => hfr)
              refine ⟨⟨fun p hp => nds_at h1 p.2 (List.mem_map.2 ⟨p, hp, rfl⟩), e4, e5, e3, ble_le hb, encL_closed hda⟩, _, ?_, hK S _ rfl h2⟩
              simp only [encV, q1, e2]
              refine ALe.ro id fun i f hi hf => ?_
              rw [encL_getD, ← e2]
              exact q2 i f hi (by rw [e2]; exact hf)
            · cases h
          · cases h
        · cases h
      · cases h
    · exact valD_sound hΓ h fun v hk => hK S v rfl hk
  · rename_i g hg
    simp only [hg]
    obtain ⟨c, S', hgo, he, hrun⟩ := grdT_at (s := ⟨S, H⟩) h
    rw [hgo]
    have he' : (encS X.N ⟨S', H⟩).slots = (encS X.N ⟨S, H⟩).slots := congrArg AS.slots he
    cases c with
    | true =>
      simp only [] at hrun ⊢
      rw [← he']
      exact valD_sound hΓ hrun fun v hk => hK S' v he' hk
    | false =>
      simp only [] at hrun ⊢
      exact hK S' .undef he' hrun

theorem runDT_sound {X : Ctx Rf} (hΓ : CtxOK P X) {all : List Oper} {H : List TOb} {k : List (Nat × TV) → Option R} {r : R} {K : List AV → Prop} (hK : ∀ S', k S' = some r → K (encS X.N ⟨S', H⟩).slots) :
    ∀ (l : List Oper) (S : List (Nat × TV)), runDT X all H l S k = some r → dopsW P X.tt all l (H.map (encO H)) (encS X.N ⟨S, H⟩).slots K := by
  intro l
  induction l with
  | nil => intro S h; exact hK S h
  | cons o rest ih =>
    intro S h
    unfold runDT at h
    unfold dopsW
    refine stepD_sound hΓ h fun S' v he hk => ?_
    rw [← he, slots_put]
    exact ih _ hk

/-- How a statement may end. -/
def PostT (X : Ctx Rf) (kn : TS → Option R) (ke : Nat → TS → Option R) (kr : Rf → Option R) (r : R) : Exit → AS → Prop
  | .normal, a => ∃ s', SLe a (encS X.N s') ∧ kn s' = some r
  | .exit id, a => ∃ s', SLe a (encS X.N s') ∧ ke id s' = some r
  | .ret, a => ∃ s' x, SLe a (encS X.N s') ∧ X.res s' = some x ∧ kr x = some r
  | _, _ => False

/-- A summary tells of a statement. -/
def SummOK (P : Program) (X : Ctx Rf) (n : Nat) (c : Code) : Prop :=
  ∀ σ, X.Λ n = some σ → ∀ (w0 : World) (R : Type) (s : TS) (x : σ.A) (o : σ.O) (kn : TS → Option R) (ke : Nat → TS → Option R) (kr : Rf → Option R) (r : R),
    σ.dec s = some x → σ.m x = some o → σ.cont x o kn ke kr = some r → SW P w0 [] c (PostT X kn ke kr r) (encS X.N s)

/-- The statements that are told by summaries. -/
def sums : Code → Ann → List (Nat × Code)
  | c, a =>
    match a.sum with
    | some n => [(n, c)]
    | none =>
      match c with
      | .seq x y => sums x a.l ++ sums y a.r
      | .cond _ x y => sums x a.l ++ sums y a.r
      | .block _ x => sums x a.l
      | _ => []

theorem regT_sound {X : Ctx Rf} (hΓ : CtxOK P X) (hF : Fits P X.tt) (hmix : P.follows .mixedOrders = true) {w0 : World} {id : Nat} {l : List Oper} {d : Bool} {s : TS} {k : TS → Option R} {r : R} (h : regT X l d s k = some r) {Q : Exit → AS → Prop} (hQ : ∀ a, (∃ s', SLe a (encS X.N s') ∧ k s' = some r) → Q .normal a) :
    SW P w0 [] (.region id l.toArray d) Q (encS X.N s) := by
  unfold regT at h
  split at h
  · exact SW.region hF (runT_sound hΓ hQ l s h)
  · obtain ⟨h1, h2⟩ := bif_some h
    refine SW.drawn hF hmix (pureN l) (drawN_ok h1) ?_
    exact runDT_sound hΓ (fun S' hk => runT_sound hΓ hQ _ _ hk) _ _ h2

theorem den_sound {X : Ctx Rf} (hΓ : CtxOK P X) (hF : Fits P X.tt) (hmix : P.follows .mixedOrders = true) (w0 : World) {r : R} : ∀ (c : Code) (a : Ann) (s : TS) (kn : TS → Option R) (ke : Nat → TS → Option R) (kr : Rf → Option R),
    (∀ p ∈ sums c a, SummOK P X p.1 p.2) → den X c a s kn ke kr = some r → SW P w0 [] c (PostT X kn ke kr r) (encS X.N s) := by
  intro c
  induction c with
  | skip =>
    intro a s kn ke kr hs h
    unfold den at h
    split at h
    · rename_i n hn
      exact summ hs hn h
    · exact SW.skip ⟨s, SLe.refl _, h⟩
  | region id ops d =>
    intro a s kn ke kr hs h
    unfold den at h
    split at h
    · rename_i n hn
      exact summ hs hn h
    · have := regT_sound (id := id) (w0 := w0) hΓ hF hmix h (Q := PostT X kn ke kr r) (fun a ha => ha)
      simpa using this
  | seq x y ihx ihy =>
    intro a s kn ke kr hs h
    unfold den at h
    split at h
    · rename_i n hn
      exact summ hs hn h
    · rename_i hn
      have hsum : sums (.seq x y) a = sums x a.l ++ sums y a.r := by conv => lhs; unfold sums; simp only [hn]
      rw [hsum] at hs
      refine SW.seq (SW.mono ?_ (ihx a.l s _ ke kr (fun p hp => hs p (List.mem_append_left _ hp)) h))
      intro e s1 hp
      cases e with
      | normal =>
        obtain ⟨s', hle, hk⟩ := hp
        exact SW.weaken hle (ihy a.r s' kn ke kr (fun p hp => hs p (List.mem_append_right _ hp)) hk)
      | exit id => exact hp
      | ret => exact hp
      | _ => exact hp.elim
  | cond c x y ihx ihy =>
    intro a s kn ke kr hs h
    unfold den at h
    split at h
    · rename_i n hn
      exact summ hs hn h
    · rename_i hn
      have hsum : sums (.cond c x y) a = sums x a.l ++ sums y a.r := by conv => lhs; unfold sums; simp only [hn]
      rw [hsum] at hs
      simp only [] at h
      split at h
      · rename_i g hg
        refine SW.cond (b := g) (by rw [ev_enc, hg]; rfl) (fun hb => ?_) (fun hb => ?_)
        · subst hb
          exact ihx a.l s kn ke kr (fun p hp => hs p (List.mem_append_left _ hp)) h
        · subst hb
          exact ihy a.r s kn ke kr (fun p hp => hs p (List.mem_append_right _ hp)) h
      · cases h
  | block id x ih =>
    intro a s kn ke kr hs h
    unfold den at h
    split at h
    · rename_i n hn
      exact summ hs hn h
    · rename_i hn
      have hsum : sums (.block id x) a = sums x a.l := by conv => lhs; unfold sums; simp only [hn]
      rw [hsum] at hs
      refine SW.block (SW.mono ?_ (ih a.l s _ _ kr hs h))
      intro e s1 hp
      cases e with
      | normal => exact hp
      | exit id' =>
        obtain ⟨s', hle, hk⟩ := hp
        simp only [InBlock]
        by_cases he : id' = id
        · subst he
          rw [if_pos rfl]
          simp only [Nat.beq_refl, cond_true] at hk
          exact ⟨s', hle, hk⟩
        · rw [if_neg he]
          simp only [beq_no he, cond_false] at hk
          exact ⟨s', hle, hk⟩
      | ret => exact hp
      | _ => exact hp.elim
  | exit id =>
    intro a s kn ke kr hs h
    unfold den at h
    split at h
    · rename_i n hn
      exact summ hs hn h
    · exact SW.exit ⟨s, SLe.refl _, h⟩
  | ret =>
    intro a s kn ke kr hs h
    unfold den at h
    split at h
    · rename_i n hn
      exact summ hs hn h
    · simp only [] at h
      split at h
      · rename_i x hx
        exact SW.ret ⟨s, x, SLe.refl _, hx, h⟩
      · cases h
  | _ =>
    intro a s kn ke kr hs h
    unfold den at h
    split at h
    · rename_i n hn
      exact summ hs hn h
    · cases h
where
  summ {c : Code} {a : Ann} {s : TS} {kn : TS → Option R} {ke : Nat → TS → Option R} {kr : Rf → Option R} {n : Nat} (hs : ∀ p ∈ sums c a, SummOK P X p.1 p.2) (hn : a.sum = some n)
      (h : (match X.Λ n with | some σ => (match σ.dec s with | some x => bnd (σ.m x) (fun o => σ.cont x o kn ke kr) | none => none) | none => none) = some r) : SW P w0 [] c (PostT X kn ke kr r) (encS X.N s) := by
    have hm : (n, c) ∈ sums c a := by
      unfold sums
      simp [hn]
    split at h
    · rename_i σ hσ
      split at h
      · rename_i x hx
        obtain ⟨o, ho, hc⟩ := bnd_some h
        exact hs (n, c) hm σ hσ w0 R s x o kn ke kr r hx ho hc
      · cases h
    · cases h

end
end Go.T
