/-
  A function's contract out of its body; what may be forgotten of a value or of a state. No program is named.
-/
import Derived.Test.YtocpeankecaabaaAbs11
set_option linter.all false
namespace Go.Abs
open Go.RowKit

theorem VX.exMono {w : World} {E E' : Nat → Prop} {B : Nat} (h : ∀ b, E' b → E b) : ∀ (A : AV) (τ : Tags) (v : Value), VX w E B A τ v → VX w E' B A τ v := by
  intro A
  induction A with
  | agg k cs ih => rintro τ v ⟨l, hl, hk, hc⟩; exact ⟨l, hl, hk, fun j hj => let ⟨u, hu, h1, hV⟩ := hc j hj; ⟨u, hu, h1, ih j τ u hV⟩⟩
  | tup k cs ih => rintro τ v ⟨l, hl, hk, hc⟩; exact ⟨l, hl, hk, fun j hj => let ⟨u, hu, hV⟩ := hc j hj; ⟨u, hu, ih j τ u hV⟩⟩
  | fn f k cs ih => rintro τ v ⟨l, hl, hk, hc⟩; exact ⟨l, hl, hk, fun j hj => let ⟨u, hu, hV⟩ := hc j hj; ⟨u, hu, ih j τ u hV⟩⟩
  | ro fr sz n cs ih =>
    rintro τ v ⟨a, c, hv, hn, hc, hr⟩
    refine ⟨a, c, hv, hn, hc, fun h0 => ?_⟩
    obtain ⟨b, o, ha, hb, hs, hfr, hcell⟩ := hr h0
    refine ⟨b, o, ha, hb, fun hn => hs (h b hn), hfr, fun i f hi hff => ?_⟩
    obtain ⟨u, hu, h1, hV⟩ := hcell i f hi hff
    exact ⟨u, hu, h1, ih i f [] u hV⟩
  | rptr sz n cs i0 f0 ih =>
    rintro τ v ⟨b, o, hv, hb, hs, hcell⟩
    refine ⟨b, o, hv, hb, fun hn => hs (h b hn), fun i f hi hff => ?_⟩
    obtain ⟨u, hu, h1, hV⟩ := hcell i f hi hff
    exact ⟨u, hu, h1, ih i f [] u hV⟩
  | cond c a ih =>
    rintro τ v hv
    unfold VX at hv ⊢
    split
    · rename_i hc; rw [if_pos hc] at hv; exact ih τ v hv
    · rename_i hc; rw [if_neg hc] at hv; exact hv
  | _ => intro τ v hv; exact hv

/-! ### Sub -/
section
variable {H : List AObj}

theorem Sub.any (A : AV) : Sub H A .any := fun _ _ _ _ _ _ _ => trivial
theorem Sub.int (k : IntKind) (n : Int) : Sub H (.int k n) (.int k n) := fun _ _ _ _ _ _ h => h
theorem Sub.int' {k : IntKind} {n m : Int} (h : n = m) : Sub H (.int k n) (.int k m) := h ▸ Sub.int k n
theorem Sub.bool (b : Bool) : Sub H (.bool b) (.bool b) := fun _ _ _ _ _ _ h => h
theorem Sub.val (v : Value) : Sub H (.val v) (.val v) := fun _ _ _ _ _ _ h => h
theorem Sub.nil (fr : Bool) (sz : Nat) (cs : Nat → Nat → AV) : Sub H (.val (.slice none 0 0)) (.ro fr sz 0 cs) := by
  intro w B σ v _ _ h
  simp only [V, VX] at h
  subst h
  exact ⟨none, 0, rfl, Nat.le_refl _, by unfold maxLen; omega, fun h0 => by omega⟩

theorem Sub.ro {fr fr' : Bool} {sz n : Nat} {cs cs' : Nat → Nat → AV} (hfr : fr' = true → fr = true) (hc : ∀ i f, i < n → f < sz → cs i f = cs' i f) : Sub H (.ro fr sz n cs) (.ro fr' sz n cs') := by
  rintro w B σ v _ _ ⟨a, c, hv, hn, hcm, hr⟩
  refine ⟨a, c, hv, hn, hcm, fun h0 => ?_⟩
  obtain ⟨b, o, ha, hb, hs, hf, hcell⟩ := hr h0
  refine ⟨b, o, ha, hb, fun h => h, fun h => hf (hfr h), fun i f hi hff => ?_⟩
  obtain ⟨u, hu, h1, hV⟩ := hcell i f hi hff
  exact ⟨u, hu, h1, by rw [← hc i f hi hff]; exact VX.exMono (fun _ h => h.elim) _ _ _ hV⟩

theorem Sub.own {t sz n : Nat} {o : AObj} {fr : Bool} {cs : Nat → Nat → AV} (ho : H[t]? = some o) (hsz : o.sz = sz) (hn : n ≤ o.n) (hc : ∀ i f, i < n → f < sz → Sub H (o.cs i f) (cs i f)) : Sub H (.own t sz n) (.ro fr sz n cs) := by
  subst hsz
  intro w B σ v hH hσ hv
  rcases hv with ⟨rfl, rfl⟩ | ⟨g, c, cur, e, hg, rfl, hnc, hcm, hh, hcs⟩
  · exact ⟨none, 0, rfl, Nat.le_refl _, by unfold maxLen; omega, fun h0 => by omega⟩
  · refine ⟨_, c, rfl, hnc, hcm, fun h0 => ⟨g, 0, rfl, hH.blk_lt hg, fun h => h, fun _ => hσ g (mem_tags.2 ⟨t, hg⟩), fun i f hi hf => ?_⟩⟩
    obtain ⟨u, hu, h1, hV⟩ := hH.cells ho hg i f (by omega) hf
    exact ⟨u, hu, h1, hc i f hi hf w B σ u hH hσ hV⟩

theorem Sub.ownS {t sz off n : Nat} {o : AObj} {fr : Bool} {cs : Nat → Nat → AV} (ho : H[t]? = some o) (hsz : o.sz = sz) (hn : off + n ≤ o.n) (hc : ∀ i f, i < n → f < sz → Sub H (o.cs (off + i) f) (cs i f)) : Sub H (.ownS t sz off n) (.ro fr sz n cs) := by
  subst hsz
  rintro w B σ v hH hσ ⟨a, c, rfl, hnc, hcm, hr⟩
  refine ⟨_, c, rfl, hnc, hcm, fun h0 => ?_⟩
  obtain ⟨g, hg, rfl⟩ := hr h0
  refine ⟨g, off * o.sz, rfl, hH.blk_lt hg, fun h => h, fun _ => hσ g (mem_tags.2 ⟨t, hg⟩), fun i f hi hf => ?_⟩
  obtain ⟨u, hu, h1, hV⟩ := hH.cells ho hg (off + i) f (by omega) hf
  refine ⟨u, ?_, h1, hc i f hi hf w B σ u hH hσ hV⟩
  rw [← hu]
  congr 2
  rw [Nat.add_mul]
  omega

theorem Sub.ptr {t sz n i0 f0 : Nat} {o : AObj} {cs : Nat → Nat → AV} (ho : H[t]? = some o) (hsz : o.sz = sz) (hn : n ≤ o.n) (hc : ∀ i f, i < n → f < sz → Sub H (o.cs i f) (cs i f)) : Sub H (.ptr t sz i0 f0) (.rptr sz n cs i0 f0) := by
  subst hsz
  rintro w B σ v hH hσ ⟨g, hg, rfl⟩
  refine ⟨g, 0, by simp, hH.blk_lt hg, fun h => h, fun i f hi hf => ?_⟩
  obtain ⟨u, hu, h1, hV⟩ := hH.cells ho hg i f (by omega) hf
  exact ⟨u, hu, h1, hc i f hi hf w B σ u hH hσ hV⟩

theorem Sub.rptr {sz n i0 f0 : Nat} {cs cs' : Nat → Nat → AV} (hc : ∀ i f, i < n → f < sz → cs i f = cs' i f) : Sub H (.rptr sz n cs i0 f0) (.rptr sz n cs' i0 f0) := by
  rintro w B σ v _ _ ⟨b, o, hv, hb, hs, hcell⟩
  refine ⟨b, o, hv, hb, fun h => h, fun i f hi hff => ?_⟩
  obtain ⟨u, hu, h1, hV⟩ := hcell i f hi hff
  exact ⟨u, hu, h1, by rw [← hc i f hi hff]; exact VX.exMono (fun _ h => h.elim) _ _ _ hV⟩

theorem Sub.agg {k : Nat} {cs cs' : Nat → AV} (hc : ∀ j, j < k → Sub H (cs j) (cs' j)) : Sub H (.agg k cs) (.agg k cs') := by
  rintro w B σ v hH hσ ⟨l, hl, hk, hcell⟩
  exact ⟨l, hl, hk, fun j hj => let ⟨u, hu, h1, hV⟩ := hcell j hj; ⟨u, hu, h1, hc j hj w B σ u hH hσ hV⟩⟩

theorem Sub.tup {k : Nat} {cs cs' : Nat → AV} (hc : ∀ j, j < k → Sub H (cs j) (cs' j)) : Sub H (.tup k cs) (.tup k cs') := by
  rintro w B σ v hH hσ ⟨l, hl, hk, hcell⟩
  exact ⟨l, hl, hk, fun j hj => let ⟨u, hu, hV⟩ := hcell j hj; ⟨u, hu, hc j hj w B σ u hH hσ hV⟩⟩

theorem Sub.fn {f : FuncId} {k : Nat} {cs cs' : Nat → AV} (hc : ∀ j, j < k → Sub H (cs j) (cs' j)) : Sub H (.fn f k cs) (.fn f k cs') := by
  rintro w B σ v hH hσ ⟨l, hl, hk, hcell⟩
  exact ⟨l, hl, hk, fun j hj => let ⟨u, hu, hV⟩ := hcell j hj; ⟨u, hu, hc j hj w B σ u hH hσ hV⟩⟩

theorem Sub.of_eq {A A' A'' : AV} (h : Sub H A A') (e : A' = A'') : Sub H A A'' := e ▸ h
end

/-! ### Results -/

/-- The results of a function, handed on without tags. -/
def resSub (tt : TT) (H : List AObj) (S : List AV) : List ResultVar → List AV → Prop
  | [], [] => True
  | .tmp t :: rs, A' :: l => Sub H (S.getD t .any) A' ∧ resSub tt H S rs l
  | .cell a t :: rs, A' :: l =>
    (match loadV tt H t (S.getD a .any) with
     | some (C, A) => C ∧ Sub H A A'
     | none => False) ∧ resSub tt H S rs l
  | _, _ => False

def resA : List AV → AV
  | [A] => A
  | l => .tup l.length (fun j => l.getD j .any)

/-- The state at a function's end serves. -/
def Ret (P : Program) (fn : Func) (post : List AObj → AV → Prop) (s : AS) : Prop :=
  ∀ w0 a w σ, Rel w0 [] s a w σ → ∃ v σ' H' A, (results fn a.tmps).run P w = .ok v w ∧ Heaps w w0.heap.size σ' H' ∧ (∀ o ∈ H', FreshO o) ∧ V w w0.heap.size σ' A σ' v ∧ AllFresh A ∧
    (∀ (t g : Nat), σ'[t]? = some (some g) → w0.heap.size ≤ g) ∧ post H' A

section
variable {P : Program} {tt : TT}

theorem Heaps.nil (w : World) (B : Nat) : Heaps w B [] [] := ⟨rfl, fun t t' g h => by simp at h, fun t o h => by simp at h⟩

theorem asAddr_of {tt : TT} {H : List AObj} {t : TypeId} {X : AV} {C : Prop} {A : AV} (h : loadV tt H t X = some (C, A)) {w : World} {B : Nat} {σ τ : Tags} {v : Value} (hv : V w B σ X τ v) : ∃ ad, v = .pointer (some ad) := by
  unfold loadV at h
  split at h
  · cases h
  · split at h
    · obtain ⟨g, _, rfl⟩ := hv; exact ⟨_, rfl⟩
    · obtain ⟨b, o, rfl, _⟩ := hv; exact ⟨_, rfl⟩
    · cases h

def resV (tmps : Array Value) : ResultVar → Sem Value
  | .tmp t => pure (tmps.getD t undef)
  | .cell ad t => do loadVar t (← asAddr (tmps.getD ad undef))

theorem resSub_sound (hF : Fits P tt) {w0 : World} {s : AS} {a : Act} {w : World} {σ : Tags} (h : Rel w0 [] s a w σ) : ∀ (rs : List ResultVar) (l : List AV), resSub tt s.heap s.slots rs l →
    ∃ vs : List Value, (rs.mapM (resV a.tmps)).run P w = .ok vs w ∧ vs.length = l.length ∧
      ∀ (j : Nat) A v, l[j]? = some A → vs[j]? = some v → VX w (fun _ => False) w0.heap.size A [] v := by
  intro rs
  induction rs with
  | nil =>
    intro l hl
    cases l with
    | nil => exact ⟨[], by simp, rfl, fun j A v hj => by simp at hj⟩
    | cons A l => exact hl.elim
  | cons r rs ih =>
    intro l hl
    cases l with
    | nil => cases r <;> exact hl.elim
    | cons A l =>
      cases r with
      | tmp t =>
        obtain ⟨hs, hrest⟩ := hl
        obtain ⟨vs, hrun, hlen, hv⟩ := ih l hrest
        refine ⟨a.tmps.getD t undef :: vs, by simp only [List.mapM_cons, resV, Sem.run_bind, Sem.run_pure, Result.andThen_ok, hrun], by simp [hlen], fun j A' v hj hv' => ?_⟩
        cases j with
        | zero =>
          simp only [List.getElem?_cons_zero, Option.some.injEq] at hj hv'
          subst hj
          subst hv'
          exact hs w w0.heap.size σ _ h.heaps h.own_new (h.ev (.tmp t))
        | succ j => exact hv j A' v (by simpa using hj) (by simpa using hv')
      | cell ad t =>
        obtain ⟨hs, hrest⟩ := hl
        obtain ⟨vs, hrun, hlen, hv⟩ := ih l hrest
        split at hs
        · rename_i C A0 hload
          have hev : V w w0.heap.size σ (s.slots.getD ad .any) σ (a.tmps.getD ad undef) := h.ev (.tmp ad)
          obtain ⟨adr, hadr⟩ := asAddr_of hload hev
          obtain ⟨u, hu, hV⟩ := loadV_sound hF h.heaps hev hload hs.1
          rw [hadr] at hu
          simp only [Instr.loadAt, Instr.sureAddr, pure_bind] at hu
          refine ⟨u :: vs, ?_, by simp [hlen], fun j A' v hj hv' => ?_⟩
          · simp only [List.mapM_cons, resV, hadr, asAddr, pure_bind, Sem.run_bind, hu, Result.andThen_ok, hrun, Sem.run_pure]
          · cases j with
            | zero =>
              simp only [List.getElem?_cons_zero, Option.some.injEq] at hj hv'
              subst hj
              subst hv'
              exact hs.2 w w0.heap.size σ _ h.heaps h.own_new hV
            | succ j => exact hv j A' v (by simpa using hj) (by simpa using hv')
        · exact hs.elim

theorem Ret.of_sub (hF : Fits P tt) {fn : Func} {s : AS} {post : List AObj → AV → Prop} (rs : List ResultVar) (hrs : fn.results = rs.toArray) (l : List AV) (h : resSub tt s.heap s.slots rs l) (hfr : ∀ A ∈ l, AllFresh A) (hp : post [] (resA l)) : Ret P fn post s := by
  intro w0 a w σ hr
  obtain ⟨vs, hrun, hlen, hv⟩ := resSub_sound hF hr rs l h
  have hres : (results fn a.tmps).run P w = .ok (if h : vs.toArray.size = 1 then vs.toArray[0] else .tuple vs.toArray) w := by
    have e1 : results fn a.tmps = (do let vs ← fn.results.mapM (resV a.tmps); pure (if h : vs.size = 1 then vs[0] else .tuple vs)) := by
      unfold results
      congr 1
    rw [e1, hrs]
    simp only [List.mapM_toArray, Sem.run_bind, Sem.run_map, hrun, Result.andThen_ok, Sem.run_pure]
  have hE : ∀ b, Owned ([] : Tags) b → False := fun b hb => by simp [Owned] at hb
  have hvl : ∀ (j : Nat) A v, l[j]? = some A → vs[j]? = some v → V w w0.heap.size [] A [] v := fun j A v h1 h2 => VX.exMono hE _ _ _ (hv j A v h1 h2)
  refine ⟨_, [], [], resA l, hres, Heaps.nil w _, fun o ho => by simp at ho, ?_, ?_, fun t g hg => by simp at hg, hp⟩
  · cases l with
    | nil =>
      have : vs = [] := List.eq_nil_of_length_eq_zero (by simpa using hlen)
      subst this
      exact ⟨#[], by simp, rfl, fun j hj => by simp at hj⟩
    | cons A l =>
      cases vs with
      | nil => simp at hlen
      | cons v vs =>
        cases l with
        | nil =>
          have : vs = [] := List.eq_nil_of_length_eq_zero (by simpa using hlen)
          subst this
          simpa [resA] using hvl 0 A v rfl rfl
        | cons A2 l =>
          cases vs with
          | nil => simp at hlen
          | cons v2 vs =>
            have hne : ¬ (v :: v2 :: vs).toArray.size = 1 := by simp
            rw [dif_neg hne]
            refine ⟨_, rfl, by simpa using hlen, fun j hj => ?_⟩
            have hj1 : j < (A :: A2 :: l).length := hj
            have hj2 : j < (v :: v2 :: vs).length := by rw [hlen]; exact hj1
            refine ⟨(v :: v2 :: vs)[j], by simp [hj2], ?_⟩
            show V w w0.heap.size [] ((A :: A2 :: l).getD j .any) [] _
            rw [List.getD_eq_getElem?_getD, List.getElem?_eq_getElem hj1]
            exact hvl j _ _ (List.getElem?_eq_getElem hj1) (List.getElem?_eq_getElem hj2)
  · cases l with
    | nil => exact fun j hj => by simp at hj
    | cons A l =>
      cases l with
      | nil => exact hfr A (by simp)
      | cons A2 l =>
        intro j hj
        show AllFresh ((A :: A2 :: l).getD j .any)
        have hj1 : j < (A :: A2 :: l).length := hj
        rw [List.getD_eq_getElem?_getD, List.getElem?_eq_getElem hj1]
        exact hfr _ (List.getElem_mem hj1)

/-- What a body's end must meet. -/
def RetQ (P : Program) (fn : Func) (post : List AObj → AV → Prop) : Exit → AS → Prop
  | .normal, s | .ret, s => Ret P fn post s
  | _, _ => False

theorem Con.of_body {f : FuncId} {fn : Func} {c : Code} (hf : P.funcs[f]? = some fn) (hname : (fn.name == "runtime.NumGoroutine") = false) (hb : fn.body = some c) {args : List AV} (hnf : ∀ A ∈ args, NoFresh A) {post : List AObj → AV → Prop}
    (h : ∀ w0, SW P w0 [] c (RetQ P fn post) ⟨args ++ List.replicate (fn.ntmps - args.length) .any, []⟩) : Con P f args post := by
  refine ⟨⟨fn, hf, hname, by simp [hb]⟩, fun w vs hlen hv => ?_⟩
  refine calls_of_wp hf hb (Code.wp_mono ?_ (h w { tmps := vs.toArray ++ Array.replicate (fn.ntmps - vs.toArray.size) undef, defers := [] } w [] ?_))
  · rintro e a' w' ⟨s', σ', hr, hq⟩
    have done : Ret P fn post s' → a'.defers = [] ∧ ∃ v, (results fn a'.tmps).run P w' = .ok v w' ∧ ∃ v' σ' H' A, Ending.returned v = .returned v' ∧ Heaps w' w.heap.size σ' H' ∧ (∀ o ∈ H', FreshO o) ∧ V w' w.heap.size σ' A σ' v' ∧ AllFresh A ∧ Since w [] w' σ' ∧ post H' A := by
      intro hret
      obtain ⟨v, σ2, H', A, h1, h2, h3, h4, h5, h6, h7⟩ := hret w a' w' σ' hr
      refine ⟨hr.defers, v, h1, v, σ2, H', A, rfl, h2, h3, h4, h5, ?_, h7⟩
      have hs := hr.since
      exact ⟨hs.os, hs.tape, hs.output, hs.size, hs.blk, fun t ht => by simp at ht, fun t g _ hg => h6 t g hg⟩
    cases e with
    | normal => exact done hq
    | ret => exact done hq
    | _ => exact hq.elim
  · refine ⟨rfl, by simp [hlen], fun t A hA => ?_, Heaps.nil w _, ⟨rfl, rfl, rfl, Nat.le_refl _, fun _ _ _ => rfl, fun t ht => by simp at ht, fun t g _ hg => by simp at hg⟩⟩
    simp only [] at hA ⊢
    rcases Nat.lt_or_ge t args.length with hlt | hge
    · rw [List.getElem?_append_left hlt] at hA
      have ht : t < vs.length := by omega
      refine ⟨vs[t], by rw [Array.getElem?_append_left (by simpa using ht)]; simp [ht], ?_⟩
      have hm : A ∈ args := List.mem_of_getElem? hA
      have h0 := hv t A vs[t] hA (List.getElem?_eq_getElem ht)
      exact VX.exMono (fun b hb => by simp [Owned] at hb) _ _ _ (VX.noFresh A [] _ (hnf A hm) h0)
    · rw [List.getElem?_append_right hge] at hA
      have hlt2 : t - args.length < fn.ntmps - args.length := by
        rcases Nat.lt_or_ge (t - args.length) (fn.ntmps - args.length) with h' | h'
        · exact h'
        · rw [List.getElem?_eq_none (by simpa using h')] at hA; cases hA
      rw [List.getElem?_replicate, if_pos hlt2] at hA
      injection hA with hA
      subst hA
      refine ⟨undef, ?_, trivial⟩
      rw [Array.getElem?_append_right (by simp; omega)]
      simp [hlen, hlt2]

end

/-! ### Forgetting -/

def SlotsLe : List AV → List AV → Prop
  | [], [] => True
  | A :: l, A' :: l' => (A' = .any ∨ A = A') ∧ SlotsLe l l'
  | _, _ => False

theorem SlotsLe.refl : ∀ l : List AV, SlotsLe l l
  | [] => trivial
  | _ :: l => ⟨.inr rfl, SlotsLe.refl l⟩

theorem SlotsLe.at_ : ∀ {l l' : List AV}, SlotsLe l l' → l.length = l'.length ∧ ∀ (t : Nat) A', l'[t]? = some A' → ∃ A, l[t]? = some A ∧ (A' = .any ∨ A = A')
  | [], [], _ => ⟨rfl, fun t A' h => by simp at h⟩
  | A :: l, A' :: l', h => by
    obtain ⟨h1, h2⟩ := SlotsLe.at_ h.2
    refine ⟨by simp [h1], fun t B hB => ?_⟩
    cases t with
    | zero =>
      simp only [List.getElem?_cons_zero, Option.some.injEq] at hB
      subst hB
      exact ⟨A, rfl, h.1⟩
    | succ t =>
      obtain ⟨C, hC, h3⟩ := h2 t B (by simpa using hB)
      exact ⟨C, by simpa using hC, h3⟩
  | [], _ :: _, h => h.elim
  | _ :: _, [], h => h.elim

/-- Objects, told anew; further ones are forgotten. -/
def HeapLe : List AObj → List AObj → Prop
  | _, [] => True
  | o :: l, o' :: l' => (o.ty = o'.ty ∧ o.sz = o'.sz ∧ o.n = o'.n ∧ ∀ i f, i < o'.n → f < o'.sz → (o'.cs i f = .any ∨ o.cs i f = o'.cs i f)) ∧ HeapLe l l'
  | [], _ :: _ => False

theorem HeapLe.refl : ∀ l : List AObj, HeapLe l l
  | [] => trivial
  | _ :: l => ⟨⟨rfl, rfl, rfl, fun _ _ _ _ => .inr rfl⟩, HeapLe.refl l⟩

theorem HeapLe.at_ : ∀ {l l' : List AObj}, HeapLe l l' → l'.length ≤ l.length ∧ ∀ (t : Nat) o', l'[t]? = some o' → ∃ o, l[t]? = some o ∧ o.ty = o'.ty ∧ o.sz = o'.sz ∧ o.n = o'.n ∧ ∀ i f, i < o'.n → f < o'.sz → (o'.cs i f = .any ∨ o.cs i f = o'.cs i f)
  | _, [], _ => ⟨by simp, fun t A' h => by simp at h⟩
  | o :: l, o' :: l', h => by
    obtain ⟨h1, h2⟩ := HeapLe.at_ h.2
    refine ⟨by simp [h1], fun t B hB => ?_⟩
    cases t with
    | zero =>
      simp only [List.getElem?_cons_zero, Option.some.injEq] at hB
      subst hB
      exact ⟨o, rfl, h.1⟩
    | succ t =>
      obtain ⟨C, hC, h3⟩ := h2 t B (by simpa using hB)
      exact ⟨C, by simpa using hC, h3⟩
  | [], _ :: _, h => h.elim

theorem SLe.of {s s' : AS} (hs : SlotsLe s.slots s'.slots) (hh : HeapLe s.heap s'.heap) (ht : ∀ A ∈ s'.slots, TagsIn (· < s'.heap.length) A) (ho : ∀ o ∈ s'.heap, ∀ i f, i < o.n → f < o.sz → TagsIn (· < s'.heap.length) (o.cs i f)) : SLe s s' := by
  intro w0 a w σ hr
  obtain ⟨hl, hs⟩ := hs.at_
  obtain ⟨hk, hh⟩ := hh.at_
  have hσl := hr.heaps.len
  have hm : Moves (· < s'.heap.length) w (Owned σ) σ w (Owned (σ.take s'.heap.length)) (σ.take s'.heap.length) := by
    refine ⟨Nat.le_refl _, fun b _ hn hn' => hn ?_, fun _ _ _ => rfl, fun t g ht hg => by rw [List.getElem?_take, if_pos ht]; exact hg, fun t g cur e _ _ hh => ⟨cur, hh, rfl⟩⟩
    exact List.mem_of_mem_take hn'
  have htake : ∀ (t g : Nat), (σ.take s'.heap.length)[t]? = some (some g) → σ[t]? = some (some g) := by
    intro t g h
    rw [List.getElem?_take] at h
    split at h
    · exact h
    · cases h
  refine ⟨σ.take s'.heap.length, hr.defers, by rw [hr.len, hl], fun t A' hA' => ?_, ⟨by rw [List.length_take]; omega, fun t t' g h1 h2 => hr.heaps.inj t t' g (htake t g h1) (htake t' g h2), fun t o' ho' => ?_⟩, ?_⟩
  · obtain ⟨A, hA, hor⟩ := hs t A' hA'
    obtain ⟨v, hv, hV⟩ := hr.slot t A hA
    rcases hor with rfl | rfl
    · exact ⟨v, hv, trivial⟩
    · exact ⟨v, hv, VX.moves hm A σ _ v (.inr ⟨rfl, rfl, ht A (List.mem_of_getElem? hA')⟩) hV⟩
  · obtain ⟨o, hob, h1, h2, h3, h4⟩ := hh t o' ho'
    obtain ⟨g, hg, hobj⟩ := hr.heaps.obj t o hob
    have htl : t < s'.heap.length := by
      rcases Nat.lt_or_ge t s'.heap.length with h' | h'
      · exact h'
      · rw [List.getElem?_eq_none h'] at ho'; cases ho'
    refine ⟨g, by rw [List.getElem?_take, if_pos htl]; exact hg, ?_⟩
    cases g with
    | none => exact h3.symm.trans hobj
    | some k =>
      obtain ⟨cur, hc, hle, hcell⟩ := hobj
      refine ⟨cur, by rw [← h1]; exact hc, by rw [← h2, ← h3]; exact hle, fun i f hi hf => ?_⟩
      obtain ⟨u, hu, h1', hV⟩ := hcell i f (by omega) (by omega)
      refine ⟨u, by rw [← h2]; exact hu, h1', ?_⟩
      rcases h4 i f hi hf with h5 | h5
      · rw [h5]; trivial
      · rw [← h5]
        exact VX.moves hm _ σ _ u (.inr ⟨rfl, rfl, by rw [h5]; exact ho o' (List.mem_of_getElem? ho') i f hi hf⟩) hV
  · have hsn := hr.since
    exact ⟨hsn.os, hsn.tape, hsn.output, hsn.size, hsn.blk, fun t ht => by simp at ht, fun t g ht hg => hsn.new t g ht (htake t g hg)⟩

/-- A slot that holds nil: an empty object of its own. -/
theorem SLe.nil {s : AS} (j : Nat) (o : AObj) (ho : o.n = 0) (hj : s.slots[j]? = some (.val (.slice none 0 0))) : SLe s ⟨s.slots.set j (.own s.heap.length o.sz 0), s.heap ++ [o]⟩ := by
  intro w0 a w σ hr
  have h := hr.pushNil o ho
  refine ⟨σ ++ [none], ?_⟩
  obtain ⟨v, hv, hV⟩ := hr.slot j _ hj
  simp only [V, VX] at hV
  subst hV
  have := h.put (some j) (A := .own s.heap.length o.sz 0) (v := .slice none 0 0) (.inl ⟨rfl, rfl⟩)
  have ha : a.put (some j) (.slice none 0 0) = a := by
    have : a.tmps.setIfInBounds j (.slice none 0 0) = a.tmps := by
      apply Array.ext_getElem?
      intro i
      by_cases hi : j = i
      · subst hi
        rw [hv, Array.getElem?_setIfInBounds_self_of_lt]
        exact (Array.getElem?_eq_some_iff.1 hv).1
      · rw [Array.getElem?_setIfInBounds_ne hi]
    simp only [Act.put, this]
  rw [ha] at this
  exact this

end Go.Abs
