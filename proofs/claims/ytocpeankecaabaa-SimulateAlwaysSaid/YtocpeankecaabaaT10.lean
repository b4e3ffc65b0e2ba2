/-
  Summaries of loops and statements; contracts of functions, out of the typed machine. No program is named.
-/
import Derived.Test.YtocpeankecaabaaT9
set_option linter.all false
namespace Go.T
open Go.Abs Go.M Go.RowKit

section
variable {P : Program} {Rf : Type}

/-- A loop in its block. -/
def loopSumm (Rf : Type) (shI : Shp) {C S : Type} (un : shI.den → C × S) (shE : Shp) {CE E : Type} (mkE : CE → E → shE.den) (pE : C → CE)
    (stepK : {R : Type} → C → S → (S → Option R) → (E → Option R) → (Rf → Option R) → Option R) : Summ Rf where
  A := C × S
  O := E ⊕ Rf
  dec := fun s => match shI.dec s with | some x => some (un x) | none => none
  m := fun x => loopM (fun a => stepK x.1 a (fun a' => some (.next a')) (fun e => some (.done e)) (fun r => some (.ret r))) x.2
  cont := fun x o kn _ kr => lk o (fun e => kn (shE.enc (mkE (pE x.1) e))) kr

theorem loop_ok {X : Ctx Rf} (hΓ : CtxOK P X) (hF : Fits P X.tt) (hmix : P.follows .mixedOrders = true) {n id : Nat} {body : Code} {ann : Ann} (hs : ∀ p ∈ sums body ann, SummOK P X p.1 p.2)
    {shI shE : Shp} {C S CE E : Type} {un : shI.den → C × S} {mk : C → S → shI.den} {unE : shE.den → CE × E} {mkE : CE → E → shE.den} {pE : C → CE}
    {stepK : {R : Type} → C → S → (S → Option R) → (E → Option R) → (Rf → Option R) → Option R}
    (hΛ : X.Λ n = some (loopSumm Rf shI un shE mkE pE stepK)) (hmk : ∀ x, mk (un x).1 (un x).2 = x) (hmkE : ∀ y, mkE (unE y).1 (unE y).2 = y)
    (hpar : ∀ (R : Type) (K : C → S → Option R) (D : CE → E → Option R) (T : Rf → Option R) (c : C) (a : S),
      den X body ann (shI.enc (mk c a)) (fun s' => match shI.dec s' with | some x => K (un x).1 (un x).2 | none => none)
        (fun id' s' => bif Nat.beq id' id then (match shE.dec s' with | some y => D (unE y).1 (unE y).2 | none => none) else none) T = stepK c a (K c) (D (pE c)) T) :
    SummOK P X n (.block id (.loop body)) := by
  intro σ hσ
  rw [hΛ] at hσ
  cases hσ
  intro w0 R s x o kn ke kr r hdec hm hcont
  obtain ⟨c, a0⟩ := x
  simp only [loopSumm] at hdec hm hcont
  cases hx : shI.dec s with
  | none => rw [hx] at hdec; cases hdec
  | some x =>
    rw [hx] at hdec
    simp only [Option.some.injEq] at hdec
    have hle : SLe (encS X.N s) (encS X.N (shI.enc (mk c a0))) := by
      have := Shp.dec_le (N := X.N) hx
      have e := hmk x
      rw [hdec] at e
      rw [e]
      exact this
    refine SW.block ?_
    refine SW.loop (ι := Nat × S) (fun p => encS X.N (shI.enc (mk c p.2))) (fun p => iter (fun a => stepK c a (fun a' => some (.next a')) (fun e => some (.done e)) (fun r => some (.ret r))) p.1 p.2 = some o) (fun p => p.1) (many, a0) hm hle ?_
    rintro ⟨k, a⟩ hp
    cases k with
    | zero => cases hp
    | succ k =>
      simp only [iter_succ] at hp
      obtain ⟨xv, hstep, hlr⟩ := bnd_some hp
      classical
      let K : C → S → Option (LR S E Rf) := fun c' a' => if c' = c then some (.next a') else none
      let D : CE → E → Option (LR S E Rf) := fun c' e => if c' = pE c then some (.done e) else none
      have hden := hpar (LR S E Rf) K D (fun r => some (.ret r)) c a
      have e1 : K c = fun a' => some (.next a') := by funext a'; simp [K]
      have e2 : D (pE c) = fun e => some (.done e) := by funext e; simp [D]
      rw [e1, e2] at hden
      rw [hstep] at hden
      refine SW.mono ?_ (den_sound hΓ hF hmix w0 body ann _ _ _ _ hs hden)
      intro e s1 hpost
      cases e with
      | normal =>
        obtain ⟨s', hle', hk⟩ := hpost
        dsimp only at hk
        cases hx' : shI.dec s' with
        | none => rw [hx'] at hk; cases hk
        | some x' =>
          rw [hx'] at hk
          simp only [K] at hk
          split at hk
          · rename_i hc
            cases hk
            refine ⟨(k, (un x').2), hlr, Nat.lt_succ_self k, ?_⟩
            refine hle'.trans ?_
            have := Shp.dec_le (N := X.N) hx'
            have e := hmk x'
            rw [hc] at e
            show SLe _ (encS X.N (shI.enc (mk c (un x').2)))
            rw [e]
            exact this
          · cases hk
      | exit id' =>
        obtain ⟨s', hle', hk⟩ := hpost
        have hk1 : (bif Nat.beq id' id then (match shE.dec s' with | some y => D (unE y).1 (unE y).2 | none => none) else none) = some xv := hk
        clear hk
        obtain ⟨hid, hk⟩ := bif_some hk1
        clear hk1
        have hid' := beq_eq hid
        subst hid'
        cases hx' : shE.dec s' with
        | none => rw [hx'] at hk; cases hk
        | some y =>
          rw [hx'] at hk
          simp only [D] at hk
          split at hk
          · rename_i hc
            cases hk
            cases hlr
            simp only [Then, InBlock, if_true]
            refine ⟨shE.enc (mkE (pE c) (unE y).2), hle'.trans ?_, hcont⟩
            have := Shp.dec_le (N := X.N) hx'
            have e := hmkE y
            rw [hc] at e
            rw [e]
            exact this
          · cases hk
      | ret =>
        obtain ⟨s', x', hle', hres, hk⟩ := hpost
        cases hk
        cases hlr
        exact ⟨s', x', hle', hres, hcont⟩
      | _ => exact hpost.elim

/-- A statement behind which one goes on in a state of shape shE. -/
def joinSumm (Rf : Type) (shI : Shp) {A : Type} (un : shI.den → A) (shE : Shp) {CE E : Type} (mkE : CE → E → shE.den) (pE : A → CE)
    (stepK : {R : Type} → A → (E → Option R) → (Rf → Option R) → Option R) : Summ Rf where
  A := A
  O := E ⊕ Rf
  dec := fun s => match shI.dec s with | some x => some (un x) | none => none
  m := fun x => stepK x (fun e => some (.inl e)) (fun r => some (.inr r))
  cont := fun x o kn _ kr => lk o (fun e => kn (shE.enc (mkE (pE x) e))) kr

theorem join_ok {X : Ctx Rf} (hΓ : CtxOK P X) (hF : Fits P X.tt) (hmix : P.follows .mixedOrders = true) {n : Nat} {c : Code} {ann : Ann} (hs : ∀ p ∈ sums c ann, SummOK P X p.1 p.2)
    {shI shE : Shp} {A CE E : Type} {un : shI.den → A} {mk : A → shI.den} {unE : shE.den → CE × E} {mkE : CE → E → shE.den} {pE : A → CE}
    {stepK : {R : Type} → A → (E → Option R) → (Rf → Option R) → Option R}
    (hΛ : X.Λ n = some (joinSumm Rf shI un shE mkE pE stepK)) (hmk : ∀ x, mk (un x) = x) (hmkE : ∀ y, mkE (unE y).1 (unE y).2 = y)
    (hpar : ∀ (R : Type) (D : CE → E → Option R) (T : Rf → Option R) (a : A),
      den X c ann (shI.enc (mk a)) (fun s' => match shE.dec s' with | some y => D (unE y).1 (unE y).2 | none => none) (fun _ _ => none) T = stepK a (D (pE a)) T) :
    SummOK P X n c := by
  intro σ hσ
  rw [hΛ] at hσ
  cases hσ
  intro w0 R s (a : A) o kn ke kr r hdec hm hcont
  simp only [joinSumm] at hdec hm hcont
  cases hx : shI.dec s with
  | none => rw [hx] at hdec; cases hdec
  | some x =>
    rw [hx] at hdec
    simp only [Option.some.injEq] at hdec
    have hle : SLe (encS X.N s) (encS X.N (shI.enc (mk a))) := by
      have := Shp.dec_le (N := X.N) hx
      have e := hmk x
      rw [hdec] at e
      rw [e]
      exact this
    refine SW.weaken hle ?_
    classical
    let D : CE → E → Option (E ⊕ Rf) := fun c' e => if c' = pE a then some (.inl e) else none
    have hden := hpar (E ⊕ Rf) D (fun r => some (.inr r)) a
    have e2 : D (pE a) = fun e => some (.inl e) := by funext e; simp [D]
    rw [e2, hm] at hden
    refine SW.mono ?_ (den_sound hΓ hF hmix w0 c ann _ _ _ _ hs hden)
    intro e s1 hpost
    cases e with
    | normal =>
      obtain ⟨s', hle', hk⟩ := hpost
      dsimp only at hk
      cases hx' : shE.dec s' with
      | none => rw [hx'] at hk; cases hk
      | some y =>
        rw [hx'] at hk
        simp only [D] at hk
        split at hk
        · rename_i hc
          cases hk
          refine ⟨shE.enc (mkE (pE a) (unE y).2), hle'.trans ?_, hcont⟩
          have := Shp.dec_le (N := X.N) hx'
          have e := hmkE y
          rw [hc] at e
          rw [e]
          exact this
        · cases hk
    | exit id' =>
      obtain ⟨s', hle', hk⟩ := hpost
      cases hk
    | ret =>
      obtain ⟨s', x', hle', hres, hk⟩ := hpost
      cases hk
      exact ⟨s', x', hle', hres, hcont⟩
    | _ => exact hpost.elim

end

/-! ### Arguments -/

/-- A value as it is handed in. -/
def valF : (t : Ty) → t.den → TV
  | .int k, n => .int k n
  | .bool, b => .bool b
  | .str, s => .val (.string s)
  | .slice t, xs => .sl false t xs
  | .struct l, x => .agg (l.cells false x)
def decF (t : Ty) (v : TV) : Option t.den :=
  match t, v with
  | .struct l, .agg cs => match Ty.pack1 (.struct l) cs with | some (x, _) => some x | _ => none
  | .struct _, _ => none
  | t, v => match Ty.pack1 t [v] with | some (x, _) => some x | _ => none

mutual
inductive Ar where
  | d (t : Ty)
  | rp (t : Ty)
  | fn (f : FuncId) (l : ArL)
  | agg (l : ArL)
inductive ArL where
  | nil
  | cons (s : Ar) (l : ArL)
end
mutual
def Ar.den : Ar → Type
  | .d t => t.den
  | .rp t => t.den
  | .fn _ l => l.den
  | .agg l => l.den
def ArL.den : ArL → Type
  | .nil => Unit
  | .cons s l => s.den × l.den
end
mutual
def Ar.enc : (s : Ar) → s.den → TV
  | .d t, x => valF t x
  | .rp t, x => .rptr false t [x] (.ofNat 0) 0
  | .fn f l, x => .fn f (l.enc x)
  | .agg l, x => .agg (l.enc x)
def ArL.enc : (l : ArL) → l.den → List TV
  | .nil, _ => []
  | .cons s l, x => s.enc x.1 :: l.enc x.2
end
def decArP (t : Ty) : TV → Option t.den
  | .rptr _ t' [x] (.ofNat 0) 0 => match t'.eq? t with | some ⟨h⟩ => some (h ▸ x) | none => none
  | _ => none
mutual
def Ar.dec : (s : Ar) → TV → Option s.den
  | .d t, v => decF t v
  | .rp t, v => decArP t v
  | .fn f l, v => match v with | .fn f' cs => bif Nat.beq f' f then l.dec cs else none | _ => none
  | .agg l, v => match v with | .agg cs => l.dec cs | _ => none
def ArL.dec : (l : ArL) → List TV → Option l.den
  | .nil, cs => match cs with | [] => some () | _ => none
  | .cons s l, cs =>
    match cs with
    | v :: r => match s.dec v with | some x => (match l.dec r with | some y => some (x, y) | none => none) | none => none
    | [] => none
end

theorem ALe.rptr {sz n : Nat} {cs cs' : Nat → Nat → AV} {i f : Nat} (h : ∀ i f, i < n → f < sz → ALe (cs i f) (cs' i f)) : ALe (.rptr sz n cs i f) (.rptr sz n cs' i f) := by
  rintro w E B τ v ⟨b, o, hv, hb, hE, hcell⟩
  refine ⟨b, o, hv, hb, hE, fun i f hi hf => ?_⟩
  obtain ⟨u, hu, h1, hV⟩ := hcell i f hi hf
  exact ⟨u, hu, h1, h i f hi hf _ _ _ _ _ hV⟩
theorem ALe.fn {f : FuncId} {k : Nat} {cs cs' : Nat → AV} (h : ∀ j, j < k → ALe (cs j) (cs' j)) : ALe (.fn f k cs) (.fn f k cs') := by
  rintro w E B τ v ⟨l, hl, hk, hc⟩
  exact ⟨l, hl, hk, fun j hj => let ⟨u, hu, hV⟩ := hc j hj; ⟨u, hu, h j hj _ _ _ _ _ hV⟩⟩
theorem ALeL.len : ∀ {l m : List AV}, ALeL l m → l.length = m.length
  | [], [], _ => rfl
  | _ :: _, _ :: _, h => by simp [ALeL.len h.2]
  | [], _ :: _, h => h.elim
  | _ :: _, [], h => h.elim
theorem ALeL.at_ : ∀ {l m : List AV}, ALeL l m → ∀ j, ALe (l.getD j .any) (m.getD j .any)
  | [], [], _, j => ALe.refl _
  | _ :: _, _ :: _, h, 0 => h.1
  | _ :: _, _ :: _, h, j + 1 => by simpa using ALeL.at_ h.2 j
  | [], _ :: _, h, _ => h.elim
  | _ :: _, [], h, _ => h.elim

theorem decF_ok {t : Ty} {v : TV} {x : t.den} (h : decF t v = some x) : ALe (encV [] v) (encV [] (valF t x)) := by
  unfold decF at h
  split at h
  · rename_i l cs
    split at h
    · rename_i x' g hp
      cases h
      obtain ⟨h1, h2⟩ := Ty.pack1_av (H := []) (fr := false) hp (fun e => by cases e)
      have hl : (l.cells false x).length = cs.length := (TyL.cells_len false l x).trans h1.symm
      unfold valF
      simp only [encV]
      rw [hl]
      refine ALe.agg fun j hj => ?_
      rw [encL_getD, encL_getD]
      have hj' : j < l.sz := by
        have : cs.length = l.sz := h1
        omega
      have := TyL.cells_av [] false l x j hj'
      rw [this]
      exact h2 j hj'
    · cases h
  · cases h
  · rename_i hns2 hns
    split at h
    · rename_i x' g hp
      cases h
      obtain ⟨h1, h2⟩ := Ty.pack1_av (H := []) (fr := false) hp (fun e => by cases e)
      have h3 := h2 0 (by rw [← h1]; simp)
      cases t with
      | int k => exact h3
      | bool => exact h3
      | str => exact h3
      | slice t => exact h3
      | struct l =>
        first
        | exact absurd rfl (hns l)
        | exact absurd rfl (hns2 l)
    · cases h

mutual
theorem Ar.dec_ok : ∀ (s : Ar) (v : TV) (x : s.den), s.dec v = some x → ALe (encV [] v) (encV [] (s.enc x))
  | .d t, v, x, h => decF_ok h
  | .rp t, v, x, h => by
    unfold Ar.dec at h
    unfold decArP at h
    split at h
    · split at h
      · rename_i he _
        subst he
        cases h
        exact ALe.rptr fun i f _ _ => Ty.av_mono (fun e => by cases e) _ _ _
      · cases h
    · cases h
  | .fn f l, v, x, h => by
    have hcs : ∃ cs, v = .fn f cs ∧ l.dec cs = some x := by
      cases v <;> first | (exact absurd (show (none : Option l.den) = some x from h) (by intro e; cases e)) | skip
      rename_i f' cs
      have h : (bif Nat.beq f' f then l.dec cs else none) = some x := h
      obtain ⟨h1, h2⟩ := bif_some h
      rw [beq_eq h1]
      exact ⟨cs, rfl, h2⟩
    obtain ⟨cs, hv, h2⟩ := hcs
    subst hv
    have := ArL.dec_ok l cs x h2
    have hl := this.len
    rw [encL_len, encL_len] at hl
    unfold Ar.enc
    simp only [encV]
    rw [hl]
    exact ALe.fn fun j _ => this.at_ j
  | .agg l, v, x, h => by
    have hcs : ∃ cs, v = .agg cs ∧ l.dec cs = some x := by
      cases v <;> first | exact ⟨_, rfl, h⟩ | exact absurd (show (none : Option l.den) = some x from h) (by intro e; cases e)
    obtain ⟨cs, hv, h2⟩ := hcs
    subst hv
    have := ArL.dec_ok l cs x h2
    have hl := this.len
    rw [encL_len, encL_len] at hl
    unfold Ar.enc
    simp only [encV]
    rw [hl]
    exact ALe.agg fun j _ => this.at_ j
theorem ArL.dec_ok : ∀ (l : ArL) (cs : List TV) (x : l.den), l.dec cs = some x → ALeL (encL [] cs) (encL [] (l.enc x))
  | .nil, cs, x, h => by
    unfold ArL.dec at h
    split at h
    · trivial
    · cases h
  | .cons s l, cs, x, h => by
    unfold ArL.dec at h
    split at h
    · rename_i v r
      split at h
      · rename_i x1 h1
        split at h
        · rename_i y1 h2
          cases h
          exact ⟨Ar.dec_ok s v x1 h1, ArL.dec_ok l r y1 h2⟩
        · cases h
      · cases h
    · cases h
end

mutual
theorem Ty.av_noFresh : ∀ (t : Ty) (x : t.den) (f : Nat), NoFresh (t.av false x f)
  | .int _, _, _ => trivial
  | .bool, _, _ => trivial
  | .str, _, _ => trivial
  | .slice t, xs, _ => ⟨rfl, fun i f _ _ => Ty.av_noFresh t _ f⟩
  | .struct l, x, f => TyL.av_noFresh l x f
theorem TyL.av_noFresh : ∀ (l : TyL) (x : l.den) (f : Nat), NoFresh (l.av false x f)
  | .nil, _, _ => trivial
  | .cons t l, x, f => by
    unfold TyL.av
    split
    · exact Ty.av_noFresh t _ _
    · exact TyL.av_noFresh l _ _
end
mutual
theorem Ty.av_allFresh : ∀ (t : Ty) (x : t.den) (f : Nat), AllFresh (t.av true x f)
  | .int _, _, _ => trivial
  | .bool, _, _ => trivial
  | .str, _, _ => trivial
  | .slice t, xs, _ => ⟨rfl, fun i f _ _ => Ty.av_allFresh t _ f⟩
  | .struct l, x, f => TyL.av_allFresh l x f
theorem TyL.av_allFresh : ∀ (l : TyL) (x : l.den) (f : Nat), AllFresh (l.av true x f)
  | .nil, _, _ => trivial
  | .cons t l, x, f => by
    unfold TyL.av
    split
    · exact Ty.av_allFresh t _ _
    · exact TyL.av_allFresh l _ _
end

theorem noFresh_getD {l : List AV} (h : ∀ A ∈ l, NoFresh A) (j : Nat) : NoFresh (l.getD j .any) := by
  rw [List.getD_eq_getElem?_getD]
  cases hq : l[j]? with
  | none => trivial
  | some A => exact h A (List.mem_of_getElem? hq)

theorem valF_noFresh (t : Ty) (x : t.den) : NoFresh (encV [] (valF t x)) := by
  cases t with
  | int k => trivial
  | bool => trivial
  | str => trivial
  | slice t => exact Ty.av_noFresh (.slice t) x 0
  | struct l =>
    intro j hj
    show NoFresh ((encL [] (TyL.cells false l x)).getD j .any)
    have hl := TyL.cells_len false l x
    have hj' : j < (TyL.cells false l x).length := hj
    rw [encL_getD, TyL.cells_av [] false l x j (by omega)]
    exact TyL.av_noFresh l x j

mutual
theorem Ar.noFresh : ∀ (s : Ar) (x : s.den), NoFresh (encV [] (s.enc x))
  | .d t, x => valF_noFresh t x
  | .rp t, x => fun i f _ _ => Ty.av_noFresh t _ f
  | .fn f l, x => by
    unfold Ar.enc
    simp only [encV]
    exact fun j _ => noFresh_getD (ArL.noFresh l x) j
  | .agg l, x => by
    unfold Ar.enc
    simp only [encV]
    exact fun j _ => noFresh_getD (ArL.noFresh l x) j
theorem ArL.noFresh : ∀ (l : ArL) (x : l.den), ∀ A ∈ encL [] (l.enc x), NoFresh A
  | .nil, _, A, hA => by simp [ArL.enc, encL] at hA
  | .cons s l, x, A, hA => by
    simp only [ArL.enc, encL] at hA
    rcases List.mem_cons.1 hA with rfl | hA
    · exact Ar.noFresh s x.1
    · exact ArL.noFresh l x.2 A hA
end

/-! ### Results -/

def valOf : (t : Ty) → t.den → TV
  | .int k, n => .int k n
  | .bool, b => .bool b
  | .str, s => .val (.string s)
  | .slice t, xs => .sl true t xs
  | .struct l, x => .agg (l.cells true x)

def decVal (t : Ty) (v : TV) : Option t.den :=
  match t, v with
  | .struct l, .agg cs => match Ty.pack1 (.struct l) cs with | some (x, true) => some x | _ => none
  | .struct _, _ => none
  | t, v => match Ty.pack1 t [v] with | some (x, true) => some x | _ => none

def RL.den : List Ty → Type
  | [] => Unit
  | [t] => t.den
  | t :: l => t.den × RL.den l
def RL.dft : (l : List Ty) → RL.den l
  | [] => ()
  | [t] => t.dft
  | t :: u :: l => (t.dft, RL.dft (u :: l))
def RL.vals : (l : List Ty) → RL.den l → List TV
  | [], _ => []
  | [t], x => [valOf t x]
  | t :: u :: l, x => valOf t x.1 :: RL.vals (u :: l) x.2
def RL.res (l : List Ty) (x : RL.den l) : TV :=
  match RL.vals l x with
  | [v] => v
  | vs => .tup vs

/-- The value of a result. -/
def resVal (N : Nat) (tt : TT) (s : TS) : ResultVar → Option TV
  | .tmp t => some (frz tt s.H (rd N s.S t))
  | .cell a t => match loadT tt s.H t (rd N s.S a) with | some ([], v) => some (frz tt s.H v) | _ => none

def resDec (N : Nat) (tt : TT) : List ResultVar → (l : List Ty) → TS → Option (RL.den l)
  | [], [], _ => some ()
  | [r], [t], s => match resVal N tt s r with | some v => decVal t v | none => none
  | r :: r2 :: rs, t :: u :: l, s =>
    match resVal N tt s r with
    | some v => match decVal t v with
      | some x => match resDec N tt (r2 :: rs) (u :: l) s with | some y => some (x, y) | none => none
      | none => none
    | none => none
  | _, _, _ => none

end Go.T
