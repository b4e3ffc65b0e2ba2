/-
  Shapes of states: what a state holds, as one tuple of plain data, and back. No program is named.
-/
import Derived.Test.YtocpeankecaabaaT8
set_option linter.all false
namespace Go.T
open Go.Abs Go.M Go.RowKit

mutual
inductive Sh where
  | int (k : IntKind)
  | bool
  | str
  | sl (fr : Bool) (t : Ty)
  | rp (fr : Bool) (t : Ty)
  | own (i : Nat)
  | ptr (i : Nat)
  | fn (f : FuncId) (l : ShL)
  | agg (l : ShL)
inductive ShL where
  | nil
  | cons (s : Sh) (l : ShL)
end
inductive Hs where
  | arr (ty : TypeId) (fr : Bool) (t : Ty)
  | box (ty : TypeId) (l : ShL)

mutual
def Sh.den : Sh → Type
  | .int _ => Int
  | .bool => Bool
  | .str => ByteArray
  | .sl _ t => List t.den
  | .rp _ t => t.den
  | .own _ => Unit
  | .ptr _ => Unit
  | .fn _ l => l.den
  | .agg l => l.den
def ShL.den : ShL → Type
  | .nil => Unit
  | .cons s l => s.den × l.den
end
def Hs.den : Hs → Type
  | .arr _ _ t => List t.den
  | .box _ l => l.den
def slDen : List (Nat × Sh) → Type
  | [] => Unit
  | p :: l => p.2.den × slDen l
def hpDen : List Hs → Type
  | [] => Unit
  | p :: l => p.den × hpDen l

mutual
def Sh.enc : (s : Sh) → s.den → TV
  | .int k, n => .int k n
  | .bool, b => .bool b
  | .str, s => .val (.string s)
  | .sl fr t, xs => .sl fr t xs
  | .rp fr t, x => .rptr fr t [x] (.ofNat 0) 0
  | .own i, _ => .own i
  | .ptr i, _ => .ptr i (.ofNat 0) 0
  | .fn f l, x => .fn f (l.enc x)
  | .agg l, x => .agg (l.enc x)
def ShL.enc : (l : ShL) → l.den → List TV
  | .nil, _ => []
  | .cons s l, x => s.enc x.1 :: l.enc x.2
end
def ShL.len : ShL → Nat
  | .nil => 0
  | .cons _ l => l.len + 1
theorem ShL.enc_len : ∀ (l : ShL) (x : l.den), (l.enc x).length = l.len
  | .nil, _ => rfl
  | .cons s l, x => by simp [ShL.enc, ShL.len, ShL.enc_len l x.2]
def Hs.enc : (h : Hs) → h.den → TOb
  | .arr ty fr t, xs => .arr ty fr t xs
  | .box ty l, x => .box ty (l.enc x)
def slEnc : (l : List (Nat × Sh)) → slDen l → List (Nat × TV)
  | [], _ => []
  | p :: l, x => (p.1, p.2.enc x.1) :: slEnc l x.2
def hpEnc : (l : List Hs) → hpDen l → List TOb
  | [], _ => []
  | p :: l, x => p.enc x.1 :: hpEnc l x.2

structure Shp where
  sl : List (Nat × Sh)
  hp : List Hs
def Shp.den (h : Shp) : Type := slDen h.sl × hpDen h.hp
def Shp.enc (h : Shp) (x : h.den) : TS := ⟨slEnc h.sl x.1, hpEnc h.hp x.2⟩

/-- Which object each object of the shape is; none: it is nil. -/
abbrev Rho := List (Option Nat)

def rhoHas (tg : Nat) : Rho → Bool
  | [] => false
  | some t :: l => Nat.beq t tg || rhoHas tg l
  | none :: l => rhoHas tg l
def rhoOk : Rho → Bool
  | [] => true
  | some t :: l => !rhoHas t l && rhoOk l
  | none :: l => rhoOk l

def frOk (fr fr' : Bool) : Bool := !fr || fr'

def decSl (ρ : Rho) (H : List TOb) (fr : Bool) (t : Ty) : TV → Option (List t.den)
  | .sl fr' t' xs => match t'.eq? t with | some ⟨h⟩ => bif frOk fr fr' then some (castL h xs) else none | none => none
  | .val (.slice none 0 0) => some []
  | .own tg =>
    match H[tg]? with
    | some (.arr _ fr' t' xs) => match t'.eq? t with | some ⟨h⟩ => bif frOk fr fr' && !rhoHas tg ρ then some (castL h xs) else none | none => none
    | _ => none
  | _ => none

def decRp (fr : Bool) (t : Ty) : TV → Option t.den
  | .rptr fr' t' [x] (.ofNat 0) 0 => match t'.eq? t with | some ⟨h⟩ => bif frOk fr fr' then some (h ▸ x) else none | none => none
  | _ => none

mutual
def Sh.dec (ρ : Rho) (H : List TOb) : (s : Sh) → TV → Option s.den
  | .int k, v => match v with | .int k' n => if k = k' then some (n : Int) else none | _ => none
  | .bool, v => match v with | .bool b => some b | _ => none
  | .str, v => match v with | .val (.string s) => some s | _ => none
  | .sl fr t, v => decSl ρ H fr t v
  | .rp fr t, v => decRp fr t v
  | .own i, v =>
    match v with
    | .own tg => match ρ[i]? with | some (some t) => bif Nat.beq t tg then some () else none | _ => none
    | .val (.slice none 0 0) => match ρ[i]? with | some none => some () | _ => none
    | _ => none
  | .ptr i, v =>
    match v with
    | .ptr tg (.ofNat 0) 0 => match ρ[i]? with | some (some t) => bif Nat.beq t tg then some () else none | _ => none
    | _ => none
  | .fn f l, v => match v with | .fn f' cs => bif Nat.beq f' f then l.dec ρ H cs else none | _ => none
  | .agg l, v => match v with | .agg cs => l.dec ρ H cs | _ => none
def ShL.dec (ρ : Rho) (H : List TOb) : (l : ShL) → List TV → Option l.den
  | .nil, cs => match cs with | [] => some () | _ => none
  | .cons s l, cs =>
    match cs with
    | v :: r => match s.dec ρ H v with | some x => (match l.dec ρ H r with | some y => some (x, y) | none => none) | none => none
    | [] => none
end

def Hs.dec (ρ : Rho) (H : List TOb) (o : Option Nat) : (h : Hs) → Option h.den
  | .arr ty fr t =>
    match o with
    | none => some ([] : List t.den)
    | some tg =>
      match H[tg]? with
      | some (.arr ty' fr' t' xs) => match t'.eq? t with | some ⟨h⟩ => bif Nat.beq ty' ty && frOk fr fr' then some (castL h xs) else none | none => none
      | _ => none
  | .box ty l =>
    match o with
    | none => none
    | some tg =>
      match H[tg]? with
      | some (.box ty' cs) => bif Nat.beq ty' ty then l.dec ρ H cs else none
      | _ => none

def slDec (ρ : Rho) (s : TS) : (l : List (Nat × Sh)) → Option (slDen l)
  | [] => some ()
  | p :: l => match p.2.dec ρ s.H (getS s.S p.1) with | some x => (match slDec ρ s l with | some y => some (x, y) | none => none) | none => none
def hpDec (ρ : Rho) (s : TS) : Rho → (l : List Hs) → Option (hpDen l)
  | [], [] => some ()
  | o :: os, p :: l => match p.dec ρ s.H o with | some x => (match hpDec ρ s os l with | some y => some (x, y) | none => none) | none => none
  | _, _ => none

mutual
def Sh.fnd : Sh → TV → Rho → Rho
  | .own i, v, ρ => match v with | .own tg => ρ.set i (some tg) | _ => ρ
  | .ptr i, v, ρ => match v with | .ptr tg _ _ => ρ.set i (some tg) | _ => ρ
  | .fn _ l, v, ρ => match v with | .fn _ cs => l.fnd cs ρ | _ => ρ
  | .agg l, v, ρ => match v with | .agg cs => l.fnd cs ρ | _ => ρ
  | _, _, ρ => ρ
def ShL.fnd : ShL → List TV → Rho → Rho
  | .cons s l, v :: r, ρ => l.fnd r (s.fnd v ρ)
  | _, _, ρ => ρ
end
def slFnd (S : List (Nat × TV)) : List (Nat × Sh) → Rho → Rho
  | [], ρ => ρ
  | p :: l, ρ => slFnd S l (p.2.fnd (getS S p.1) ρ)
def hpFnd (H : List TOb) : Nat → List Hs → Rho → Rho
  | _, [], ρ => ρ
  | i, .box _ l :: hs, ρ => hpFnd H (i + 1) hs (match ρ[i]? with | some (some tg) => (match H[tg]? with | some (.box _ cs) => l.fnd cs ρ | _ => ρ) | _ => ρ)
  | i, _ :: hs, ρ => hpFnd H (i + 1) hs ρ
def Shp.rho (h : Shp) (s : TS) : Rho := hpFnd s.H 0 h.hp (slFnd s.S h.sl (List.replicate h.hp.length none))

def slLt (N : Nat) : List (Nat × Sh) → Bool
  | [] => true
  | p :: l => Nat.blt p.1 N && slLt N l

def Shp.decR (h : Shp) (s : TS) (ρ : Rho) : Option h.den :=
  bif rhoOk ρ then
    match slDec ρ s h.sl with
    | some x => (match hpDec ρ s ρ h.hp with | some y => some (x, y) | none => none)
    | none => none
  else none
def Shp.dec (h : Shp) (s : TS) : Option h.den := h.decR s (h.rho s)

/-! ### Soundness -/

theorem rhoHas_at {tg : Nat} : ∀ {ρ : Rho} {i : Nat}, ρ[i]? = some (some tg) → rhoHas tg ρ = true
  | [], i, h => by simp at h
  | some t :: l, 0, h => by simp at h; subst h; simp [rhoHas, Nat.beq_refl]
  | some t :: l, i + 1, h => by simp only [rhoHas, Bool.or_eq_true]; exact .inr (rhoHas_at (i := i) (by simpa using h))
  | none :: l, 0, h => by simp at h
  | none :: l, i + 1, h => by simp only [rhoHas]; exact rhoHas_at (i := i) (by simpa using h)

theorem rhoOk_inj : ∀ {ρ : Rho}, rhoOk ρ = true → ∀ {i j tg : Nat}, ρ[i]? = some (some tg) → ρ[j]? = some (some tg) → i = j
  | [], _, i, j, tg, h, _ => by simp at h
  | some t :: l, hk, 0, 0, tg, h, h' => rfl
  | some t :: l, hk, 0, j + 1, tg, h, h' => by
    simp only [rhoOk, Bool.and_eq_true] at hk
    simp at h
    subst h
    have := rhoHas_at (ρ := l) (i := j) (by simpa using h')
    rw [this] at hk
    simp at hk
  | some t :: l, hk, i + 1, 0, tg, h, h' => by
    simp only [rhoOk, Bool.and_eq_true] at hk
    simp at h'
    subst h'
    have := rhoHas_at (ρ := l) (i := i) (by simpa using h)
    rw [this] at hk
    simp at hk
  | some t :: l, hk, i + 1, j + 1, tg, h, h' => by
    simp only [rhoOk, Bool.and_eq_true] at hk
    have := rhoOk_inj hk.2 (i := i) (j := j) (by simpa using h) (by simpa using h')
    omega
  | none :: l, hk, 0, j, tg, h, h' => by simp at h
  | none :: l, hk, i + 1, 0, tg, h, h' => by simp at h'
  | none :: l, hk, i + 1, j + 1, tg, h, h' => by
    simp only [rhoOk] at hk
    have := rhoOk_inj hk (i := i) (j := j) (by simpa using h) (by simpa using h')
    omega

/-- The blocks under the shape's tags. -/
def tagOr (σ : Tags) : Option Nat → Option Nat
  | some tg => (σ[tg]?).getD none
  | none => none
def newTags (ρ : Rho) (σ : Tags) : Tags := ρ.map (tagOr σ)

theorem newTags_at {ρ : Rho} {σ : Tags} {i g : Nat} (h : (newTags ρ σ)[i]? = some (some g)) : ∃ tg, ρ[i]? = some (some tg) ∧ σ[tg]? = some (some g) := by
  unfold newTags at h
  rw [List.getElem?_map] at h
  cases hq : ρ[i]? with
  | none => rw [hq] at h; cases h
  | some o =>
    rw [hq] at h
    cases o with
    | none => simp [tagOr] at h
    | some tg =>
      simp only [Option.map_some, Option.some.injEq, tagOr] at h
      refine ⟨tg, rfl, ?_⟩
      cases hr : σ[tg]? with
      | none => rw [hr] at h; cases h
      | some x => rw [hr] at h; simp at h; rw [h]

theorem newTags_of {ρ : Rho} {σ : Tags} {i tg g : Nat} (h1 : ρ[i]? = some (some tg)) (h2 : σ[tg]? = some (some g)) : (newTags ρ σ)[i]? = some (some g) := by
  unfold newTags
  rw [List.getElem?_map, h1]
  simp [h2, tagOr]

theorem owned_new {ρ : Rho} {σ : Tags} {b : Nat} (h : Owned (newTags ρ σ) b) : Owned σ b := by
  obtain ⟨t, ht⟩ := mem_tags.1 h
  obtain ⟨tg, _, h2⟩ := newTags_at ht
  exact mem_tags.2 ⟨tg, h2⟩

theorem ShL.dec_len {ρ : Rho} {H : List TOb} : ∀ (l : ShL) (cs : List TV) (x : l.den), l.dec ρ H cs = some x → cs.length = l.len
  | .nil, cs, x, h => by
    unfold ShL.dec at h
    split at h
    · rfl
    · cases h
  | .cons s l, cs, x, h => by
    unfold ShL.dec at h
    split at h
    · rename_i v r
      split at h
      · split at h
        · rename_i y1 h2
          simp only [List.length_cons, ShL.len, ShL.dec_len l r y1 h2]
        · cases h
      · cases h
    · cases h

/-- What the shape's objects are, beside the old ones. -/
structure Same (ρ : Rho) (H H' : List TOb) : Prop where
  sz : ∀ i tg, ρ[i]? = some (some tg) → szAt H' i = szAt H tg ∧ nAt H' i = nAt H tg
  nil : ∀ i, ρ[i]? = some none → nAt H' i = 0

section
variable {w : World} {B : Nat} {σ : Tags} {H H' : List TOb} {ρ : Rho}

theorem frOk_at {fr fr' : Bool} (h : frOk fr fr' = true) : fr = true → fr' = true := by
  intro e; subst e; simpa [frOk] using h

/-- Data hold no tags. -/
theorem ro_keep {fr : Bool} {sz n : Nat} {cs : Nat → Nat → AV} {u : Value} {E E' : Nat → Prop} (hE : ∀ b, E' b → E b) {τ τ' : Tags} (h : VX w E B (.ro fr sz n cs) τ u) : VX w E' B (.ro fr sz n cs) τ' u :=
  VX.exMono hE (.ro fr sz n cs) τ' u h

mutual
theorem Ty.av_closed (fr : Bool) : ∀ (t : Ty) (x : t.den) (f : Nat) {E : Nat → Prop} {τ : Tags} {u : Value}, VX w E B (t.av fr x f) τ u → VX w E B (t.av fr x f) [] u
  | .int _, _, _, _, _, _, h => h
  | .bool, _, _, _, _, _, h => h
  | .str, _, _, _, _, _, h => h
  | .slice _, _, _, _, _, _, h => h
  | .struct l, x, f, _, _, _, h => TyL.av_closed fr l x f h
theorem TyL.av_closed (fr : Bool) : ∀ (l : TyL) (x : l.den) (f : Nat) {E : Nat → Prop} {τ : Tags} {u : Value}, VX w E B (l.av fr x f) τ u → VX w E B (l.av fr x f) [] u
  | .nil, _, _, _, _, _, h => h
  | .cons t l, x, f, _, _, _, h => by
    unfold TyL.av at h ⊢
    split
    · rename_i hf; rw [if_pos hf] at h; exact Ty.av_closed fr t _ _ h
    · rename_i hf; rw [if_neg hf] at h; exact TyL.av_closed fr l _ _ h
end

theorem decSl_ok (hH : Heaps w B σ (H.map (encO H))) (hnew : ∀ g, Owned σ g → B ≤ g) {fr : Bool} {t : Ty} {v : TV} {xs : List t.den} (h : decSl ρ H fr t v = some xs) {u : Value} (hv : V w B σ (encV H v) σ u) :
    V w B (newTags ρ σ) (.ro fr t.sz xs.length (fun i f => t.av fr (xs.getD i t.dft) f)) (newTags ρ σ) u := by
  unfold decSl at h
  split at h
  · rename_i fr' t' ys
    split at h
    · rename_i he _
      subst he
      obtain ⟨h1, h2⟩ := bif_some h
      cases h2
      have := ALe.ro (frOk_at h1) (fun i f _ _ => Ty.av_mono (frOk_at h1) t' _ f) _ _ _ _ _ hv
      exact ro_keep (fun b => owned_new) this
    · cases h
  · cases h
    exact ro_keep (fun b => owned_new) (ALe.nil fr t.sz (fun i f => t.av fr (([] : List t.den).getD i t.dft) f) _ _ _ _ _ hv)
  · rename_i tg
    split at h
    · rename_i ty fr' t' ys ho
      split at h
      · rename_i he _
        subst he
        obtain ⟨h1, h2⟩ := bif_some h
        cases h2
        simp only [Bool.and_eq_true] at h1
        obtain ⟨hfr, hno⟩ := h1
        have hno' : rhoHas tg ρ = false := by simpa using hno
        simp only [encV, szAt_of ho, nAt_of ho] at hv
        show VX w _ B (.ro fr t'.sz ys.length _) _ u
        rcases hv with ⟨h0, rfl⟩ | ⟨g, c, cur, e, hg, rfl, hn, hc, hcell, hsz⟩
        · have h0' : ys.length = 0 := h0
          refine ⟨none, 0, by rw [h0'], by omega, Nat.zero_le _, fun hp => by omega⟩
        · refine ⟨_, c, rfl, hn, hc, fun hp => ⟨g, 0, rfl, hH.blk_lt hg, fun hE => ?_, fun _ => hnew g (mem_tags.2 ⟨tg, hg⟩), fun i f hi hf => ?_⟩⟩
          · obtain ⟨t, ht⟩ := mem_tags.1 hE
            obtain ⟨tg', h3, h4⟩ := newTags_at ht
            have := hH.inj _ _ _ h4 hg
            subst this
            rw [rhoHas_at h3] at hno'
            cases hno'
          · obtain ⟨g', hg', hob⟩ := hH.obj tg (encO H (.arr ty fr' t' ys)) (by rw [List.getElem?_map, ho]; rfl)
            rw [hg] at hg'
            cases hg'
            obtain ⟨cur', hc', _, hcells⟩ := hob
            obtain ⟨x, hx, h1x, hV⟩ := hcells i f hi hf
            refine ⟨x, ?_, h1x, ?_⟩
            · rw [Nat.zero_add, cell_of_row _ _ _ cur' ty (0, 0) hc']
              exact hx
            · have := Ty.av_mono (frOk_at hfr) t' (ys.getD i t'.dft) f _ _ _ _ _ hV
              exact VX.exMono (fun b => owned_new) _ _ _ (Ty.av_closed fr t' _ f this)
      · cases h
    · cases h
  · cases h

theorem rptr_mono {sz n : Nat} {cs cs' : Nat → Nat → AV} {i f : Nat} (h : ∀ i f, i < n → f < sz → ALe (cs i f) (cs' i f)) : ALe (.rptr sz n cs i f) (.rptr sz n cs' i f) := by
  rintro w E B τ v ⟨b, o, hv, hb, hE, hcell⟩
  refine ⟨b, o, hv, hb, hE, fun i f hi hf => ?_⟩
  obtain ⟨u, hu, h1, hV⟩ := hcell i f hi hf
  exact ⟨u, hu, h1, h i f hi hf _ _ _ _ _ hV⟩

theorem decRp_ok {fr : Bool} {t : Ty} {v : TV} {x : t.den} (h : decRp fr t v = some x) {u : Value} (hv : V w B σ (encV H v) σ u) :
    V w B (newTags ρ σ) (encV H' (.rptr fr t [x] (.ofNat 0) 0)) (newTags ρ σ) u := by
  unfold decRp at h
  split at h
  · rename_i fr' t' x'
    split at h
    · rename_i he _
      subst he
      obtain ⟨h1, h2⟩ := bif_some h
      cases h2
      have := rptr_mono (fun i f _ _ => Ty.av_mono (frOk_at h1) t' _ f) _ _ _ _ _ hv
      exact VX.exMono (fun b => owned_new) (encV H' (.rptr fr t' [x'] (.ofNat 0) 0)) _ u this
    · cases h
  · cases h

mutual
theorem Sh.dec_ok (hH : Heaps w B σ (H.map (encO H))) (hnew : ∀ g, Owned σ g → B ≤ g) (hs : Same ρ H H') : ∀ (s : Sh) (v : TV) (x : s.den), s.dec ρ H v = some x → ∀ u, V w B σ (encV H v) σ u → V w B (newTags ρ σ) (encV H' (s.enc x)) (newTags ρ σ) u
  | .int k, v, x, h, u, hv => by
    unfold Sh.dec at h
    split at h
    · split at h
      · rename_i hk; subst hk; cases h; exact hv
      · cases h
    · cases h
  | .bool, v, x, h, u, hv => by
    unfold Sh.dec at h
    split at h
    · cases h; exact hv
    · cases h
  | .str, v, x, h, u, hv => by
    unfold Sh.dec at h
    split at h
    · cases h; exact hv
    · cases h
  | .sl fr t, v, x, h, u, hv => by
    unfold Sh.dec at h
    exact decSl_ok hH hnew h hv
  | .rp fr t, v, x, h, u, hv => by
    unfold Sh.dec at h
    exact decRp_ok h hv
  | .own i, v, x, h, u, hv => by
    unfold Sh.dec at h
    unfold Sh.enc
    split at h
    · rename_i tg
      split at h
      · rename_i t ht
        obtain ⟨h1, _⟩ := bif_some h
        have := beq_eq h1
        subst this
        simp only [encV] at hv ⊢
        rw [(hs.sz i t ht).1, (hs.sz i t ht).2]
        rcases hv with hv | ⟨g, c, cur, e, hg, hv⟩
        · exact .inl hv
        · exact .inr ⟨g, c, cur, e, newTags_of ht hg, hv⟩
      · cases h
    · split at h
      · rename_i hi
        simp only [encV] at hv ⊢
        rw [hs.nil i hi]
        exact .inl ⟨rfl, hv⟩
      · cases h
    · cases h
  | .ptr i, v, x, h, u, hv => by
    unfold Sh.dec at h
    unfold Sh.enc
    split at h
    · rename_i tg
      split at h
      · rename_i t ht
        obtain ⟨h1, _⟩ := bif_some h
        have := beq_eq h1
        subst this
        simp only [encV] at hv ⊢
        rw [(hs.sz i t ht).1]
        obtain ⟨g, hg, hv⟩ := hv
        exact ⟨g, newTags_of ht hg, hv⟩
      · cases h
    · cases h
  | .fn f l, v, x, h, u, hv => by
    unfold Sh.dec at h
    unfold Sh.enc
    split at h
    · rename_i f' cs
      obtain ⟨h1, h2⟩ := bif_some h
      have := beq_eq h1
      subst this
      have hl := ShL.dec_len l cs x h2
      simp only [encV] at hv ⊢
      obtain ⟨l1, e1, e2, e3⟩ := hv
      refine ⟨l1, e1, e2.trans (hl.trans (ShL.enc_len l x).symm), fun j hj => ?_⟩
      have hj := Nat.lt_of_lt_of_eq hj ((ShL.enc_len l x).trans hl.symm)
      obtain ⟨u', hu', hV⟩ := e3 j hj
      exact ⟨u', hu', ShL.dec_ok hH hnew hs l cs x h2 j u' hV⟩
    · cases h
  | .agg l, v, x, h, u, hv => by
    have hcs : ∃ cs, v = .agg cs ∧ l.dec ρ H cs = some x := by
      cases v <;> first | exact ⟨_, rfl, h⟩ | exact absurd (show (none : Option l.den) = some x from h) (by intro e; cases e)
    obtain ⟨cs, rfl, h⟩ := hcs
    unfold Sh.enc
    have hl := ShL.dec_len l cs x h
    simp only [encV] at hv ⊢
    obtain ⟨l1, e1, e2, e3⟩ := hv
    refine ⟨l1, e1, e2.trans (hl.trans (ShL.enc_len l x).symm), fun j hj => ?_⟩
    have hj := Nat.lt_of_lt_of_eq hj ((ShL.enc_len l x).trans hl.symm)
    obtain ⟨u', hu', h1', hV⟩ := e3 j hj
    exact ⟨u', hu', h1', ShL.dec_ok hH hnew hs l cs x h j u' hV⟩
theorem ShL.dec_ok (hH : Heaps w B σ (H.map (encO H))) (hnew : ∀ g, Owned σ g → B ≤ g) (hs : Same ρ H H') : ∀ (l : ShL) (cs : List TV) (x : l.den), l.dec ρ H cs = some x → ∀ (j : Nat) u, V w B σ ((encL H cs).getD j .any) σ u → V w B (newTags ρ σ) ((encL H' (l.enc x)).getD j .any) (newTags ρ σ) u
  | .nil, cs, x, h, j, u, hv => by
    unfold ShL.dec at h
    split at h
    · simp only [ShL.enc, encL, List.getD_nil]; trivial
    · cases h
  | .cons s l, cs, x, h, j, u, hv => by
    unfold ShL.dec at h
    split at h
    · rename_i v r
      split at h
      · rename_i x1 h1
        split at h
        · rename_i y1 h2
          cases h
          simp only [ShL.enc, encL] at hv ⊢
          cases j with
          | zero => simpa using Sh.dec_ok hH hnew hs s v x1 h1 u (by simpa using hv)
          | succ j => simpa using ShL.dec_ok hH hnew hs l r y1 h2 j u (by simpa using hv)
        · cases h
      · cases h
    · cases h
end

theorem hpDec_at {s : TS} : ∀ (os : Rho) (l : List Hs) (y : hpDen l), hpDec ρ s os l = some y → os.length = l.length ∧ (hpEnc l y).length = l.length ∧ ∀ (i : Nat) o, os[i]? = some o → ∃ (hs : Hs) (xi : hs.den), hs.dec ρ s.H o = some xi ∧ (hpEnc l y)[i]? = some (hs.enc xi)
  | [], [], y, _ => ⟨rfl, rfl, fun i o h => by simp at h⟩
  | [], _ :: _, y, h => by simp [hpDec] at h
  | _ :: _, [], y, h => by simp [hpDec] at h
  | o :: os, p :: l, y, h => by
    unfold hpDec at h
    split at h
    · rename_i x1 h1
      split at h
      · rename_i y1 h2
        cases h
        obtain ⟨e1, e2, e3⟩ := hpDec_at os l y1 h2
        refine ⟨by simp [e1], by simp [hpEnc, e2], fun i o' ho' => ?_⟩
        cases i with
        | zero => simp at ho'; subst ho'; exact ⟨p, x1, h1, rfl⟩
        | succ i => obtain ⟨hs, xi, a1, a2⟩ := e3 i o' (by simpa using ho'); exact ⟨hs, xi, a1, by simpa [hpEnc] using a2⟩
      · cases h
    · cases h

theorem slDec_at {s : TS} : ∀ (l : List (Nat × Sh)) (x : slDen l), slDec ρ s l = some x → ∀ t, getS (slEnc l x) t = .any ∨ ∃ (sh : Sh) (xi : sh.den), sh.dec ρ s.H (getS s.S t) = some xi ∧ getS (slEnc l x) t = sh.enc xi
  | [], _, _, t => .inl rfl
  | p :: l, x, h, t => by
    unfold slDec at h
    split at h
    · rename_i x1 h1
      split at h
      · rename_i y1 h2
        cases h
        simp only [slEnc]
        rw [getS_put]
        by_cases he : p.1 = t
        · subst he
          rw [if_pos rfl]
          exact .inr ⟨p.2, x1, h1, rfl⟩
        · rw [if_neg he]
          exact slDec_at l y1 h2 t
      · cases h
    · cases h

theorem Hs.dec_sz {hs : Hs} {o : Option Nat} {xi : hs.den} (h : hs.dec ρ H o = some xi) : match o with | some tg => (hs.enc xi).sz = szAt H tg ∧ (hs.enc xi).n = nAt H tg | none => (hs.enc xi).n = 0 := by
  cases hs with
  | arr ty fr t =>
    cases o with
    | none =>
      have h : some ([] : List t.den) = some xi := h
      cases h
      rfl
    | some tg =>
      simp only [Hs.dec] at h
      split at h
      · rename_i ho
        split at h
        · rename_i he _
          subst he
          obtain ⟨_, h2⟩ := bif_some h
          cases h2
          simp only [szAt_of ho, nAt_of ho]
          exact ⟨rfl, rfl⟩
        · cases h
      · cases h
  | box ty l =>
    cases o with
    | none => simp only [Hs.dec] at h; cases h
    | some tg =>
      simp only [Hs.dec] at h
      split at h
      · rename_i ty' cs ho
        obtain ⟨_, h2⟩ := bif_some h
        simp only [szAt_of ho, nAt_of ho]
        refine ⟨?_, rfl⟩
        show (ShL.enc _ xi).length = cs.length
        exact (ShL.enc_len _ xi).trans (ShL.dec_len _ cs xi h2).symm
      · cases h

theorem hpDec_same {s : TS} {l : List Hs} {y : hpDen l} (h : hpDec ρ s ρ l = some y) : Same ρ s.H (hpEnc l y) := by
  obtain ⟨_, _, h3⟩ := hpDec_at ρ l y h
  constructor
  · intro i tg hi
    obtain ⟨hs, xi, a1, a2⟩ := h3 i _ hi
    have := Hs.dec_sz a1
    rw [szAt_of a2, nAt_of a2]
    exact this
  · intro i hi
    obtain ⟨hs, xi, a1, a2⟩ := h3 i _ hi
    have := Hs.dec_sz a1
    rw [nAt_of a2]
    exact this

theorem Hs.dec_ok (hH : Heaps w B σ (H.map (encO H))) (hnew : ∀ g, Owned σ g → B ≤ g) (hsame : Same ρ H H') {hs : Hs} {o : Option Nat} {xi : hs.den} (h : hs.dec ρ H o = some xi) :
    match o with | some tg => ∀ g, σ[tg]? = some g → HObj w B (newTags ρ σ) (encO H' (hs.enc xi)) g | none => HObj w B (newTags ρ σ) (encO H' (hs.enc xi)) none := by
  cases hs with
  | arr ty fr t =>
    cases o with
    | none =>
      have h : some ([] : List t.den) = some xi := h
      cases h
      rfl
    | some tg =>
      simp only [Hs.dec] at h
      split at h
      · rename_i ty' fr' t' ys ho
        split at h
        · rename_i he _
          subst he
          obtain ⟨h1, h2⟩ := bif_some h
          cases h2
          rw [Bool.and_eq_true] at h1
          have hty := beq_eq h1.1
          subst hty
          intro g hg
          obtain ⟨g', hg', hob⟩ := hH.obj tg (encO H (.arr ty' fr' t' ys)) (by rw [List.getElem?_map, ho]; rfl)
          rw [hg] at hg'
          cases hg'
          cases g with
          | none => exact hob
          | some k =>
            obtain ⟨cur, hc, hle, hcell⟩ := hob
            refine ⟨cur, hc, hle, fun i f hi hf => ?_⟩
            obtain ⟨u, hu, h1u, hV⟩ := hcell i f hi hf
            refine ⟨u, hu, h1u, ?_⟩
            have := Ty.av_mono (frOk_at h1.2) t' (ys.getD i t'.dft) f _ _ _ _ _ hV
            exact VX.closed _ _ _ (VX.exMono (fun b => owned_new) _ _ _ (Ty.av_closed _ t' _ f this))
        · cases h
      · cases h
  | box ty l =>
    cases o with
    | none => simp only [Hs.dec] at h; cases h
    | some tg =>
      simp only [Hs.dec] at h
      split at h
      · rename_i ty' cs ho
        obtain ⟨h1, h2⟩ := bif_some h
        have hty := beq_eq h1
        subst hty
        intro g hg
        obtain ⟨g', hg', hob⟩ := hH.obj tg (encO H (.box ty' cs)) (by rw [List.getElem?_map, ho]; rfl)
        rw [hg] at hg'
        cases hg'
        have hll : (ShL.enc l xi).length = cs.length := (ShL.enc_len l xi).trans (ShL.dec_len l cs xi h2).symm
        cases g with
        | none => exact hob
        | some k =>
          obtain ⟨cur, hc, hle, hcell⟩ := hob
          refine ⟨cur, hc, ?_, fun i f hi hf => ?_⟩
          · show 1 * (ShL.enc l xi).length ≤ cur.size
            rw [hll]; exact hle
          · have hi0 : i = 0 := by
              have : i < 1 := hi
              omega
            subst hi0
            have hf' : f < cs.length := Nat.lt_of_lt_of_eq hf hll
            obtain ⟨u, hu, h1u, hV⟩ := hcell 0 f (by show 0 < 1; omega) hf'
            refine ⟨u, by simpa using hu, h1u, ?_⟩
            show V w B (newTags ρ σ) (encV H' ((ShL.enc l xi).getD f .any)) (newTags ρ σ) u
            rw [← encL_getD]
            refine ShL.dec_ok hH hnew hsame l cs xi h2 f u ?_
            rw [encL_getD]
            exact hV
      · cases h

end

/-- A state is told by its shape. -/
theorem Shp.decR_le {N : Nat} {h : Shp} {s : TS} {ρ : Rho} {x : h.den} (hd : h.decR s ρ = some x) : SLe (encS N s) (encS N (h.enc x)) := by
  unfold Shp.decR at hd
  obtain ⟨hok, hd⟩ := bif_some hd
  split at hd
  · rename_i xs hxs
    split at hd
    · rename_i ys hys
      cases hd
      intro w0 a w σ hr
      have hH : Heaps w w0.heap.size σ (s.H.map (encO s.H)) := hr.heaps
      have hnew : ∀ g, Owned σ g → w0.heap.size ≤ g := hr.own_new
      have hsame := hpDec_same hys
      obtain ⟨l1, l2, l3⟩ := hpDec_at ρ h.hp ys hys
      refine ⟨newTags ρ σ, hr.defers, by simp [encS]; simpa [encS] using hr.len, fun t A hA => ?_, ⟨?_, ?_, ?_⟩, ?_⟩
      · rw [slots_at] at hA
        split at hA
        · rename_i ht
          injection hA with hA
          subst hA
          obtain ⟨v, hv, hV⟩ := hr.slot t _ (by rw [slots_at, if_pos ht])
          refine ⟨v, hv, ?_⟩
          simp only [Shp.enc]
          rcases slDec_at h.sl xs hxs t with e | ⟨sh, xi, e1, e2⟩
          · rw [e]; trivial
          · rw [e2]
            exact Sh.dec_ok hH hnew hsame sh _ xi e1 v hV
        · cases hA
      · simp [newTags, encS, Shp.enc, l1, l2]
      · intro t t' g h1 h2
        obtain ⟨tg, a1, a2⟩ := newTags_at h1
        obtain ⟨tg', b1, b2⟩ := newTags_at h2
        have := hH.inj _ _ _ a2 b2
        subst this
        exact rhoOk_inj hok a1 b1
      · intro i o ho
        simp only [encS, Shp.enc, List.getElem?_map] at ho
        have hi : i < ρ.length := by
          rcases Nat.lt_or_ge i ρ.length with h' | h'
          · exact h'
          · rw [List.getElem?_eq_none (by omega)] at ho; cases ho
        obtain ⟨oi, hoi⟩ : ∃ oi, ρ[i]? = some oi := ⟨_, List.getElem?_eq_getElem hi⟩
        obtain ⟨hs, xi, a1, a2⟩ := l3 i oi hoi
        rw [a2] at ho
        simp only [Option.map_some, Option.some.injEq] at ho
        subst ho
        have key := Hs.dec_ok hH hnew hsame a1
        have hnt : (newTags ρ σ)[i]? = some (tagOr σ oi) := by
          unfold newTags
          rw [List.getElem?_map, hoi]
          rfl
        refine ⟨_, hnt, ?_⟩
        cases oi with
        | none => exact key
        | some tg =>
          simp only [tagOr] at key ⊢
          cases hg : σ[tg]? with
          | none =>
            exfalso
            have htg : tg < s.H.length := by
              rcases Nat.lt_or_ge tg s.H.length with h' | h'
              · exact h'
              · exfalso
                have hno : s.H[tg]? = none := List.getElem?_eq_none h'
                cases hs with
                | arr ty fr t => simp only [Hs.dec, hno] at a1; cases a1
                | box ty l => simp only [Hs.dec, hno] at a1; cases a1
            rw [List.getElem?_eq_none_iff] at hg
            have := hH.len
            simp at this
            omega
          | some g => exact key g hg
      · obtain ⟨a1, a2, a3, a4, a5, a6, a7⟩ := hr.since
        refine ⟨a1, a2, a3, a4, a5, fun t ht => by simp at ht, fun t g _ hg => ?_⟩
        obtain ⟨tg, _, h2⟩ := newTags_at hg
        exact a7 tg g (Nat.zero_le _) h2
    · cases hd
  · cases hd

theorem Shp.dec_le {N : Nat} {h : Shp} {s : TS} {x : h.den} (hd : h.dec s = some x) : SLe (encS N s) (encS N (h.enc x)) := Shp.decR_le hd

end Go.T
