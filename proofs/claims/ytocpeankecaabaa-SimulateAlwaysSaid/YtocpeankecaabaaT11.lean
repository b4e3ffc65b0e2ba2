/-
  Contracts of functions, out of the typed machine. No program is named.
-/
import Derived.Test.YtocpeankecaabaaT10
set_option linter.all false
namespace Go.T
open Go.Abs Go.M Go.RowKit

theorem decVal_ok {t : Ty} {v : TV} {x : t.den} (h : decVal t v = some x) : ALe (encV [] v) (encV [] (valOf t x)) := by
  unfold decVal at h
  split at h
  · rename_i l cs
    split at h
    · rename_i x' hp
      cases h
      obtain ⟨h1, h2⟩ := Ty.pack1_av (H := []) (fr := true) hp id
      have hl : (l.cells true x).length = cs.length := (TyL.cells_len true l x).trans h1.symm
      unfold valOf
      simp only [encV]
      rw [hl]
      refine ALe.agg fun j hj => ?_
      rw [encL_getD, encL_getD]
      have hj' : j < l.sz := by
        have : cs.length = l.sz := h1
        omega
      have := TyL.cells_av [] true l x j hj'
      rw [this]
      exact h2 j hj'
    · cases h
  · cases h
  · rename_i hns2 hns
    split at h
    · rename_i x' hp
      cases h
      obtain ⟨h1, h2⟩ := Ty.pack1_av (H := []) (fr := true) hp id
      have h3 := h2 0 (by rw [← h1]; simp)
      cases t with
      | int k => exact h3
      | bool => exact h3
      | str => exact h3
      | slice t => exact h3
      | struct l =>
        first
        | exact absurd rfl (hns l)
        | exact absurd rfl (hns2 l)
        | (exfalso; simp at hns)
        | (exfalso; simp at hns2)
    · cases h

theorem valOf_fresh (t : Ty) (x : t.den) : AllFresh (encV [] (valOf t x)) := by
  cases t with
  | int k => trivial
  | bool => trivial
  | str => trivial
  | slice t => exact Ty.av_allFresh (.slice t) x 0
  | struct l =>
    intro j hj
    show AllFresh ((encL [] (TyL.cells true l x)).getD j .any)
    have hl := TyL.cells_len true l x
    have hj' : j < (TyL.cells true l x).length := hj
    rw [encL_getD, TyL.cells_av [] true l x j (by omega)]
    exact TyL.av_allFresh l x j

theorem PureL_app : ∀ {l m : List TV}, PureL l → PureL m → PureL (l ++ m)
  | [], _, _, h => h
  | _ :: _, _, h, h' => ⟨h.1, PureL_app h.2 h'⟩
mutual
theorem Ty.cells_pure (fr : Bool) : ∀ (t : Ty) (x : t.den), PureL (t.cells fr x)
  | .int _, _ => ⟨trivial, trivial⟩
  | .bool, _ => ⟨trivial, trivial⟩
  | .str, _ => ⟨trivial, trivial⟩
  | .slice _, _ => ⟨trivial, trivial⟩
  | .struct l, x => TyL.cells_pure fr l x
theorem TyL.cells_pure (fr : Bool) : ∀ (l : TyL) (x : l.den), PureL (l.cells fr x)
  | .nil, _ => trivial
  | .cons t l, x => PureL_app (Ty.cells_pure fr t x.1) (TyL.cells_pure fr l x.2)
end
theorem valOf_pure (t : Ty) (x : t.den) : Pure (valOf t x) := by
  cases t with
  | int k => trivial
  | bool => trivial
  | str => trivial
  | slice t => trivial
  | struct l => exact TyL.cells_pure true l x

theorem RL.vals_pure : ∀ (l : List Ty) (x : RL.den l), PureL (RL.vals l x)
  | [], _ => trivial
  | [t], x => ⟨valOf_pure t x, trivial⟩
  | t :: u :: l, x => ⟨valOf_pure t x.1, RL.vals_pure (u :: l) x.2⟩
theorem RL.vals_fresh : ∀ (l : List Ty) (x : RL.den l), ∀ A ∈ encL [] (RL.vals l x), AllFresh A
  | [], _, A, h => by simp [RL.vals, encL] at h
  | [t], x, A, h => by
    simp only [RL.vals, encL, List.mem_singleton] at h
    subst h
    exact valOf_fresh t x
  | t :: u :: l, x, A, h => by
    simp only [RL.vals, encL] at h
    rcases List.mem_cons.1 h with rfl | h
    · exact valOf_fresh t x.1
    · exact RL.vals_fresh (u :: l) x.2 A h
theorem RL.res_pure (l : List Ty) (x : RL.den l) : Pure (RL.res l x) := by
  have := RL.vals_pure l x
  unfold RL.res
  split
  · rename_i v hv
    rw [hv] at this
    exact this.1
  · exact this
theorem RL.res_enc (l : List Ty) (x : RL.den l) : resA (encL [] (RL.vals l x)) = encV [] (RL.res l x) := by
  unfold RL.res
  split
  · rename_i v hv
    rw [hv]
    rfl
  · rename_i hne
    generalize RL.vals l x = vs at *
    cases vs with
    | nil => rfl
    | cons v vs =>
      cases vs with
      | nil => exact absurd rfl (hne v)
      | cons v2 vs => simp only [encL, resA, encV, encL_len, List.length_cons]

section
variable {P : Program} {tt : TT}

theorem resVal_ok {N : Nat} {s : TS} {r : ResultVar} {v : TV} (h : resVal N tt s r = some v) {A' : AV} (hA : ALe (encV [] v) A') {rs : List ResultVar} {l : List AV} (hr : resSub tt (encS N s).heap (encS N s).slots rs l) :
    resSub tt (encS N s).heap (encS N s).slots (r :: rs) (A' :: l) := by
  cases r with
  | tmp t =>
    simp only [resVal, Option.some.injEq] at h
    subst h
    refine ⟨?_, hr⟩
    rw [rd_enc]
    exact Sub.ale (frz_sub tt s.H _) hA
  | cell a t =>
    simp only [resVal] at h
    split at h
    · rename_i v0 hl
      cases h
      refine ⟨?_, hr⟩
      obtain ⟨C, A, e1, h1⟩ := loadT_meets tt s.H t _ _ _ hl
      obtain ⟨hC, hle⟩ := h1 allT_nil
      rw [rd_enc]
      have e1' : loadV tt (encS N s).heap t (encV s.H (rd N s.S a)) = some (C, A) := e1
      rw [e1']
      refine ⟨hC, fun w B σ v hH hσ hv => hA _ _ _ _ _ (frz_sub tt s.H v0 w B σ v hH hσ (hle _ _ _ _ _ hv))⟩
    · cases h

theorem resDec_ok {N : Nat} {s : TS} : ∀ (rs : List ResultVar) (ts : List Ty) (b : RL.den ts), resDec N tt rs ts s = some b → resSub tt (encS N s).heap (encS N s).slots rs (encL [] (RL.vals ts b))
  | [], [], b, h => trivial
  | [r], [t], b, h => by
    unfold resDec at h
    split at h
    · rename_i v hv
      exact resVal_ok hv (decVal_ok h) trivial
    · cases h
  | r :: r2 :: rs, t :: u :: l, b, h => by
    unfold resDec at h
    split at h
    · rename_i v hv
      split at h
      · rename_i x hx
        split at h
        · rename_i y hy
          cases h
          exact resVal_ok hv (decVal_ok hx) (resDec_ok (r2 :: rs) (u :: l) y hy)
        · cases h
      · cases h
    · cases h
  | [], _ :: _, b, h => by simp [resDec] at h
  | _ :: _, [], b, h => by simp [resDec] at h
  | [_], _ :: _ :: _, b, h => by simp [resDec] at h
  | _ :: _ :: _, [_], b, h => by simp [resDec] at h

theorem Ret.weaken {fn : Func} {post : List AObj → AV → Prop} {s s' : AS} (h : SLe s s') (hr : Ret P fn post s') : Ret P fn post s := by
  intro w0 a w σ hrel
  obtain ⟨σ', h'⟩ := h _ _ _ _ hrel
  exact hr w0 a w σ' h'

def enumS : Nat → List TV → List (Nat × TV)
  | _, [] => []
  | k, v :: l => (k, v) :: enumS (k + 1) l

theorem getS_enum : ∀ (l : List TV) (k t : Nat), getS (enumS k l) t = if k ≤ t then l.getD (t - k) .any else .any
  | [], k, t => by simp [enumS, getS]
  | v :: l, k, t => by
    simp only [enumS]
    rw [getS_put, getS_enum l (k + 1) t]
    by_cases h : k = t
    · subst h; simp
    · rw [if_neg h]
      by_cases h2 : k ≤ t
      · rw [if_pos h2, if_pos (by omega), show t - k = (t - (k + 1)) + 1 by omega, List.getD_cons_succ]
      · rw [if_neg h2, if_neg (by omega)]

theorem init_le {N : Nat} {vs : List TV} (h : vs.length ≤ N) : SLe ⟨encL [] vs ++ List.replicate (N - (encL [] vs).length) .any, []⟩ (encS N ⟨enumS 0 vs, []⟩) := by
  refine SLe.ofALe (by simp [encS, encL_len]; omega) (fun t A' hA' => ?_) rfl (fun t o ho => by simp [encS] at ho)
  rw [slots_at] at hA'
  split at hA'
  · rename_i ht
    injection hA' with hA'
    subst hA'
    simp only []
    rw [getS_enum, if_pos (Nat.zero_le _), Nat.sub_zero]
    rcases Nat.lt_or_ge t vs.length with hlt | hge
    · refine ⟨encV [] (vs.getD t .any), ?_, ALe.refl _⟩
      rw [List.getElem?_append_left (by rw [encL_len]; exact hlt), encL_map, List.getElem?_map, List.getElem?_eq_getElem hlt]
      simp [List.getD_eq_getElem?_getD, hlt]
    · refine ⟨.any, ?_, ?_⟩
      · rw [List.getElem?_append_right (by rw [encL_len]; exact hge), encL_len, List.getElem?_replicate, if_pos (by omega)]
      · rw [List.getD_eq_getElem?_getD, List.getElem?_eq_none hge]
        exact ALe.refl _
  · cases hA'

def ArL.len : ArL → Nat
  | .nil => 0
  | .cons _ l => l.len + 1
theorem ArL.enc_len : ∀ (l : ArL) (x : l.den), (l.enc x).length = l.len
  | .nil, _ => rfl
  | .cons s l, x => by simp [ArL.enc, ArL.len, ArL.enc_len l x.2]

/-- A function's model, its arguments and results told by codes. -/
def mdlOf (ars : ArL) (ts : List Ty) (m : ars.den → Option (RL.den ts)) : Mdl := ⟨ars.den, RL.den ts, ars.dec, m, RL.dft ts, RL.res ts⟩

theorem fn_ok {f : FuncId} {fn : Func} {c : Code} (hf : P.funcs[f]? = some fn) (hname : (fn.name == "runtime.NumGoroutine") = false) (hb : fn.body = some c) {rs : List ResultVar} {ts : List Ty} {X : Ctx (RL.den ts)} (hN : fn.ntmps = X.N)
    (hrs : fn.results = rs.toArray) (hres : X.res = resDec X.N X.tt rs ts) (hΓ : CtxOK P X) (hF : Fits P X.tt) (hmix : P.follows .mixedOrders = true) {ann : Ann} (hs : ∀ p ∈ sums c ann, SummOK P X p.1 p.2) {ars : ArL} (har : ars.len ≤ X.N)
    {m : ars.den → Option (RL.den ts)} (hden : ∀ a, den X c ann ⟨enumS 0 (ars.enc a), []⟩ X.res (fun _ _ => none) some = m a) : MdlOK P f (mdlOf ars ts m) := by
  refine ⟨fun b => RL.res_pure ts b, fun args a b hdec hm => ⟨encL [] (ars.enc a), ArL.dec_ok ars args a hdec, ?_⟩⟩
  refine Con.of_body hf hname hb (fun A hA => ArL.noFresh ars a A hA) fun w0 => ?_
  rw [hN]
  refine SW.weaken (init_le (Nat.le_trans (Nat.le_of_eq (ArL.enc_len ars a)) har)) ?_
  have hd := hden a
  rw [show m a = some b from hm] at hd
  refine SW.mono ?_ (den_sound hΓ hF hmix w0 c ann _ _ _ _ hs hd)
  have done : ∀ s', X.res s' = some b → Ret P fn (isV (encV [] (RL.res ts b))) (encS X.N s') := by
    intro s' h
    rw [hres] at h
    exact Ret.of_sub hF rs hrs _ (resDec_ok rs ts b h) (RL.vals_fresh ts b) ⟨rfl, RL.res_enc ts b⟩
  intro e s1 hpost
  cases e with
  | normal =>
    obtain ⟨s', hle, hk⟩ := hpost
    exact Ret.weaken hle (done s' hk)
  | ret =>
    obtain ⟨s', x, hle, hx, hk⟩ := hpost
    cases hk
    exact Ret.weaken hle (done s' hx)
  | exit id =>
    obtain ⟨s', hle, hk⟩ := hpost
    cases hk
  | _ => exact hpost.elim

/-- The models of the functions that are called. -/
def gam : List (FuncId × Mdl) → FuncId → List Mdl
  | [], _ => []
  | p :: l, f => bif Nat.beq p.1 f then p.2 :: gam l f else gam l f

theorem gam_ok {l : List (FuncId × Mdl)} (h : ∀ p ∈ l, MdlOK P p.1 p.2) : ∀ f M, M ∈ gam l f → MdlOK P f M := by
  intro f M hM
  induction l with
  | nil => simp [gam] at hM
  | cons p l ih =>
    unfold gam at hM
    cases hb : Nat.beq p.1 f with
    | false => rw [hb] at hM; exact ih (fun q hq => h q (List.mem_cons_of_mem _ hq)) hM
    | true =>
      rw [hb] at hM
      rcases List.mem_cons.1 hM with rfl | hM
      · rw [← beq_eq hb]; exact h p (List.mem_cons_self ..)
      · exact ih (fun q hq => h q (List.mem_cons_of_mem _ hq)) hM

def AllM (P : Program) : List (FuncId × Mdl) → Prop
  | [] => True
  | p :: l => MdlOK P p.1 p.2 ∧ AllM P l
theorem AllM.all {P : Program} : ∀ {l : List (FuncId × Mdl)}, AllM P l → ∀ p ∈ l, MdlOK P p.1 p.2
  | [], _, p, hp => by simp at hp
  | q :: l, h, p, hp => by
    rcases List.mem_cons.1 hp with rfl | hp
    · exact h.1
    · exact AllM.all h.2 p hp

def AllS (P : Program) {Rf : Type} (X : Ctx Rf) : List (Nat × Code) → Prop
  | [] => True
  | p :: l => SummOK P X p.1 p.2 ∧ AllS P X l
theorem AllS.all {P : Program} {Rf : Type} {X : Ctx Rf} {c : Code} {ann : Ann} {l : List (Nat × Code)} (h : sums c ann = l) (hl : AllS P X l) : ∀ p ∈ sums c ann, SummOK P X p.1 p.2 := by
  rw [h]
  clear h
  induction l with
  | nil => intro p hp; simp at hp
  | cons q l ih =>
    intro p hp
    rcases List.mem_cons.1 hp with rfl | hp
    · exact hl.1
    · exact ih hl.2 p hp

/-- Summaries by number. -/
def lam {Rf : Type} : List (Summ Rf) → Nat → Option (Summ Rf)
  | [], _ => none
  | σ :: _, 0 => some σ
  | _ :: l, n + 1 => lam l n

end
end Go.T
