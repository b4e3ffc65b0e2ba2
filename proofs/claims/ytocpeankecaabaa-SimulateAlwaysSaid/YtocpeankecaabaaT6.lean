/-
  The typed machine's calls and regions agree with the abstract ones. No program is named.
-/
import Derived.Test.YtocpeankecaabaaT5
set_option linter.all false
namespace Go.T
open Go.Abs Go.M Go.RowKit

/-! ### What is handed on -/

def ALeL : List AV → List AV → Prop
  | [], [] => True
  | a :: l, b :: m => ALe a b ∧ ALeL l m
  | _, _ => False

mutual
/-- Values without tags. -/
def Pure : TV → Prop
  | .own _ => False
  | .ownS _ _ _ => False
  | .ptr _ _ _ => False
  | .fn _ cs => PureL cs
  | .agg cs => PureL cs
  | .tup cs => PureL cs
  | .cond _ a => Pure a
  | _ => True
def PureL : List TV → Prop
  | [] => True
  | v :: l => Pure v ∧ PureL l
end

mutual
theorem pure_enc (H H' : List TOb) : ∀ v : TV, Pure v → encV H v = encV H' v
  | .any, _ => rfl
  | .int _ _, _ => rfl
  | .bool _, _ => rfl
  | .val _, _ => rfl
  | .sl _ _ _, _ => rfl
  | .rptr _ _ _ _ _, _ => rfl
  | .own _, h => h.elim
  | .ownS _ _ _, h => h.elim
  | .ptr _ _ _, h => h.elim
  | .fn f cs, h => by simp only [encV, pure_encL H H' cs h]
  | .agg cs, h => by simp only [encV, pure_encL H H' cs h]
  | .tup cs, h => by simp only [encV, pure_encL H H' cs h]
  | .cond c a, h => by simp only [encV, pure_enc H H' a h]
theorem pure_encL (H H' : List TOb) : ∀ l : List TV, PureL l → encL H l = encL H' l
  | [], _ => rfl
  | v :: l, h => by simp only [encL, pure_enc H H' v h.1, pure_encL H H' l h.2]
end

theorem AV.shift_getD (d : Nat) {l : List AV} (h : ∀ A ∈ l, A.shift d = A) (j : Nat) : (l.getD j .any).shift d = l.getD j .any := by
  rw [List.getD_eq_getElem?_getD]
  cases hq : l[j]? with
  | none => rfl
  | some A => exact h A (List.mem_of_getElem? hq)

mutual
theorem pure_shift (H : List TOb) (d : Nat) : ∀ v : TV, Pure v → (encV H v).shift d = encV H v
  | .any, _ => rfl
  | .int _ _, _ => rfl
  | .bool _, _ => rfl
  | .val _, _ => rfl
  | .sl _ _ _, _ => rfl
  | .rptr _ _ _ _ _, _ => rfl
  | .own _, h => h.elim
  | .ownS _ _ _, h => h.elim
  | .ptr _ _ _, h => h.elim
  | .fn f cs, h => by simp only [encV, AV.shift, AV.shift_getD d (pure_shiftL H d cs h)]
  | .agg cs, h => by simp only [encV, AV.shift, AV.shift_getD d (pure_shiftL H d cs h)]
  | .tup cs, h => by simp only [encV, AV.shift, AV.shift_getD d (pure_shiftL H d cs h)]
  | .cond c a, h => by simp only [encV, AV.shift, pure_shift H d a h]
theorem pure_shiftL (H : List TOb) (d : Nat) : ∀ l : List TV, PureL l → ∀ A ∈ encL H l, A.shift d = A
  | [], _, A, hA => by simp [encL] at hA
  | v :: l, h, A, hA => by
    simp only [encL] at hA
    rcases List.mem_cons.1 hA with rfl | hA
    · exact pure_shift H d v h.1
    · exact pure_shiftL H d l h.2 A hA
end

/-- What a function's model is good for. -/
structure MdlOK (P : Program) (f : FuncId) (M : Mdl) : Prop where
  pure : ∀ b, Pure (M.res b)
  con : ∀ args a b, M.dec args = some a → M.m a = some b → ∃ args', ALeL (encL [] args) args' ∧ Con P f args' (isV (encV [] (M.res b)))

/-- A value without tags, told to whom owns nothing. -/
theorem Sub.ale {H : List AObj} {A A' A'' : AV} (h : Sub H A A') (k : ALe A' A'') : Sub H A A'' := fun w B σ v hH hσ hv => k _ _ _ _ _ (h w B σ v hH hσ hv)

theorem ro_sub {H : List AObj} {fr : Bool} {sz n : Nat} {cs : Nat → Nat → AV} : Sub H (.ro fr sz n cs) (.ro fr sz n cs) := Sub.ro id (fun _ _ _ _ => rfl)

mutual
theorem Ty.av_sub (H : List AObj) (fr : Bool) : ∀ (t : Ty) (x : t.den) (f : Nat), Sub H (t.av fr x f) (t.av fr x f)
  | .int _, _, _ => Sub.int _ _
  | .bool, _, _ => Sub.bool _
  | .str, _, _ => Sub.val _
  | .slice t, xs, _ => ro_sub
  | .struct l, x, f => TyL.av_sub H fr l x f
theorem TyL.av_sub (H : List AObj) (fr : Bool) : ∀ (l : TyL) (x : l.den) (f : Nat), Sub H (l.av fr x f) (l.av fr x f)
  | .nil, _, _ => Sub.any _
  | .cons t l, x, f => by
    unfold TyL.av
    split
    · exact Ty.av_sub H fr t _ _
    · exact TyL.av_sub H fr l _ _
end

theorem own_sub {H : List TOb} {t : Nat} {ty : TypeId} {fr : Bool} {u : Ty} {xs : List u.den} (ho : H[t]? = some (.arr ty fr u xs)) : Sub (H.map (encO H)) (encV H (.own t)) (encV [] (.sl fr u xs)) := by
  simp only [encV, szAt_of ho, nAt_of ho]
  refine Sub.own (o := encO H (.arr ty fr u xs)) (by rw [List.getElem?_map, ho]; rfl) rfl (Nat.le_refl _) fun i f _ _ => ?_
  exact Ty.av_sub _ _ _ _ _

theorem ownS_sub {H : List TOb} {t off n : Nat} {ty : TypeId} {fr : Bool} {u : Ty} {xs : List u.den} (ho : H[t]? = some (.arr ty fr u xs)) (hle : off + n ≤ xs.length) : Sub (H.map (encO H)) (encV H (.ownS t off n)) (encV [] (.sl fr u ((xs.drop off).take n))) := by
  simp only [encV, szAt_of ho]
  have hl : ((xs.drop off).take n).length = n := by simp; omega
  rw [hl]
  refine Sub.ownS (o := encO H (.arr ty fr u xs)) (by rw [List.getElem?_map, ho]; rfl) rfl hle fun i f hi _ => ?_
  have : ((xs.drop off).take n).getD i u.dft = xs.getD (off + i) u.dft := by simp [List.getD_eq_getElem?_getD, List.getElem?_take, hi]
  rw [this]
  exact Ty.av_sub _ _ _ _ _

theorem frz0_sub (H : List TOb) (v : TV) : Sub (H.map (encO H)) (encV H v) (encV [] (frz0 H v)) := by
  unfold frz0
  split
  · exact Sub.any _
  · exact Sub.any _
  · exact Sub.any _
  · exact Sub.any _
  · exact Sub.any _
  · exact Sub.any _
  · split
    · rename_i ho; exact own_sub ho
    · exact Sub.any _
  · cases v <;> first | exact Sub.any _ | exact Sub.int _ _ | exact Sub.bool _ | exact Sub.val _ | exact ro_sub | exact Sub.rptr (fun _ _ _ _ => rfl) | (exfalso; simp_all; done)

theorem frz0L_len (H : List TOb) : ∀ l, (frz0L H l).length = l.length
  | [] => rfl
  | v :: l => by simp [frz0L, frz0L_len H l]
theorem frz0L_getD (H : List TOb) : ∀ (l : List TV) (j : Nat), (frz0L H l).getD j .any = frz0 H (l.getD j .any)
  | [], j => by simp [frz0L, frz0]
  | v :: l, 0 => by simp [frz0L]
  | v :: l, j + 1 => by simpa [frz0L] using frz0L_getD H l j

theorem frzL_len (tt : TT) (H : List TOb) : ∀ l, (frzL tt H l).length = l.length
  | [] => rfl
  | v :: l => by simp [frzL, frzL_len tt H l]

mutual
theorem frz_sub (tt : TT) (H : List TOb) : ∀ v : TV, Sub (H.map (encO H)) (encV H v) (encV [] (frz tt H v))
  | .any => Sub.any _
  | .int _ _ => Sub.int _ _
  | .bool _ => Sub.bool _
  | .val _ => Sub.val _
  | .sl _ _ _ => ro_sub
  | .rptr _ _ _ _ _ => Sub.rptr (fun _ _ _ _ => rfl)
  | .own t => by
    unfold frz
    split
    · rename_i ho; exact own_sub ho
    · exact Sub.any _
  | .ownS _ _ _ => Sub.any _
  | .ptr t i f => by
    unfold frz
    split
    · rename_i ty fr u xs ho
      simp only [encV, szAt_of ho]
      exact Sub.ptr (o := encO H (.arr ty fr u xs)) (by rw [List.getElem?_map, ho]; rfl) rfl (Nat.le_refl _) fun i f _ _ => Ty.av_sub _ _ _ _ _
    · rename_i ty cs ho
      split
      · rename_i u hu
        split
        · rename_i x fr hp
          obtain ⟨h1, h2⟩ := Ty.pack1_av (H := []) (fr := fr) hp id
          rw [frz0L_len] at h1
          simp only [encV, szAt_of ho, TOb.sz, h1]
          refine Sub.ptr (o := encO H (.box ty cs)) (by rw [List.getElem?_map, ho]; rfl) h1 (Nat.le_refl _) fun i f hi hf => ?_
          obtain rfl : i = 0 := by simp at hi; omega
          have := h2 f hf
          rw [frz0L_getD] at this
          exact Sub.ale (frz0_sub H _) this
        · exact Sub.any _
      · exact Sub.any _
    · exact Sub.any _
  | .fn f cs => by
    simp only [encV, frz, frzL_len]
    exact Sub.fn fun j hj => frzL_sub tt H cs j
  | .agg cs => by
    simp only [encV, frz, frzL_len]
    exact Sub.agg fun j hj => frzL_sub tt H cs j
  | .tup cs => by
    simp only [encV, frz, frzL_len]
    exact Sub.tup fun j hj => frzL_sub tt H cs j
  | .cond _ _ => Sub.any _
theorem frzL_sub (tt : TT) (H : List TOb) : ∀ (l : List TV) (j : Nat), Sub (H.map (encO H)) ((encL H l).getD j .any) ((encL [] (frzL tt H l)).getD j .any)
  | [], j => by simp only [encL, frzL, List.getD_nil]; exact Sub.any _
  | v :: l, 0 => by simpa [encL, frzL] using frz_sub tt H v
  | v :: l, j + 1 => by simpa [encL, frzL] using frzL_sub tt H l j
end

theorem frzA_sub (tt : TT) (H : List TOb) (v : TV) (l : List TV) (hc : allT (frzC H (v :: l))) : Sub (H.map (encO H)) (encV H v) (encV [] (frzA tt H v)) ∧ allT (frzC H l) := by
  unfold frzC at hc
  split at hc
  · rename_i heq; cases heq
  · rename_i t off n l' heq
    cases heq
    obtain ⟨h1, h2⟩ := allT_cons.1 hc
    refine ⟨?_, h2⟩
    have e : frzA tt H (.ownS t off n) = match H[t]? with | some (.arr _ fr u xs) => .sl fr u ((xs.drop off).take n) | _ => .any := rfl
    rw [e]
    split at h1
    · rename_i ho
      simp only [ho]
      exact ownS_sub ho (by simpa using h1)
    · rename_i hno
      split
      · rename_i ho; exact absurd ho (hno _ _ _ _)
      · exact Sub.any _
  · rename_i x l' hne heq
    cases heq
    refine ⟨?_, hc⟩
    unfold frzA
    split
    · rename_i t off n
      exact absurd rfl (hne _ _ _)
    · exact frz_sub tt H _

theorem args_sub (tt : TT) (H : List TOb) : ∀ (l caps : List TV) (args' : List AV), allT (frzC H l) → ALeL (encL [] (frzAL tt H l ++ frzL tt H caps)) args' → SubL (H.map (encO H)) (encL H l ++ encL H caps) args'
  | [], [], [], _, _ => trivial
  | [], [], A :: args', _, h => h.elim
  | [], c :: caps, [], _, h => h.elim
  | [], c :: caps, A :: args', hc, h => by
    simp only [frzAL, frzL, List.nil_append, encL] at h ⊢
    exact ⟨Sub.ale (frz_sub tt H c) h.1, by simpa [encL] using args_sub tt H [] caps args' hc (by simpa [frzAL] using h.2)⟩
  | v :: l, caps, [], _, h => h.elim
  | v :: l, caps, A :: args', hc, h => by
    simp only [frzAL, List.cons_append, encL] at h ⊢
    obtain ⟨h1, h2⟩ := frzA_sub tt H v l hc
    exact ⟨Sub.ale h1 h.1, args_sub tt H l caps args' h2 h.2⟩

theorem range_getD (l : List AV) : (List.range l.length).map (fun j => l.getD j .any) = l := by
  apply List.ext_getElem?
  intro j
  rw [List.getElem?_map]
  by_cases h : j < l.length
  · rw [List.getElem?_range h]
    simp [List.getD_eq_getElem?_getD, h]
  · rw [List.getElem?_eq_none (by simpa using h), List.getElem?_eq_none (by omega)]
    rfl

section
variable {P : Program} {R Rf : Type}

def CtxOK (P : Program) (X : Ctx Rf) : Prop := ∀ f M, M ∈ X.Γ f → MdlOK P f M

theorem callM_ok {Γ : List Mdl} {f : FuncId} (hΓ : ∀ M ∈ Γ, MdlOK P f M) {args : List TV} {k : TV → Option R} {r : R} (h : callM Γ args k = some r) :
    ∃ v, Pure v ∧ k v = some r ∧ ∃ args', ALeL (encL [] args) args' ∧ Con P f args' (isV (encV [] v)) := by
  induction Γ with
  | nil => cases h
  | cons M Γ ih =>
    unfold callM at h
    split at h
    · rename_i a ha
      obtain ⟨b, hb, hk⟩ := bnd_some h
      have hM := hΓ M (List.mem_cons_self ..)
      exact ⟨M.res b, hM.pure b, hk, hM.con args a b ha hb⟩
    · exact ih (fun M' hM' => hΓ M' (List.mem_cons_of_mem _ hM')) h

theorem callG_ok {Γ : List Mdl} {f : FuncId} (hΓ : ∀ M ∈ Γ, MdlOK P f M) {g : Bool} {args : List TV} {k : TV → Option R} {r : R} (h : callG g Γ args k = some r) :
    ∃ v, Pure v ∧ k (.cond g v) = some r ∧ (g = true → ∃ args', ALeL (encL [] args) args' ∧ Con P f args' (isV (encV [] v))) := by
  induction Γ with
  | nil => cases h
  | cons M Γ ih =>
    unfold callG at h
    split at h
    · rename_i a ha
      obtain ⟨b, hb, hk⟩ := bnd_some h
      have hM := hΓ M (List.mem_cons_self ..)
      refine ⟨M.res b, hM.pure b, hk, fun hg => hM.con args a b ha ?_⟩
      subst hg
      exact hb
    · exact ih (fun M' hM' => hΓ M' (List.mem_cons_of_mem _ hM')) h

theorem call_W {X : Ctx Rf} (H : List TOb) {fid : FuncId} {caps l : List TV} (hc : allT (frzC H l)) {A : AV} {args' : List AV} (ha : ALeL (encL [] (frzAL X.tt H l ++ frzL X.tt H caps)) args') (hcon : Con P fid args' (isV A)) :
    callW P (H.map (encO H)) (encV H (.fn fid caps)) (encL H l) (isV A) := by
  simp only [encV, callW]
  refine ⟨args', ?_, hcon⟩
  have := args_sub X.tt H l caps args' hc ha
  rw [← encL_len H caps, range_getD]
  exact this

theorem dstAt_eq : ∀ (ops : List Oper) (i : Nat), dstAt ops i = (ops[i]?).bind (·.dst)
  | [], i => by simp [dstAt]
  | o :: l, 0 => by simp [dstAt]
  | o :: l, i + 1 => by simpa [dstAt] using dstAt_eq l i

theorem guard_at {N : Nat} {ops : List Oper} {s : TS} {j : Nat} {d : Tmp} {b : Option Bool} (h : guardT N ops s.S j = some (d, b)) :
    match b with
    | some b => rd N s.S d = .bool b ∧ ∀ want, guardOf ops (encS N s).slots (j, want) = some (match want with | true => b | false => !b)
    | none => ∀ want, guardOf ops (encS N s).slots (j, want) = some false := by
  unfold guardT at h
  split at h
  · rename_i d' hd
    split at h
    · rename_i b' hb
      cases h
      refine ⟨hb, fun want => ?_⟩
      unfold guardOf
      rw [← dstAt_eq, hd]
      simp only [rd_enc, hb, encV, AV.asGuard]
      cases want <;> rfl
    · rename_i hb
      cases h
      intro want
      unfold guardOf
      rw [← dstAt_eq, hd]
      simp only [rd_enc, hb, encV, AV.asGuard]
      cases want <;> rfl
    · cases h
  · cases h

/-- A guard's slot, told as what it is. -/
theorem lit_slots {N : Nat} {S : List (Nat × TV)} {H : List TOb} {d : Tmp} {b : Bool} (h : rd N S d = .bool b) : encS N ⟨(d, .bool b) :: S, H⟩ = encS N ⟨S, H⟩ := by
  have hd : getS S d = .bool b := by
    unfold rd at h
    cases hq : Nat.blt d N with
    | false => rw [hq] at h; cases h
    | true => rw [hq] at h; exact h
  unfold encS
  congr 1
  refine List.map_congr_left fun t _ => ?_
  simp only []
  rw [getS_put]
  by_cases he : d = t
  · subst he; rw [if_pos rfl, hd]
  · rw [if_neg he]

theorem ALe.cond_true (A : AV) : ALe (.cond true A) A := by
  intro w E B τ v hv
  unfold VX at hv
  simpa using hv

/-- The value of an operation. -/
theorem valT_sound {X : Ctx Rf} (hΓ : CtxOK P X) {o : Oper} {H : List TOb} {S : List (Nat × TV)} {k : TV → Option R} {r : R} (h : valT X o H S k = some r) :
    ∃ v, k v = some r ∧ ((∃ C A, pvO X.tt (H.map (encO H)) (fun x => encV H (evT X.N S x)) o.op = some (C, A) ∧ C ∧ ALe A (encV H v)) ∨
      (pvO X.tt (H.map (encO H)) (fun x => encV H (evT X.N S x)) o.op = none ∧ ∃ f args ts, o.op = .call ⟨.value f, args, ts⟩ ∧ (encV H (evT X.N S f)).need ∧ (∀ x ∈ args.toList, (encV H (evT X.N S x)).need) ∧
        callW P (H.map (encO H)) (encV H (evT X.N S f)).get (args.toList.map fun x => (encV H (evT X.N S x)).get) (isV (encV H v)))) := by
  unfold valT at h
  split at h
  · rename_i cs v hp
    obtain ⟨C, A, e1, h1⟩ := pvT_meets X.tt H _ _ _ _ hp
    obtain ⟨hcs, hk⟩ := ckL_some h
    exact ⟨v, hk, .inl ⟨C, A, e1, h1 hcs⟩⟩
  · split at h
    · rename_i f args ts ho
      split at h
      · rename_i fid caps hf
        obtain ⟨hcs, hcall⟩ := ckL_some h
        obtain ⟨v, hv, hk, args', ha, hcn⟩ := callM_ok (hΓ fid) hcall
        obtain ⟨c1, c2⟩ := allT_app.1 hcs
        obtain ⟨c2, c3⟩ := allT_app.1 c2
        refine ⟨v, hk, .inr ⟨by rw [ho]; simp only [pvO], f, args, ts, ho, need_nd H _ c1, fun x hx => nds_at c2 x hx, ?_⟩⟩
        have := call_W (X := X) H (l := args.toList.map fun x => (evT X.N S x).gt) c3 ha hcn
        rw [encL_map, List.map_map, ← hf] at this
        simp only [get_gt]
        rw [pure_enc H [] v hv]
        exact this
      · cases h
    · cases h

/-- A guard is known behind it. -/
theorem grdT_at {N : Nat} {all : List Oper} {g : Nat × Bool} {s : TS} {run skip : List (Nat × TV) → Option R} {r : R} (h : grdT N all g s.S run skip = some r) :
    ∃ c S, guardOf all (encS N s).slots g = some c ∧ encS N ⟨S, s.H⟩ = encS N s ∧ (match c with | true => run S = some r | false => skip S = some r) := by
  obtain ⟨j, want⟩ := g
  unfold grdT at h
  split at h
  · rename_i d hg
    exact ⟨false, s.S, guard_at hg want, rfl, h⟩
  · rename_i d b hg
    obtain ⟨hrd, hgo⟩ := guard_at hg
    have hlit := lit_slots (S := s.S) (H := s.H) hrd
    cases want <;> cases b
    · exact ⟨true, (d, .bool false) :: s.S, hgo false, hlit, h⟩
    · exact ⟨false, (d, .bool true) :: s.S, hgo false, hlit, h⟩
    · exact ⟨false, (d, .bool false) :: s.S, hgo true, hlit, h⟩
    · exact ⟨true, (d, .bool true) :: s.S, hgo true, hlit, h⟩
  · cases h

end
end Go.T
