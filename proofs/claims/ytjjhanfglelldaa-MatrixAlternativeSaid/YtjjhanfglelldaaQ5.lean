/-
  Matrices: Kernel: the program and the reference do the same.
-/
import Derived.Test.YtjjhanfglelldaaQ4
set_option linter.all false
namespace Go.Proofs.Ytjjhanfglelldaa
open Go.K Go.M

/-! The greatest common divisor, as both loops reckon it. -/
def gF : Nat → Int → Int → Int
  | 0, a, _ => a
  | n + 1, a, b => if b = 0 then a else gF n b (Int.tmod a b)
def gI (a b : Int) : Int := gF (b.natAbs + 1) a b
theorem gcd_loop {Rt : Type} {step : Int × Int → Option (LR (Int × Int) Int Rt)} (h : ∀ a b, step (a, b) = some (if b = 0 then .done a else .next (b, Int.tmod a b))) : ∀ (n : Nat) (a b : Int) (m : Nat), b.natAbs < n → n ≤ m → iter step m (a, b) = some (.inl (gF n a b)) := by
  intro n
  induction n with
  | zero => intro a b m hb; omega
  | succ n ih =>
    intro a b m hb hm
    obtain ⟨m, rfl⟩ : ∃ q, m = q + 1 := ⟨m - 1, by omega⟩
    rw [iter_succ, h, bnd_ok]
    unfold gF
    by_cases h0 : b = 0
    · rw [if_pos h0, if_pos h0]; rfl
    · rw [if_neg h0, if_neg h0]
      have hlt : (Int.tmod a b).natAbs < b.natAbs := by
        rw [Int.natAbs_tmod]
        exact Nat.mod_lt _ (by omega)
      exact ih b (Int.tmod a b) m (by omega) (by omega)
theorem gF_in : ∀ (n : Nat) (a b : Int), in64 a → in64 b → in64 (gF n a b)
  | 0, a, b, ha, _ => ha
  | n + 1, a, b, ha, hb => by
    unfold gF
    split
    · exact ha
    · rename_i h0
      refine gF_in n b _ hb ?_
      have hlt : (Int.tmod a b).natAbs < b.natAbs := by
        rw [Int.natAbs_tmod]
        exact Nat.mod_lt _ (by omega)
      unfold in64 at hb ⊢
      omega
theorem gI_in {a b : Int} (ha : in64 a) (hb : in64 b) : in64 (gI a b) := gF_in _ a b ha hb
theorem gcd_eq (a b : Int) (hb : in64 b) : ref05_gcd a b = some (gI a b) := by
  have h : ref05_gcdL0 (a, b) = some (.inl (gI a b)) := gcd_loop (step := fun s : Int × Int => ref05_gcdL0K (R := LR (Int × Int) Int Int) s.1 s.2 (fun a' => some (.next a')) (fun e => some (.done e)) (fun r => some (.ret r))) (fun a b => by
    by_cases h : b = 0
    · simp (disch := omega) only [ref05_gcdL0K, ckB_ix, ckB_inR, ckB_room, ckB_cut, ckB_mk, ckB_ne, bif_lt, bif_nlt, bif_le, bif_nle, bif_eq, bif_neq, bif_ne, bif_nne, bif_not, bif_true', bif_false', bnd_ok, lk_inl, lk_inr, Int.toNat_natCast]
      rw [if_pos h]
    · simp (disch := omega) only [ref05_gcdL0K, ckB_ne, ckB_ix, ckB_inR, ckB_room, ckB_cut, ckB_mk, ckB_ne, bif_lt, bif_nlt, bif_le, bif_nle, bif_eq, bif_neq, bif_ne, bif_nne, bif_not, bif_true', bif_false', bnd_ok, lk_inl, lk_inr, Int.toNat_natCast]
      rw [if_neg h]) _ a b many (by omega) (by unfold many; unfold in64 at hb; omega)
  unfold ref05_gcd
  rw [h]; rfl
theorem gcdL_eq (a b : Int) (hb : in64 b) (x y : Int) (l : List Int) : matrix_primitiveL0 x y l (a, b) = some (.inl (gI a b)) :=
  gcd_loop (step := fun s : Int × Int => matrix_primitiveL0K (R := LR (Int × Int) Int (List Int)) x y l s.1 s.2 (fun a' => some (.next a')) (fun e => some (.done e)) (fun r => some (.ret r))) (fun a b => by
    by_cases h : b = 0
    · simp (disch := omega) only [matrix_primitiveL0K, ckB_ix, ckB_inR, ckB_room, ckB_cut, ckB_mk, ckB_ne, bif_lt, bif_nlt, bif_le, bif_nle, bif_eq, bif_neq, bif_ne, bif_nne, bif_not, bif_true', bif_false', bnd_ok, lk_inl, lk_inr, Int.toNat_natCast]
      rw [if_pos h]
    · simp (disch := omega) only [matrix_primitiveL0K, ckB_ne, ckB_ix, ckB_inR, ckB_room, ckB_cut, ckB_mk, ckB_ne, bif_lt, bif_nlt, bif_le, bif_nle, bif_eq, bif_neq, bif_ne, bif_nne, bif_not, bif_true', bif_false', bnd_ok, lk_inl, lk_inr, Int.toNat_natCast]
      rw [if_neg h]) _ a b many (by omega) (by unfold many; unfold in64 at hb; omega)

/-- An absolute value, wrapped. -/
def wab (x : Int) : Int := if x < 0 then w64 (0 - x) else x
theorem wab_in {x : Int} (h : in64 x) : in64 (wab x) := by
  unfold wab
  split
  · exact w64_in _
  · exact h
theorem wabs_eq {x : Int} (h : in64 x) : matrix_abs x = some (wab x) := by
  unfold matrix_abs
  refine congrArg some ?_
  by_cases hmin : x = -9223372036854775808
  · subst hmin
    decide
  · unfold in64 at h
    have hw : IntKind.wrap .i64 (0 - x) = 0 - x := wrap_i64 (by omega) (by omega)
    unfold wab w64
    rw [hw]
    split <;> omega
theorem wsize_eq (x : Int) : ref05_size x = some (wab x) := by
  unfold ref05_size wab
  by_cases h : x < 0
  · rw [bif_lt h, if_pos h]
  · rw [bif_nlt (by omega), if_neg h]

/-- The common divisor of the first n. -/
def gL (f : Nat → Int) : Nat → Int
  | 0 => 0
  | n + 1 => gI (gL f n) (wab (f n))
theorem gL_in {f : Nat → Int} (hf : ∀ j, in64 (f j)) : ∀ n, in64 (gL f n)
  | 0 => ⟨show (-9223372036854775808 : Int) ≤ 0 by decide, show (0 : Int) ≤ 9223372036854775807 by decide⟩
  | n + 1 => gI_in (gL_in hf n) (wab_in (hf n))
def prim (f : Nat → Int) (n : Nat) (j : Nat) : Int := if 1 < gL f n then w64 (Int.tdiv (f j) (gL f n)) else f j

theorem primitive_eq {C : Nat} (hC : C ≤ 50) {f : Nat → Int} (hf : ∀ j, in64 (f j)) : matrix_primitive (tab C f) = some (tab C (prim f C)) := by
  have hL1 : matrix_primitiveL1 (C : Int) (tab C f) (0, 0) = some (.inl (gL f C)) := by
    refine loop_to (fun i : Nat => (gL f i, (i : Int))) C (many_of (by omega)) _ ?_ ?_ _ rfl
    · intro i hi
      have h1 := wabs_eq (hf i)
      have h2 := gcdL_eq (gL f i) (wab (f i)) (wab_in (hf i)) (C : Int) (i : Int) (tab C f)
      simp (disch := omega) only [matrix_primitiveL1K, tab_len, tab_getD hi, h1, h2, w64_succ, ckB_ix, ckB_inR, ckB_room, ckB_cut, ckB_mk, ckB_ne, bif_lt, bif_nlt, bif_le, bif_nle, bif_eq, bif_neq, bif_ne, bif_nne, bif_not, bif_true', bif_false', bnd_ok, lk_inl, lk_inr, Int.toNat_natCast]
      rfl
    · simp (disch := omega) only [matrix_primitiveL1K, ckB_ix, ckB_inR, ckB_room, ckB_cut, ckB_mk, ckB_ne, bif_lt, bif_nlt, bif_le, bif_nle, bif_eq, bif_neq, bif_ne, bif_nne, bif_not, bif_true', bif_false', bnd_ok, lk_inl, lk_inr, Int.toNat_natCast]
  have hL2 : matrix_primitiveL2 (gL f C) (C : Int) (0, tab C f) = some (.inl (tab C (prim f C))) := by
    refine loop_to (fun i : Nat => ((i : Int), tab C fun j => if j < i then prim f C j else f j)) C (many_of (by omega)) _ ?_ ?_ _ (by simp)
    · intro i hi
      have hii : (if i < i then prim f C i else f i) = f i := if_neg (by omega)
      by_cases hg : 1 < gL f C
      · have hg0 : gL f C ≠ 0 := by omega
        simp (disch := omega) only [matrix_primitiveL2K, tab_len, tab_getD hi, hii, ckB_ne, tab_set, w64_succ, ckB_ix, ckB_inR, ckB_room, ckB_cut, ckB_mk, ckB_ne, bif_lt, bif_nlt, bif_le, bif_nle, bif_eq, bif_neq, bif_ne, bif_nne, bif_not, bif_true', bif_false', bnd_ok, lk_inl, lk_inr, Int.toNat_natCast]
        refine congrArg some (congrArg LR.next (Prod.ext rfl (tab_congr fun j hj => ?_)))
        by_cases e : j = i
        · subst e
          rw [if_pos rfl, if_pos (by omega)]
          unfold prim
          rw [if_pos hg]
        · by_cases e2 : j < i
          · rw [if_neg e, if_pos e2, if_pos (by omega)]
          · rw [if_neg e, if_neg e2, if_neg (by omega)]
      · simp (disch := omega) only [matrix_primitiveL2K, w64_succ, ckB_ix, ckB_inR, ckB_room, ckB_cut, ckB_mk, ckB_ne, bif_lt, bif_nlt, bif_le, bif_nle, bif_eq, bif_neq, bif_ne, bif_nne, bif_not, bif_true', bif_false', bnd_ok, lk_inl, lk_inr, Int.toNat_natCast]
        refine congrArg some (congrArg LR.next (Prod.ext rfl (tab_congr fun j hj => ?_)))
        have : prim f C j = f j := if_neg hg
        rw [this]
        simp
    · simp (disch := omega) only [matrix_primitiveL2K, ckB_ix, ckB_inR, ckB_room, ckB_cut, ckB_mk, ckB_ne, bif_lt, bif_nlt, bif_le, bif_nle, bif_eq, bif_neq, bif_ne, bif_nne, bif_not, bif_true', bif_false', bnd_ok, lk_inl, lk_inr, Int.toNat_natCast]
      refine congrArg some (congrArg LR.done (tab_congr fun j hj => ?_))
      rw [if_pos hj]
  unfold matrix_primitive
  simp (disch := omega) only [tab_len, hL1, hL2, ckB_ix, ckB_inR, ckB_room, ckB_cut, ckB_mk, ckB_ne, bif_lt, bif_nlt, bif_le, bif_nle, bif_eq, bif_neq, bif_ne, bif_nne, bif_not, bif_true', bif_false', bnd_ok, lk_inl, lk_inr, Int.toNat_natCast]

theorem refPrimitive_eq {C : Nat} (hC : C ≤ 50) {f : Nat → Int} (hf : ∀ j, in64 (f j)) : ref05_Primitive (tab C f) = some (tab C (prim f C)) := by
  have hL0 : ref05_PrimitiveL0 (tab C f) (0, 0) = some (.inl (gL f C)) := by
    refine loop_to (fun i : Nat => (gL f i, (i : Int))) C (many_of (by omega)) _ ?_ ?_ _ rfl
    · intro i hi
      have h1 := wsize_eq (f i)
      have h2 := gcd_eq (gL f i) (wab (f i)) (wab_in (hf i))
      simp (disch := omega) only [ref05_PrimitiveL0K, tab_len, tab_getD hi, h1, h2, w64_succ, ckB_ix, ckB_inR, ckB_room, ckB_cut, ckB_mk, ckB_ne, bif_lt, bif_nlt, bif_le, bif_nle, bif_eq, bif_neq, bif_ne, bif_nne, bif_not, bif_true', bif_false', bnd_ok, lk_inl, lk_inr, Int.toNat_natCast]
      rfl
    · simp (disch := omega) only [ref05_PrimitiveL0K, tab_len, ckB_ix, ckB_inR, ckB_room, ckB_cut, ckB_mk, ckB_ne, bif_lt, bif_nlt, bif_le, bif_nle, bif_eq, bif_neq, bif_ne, bif_nne, bif_not, bif_true', bif_false', bnd_ok, lk_inl, lk_inr, Int.toNat_natCast]
  by_cases hg : 1 < gL f C
  · have hg0 : gL f C ≠ 0 := by omega
    have hL1 : ref05_PrimitiveL1 (tab C f) (gL f C) (0, tab C f) = some (.inl (tab C (prim f C))) := by
      refine loop_to (fun i : Nat => ((i : Int), tab C fun j => if j < i then prim f C j else f j)) C (many_of (by omega)) _ ?_ ?_ _ (by simp)
      · intro i hi
        simp (disch := omega) only [ref05_PrimitiveL1K, tab_len, tab_getD hi, ckB_ne, tab_set, w64_succ, ckB_ix, ckB_inR, ckB_room, ckB_cut, ckB_mk, ckB_ne, bif_lt, bif_nlt, bif_le, bif_nle, bif_eq, bif_neq, bif_ne, bif_nne, bif_not, bif_true', bif_false', bnd_ok, lk_inl, lk_inr, Int.toNat_natCast]
        refine congrArg some (congrArg LR.next (Prod.ext rfl (tab_congr fun j hj => ?_)))
        by_cases e : j = i
        · subst e
          rw [if_pos rfl, if_pos (by omega)]
          unfold prim
          rw [if_pos hg]
        · by_cases e2 : j < i
          · rw [if_neg e, if_pos e2, if_pos (by omega)]
          · rw [if_neg e, if_neg e2, if_neg (by omega)]
      · simp (disch := omega) only [ref05_PrimitiveL1K, tab_len, ckB_ix, ckB_inR, ckB_room, ckB_cut, ckB_mk, ckB_ne, bif_lt, bif_nlt, bif_le, bif_nle, bif_eq, bif_neq, bif_ne, bif_nne, bif_not, bif_true', bif_false', bnd_ok, lk_inl, lk_inr, Int.toNat_natCast]
        refine congrArg some (congrArg LR.done (tab_congr fun j hj => ?_))
        rw [if_pos hj]
    unfold ref05_Primitive
    simp (disch := omega) only [hL0, tab_len, List.nil_append, hL1, ckB_ix, ckB_inR, ckB_room, ckB_cut, ckB_mk, ckB_ne, bif_lt, bif_nlt, bif_le, bif_nle, bif_eq, bif_neq, bif_ne, bif_nne, bif_not, bif_true', bif_false', bnd_ok, lk_inl, lk_inr, Int.toNat_natCast]
  · have : tab C (prim f C) = tab C f := tab_congr fun j _ => if_neg hg
    unfold ref05_Primitive
    simp (disch := omega) only [hL0, tab_len, List.nil_append, ckB_ix, ckB_inR, ckB_room, ckB_cut, ckB_mk, ckB_ne, bif_lt, bif_nlt, bif_le, bif_nle, bif_eq, bif_neq, bif_ne, bif_nne, bif_not, bif_true', bif_false', bnd_ok, lk_inl, lk_inr, Int.toNat_natCast]
    rw [this]

/-! The vectors of the basis. -/
section
variable {R C : Nat}

def upd (f : Nat → Int) (p : Nat) (v : Int) : Nat → Int := fun j => if j = p then v else f j
theorem tab_upd {f : Nat → Int} {p : Nat} {v : Int} : (tab C f).set p v = tab C (upd f p v) := tab_set
def kv (A : Nat → Nat → Int) (den : Int) (c i : Nat) : Int := if den < 0 then A i c else w64 (0 - A i c)
def kxs (A : Nat → Nat → Int) (den : Int) (piv : List Nat) (c : Nat) : Nat → Nat → Int
  | 0 => upd (fun _ => 0) c (wab den)
  | i + 1 => upd (kxs A den piv c i) (piv.getD i 0) (kv A den c i)
def rxs (A : Nat → Nat → Int) (den : Int) (piv : List Nat) (c : Nat) : Nat → Nat → Int
  | 0 => fun _ => 0
  | i + 1 => upd (rxs A den piv c i) (piv.getD i 0) (kv A den c i)

theorem kv_ref {A : Nat → Nat → Int} {den : Int} {c i : Nat} (hA : in64 (A i c)) : w64 (0 - w64 ((if den < 0 then -1 else 1) * A i c)) = kv A den c i := by
  unfold kv
  by_cases h : den < 0
  · rw [if_pos h, if_pos h]
    unfold in64 at hA
    unfold w64
    simp only [IntKind.wrap, IntKind.bits, IntKind.signed]
    simp
    omega
  · rw [if_neg h, if_neg h, Int.one_mul, w64_id hA]
theorem den_ref {den : Int} (h : in64 den) : w64 ((if den < 0 then -1 else 1) * den) = wab den := by
  unfold wab
  by_cases h0 : den < 0
  · rw [if_pos h0, if_pos h0]
    congr 1
    omega
  · rw [if_neg h0, if_neg h0, Int.one_mul, w64_id h]
theorem kxs_rxs {A : Nat → Nat → Int} {den : Int} {piv : List Nat} {c : Nat} (hc : c ∉ piv) : ∀ i, i ≤ piv.length → ∀ j, upd (rxs A den piv c i) c (wab den) j = kxs A den piv c i j
  | 0, _, j => rfl
  | i + 1, hi, j => by
    have ih := kxs_rxs (A := A) (den := den) hc i (by omega) j
    have hne : piv.getD i 0 ≠ c := fun e => hc (e ▸ getD_mem 0 (by omega))
    simp only [kxs, rxs, upd] at ih ⊢
    by_cases e : j = c
    · subst e
      rw [if_pos rfl] at ih ⊢
      rw [if_neg (Ne.symm hne), ← ih]
    · rw [if_neg e] at ih ⊢
      by_cases e2 : j = piv.getD i 0
      · rw [if_pos e2, if_pos e2]
      · rw [if_neg e2, if_neg e2, ih]
theorem kxs_in {A : Nat → Nat → Int} {den : Int} {piv : List Nat} {c : Nat} (hA : ∀ i j, in64 (A i j)) (hd : in64 den) : ∀ i j, in64 (kxs A den piv c i j)
  | 0, j => by
    simp only [kxs, upd]
    split
    · exact wab_in hd
    · exact ⟨by decide, by decide⟩
  | i + 1, j => by
    simp only [kxs, upd]
    split
    · unfold kv
      split
      · exact hA _ _
      · exact w64_in _
    · exact kxs_in hA hd i j

/-- The basis, by the first n columns. -/
def basis (C : Nat) (s : RS) : Nat → List (List Int)
  | 0 => []
  | c + 1 => if c ∈ s.piv then basis C s c else basis C s c ++ [tab C (prim (kxs s.A s.den s.piv c s.piv.length) C)]
theorem basis_len (C : Nat) (s : RS) : ∀ n, (basis C s n).length ≤ n
  | 0 => Nat.le_refl _
  | c + 1 => by
    have := basis_len C s c
    unfold basis
    split
    · omega
    · simp; omega

theorem contains_eq (l : List Nat) (hl : l.length ≤ 50) (c : Nat) : slices_Contains_int_int (casts l) (c : Int) = some (decide (c ∈ l)) := by
  obtain ⟨o, ho, hq⟩ := loop_any (step := fun a => slices_Index_int_intL0K (casts l) (c : Int) ((casts l).length : Int) a (fun a' => some (.next a')) (fun e => some (.done e)) (fun r => some (.ret r))) (casts l) 0 (fun x => decide ((c : Int) = x)) (by rw [casts_len]; omega) (fun i hi => by
    by_cases e : (c : Int) = (casts l).getD i 0
    · rw [decide_eq_true e]
      simp (disch := omega) only [slices_Index_int_intL0K, ckB_ix, ckB_inR, ckB_room, ckB_cut, ckB_mk, ckB_ne, bif_lt, bif_nlt, bif_le, bif_nle, bif_eq, bif_neq, bif_ne, bif_nne, bif_not, bif_true', bif_false', bnd_ok, lk_inl, lk_inr, Int.toNat_natCast]
    · rw [decide_eq_false e]
      have hl' := casts_len l
      simp (disch := omega) only [slices_Index_int_intL0K, ckB_ix, ckB_inR, ckB_room, ckB_cut, ckB_mk, ckB_ne, bif_lt, bif_nlt, bif_le, bif_nle, bif_eq, bif_neq, bif_ne, bif_nne, bif_not, bif_true', bif_false', bnd_ok, lk_inl, lk_inr, Int.toNat_natCast]
      rw [cast_succ]) (by simp (disch := omega) only [slices_Index_int_intL0K, ckB_ix, ckB_inR, ckB_room, ckB_cut, ckB_mk, ckB_ne, bif_lt, bif_nlt, bif_le, bif_nle, bif_eq, bif_neq, bif_ne, bif_nne, bif_not, bif_true', bif_false', bnd_ok, lk_inl, lk_inr, Int.toNat_natCast])
  have ho' : slices_Index_int_intL0 (casts l) (c : Int) ((casts l).length : Int) 0 = some o := ho
  unfold slices_Contains_int_int slices_Index_int_int
  rw [ho', bnd_ok]
  have e : ((casts l).any fun x => decide ((c : Int) = x)) = decide (c ∈ l) := by
    rw [Bool.eq_iff_iff, List.any_eq_true, decide_eq_true_iff]
    constructor
    · rintro ⟨x, hx, hc⟩
      obtain ⟨v, hv, rfl⟩ := List.mem_map.1 hx
      have := of_decide_eq_true hc
      have : c = v := by omega
      rw [this]; exact hv
    · exact fun h => ⟨(c : Int), List.mem_map_of_mem h, by simp⟩
  rw [← e, ← hq]
  cases o <;> rfl

theorem casts_getD (q : List Nat) (i : Nat) : (casts q).getD i 0 = ((q.getD i 0 : Nat) : Int) := by
  simp only [List.getD_eq_getElem?_getD, casts, List.getElem?_map]
  cases q[i]? <;> rfl

theorem kernelL0_eq (hC : C ≤ 50) {A : Nat → Nat → Int} {piv : List Nat} (hp : piv.length ≤ R) (hpR : R ≤ 50) (hplt : ∀ p ∈ piv, p < C) {c : Nat} (hc : c < C) (den e x y z : Int) (g : List (List Int)) :
    matrix_kernelL0 x (c : Int) y z (casts piv) (piv.length : Int) (T2 R C A) (casts piv) den e g (0, tab C (kxs A den piv c 0)) = some (.inl (tab C (kxs A den piv c piv.length))) := by
  refine loop_to (fun i : Nat => ((i : Int), tab C (kxs A den piv c i))) piv.length (many_of (by omega)) _ ?_ ?_ _ rfl
  · intro i hi
    have hg := casts_getD piv i
    have hpc := hplt _ (getD_mem 0 hi)
    have hiR : i < R := by omega
    have hcl := casts_len piv
    by_cases hd : den < 0
    · simp (disch := omega) only [matrix_kernelL0K, hg, hcl, T2_len, T2_row hiR, tab_len, tab_getD hc, tab_upd, w64_succ, ckB_ix, ckB_inR, ckB_room, ckB_cut, ckB_mk, ckB_ne, bif_lt, bif_nlt, bif_le, bif_nle, bif_eq, bif_neq, bif_ne, bif_nne, bif_not, bif_true', bif_false', bnd_ok, lk_inl, lk_inr, Int.toNat_natCast]
      refine congrArg some (congrArg LR.next (Prod.ext rfl (tab_congr fun j _ => ?_)))
      simp only [kxs, upd, kv, if_pos hd]
      split <;> rfl
    · simp (disch := omega) only [matrix_kernelL0K, hg, hcl, T2_len, T2_row hiR, tab_len, tab_getD hc, tab_upd, w64_succ, ckB_ix, ckB_inR, ckB_room, ckB_cut, ckB_mk, ckB_ne, bif_lt, bif_nlt, bif_le, bif_nle, bif_eq, bif_neq, bif_ne, bif_nne, bif_not, bif_true', bif_false', bnd_ok, lk_inl, lk_inr, Int.toNat_natCast]
      refine congrArg some (congrArg LR.next (Prod.ext rfl (tab_congr fun j _ => ?_)))
      simp only [kxs, upd, kv, if_neg hd]
  · simp (disch := omega) only [matrix_kernelL0K, ckB_ix, ckB_inR, ckB_room, ckB_cut, ckB_mk, ckB_ne, bif_lt, bif_nlt, bif_le, bif_nle, bif_eq, bif_neq, bif_ne, bif_nne, bif_not, bif_true', bif_false', bnd_ok, lk_inl, lk_inr, Int.toNat_natCast]

theorem kernelL1_eq (hR : R ≤ 50) (hC : C ≤ 50) (s : RS) (hp : s.piv.length ≤ R) (hplt : ∀ p ∈ s.piv, p < C) (hA : ∀ i j, in64 (s.A i j)) (hd : in64 s.den) (e : Int) :
    matrix_kernelL1 (C : Int) (C : Int) (T2 R C s.A) (casts s.piv) s.den e (0, []) = some (.inl (basis C s C)) := by
  refine loop_to (fun c : Nat => ((c : Int), basis C s c)) C (many_of (by omega)) _ ?_ ?_ _ rfl
  · intro c hc
    have hcont := contains_eq s.piv (by omega) c
    have hcl := casts_len s.piv
    have hbl := basis_len C s c
    by_cases hm : c ∈ s.piv
    · rw [decide_eq_true hm] at hcont
      simp (disch := omega) only [matrix_kernelL1K, hcont, w64_succ, ckB_ix, ckB_inR, ckB_room, ckB_cut, ckB_mk, ckB_ne, bif_lt, bif_nlt, bif_le, bif_nle, bif_eq, bif_neq, bif_ne, bif_nne, bif_not, bif_true', bif_false', bnd_ok, lk_inl, lk_inr, Int.toNat_natCast]
      simp [basis, hm]
    · rw [decide_eq_false hm] at hcont
      have habs := wabs_eq hd
      have hL0 := kernelL0_eq hC hp hR hplt hc s.den e (C : Int) (C : Int) (c : Int) (basis C s c) (A := s.A)
      have hpr := primitive_eq hC (f := kxs s.A s.den s.piv c s.piv.length) (fun j => kxs_in hA hd _ j)
      have e0 : (List.replicate C (0 : Int)).set c (wab s.den) = tab C (kxs s.A s.den s.piv c 0) := by rw [tab_rep]; exact tab_upd
      simp (disch := omega) only [matrix_kernelL1K, hcont, habs, hcl, List.length_replicate, e0, hL0, hpr, tab_len, w64_succ, decide_true, ckB_true, ckB_ix, ckB_inR, ckB_room, ckB_cut, ckB_mk, ckB_ne, bif_lt, bif_nlt, bif_le, bif_nle, bif_eq, bif_neq, bif_ne, bif_nne, bif_not, bif_true', bif_false', bnd_ok, lk_inl, lk_inr, Int.toNat_natCast]
      simp [basis, hm]
  · simp (disch := omega) only [matrix_kernelL1K, ckB_ix, ckB_inR, ckB_room, ckB_cut, ckB_mk, ckB_ne, bif_lt, bif_nlt, bif_le, bif_nle, bif_eq, bif_neq, bif_ne, bif_nne, bif_not, bif_true', bif_false', bnd_ok, lk_inl, lk_inr, Int.toNat_natCast]

theorem refKernelL0_eq (hC : C ≤ 50) {A : Nat → Nat → Int} {piv : List Nat} (hp : piv.length ≤ R) (hpR : R ≤ 50) (hplt : ∀ p ∈ piv, p < C) {c : Nat} (hc : c < C) (hA : ∀ i j, in64 (A i j)) (den sg e : Int) (hsg : sg = if den < 0 then -1 else 1) (m g : List (List Int)) :
    ref05_KernelL0 m (c : Int) sg (T2 R C A) (casts piv) den e g (false, 0, tab C (fun _ => 0)) = some (.inl (decide (c ∈ piv), tab C (rxs A den piv c piv.length))) := by
  refine loop_to (fun i : Nat => (decide (c ∈ piv.take i), (i : Int), tab C (rxs A den piv c i))) piv.length (many_of (by omega)) _ ?_ ?_ _ (by simp [rxs])
  · intro i hi
    have hg := casts_getD piv i
    have hpc := hplt _ (getD_mem 0 hi)
    have hiR : i < R := by omega
    have hcl := casts_len piv
    have hkv := kv_ref (den := den) (hA i c)
    rw [← hsg] at hkv
    have ht := take_succ_getD piv i 0 hi
    by_cases hm : c ∈ piv.take i
    · have hm' : c ∈ piv.take (i + 1) := by rw [ht]; exact List.mem_append_left _ hm
      rw [decide_eq_true hm, decide_eq_true hm']
      simp (disch := omega) only [ref05_KernelL0K, hg, hcl, T2_len, T2_row hiR, tab_len, tab_getD hc, hkv, tab_upd, w64_succ, ckB_ix, ckB_inR, ckB_room, ckB_cut, ckB_mk, ckB_ne, bif_lt, bif_nlt, bif_le, bif_nle, bif_eq, bif_neq, bif_ne, bif_nne, bif_not, bif_true', bif_false', bnd_ok, lk_inl, lk_inr, Int.toNat_natCast]
      rfl
    · have hm' : decide (c ∈ piv.take (i + 1)) = decide (((piv.getD i 0 : Nat) : Int) = (c : Int)) := by
        rw [ht, decide_eq_decide, List.mem_append, List.mem_singleton]
        constructor
        · intro h
          have := h.resolve_left hm
          omega
        · intro h
          exact .inr (by omega)
      rw [decide_eq_false hm, hm']
      simp (disch := omega) only [ref05_KernelL0K, hg, hcl, T2_len, T2_row hiR, tab_len, tab_getD hc, hkv, tab_upd, w64_succ, ckB_ix, ckB_inR, ckB_room, ckB_cut, ckB_mk, ckB_ne, bif_lt, bif_nlt, bif_le, bif_nle, bif_eq, bif_neq, bif_ne, bif_nne, bif_not, bif_true', bif_false', bnd_ok, lk_inl, lk_inr, Int.toNat_natCast]
      rfl
  · have hcl := casts_len piv
    simp (disch := omega) only [ref05_KernelL0K, hcl, ckB_ix, ckB_inR, ckB_room, ckB_cut, ckB_mk, ckB_ne, bif_lt, bif_nlt, bif_le, bif_nle, bif_eq, bif_neq, bif_ne, bif_nne, bif_not, bif_true', bif_false', bnd_ok, lk_inl, lk_inr, Int.toNat_natCast]
    rw [List.take_length]

theorem refKernelL1_eq (hR : R ≤ 50) (hR0 : 0 < R) (hC : C ≤ 50) (M : Nat → Nat → Int) (s : RS) (hp : s.piv.length ≤ R) (hplt : ∀ p ∈ s.piv, p < C) (hA : ∀ i j, in64 (s.A i j)) (hd : in64 s.den) (e : Int) :
    ref05_KernelL1 (T2 R C M) (T2 R C s.A) (casts s.piv) s.den e (0, []) = some (.inl (basis C s C)) := by
  refine loop_to (fun c : Nat => ((c : Int), basis C s c)) C (many_of (by omega)) _ ?_ ?_ _ rfl
  · intro c hc
    have hbl := basis_len C s c
    have hpr := refPrimitive_eq hC (f := kxs s.A s.den s.piv c s.piv.length) (fun j => kxs_in hA hd _ j)
    have hden := den_ref hd
    by_cases h0 : s.den < 0
    · have hL0 := refKernelL0_eq hC hp hR hplt hc hA s.den (-1) e (by rw [if_pos h0]) (T2 R C M) (basis C s c)
      rw [if_pos h0] at hden
      by_cases hm : c ∈ s.piv
      · rw [decide_eq_true hm] at hL0
        simp (disch := omega) only [ref05_KernelL1K, T2_len, T2_row hR0, tab_len, tab_rep, hL0, w64_succ, ckB_ix, ckB_inR, ckB_room, ckB_cut, ckB_mk, ckB_ne, bif_lt, bif_nlt, bif_le, bif_nle, bif_eq, bif_neq, bif_ne, bif_nne, bif_not, bif_true', bif_false', bnd_ok, lk_inl, lk_inr, Int.toNat_natCast]
        simp [basis, hm]
      · rw [decide_eq_false hm] at hL0
        have hx : (tab C (rxs s.A s.den s.piv c s.piv.length)).set c (wab s.den) = tab C (kxs s.A s.den s.piv c s.piv.length) := by
          rw [tab_upd]
          exact tab_congr fun j _ => kxs_rxs hm s.piv.length (Nat.le_refl _) j
        simp (disch := omega) only [ref05_KernelL1K, T2_len, T2_row hR0, tab_len, tab_rep, hL0, hden, hx, hpr, w64_succ, ckB_ix, ckB_inR, ckB_room, ckB_cut, ckB_mk, ckB_ne, bif_lt, bif_nlt, bif_le, bif_nle, bif_eq, bif_neq, bif_ne, bif_nne, bif_not, bif_true', bif_false', bnd_ok, lk_inl, lk_inr, Int.toNat_natCast]
        simp [basis, hm]
    · have hL0 := refKernelL0_eq hC hp hR hplt hc hA s.den 1 e (by rw [if_neg h0]) (T2 R C M) (basis C s c)
      rw [if_neg h0] at hden
      by_cases hm : c ∈ s.piv
      · rw [decide_eq_true hm] at hL0
        simp (disch := omega) only [ref05_KernelL1K, T2_len, T2_row hR0, tab_len, tab_rep, hL0, w64_succ, ckB_ix, ckB_inR, ckB_room, ckB_cut, ckB_mk, ckB_ne, bif_lt, bif_nlt, bif_le, bif_nle, bif_eq, bif_neq, bif_ne, bif_nne, bif_not, bif_true', bif_false', bnd_ok, lk_inl, lk_inr, Int.toNat_natCast]
        simp [basis, hm]
      · rw [decide_eq_false hm] at hL0
        have hx : (tab C (rxs s.A s.den s.piv c s.piv.length)).set c (wab s.den) = tab C (kxs s.A s.den s.piv c s.piv.length) := by
          rw [tab_upd]
          exact tab_congr fun j _ => kxs_rxs hm s.piv.length (Nat.le_refl _) j
        simp (disch := omega) only [ref05_KernelL1K, T2_len, T2_row hR0, tab_len, tab_rep, hL0, hden, hx, hpr, w64_succ, ckB_ix, ckB_inR, ckB_room, ckB_cut, ckB_mk, ckB_ne, bif_lt, bif_nlt, bif_le, bif_nle, bif_eq, bif_neq, bif_ne, bif_nne, bif_not, bif_true', bif_false', bnd_ok, lk_inl, lk_inr, Int.toNat_natCast]
        simp [basis, hm]
  · simp (disch := omega) only [ref05_KernelL1K, T2_len, T2_row hR0, tab_len, ckB_ix, ckB_inR, ckB_room, ckB_cut, ckB_mk, ckB_ne, bif_lt, bif_nlt, bif_le, bif_nle, bif_eq, bif_neq, bif_ne, bif_nne, bif_not, bif_true', bif_false', bnd_ok, lk_inl, lk_inr, Int.toNat_natCast]

theorem in64_A {A : Nat → Nat → Int} (hA : ∀ i j, -1048576 ≤ A i j ∧ A i j ≤ 1048576) : ∀ i j, in64 (A i j) := fun i j => by
  have := hA i j
  unfold in64
  omega

/-- The program's kernel. -/
theorem kernel_eq (hR : R ≤ 50) (hR0 : 0 < R) (hC : C ≤ 50) (hC0 : 0 < C) {A : Nat → Nat → Int} (hA : ∀ i j, -1048576 ≤ A i j ∧ A i j ≤ 1048576) : matrix_kernel (T2 R C A) = some (basis C (redR R A C) C) := by
  have hI := redR_inv R A C
  have hin := redR_in (R := R) (in64_A hA) C
  have hred := reduce_eq hR hC hC0 (Nat.le_refl C) A
  have hL1 := kernelL1_eq hR hC (redR R A C) hI.piv hI.plt hin.1 hin.2 ((redR R A C).sw : Int)
  unfold matrix_kernel
  simp (disch := omega) only [T2_len, T2_row hR0, tab_len, hred, hL1, ckB_ix, ckB_inR, ckB_room, ckB_cut, ckB_mk, ckB_ne, bif_lt, bif_nlt, bif_le, bif_nle, bif_eq, bif_neq, bif_ne, bif_nne, bif_not, bif_true', bif_false', bnd_ok, lk_inl, lk_inr, Int.toNat_natCast]

theorem same_self (l : List (List Int)) (hl : l.length ≤ 50) (h : ∀ x ∈ l, x.length ≤ 50) : ref05_Same l l = some true := by
  have hrow : ∀ x : List Int, x.length ≤ 50 → ref05_SameRow x x = some true := by
    intro x hx
    have hL0 : ref05_SameRowL0 x x 0 = some (.inl ()) := by
      refine loop_to (fun k : Nat => (k : Int)) x.length (many_of (by omega)) _ ?_ ?_ _ rfl
      · intro k hk
        simp (disch := omega) only [ref05_SameRowL0K, decide_true, ckB_ix, ckB_inR, ckB_room, ckB_cut, ckB_mk, ckB_ne, bif_lt, bif_nlt, bif_le, bif_nle, bif_eq, bif_neq, bif_ne, bif_nne, bif_not, bif_true', bif_false', bnd_ok, lk_inl, lk_inr, Int.toNat_natCast]
        rw [cast_succ]
      · simp (disch := omega) only [ref05_SameRowL0K, ckB_ix, ckB_inR, ckB_room, ckB_cut, ckB_mk, ckB_ne, bif_lt, bif_nlt, bif_le, bif_nle, bif_eq, bif_neq, bif_ne, bif_nne, bif_not, bif_true', bif_false', bnd_ok, lk_inl, lk_inr, Int.toNat_natCast]
    unfold ref05_SameRow
    rw [bif_neg (by simp), hL0]
    rfl
  have hL0 : ref05_SameL0 l l 0 = some (.inl ()) := by
    refine loop_to (fun k : Nat => (k : Int)) l.length (many_of (by omega)) _ ?_ ?_ _ rfl
    · intro k hk
      have hr := hrow _ (h _ (getD_mem [] hk))
      simp (disch := omega) only [ref05_SameL0K, hr, Bool.not_true, ckB_ix, ckB_inR, ckB_room, ckB_cut, ckB_mk, ckB_ne, bif_lt, bif_nlt, bif_le, bif_nle, bif_eq, bif_neq, bif_ne, bif_nne, bif_not, bif_true', bif_false', bnd_ok, lk_inl, lk_inr, Int.toNat_natCast]
      rw [cast_succ]
    · simp (disch := omega) only [ref05_SameL0K, ckB_ix, ckB_inR, ckB_room, ckB_cut, ckB_mk, ckB_ne, bif_lt, bif_nlt, bif_le, bif_nle, bif_eq, bif_neq, bif_ne, bif_nne, bif_not, bif_true', bif_false', bnd_ok, lk_inl, lk_inr, Int.toNat_natCast]
  unfold ref05_Same
  rw [bif_neg (by simp), hL0]
  rfl
theorem basis_short (hC : C ≤ 50) (s : RS) : ∀ n, ∀ x ∈ basis C s n, x.length ≤ 50
  | 0, x, h => by simp [basis] at h
  | c + 1, x, h => by
    unfold basis at h
    split at h
    · exact basis_short hC s c x h
    · rcases List.mem_append.1 h with h | h
      · exact basis_short hC s c x h
      · simp only [List.mem_singleton] at h
        rw [h, tab_len]
        exact hC
end

/-- Kernel, by both. -/
theorem kernel_both {m : List (List Int)} (h : okM m) : ∃ l e, matrix_Kernel m = some (e, l) ∧ ref05_Kernel m = some (e, l) ∧ l.length ≤ 50 ∧ ∀ x ∈ l, x.length ≤ 50 := by
  cases hv : validM m with
  | false =>
    refine ⟨[], 1, ?_, ?_, by simp, by simp⟩
    · unfold matrix_Kernel; rw [h.valid, hv]; rfl
    · unfold ref05_Kernel; rw [refValid_eq, hv]; rfl
  | true =>
    obtain ⟨R, C, A, rfl, hR, hC, r1, r2, c1, c2, hA⟩ := valid_at hv
    have hval := h.valid
    rw [hv] at hval
    have hs := small_eq (R := R) (C := C) (by omega) (by omega) hA
    have hs' := refSmall_eq (R := R) (C := C) (by omega) (by omega) hA
    have h0 : 0 < R := by omega
    cases hsm : smallM R C A with
    | false =>
      rw [hsm] at hs hs'
      refine ⟨[], 6, ?_, ?_, by simp, by simp⟩
      · unfold matrix_Kernel; simp (disch := omega) only [hval, Bool.not_true, hs, Bool.not_false, ckB_ix, ckB_inR, ckB_room, ckB_cut, ckB_mk, ckB_ne, bif_lt, bif_nlt, bif_le, bif_nle, bif_eq, bif_neq, bif_ne, bif_nne, bif_not, bif_true', bif_false', bnd_ok, lk_inl, lk_inr, Int.toNat_natCast]
      · unfold ref05_Kernel; simp (disch := omega) only [refValid_eq, hv, Bool.not_true, hs', Bool.not_false, ckB_ix, ckB_inR, ckB_room, ckB_cut, ckB_mk, ckB_ne, bif_lt, bif_nlt, bif_le, bif_nle, bif_eq, bif_neq, bif_ne, bif_nne, bif_not, bif_true', bif_false', bnd_ok, lk_inl, lk_inr, Int.toNat_natCast]
    | true =>
      rw [hsm] at hs hs'
      have hI := redR_inv R A C
      have hin := redR_in (R := R) (in64_A hA) C
      have hred' := refReduce_eq (R := R) (C := C) (by omega) (by omega) (Nat.le_refl C) A
      have hk := kernel_eq (R := R) (C := C) (by omega) h0 (by omega) c1 hA
      have hL1 := refKernelL1_eq (R := R) (C := C) (by omega) h0 (by omega) A (redR R A C) hI.piv hI.plt hin.1 hin.2 (sgn (redR R A C).sw)
      refine ⟨basis C (redR R A C) C, 0, ?_, ?_, by have := basis_len C (redR R A C) C; omega, basis_short (by omega) _ C⟩
      · unfold matrix_Kernel; simp (disch := omega) only [hval, Bool.not_true, hs, hk, ckB_ix, ckB_inR, ckB_room, ckB_cut, ckB_mk, ckB_ne, bif_lt, bif_nlt, bif_le, bif_nle, bif_eq, bif_neq, bif_ne, bif_nne, bif_not, bif_true', bif_false', bnd_ok, lk_inl, lk_inr, Int.toNat_natCast]
      · unfold ref05_Kernel; simp (disch := omega) only [refValid_eq, hv, Bool.not_true, hs', T2_len, T2_row h0, tab_len, hred', hL1, ckB_ix, ckB_inR, ckB_room, ckB_cut, ckB_mk, ckB_ne, bif_lt, bif_nlt, bif_le, bif_nle, bif_eq, bif_neq, bif_ne, bif_nne, bif_not, bif_true', bif_false', bnd_ok, lk_inl, lk_inr, Int.toNat_natCast]

theorem MatrixKernels_true (m : List (List Int)) : law05_MatrixKernels m = some true := by
  obtain ⟨b, hb, hok⟩ := great_eq [m] (by simp)
  unfold law05_MatrixKernels
  cases b with
  | true => simp (disch := omega) only [awake_true, Bool.not_true, hb, ckB_ix, ckB_inR, ckB_room, ckB_cut, ckB_mk, ckB_ne, bif_lt, bif_nlt, bif_le, bif_nle, bif_eq, bif_neq, bif_ne, bif_nne, bif_not, bif_true', bif_false', bnd_ok, lk_inl, lk_inr, Int.toNat_natCast]
  | false =>
    obtain ⟨l, e, h1, h2, h3, h4⟩ := kernel_both (hok rfl m (by simp))
    have h5 := same_self l h3 h4
    simp (disch := omega) only [awake_true, Bool.not_true, hb, h1, h2, h5, decide_true, ckB_ix, ckB_inR, ckB_room, ckB_cut, ckB_mk, ckB_ne, bif_lt, bif_nlt, bif_le, bif_nle, bif_eq, bif_neq, bif_ne, bif_nne, bif_not, bif_true', bif_false', bnd_ok, lk_inl, lk_inr, Int.toNat_natCast]

end Go.Proofs.Ytjjhanfglelldaa
