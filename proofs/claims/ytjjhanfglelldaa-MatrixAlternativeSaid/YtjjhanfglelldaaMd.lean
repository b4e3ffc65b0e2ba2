/-
  What the functions compute, as plain functions of Lean. Made by program (mg3.py) out of the translation.
-/
import Derived.Test.YtjjhanfglelldaaKE
set_option linter.all false
set_option maxRecDepth 100000
namespace Go.Proofs.Ytjjhanfglelldaa
open Go.K Go.M

abbrev Casebookref05Form : Type := (List (List Int)) × (List Int) × Int × Int × Unit
abbrev Casebookref05Form.z : Casebookref05Form := ([], [], 0, 0, ())
def Casebookref05Form.ty : Ty := .struct (.cons (.slice (.slice (.int .i64))) (.cons (.slice (.int .i64)) (.cons (.int .i64) (.cons (.int .i64) .nil))))
abbrev Frac : Type := Int × Int × Unit
abbrev Frac.z : Frac := (0, 0, ())
def Frac.ty : Ty := .struct (.cons (.int .i64) (.cons (.int .i64) .nil))

/-! casebook/matrix.entries$1 -/

def matrix_entries_1 (n_0 : Int) : Option Bool :=
  bif decide (n_0 < (-1048576)) then
    some true
  else
    some (decide ((1048576 : Int) < n_0))

/-! slices.IndexFunc[[]int,int] -/

def slices_IndexFunc_int_int_64L0K {R : Type} (s_0 : (List Int)) (v_7 : Int) (v_8 : Int) (nx : Int → Option R) (dn : Unit → Option R) (rt : Int → Option R) : Option R :=
  bif decide (v_8 < v_7) then
    ckB (ix v_8 s_0.length) <|
    ckB (ix v_8 s_0.length) <|
    bnd (matrix_entries_1 (s_0.getD (Int.toNat v_8) 0)) fun r1 =>
    bif r1 then
      rt v_8
    else
      ckB (inR .i64 (v_8 + 1)) <|
      nx (v_8 + 1)
  else
    dn ()

def slices_IndexFunc_int_int_64L0 (s_0 : (List Int)) (v_7 : Int) (s0 : Int) : Option (Unit ⊕ Int) :=
  loopM (fun a => slices_IndexFunc_int_int_64L0K s_0 v_7 a (fun a' => some (.next a')) (fun e => some (.done e)) (fun r => some (.ret r))) s0

def slices_IndexFunc_int_int_64L0I : Shp := ⟨[(0, .d false (.slice (.int .i64))), (1, .fn 64 .nil), (7, .d true (.int .i64)), (8, .d true (.int .i64))], []⟩
def slices_IndexFunc_int_int_64L0E : Shp := ⟨[], []⟩

def slices_IndexFunc_int_int_64 (s_0 : (List Int)) : Option Int :=
  bnd (slices_IndexFunc_int_int_64L0 s_0 (s_0.length : Int) 0) fun oe2 =>
  lk oe2 (fun e2 =>
    some (-1)) (fun r => some r)

/-! slices.ContainsFunc[[]int,int] -/

def slices_ContainsFunc_int_int_64 (s_0 : (List Int)) : Option Bool :=
  bnd (slices_IndexFunc_int_int_64 s_0) fun r1 =>
  some (decide ((0 : Int) ≤ r1))

/-! casebook/matrix.entries -/

def matrix_entries (l_0 : (List Int)) : Option Bool :=
  bnd (slices_ContainsFunc_int_int_64 l_0) fun r1 =>
  some (!r1)

/-! casebook/matrix.Valid$1 -/

def matrix_Valid_1 (row_0 : (List Int)) (p_1 : (List (List Int))) : Option Bool :=
  ckB (ix 0 1) <|
  ckB (ix 0 p_1.length) <|
  ckB (ix 0 p_1.length) <|
  bif (!decide ((row_0.length : Int) = ((p_1.getD 0 []).length : Int))) then
    some true
  else
    bnd (matrix_entries row_0) fun r1 =>
    some (!r1)

/-! slices.IndexFunc[[][]int,[]int] -/

def slices_IndexFunc_int_int_53L0K {R : Type} (s_0 : (List (List Int))) (f_1c0 : (List (List Int))) (v_7 : Int) (v_8 : Int) (nx : Int → Option R) (dn : Unit → Option R) (rt : Int → Option R) : Option R :=
  bif decide (v_8 < v_7) then
    ckB (ix v_8 s_0.length) <|
    ckB (ix v_8 s_0.length) <|
    bnd (matrix_Valid_1 (s_0.getD (Int.toNat v_8) []) f_1c0) fun r1 =>
    bif r1 then
      rt v_8
    else
      ckB (inR .i64 (v_8 + 1)) <|
      nx (v_8 + 1)
  else
    dn ()

def slices_IndexFunc_int_int_53L0 (s_0 : (List (List Int))) (f_1c0 : (List (List Int))) (v_7 : Int) (s0 : Int) : Option (Unit ⊕ Int) :=
  loopM (fun a => slices_IndexFunc_int_int_53L0K s_0 f_1c0 v_7 a (fun a' => some (.next a')) (fun e => some (.done e)) (fun r => some (.ret r))) s0

def slices_IndexFunc_int_int_53L0I : Shp := ⟨[(0, .d false (.slice (.slice (.int .i64)))), (1, .fn 53 (.cons (.rp false (.slice (.slice (.int .i64)))) .nil)), (7, .d true (.int .i64)), (8, .d true (.int .i64))], []⟩
def slices_IndexFunc_int_int_53L0E : Shp := ⟨[], []⟩

def slices_IndexFunc_int_int_53 (s_0 : (List (List Int))) (f_1c0 : (List (List Int))) : Option Int :=
  bnd (slices_IndexFunc_int_int_53L0 s_0 f_1c0 (s_0.length : Int) 0) fun oe2 =>
  lk oe2 (fun e2 =>
    some (-1)) (fun r => some r)

/-! slices.ContainsFunc[[][]int,[]int] -/

def slices_ContainsFunc_int_int_53 (s_0 : (List (List Int))) (f_1c0 : (List (List Int))) : Option Bool :=
  bnd (slices_IndexFunc_int_int_53 s_0 f_1c0) fun r1 =>
  some (decide ((0 : Int) ≤ r1))

/-! casebook/matrix.Valid -/

def matrix_Valid (m_0 : (List (List Int))) : Option Bool :=
  bif decide ((m_0.length : Int) < 1) then
    some false
  else
    bif decide ((20 : Int) < (m_0.length : Int)) then
      some false
    else
      ckB (ix 0 m_0.length) <|
      ckB (ix 0 m_0.length) <|
      bif decide (((m_0.getD 0 []).length : Int) < 1) then
        some false
      else
        ckB (ix 0 m_0.length) <|
        ckB (ix 0 m_0.length) <|
        bif decide ((20 : Int) < ((m_0.getD 0 []).length : Int)) then
          some false
        else
          bnd (slices_ContainsFunc_int_int_53 m_0 m_0) fun r1 =>
          some (!r1)

/-! casebook/matrix.abs -/

def matrix_abs (n_0 : Int) : Option Int :=
  some (max n_0 (IntKind.wrap .i64 (0 - n_0)))

/-! casebook/matrix.small -/

def matrix_smallL0K {R : Type} (product_3 : Int) (v_9 : (List (List Int))) (v_10 : Int) (v_11 : Int) (v_15 : (List Int)) (v_16 : Int) (sum_6 : Int) (v_17 : Int) (nx : (Int × Int) → Option R) (dn : Int → Option R) (rt : Bool → Option R) : Option R :=
  bif decide (v_17 < v_16) then
    ckB (ix v_17 v_15.length) <|
    ckB (ix v_17 v_15.length) <|
    bnd (matrix_abs (v_15.getD (Int.toNat v_17) 0)) fun r1 =>
    ckB (inR .i64 (sum_6 + r1)) <|
    ckB (inR .i64 (v_17 + 1)) <|
    nx ((sum_6 + r1), (v_17 + 1))
  else
    dn sum_6

def matrix_smallL0 (product_3 : Int) (v_9 : (List (List Int))) (v_10 : Int) (v_11 : Int) (v_15 : (List Int)) (v_16 : Int) (s0 : (Int × Int)) : Option (Int ⊕ Bool) :=
  loopM (fun a => matrix_smallL0K product_3 v_9 v_10 v_11 v_15 v_16 a.1 a.2 (fun a' => some (.next a')) (fun e => some (.done e)) (fun r => some (.ret r))) s0

def matrix_smallL0I : Shp := ⟨[(3, .d true (.int .i64)), (6, .d true (.int .i64)), (9, .d false (.slice (.slice (.int .i64)))), (10, .d true (.int .i64)), (11, .d true (.int .i64)), (15, .d false (.slice (.int .i64))), (16, .d true (.int .i64)), (17, .d true (.int .i64))], []⟩
def matrix_smallL0E : Shp := ⟨[(3, .d true (.int .i64)), (6, .d true (.int .i64)), (9, .d false (.slice (.slice (.int .i64)))), (10, .d true (.int .i64)), (11, .d true (.int .i64))], []⟩

def matrix_smallL1K {R : Type} (v_9 : (List (List Int))) (v_10 : Int) (product_3 : Int) (v_11 : Int) (nx : (Int × Int) → Option R) (dn : Unit → Option R) (rt : Bool → Option R) : Option R :=
  bif decide (v_11 < v_10) then
    ckB (ix v_11 v_9.length) <|
    ckB (ix v_11 v_9.length) <|
    bnd (matrix_smallL0 product_3 v_9 v_10 v_11 (v_9.getD (Int.toNat v_11) []) ((v_9.getD (Int.toNat v_11) []).length : Int) (0, 0)) fun oe2 =>
    lk oe2 (fun e2 =>
      ckB (inR .i64 (product_3 * (max e2 1))) <|
      bif decide ((1073741824 : Int) < (product_3 * (max e2 1))) then
        rt false
      else
        ckB (inR .i64 (v_11 + 1)) <|
        nx ((product_3 * (max e2 1)), (v_11 + 1))) (fun r => rt r)
  else
    dn ()

def matrix_smallL1 (v_9 : (List (List Int))) (v_10 : Int) (s0 : (Int × Int)) : Option (Unit ⊕ Bool) :=
  loopM (fun a => matrix_smallL1K v_9 v_10 a.1 a.2 (fun a' => some (.next a')) (fun e => some (.done e)) (fun r => some (.ret r))) s0

def matrix_smallL1I : Shp := ⟨[(3, .d true (.int .i64)), (9, .d false (.slice (.slice (.int .i64)))), (10, .d true (.int .i64)), (11, .d true (.int .i64))], []⟩
def matrix_smallL1E : Shp := ⟨[], []⟩

def matrix_small (m_0 : (List (List Int))) : Option Bool :=
  bnd (matrix_smallL1 m_0 (m_0.length : Int) (1, 0)) fun oe3 =>
  lk oe3 (fun e3 =>
    some true) (fun r => some r)

/-! slices.Clone[[]int,int] -/

def slices_Clone_int_int (s_0 : (List Int)) : Option (List Int) :=
  ckB (Nat.blt 0 s_0.length) <|
  ckB (room (0 + s_0.length) 8) <|
  some ([] ++ s_0)

/-! (*casebook/matrix.reduced).clear -/

def matrix_reduced_clearL0K {R : Type} (top_1 : Int) (c_2 : Int) (pivot_6 : Nat) (p_7 : Int) (row_9 : Nat) (f_10 : Int) (v_27 : Int) (v_28 : Int) (v_41 : Int) (r_01 : (List Int)) (r_02 : Int) (r_03 : Int) (v_42 : Int) (v_26 : (List (List Int))) (nx : (Int × (List (List Int))) → Option R) (dn : (List (List Int)) → Option R) (rt : ((List Int) × Int × Int × (List (List Int))) → Option R) : Option R :=
  bif decide (v_42 < v_41) then
    ckB (ix v_42 (v_26.getD row_9 []).length) <|
    ckB (ix v_42 (v_26.getD row_9 []).length) <|
    ckB (ix v_42 (v_26.getD pivot_6 []).length) <|
    ckB (ix v_42 (v_26.getD pivot_6 []).length) <|
    ckB (!decide (r_02 = 0)) <|
    ckB (ix v_42 (v_26.getD row_9 []).length) <|
    ckB (ix v_42 (v_26.getD row_9 []).length) <|
    nx ((IntKind.wrap .i64 (v_42 + 1)), (v_26.set row_9 ((v_26.getD row_9 []).set (Int.toNat v_42) (IntKind.wrap .i64 (Int.tdiv (IntKind.wrap .i64 ((IntKind.wrap .i64 (p_7 * ((v_26.getD row_9 []).getD (Int.toNat v_42) 0))) - (IntKind.wrap .i64 (f_10 * ((v_26.getD pivot_6 []).getD (Int.toNat v_42) 0))))) r_02)))))
  else
    dn v_26

def matrix_reduced_clearL0 (top_1 : Int) (c_2 : Int) (pivot_6 : Nat) (p_7 : Int) (row_9 : Nat) (f_10 : Int) (v_27 : Int) (v_28 : Int) (v_41 : Int) (r_01 : (List Int)) (r_02 : Int) (r_03 : Int) (s0 : (Int × (List (List Int)))) : Option ((List (List Int)) ⊕ ((List Int) × Int × Int × (List (List Int)))) :=
  loopM (fun a => matrix_reduced_clearL0K top_1 c_2 pivot_6 p_7 row_9 f_10 v_27 v_28 v_41 r_01 r_02 r_03 a.1 a.2 (fun a' => some (.next a')) (fun e => some (.done e)) (fun r => some (.ret r))) s0

def matrix_reduced_clearL0I : Shp := ⟨[(0, .ptr 0), (1, .d true (.int .i64)), (2, .d true (.int .i64)), (6, .kid 1 0), (7, .d true (.int .i64)), (9, .kid 1 0), (10, .d true (.int .i64)), (26, .own 1), (27, .d true (.int .i64)), (28, .d true (.int .i64)), (41, .d true (.int .i64)), (42, .d true (.int .i64))], [.cs 67 4 1 (.cons (.own 1) (.cons (.d true (.slice (.int .i64))) (.cons (.d true (.int .i64)) (.cons (.d true (.int .i64)) .nil)))), .arr 32 .own [3] (.slice (.int .i64))]⟩
def matrix_reduced_clearL0E : Shp := ⟨[(0, .ptr 0), (1, .d true (.int .i64)), (2, .d true (.int .i64)), (6, .kid 1 0), (7, .d true (.int .i64)), (26, .own 1), (27, .d true (.int .i64)), (28, .d true (.int .i64))], [.cs 67 4 1 (.cons (.own 1) (.cons (.d true (.slice (.int .i64))) (.cons (.d true (.int .i64)) (.cons (.d true (.int .i64)) .nil)))), .arr 32 .own [3] (.slice (.int .i64))]⟩

def matrix_reduced_clearL1K {R : Type} (top_1 : Int) (c_2 : Int) (pivot_6 : Nat) (p_7 : Int) (v_27 : Int) (r_01 : (List Int)) (r_02 : Int) (r_03 : Int) (v_28 : Int) (v_26 : (List (List Int))) (nx : (Int × (List (List Int))) → Option R) (dn : (List (List Int)) → Option R) (rt : ((List Int) × Int × Int × (List (List Int))) → Option R) : Option R :=
  bif decide (v_28 < v_27) then
    ckB (ix v_28 v_26.length) <|
    ckB (ix v_28 v_26.length) <|
    bif decide (v_28 = top_1) then
      nx ((IntKind.wrap .i64 (v_28 + 1)), v_26)
    else
      ckB (ix c_2 (v_26.getD (Int.toNat v_28) []).length) <|
      ckB (ix c_2 (v_26.getD (Int.toNat v_28) []).length) <|
      bnd (matrix_reduced_clearL0 top_1 c_2 pivot_6 p_7 (Int.toNat v_28) ((v_26.getD (Int.toNat v_28) []).getD (Int.toNat c_2) 0) v_27 v_28 ((v_26.getD (Int.toNat v_28) []).length : Int) r_01 r_02 r_03 (0, v_26)) fun oe1 =>
      lk oe1 (fun e1 =>
        nx ((IntKind.wrap .i64 (v_28 + 1)), e1)) (fun r => rt r)
  else
    dn v_26

def matrix_reduced_clearL1 (top_1 : Int) (c_2 : Int) (pivot_6 : Nat) (p_7 : Int) (v_27 : Int) (r_01 : (List Int)) (r_02 : Int) (r_03 : Int) (s0 : (Int × (List (List Int)))) : Option ((List (List Int)) ⊕ ((List Int) × Int × Int × (List (List Int)))) :=
  loopM (fun a => matrix_reduced_clearL1K top_1 c_2 pivot_6 p_7 v_27 r_01 r_02 r_03 a.1 a.2 (fun a' => some (.next a')) (fun e => some (.done e)) (fun r => some (.ret r))) s0

def matrix_reduced_clearL1I : Shp := ⟨[(0, .ptr 0), (1, .d true (.int .i64)), (2, .d true (.int .i64)), (6, .kid 1 0), (7, .d true (.int .i64)), (26, .own 1), (27, .d true (.int .i64)), (28, .d true (.int .i64))], [.cs 67 4 1 (.cons (.own 1) (.cons (.d true (.slice (.int .i64))) (.cons (.d true (.int .i64)) (.cons (.d true (.int .i64)) .nil)))), .arr 32 .own [3] (.slice (.int .i64))]⟩
def matrix_reduced_clearL1E : Shp := ⟨[(0, .ptr 0), (7, .d true (.int .i64))], [.cs 67 4 1 (.cons (.own 1) (.cons (.d true (.slice (.int .i64))) (.cons (.d true (.int .i64)) (.cons (.d true (.int .i64)) .nil)))), .arr 32 .own [3] (.slice (.int .i64))]⟩

def matrix_reduced_clear (top_1 : Int) (c_2 : Int) (r_01 : (List Int)) (r_02 : Int) (r_03 : Int) (r_00 : (List (List Int))) : Option ((List Int) × Int × Int × (List (List Int))) :=
  ckB (ix top_1 r_00.length) <|
  ckB (ix top_1 r_00.length) <|
  ckB (ix c_2 (r_00.getD (Int.toNat top_1) []).length) <|
  ckB (ix c_2 (r_00.getD (Int.toNat top_1) []).length) <|
  bnd (matrix_reduced_clearL1 top_1 c_2 (Int.toNat top_1) ((r_00.getD (Int.toNat top_1) []).getD (Int.toNat c_2) 0) (r_00.length : Int) r_01 r_02 r_03 (0, r_00)) fun oe2 =>
  lk oe2 (fun e2 =>
    some (r_01, ((r_00.getD (Int.toNat top_1) []).getD (Int.toNat c_2) 0), r_03, e2)) (fun r => some r)

/-! (*casebook/matrix.reduced).clear -/

def matrix_reduced_clear'L0K {R : Type} (top_1 : Int) (c_2 : Int) (pivot_6 : Nat) (p_7 : Int) (row_9 : Nat) (f_10 : Int) (v_27 : Int) (v_28 : Int) (v_41 : Int) (r_02 : Int) (r_03 : Int) (r_01 : (List Int)) (v_42 : Int) (v_26 : (List (List Int))) (nx : (Int × (List (List Int))) → Option R) (dn : (List (List Int)) → Option R) (rt : (Int × Int × (List (List Int)) × (List Int)) → Option R) : Option R :=
  bif decide (v_42 < v_41) then
    ckB (ix v_42 (v_26.getD row_9 []).length) <|
    ckB (ix v_42 (v_26.getD row_9 []).length) <|
    ckB (ix v_42 (v_26.getD pivot_6 []).length) <|
    ckB (ix v_42 (v_26.getD pivot_6 []).length) <|
    ckB (!decide (r_02 = 0)) <|
    ckB (ix v_42 (v_26.getD row_9 []).length) <|
    ckB (ix v_42 (v_26.getD row_9 []).length) <|
    nx ((IntKind.wrap .i64 (v_42 + 1)), (v_26.set row_9 ((v_26.getD row_9 []).set (Int.toNat v_42) (IntKind.wrap .i64 (Int.tdiv (IntKind.wrap .i64 ((IntKind.wrap .i64 (p_7 * ((v_26.getD row_9 []).getD (Int.toNat v_42) 0))) - (IntKind.wrap .i64 (f_10 * ((v_26.getD pivot_6 []).getD (Int.toNat v_42) 0))))) r_02)))))
  else
    dn v_26

def matrix_reduced_clear'L0 (top_1 : Int) (c_2 : Int) (pivot_6 : Nat) (p_7 : Int) (row_9 : Nat) (f_10 : Int) (v_27 : Int) (v_28 : Int) (v_41 : Int) (r_02 : Int) (r_03 : Int) (r_01 : (List Int)) (s0 : (Int × (List (List Int)))) : Option ((List (List Int)) ⊕ (Int × Int × (List (List Int)) × (List Int))) :=
  loopM (fun a => matrix_reduced_clear'L0K top_1 c_2 pivot_6 p_7 row_9 f_10 v_27 v_28 v_41 r_02 r_03 r_01 a.1 a.2 (fun a' => some (.next a')) (fun e => some (.done e)) (fun r => some (.ret r))) s0

def matrix_reduced_clear'L0I : Shp := ⟨[(0, .ptr 0), (1, .d true (.int .i64)), (2, .d true (.int .i64)), (6, .kid 1 0), (7, .d true (.int .i64)), (9, .kid 1 0), (10, .d true (.int .i64)), (26, .own 1), (27, .d true (.int .i64)), (28, .d true (.int .i64)), (41, .d true (.int .i64)), (42, .d true (.int .i64))], [.cs 67 4 1 (.cons (.own 1) (.cons (.own 2) (.cons (.d true (.int .i64)) (.cons (.d true (.int .i64)) .nil)))), .arr 32 .own [3] (.slice (.int .i64)), .arr 3 (.fz true) [0] (.int .i64)]⟩
def matrix_reduced_clear'L0E : Shp := ⟨[(0, .ptr 0), (1, .d true (.int .i64)), (2, .d true (.int .i64)), (6, .kid 1 0), (7, .d true (.int .i64)), (26, .own 1), (27, .d true (.int .i64)), (28, .d true (.int .i64))], [.cs 67 4 1 (.cons (.own 1) (.cons (.own 2) (.cons (.d true (.int .i64)) (.cons (.d true (.int .i64)) .nil)))), .arr 32 .own [3] (.slice (.int .i64)), .arr 3 (.fz true) [0] (.int .i64)]⟩

def matrix_reduced_clear'L1K {R : Type} (top_1 : Int) (c_2 : Int) (pivot_6 : Nat) (p_7 : Int) (v_27 : Int) (r_02 : Int) (r_03 : Int) (r_01 : (List Int)) (v_28 : Int) (v_26 : (List (List Int))) (nx : (Int × (List (List Int))) → Option R) (dn : (List (List Int)) → Option R) (rt : (Int × Int × (List (List Int)) × (List Int)) → Option R) : Option R :=
  bif decide (v_28 < v_27) then
    ckB (ix v_28 v_26.length) <|
    ckB (ix v_28 v_26.length) <|
    bif decide (v_28 = top_1) then
      nx ((IntKind.wrap .i64 (v_28 + 1)), v_26)
    else
      ckB (ix c_2 (v_26.getD (Int.toNat v_28) []).length) <|
      ckB (ix c_2 (v_26.getD (Int.toNat v_28) []).length) <|
      bnd (matrix_reduced_clear'L0 top_1 c_2 pivot_6 p_7 (Int.toNat v_28) ((v_26.getD (Int.toNat v_28) []).getD (Int.toNat c_2) 0) v_27 v_28 ((v_26.getD (Int.toNat v_28) []).length : Int) r_02 r_03 r_01 (0, v_26)) fun oe1 =>
      lk oe1 (fun e1 =>
        nx ((IntKind.wrap .i64 (v_28 + 1)), e1)) (fun r => rt r)
  else
    dn v_26

def matrix_reduced_clear'L1 (top_1 : Int) (c_2 : Int) (pivot_6 : Nat) (p_7 : Int) (v_27 : Int) (r_02 : Int) (r_03 : Int) (r_01 : (List Int)) (s0 : (Int × (List (List Int)))) : Option ((List (List Int)) ⊕ (Int × Int × (List (List Int)) × (List Int))) :=
  loopM (fun a => matrix_reduced_clear'L1K top_1 c_2 pivot_6 p_7 v_27 r_02 r_03 r_01 a.1 a.2 (fun a' => some (.next a')) (fun e => some (.done e)) (fun r => some (.ret r))) s0

def matrix_reduced_clear'L1I : Shp := ⟨[(0, .ptr 0), (1, .d true (.int .i64)), (2, .d true (.int .i64)), (6, .kid 1 0), (7, .d true (.int .i64)), (26, .own 1), (27, .d true (.int .i64)), (28, .d true (.int .i64))], [.cs 67 4 1 (.cons (.own 1) (.cons (.own 2) (.cons (.d true (.int .i64)) (.cons (.d true (.int .i64)) .nil)))), .arr 32 .own [3] (.slice (.int .i64)), .arr 3 (.fz true) [0] (.int .i64)]⟩
def matrix_reduced_clear'L1E : Shp := ⟨[(0, .ptr 0), (7, .d true (.int .i64))], [.cs 67 4 1 (.cons (.own 1) (.cons (.own 2) (.cons (.d true (.int .i64)) (.cons (.d true (.int .i64)) .nil)))), .arr 32 .own [3] (.slice (.int .i64)), .arr 3 (.fz true) [0] (.int .i64)]⟩

def matrix_reduced_clear' (top_1 : Int) (c_2 : Int) (r_02 : Int) (r_03 : Int) (r_00 : (List (List Int))) (r_01 : (List Int)) : Option (Int × Int × (List (List Int)) × (List Int)) :=
  ckB (ix top_1 r_00.length) <|
  ckB (ix top_1 r_00.length) <|
  ckB (ix c_2 (r_00.getD (Int.toNat top_1) []).length) <|
  ckB (ix c_2 (r_00.getD (Int.toNat top_1) []).length) <|
  bnd (matrix_reduced_clear'L1 top_1 c_2 (Int.toNat top_1) ((r_00.getD (Int.toNat top_1) []).getD (Int.toNat c_2) 0) (r_00.length : Int) r_02 r_03 r_01 (0, r_00)) fun oe2 =>
  lk oe2 (fun e2 =>
    some (((r_00.getD (Int.toNat top_1) []).getD (Int.toNat c_2) 0), r_03, e2, r_01)) (fun r => some r)

/-! casebook/matrix.reduce -/

def matrix_reduceL0K {R : Type} (columns_1 : Int) (v_12 : (List (List Int))) (v_13 : Int) (v_40 : (List (List Int))) (v_41 : (List Int)) (v_42 : Int) (v_43 : Int) (r_52 : Int) (r_53 : Int) (r_51 : (List Int)) (v_14 : Int) (r_50 : (List (List Int))) (nx : (Int × (List (List Int))) → Option R) (dn : (List (List Int)) → Option R) (rt : Casebookref05Form → Option R) : Option R :=
  bif decide (v_14 < v_13) then
    ckB (ix v_14 v_12.length) <|
    ckB (ix v_14 v_12.length) <|
    bnd (slices_Clone_int_int (v_12.getD (Int.toNat v_14) [])) fun r1 =>
    ckB (room (r_50.length + 1) 24) <|
    nx ((IntKind.wrap .i64 (v_14 + 1)), (r_50 ++ [r1]))
  else
    dn r_50

def matrix_reduceL0 (columns_1 : Int) (v_12 : (List (List Int))) (v_13 : Int) (v_40 : (List (List Int))) (v_41 : (List Int)) (v_42 : Int) (v_43 : Int) (r_52 : Int) (r_53 : Int) (r_51 : (List Int)) (s0 : (Int × (List (List Int)))) : Option ((List (List Int)) ⊕ Casebookref05Form) :=
  loopM (fun a => matrix_reduceL0K columns_1 v_12 v_13 v_40 v_41 v_42 v_43 r_52 r_53 r_51 a.1 a.2 (fun a' => some (.next a')) (fun e => some (.done e)) (fun r => some (.ret r))) s0

def matrix_reduceL0I : Shp := ⟨[(1, .d true (.int .i64)), (4, .ptr 0), (5, .ptr 1), (12, .d false (.slice (.slice (.int .i64)))), (13, .d true (.int .i64)), (14, .d true (.int .i64))], [.cs 67 4 1 (.cons (.d true (.slice (.slice (.int .i64)))) (.cons (.d true (.slice (.int .i64))) (.cons (.d true (.int .i64)) (.cons (.d true (.int .i64)) .nil)))), .cs 67 4 1 (.cons (.own 2) (.cons (.own 3) (.cons (.d true (.int .i64)) (.cons (.d true (.int .i64)) .nil)))), .arr 32 .own [3] (.slice (.int .i64)), .arr 3 (.fz true) [0] (.int .i64)]⟩
def matrix_reduceL0E : Shp := ⟨[(1, .d true (.int .i64)), (4, .ptr 0), (5, .ptr 1)], [.cs 67 4 1 (.cons (.d true (.slice (.slice (.int .i64)))) (.cons (.d true (.slice (.int .i64))) (.cons (.d true (.int .i64)) (.cons (.d true (.int .i64)) .nil)))), .cs 67 4 1 (.cons (.own 2) (.cons (.own 3) (.cons (.d true (.int .i64)) (.cons (.d true (.int .i64)) .nil)))), .arr 32 .own [3] (.slice (.int .i64)), .arr 3 (.fz true) [0] (.int .i64)]⟩

def matrix_reduceL1K {R : Type} (columns_1 : Int) (c_8 : Int) (top_9 : Int) (v_40 : (List (List Int))) (v_41 : (List Int)) (v_42 : Int) (v_43 : Int) (r_52 : Int) (r_53 : Int) (r_50 : (List (List Int))) (r_51 : (List Int)) (k_10 : Int) (nx : Int → Option R) (dn : Int → Option R) (rt : Casebookref05Form → Option R) : Option R :=
  bif decide (k_10 < (r_50.length : Int)) then
    ckB (ix k_10 r_50.length) <|
    ckB (ix k_10 r_50.length) <|
    ckB (ix c_8 (r_50.getD (Int.toNat k_10) []).length) <|
    ckB (ix c_8 (r_50.getD (Int.toNat k_10) []).length) <|
    bif decide (((r_50.getD (Int.toNat k_10) []).getD (Int.toNat c_8) 0) = 0) then
      nx (IntKind.wrap .i64 (k_10 + 1))
    else
      dn k_10
  else
    dn k_10

def matrix_reduceL1 (columns_1 : Int) (c_8 : Int) (top_9 : Int) (v_40 : (List (List Int))) (v_41 : (List Int)) (v_42 : Int) (v_43 : Int) (r_52 : Int) (r_53 : Int) (r_50 : (List (List Int))) (r_51 : (List Int)) (s0 : Int) : Option (Int ⊕ Casebookref05Form) :=
  loopM (fun a => matrix_reduceL1K columns_1 c_8 top_9 v_40 v_41 v_42 v_43 r_52 r_53 r_50 r_51 a (fun a' => some (.next a')) (fun e => some (.done e)) (fun r => some (.ret r))) s0

def matrix_reduceL1I : Shp := ⟨[(1, .d true (.int .i64)), (4, .ptr 0), (5, .ptr 1), (8, .d true (.int .i64)), (9, .d true (.int .i64)), (10, .d true (.int .i64))], [.cs 67 4 1 (.cons (.d true (.slice (.slice (.int .i64)))) (.cons (.d true (.slice (.int .i64))) (.cons (.d true (.int .i64)) (.cons (.d true (.int .i64)) .nil)))), .cs 67 4 1 (.cons (.own 2) (.cons (.own 3) (.cons (.d true (.int .i64)) (.cons (.d true (.int .i64)) .nil)))), .arr 32 .own [3] (.slice (.int .i64)), .arr 3 (.fz true) [0] (.int .i64)]⟩
def matrix_reduceL1E : Shp := ⟨[(1, .d true (.int .i64)), (4, .ptr 0), (5, .ptr 1), (8, .d true (.int .i64)), (9, .d true (.int .i64)), (10, .d true (.int .i64))], [.cs 67 4 1 (.cons (.d true (.slice (.slice (.int .i64)))) (.cons (.d true (.slice (.int .i64))) (.cons (.d true (.int .i64)) (.cons (.d true (.int .i64)) .nil)))), .cs 67 4 1 (.cons (.own 2) (.cons (.own 3) (.cons (.d true (.int .i64)) (.cons (.d true (.int .i64)) .nil)))), .arr 32 .own [3] (.slice (.int .i64)), .arr 3 (.fz true) [0] (.int .i64)]⟩

def matrix_reduceL2K {R : Type} (columns_1 : Int) (v_40 : (List (List Int))) (v_41 : (List Int)) (v_42 : Int) (v_43 : Int) (c_8 : Int) (r_52 : Int) (r_53 : Int) (r_50 : (List (List Int))) (r_51 : (List Int)) (nx : (Int × Int × Int × (List (List Int)) × (List Int)) → Option R) (dn : (Int × Int × (List (List Int)) × (List Int)) → Option R) (rt : Casebookref05Form → Option R) : Option R :=
  bif decide (c_8 < columns_1) then
    bif decide ((r_51.length : Int) < (r_50.length : Int)) then
      bnd (matrix_reduceL1 columns_1 c_8 (r_51.length : Int) v_40 v_41 v_42 v_43 r_52 r_53 r_50 r_51 (r_51.length : Int)) fun oe3 =>
      lk oe3 (fun e3 =>
        bif decide (e3 = (r_50.length : Int)) then
          nx ((IntKind.wrap .i64 (c_8 + 1)), r_52, r_53, r_50, r_51)
        else
          bif (!decide (e3 = (r_51.length : Int))) then
            ckB (ix (r_51.length : Int) r_50.length) <|
            ckB (ix (r_51.length : Int) r_50.length) <|
            ckB (ix e3 r_50.length) <|
            ckB (ix e3 r_50.length) <|
            ckB (ix e3 r_50.length) <|
            ckB (ix e3 r_50.length) <|
            ckB (ix (r_51.length : Int) r_50.length) <|
            ckB (ix (r_51.length : Int) r_50.length) <|
            ckB (decide (((Int.toNat (r_51.length : Int)) : Nat) = (Int.toNat (r_51.length : Int)))) <|
            ckB (decide (((Int.toNat e3) : Nat) = (Int.toNat e3))) <|
            bnd (matrix_reduced_clear' (r_51.length : Int) c_8 r_52 (IntKind.wrap .i64 (r_53 + 1)) ((r_50.set (Int.toNat e3) (r_50.getD (Int.toNat (r_51.length : Int)) [])).set (Int.toNat (r_51.length : Int)) (r_50.getD (Int.toNat e3) [])) r_51) fun r4 =>
            ckB (decide (r4.2.2.1.length = ((r_50.set (Int.toNat e3) (r_50.getD (Int.toNat (r_51.length : Int)) [])).set (Int.toNat (r_51.length : Int)) (r_50.getD (Int.toNat e3) [])).length)) <|
            ckB (decide (r4.2.2.2.length = r_51.length)) <|
            ckB (room (r4.2.2.2.length + 1) 8) <|
            nx ((IntKind.wrap .i64 (c_8 + 1)), r4.1, r4.2.1, r4.2.2.1, (r4.2.2.2 ++ [c_8]))
          else
            bnd (matrix_reduced_clear' (r_51.length : Int) c_8 r_52 r_53 r_50 r_51) fun r5 =>
            ckB (decide (r5.2.2.1.length = r_50.length)) <|
            ckB (decide (r5.2.2.2.length = r_51.length)) <|
            ckB (room (r5.2.2.2.length + 1) 8) <|
            nx ((IntKind.wrap .i64 (c_8 + 1)), r5.1, r5.2.1, r5.2.2.1, (r5.2.2.2 ++ [c_8]))) (fun r => rt r)
    else
      dn (r_52, r_53, r_50, r_51)
  else
    dn (r_52, r_53, r_50, r_51)

def matrix_reduceL2 (columns_1 : Int) (v_40 : (List (List Int))) (v_41 : (List Int)) (v_42 : Int) (v_43 : Int) (s0 : (Int × Int × Int × (List (List Int)) × (List Int))) : Option ((Int × Int × (List (List Int)) × (List Int)) ⊕ Casebookref05Form) :=
  loopM (fun a => matrix_reduceL2K columns_1 v_40 v_41 v_42 v_43 a.1 a.2.1 a.2.2.1 a.2.2.2.1 a.2.2.2.2 (fun a' => some (.next a')) (fun e => some (.done e)) (fun r => some (.ret r))) s0

def matrix_reduceL2I : Shp := ⟨[(1, .d true (.int .i64)), (4, .ptr 0), (5, .ptr 1), (8, .d true (.int .i64))], [.cs 67 4 1 (.cons (.d true (.slice (.slice (.int .i64)))) (.cons (.d true (.slice (.int .i64))) (.cons (.d true (.int .i64)) (.cons (.d true (.int .i64)) .nil)))), .cs 67 4 1 (.cons (.own 2) (.cons (.own 3) (.cons (.d true (.int .i64)) (.cons (.d true (.int .i64)) .nil)))), .arr 32 .own [3] (.slice (.int .i64)), .arr 3 (.fz true) [0] (.int .i64)]⟩
def matrix_reduceL2E : Shp := ⟨[(4, .ptr 0), (5, .ptr 1)], [.cs 67 4 1 (.cons (.d true (.slice (.slice (.int .i64)))) (.cons (.d true (.slice (.int .i64))) (.cons (.d true (.int .i64)) (.cons (.d true (.int .i64)) .nil)))), .cs 67 4 1 (.cons (.own 2) (.cons (.own 3) (.cons (.d true (.int .i64)) (.cons (.d true (.int .i64)) .nil)))), .arr 32 .own [3] (.slice (.int .i64)), .arr 3 (.fz true) [0] (.int .i64)]⟩

def matrix_reduce (m_0 : (List (List Int))) (columns_1 : Int) : Option Casebookref05Form :=
  bnd (matrix_reduceL0 columns_1 m_0 (m_0.length : Int) [] [] 0 0 1 0 [] (0, [])) fun oe2 =>
  lk oe2 (fun e2 =>
    bnd (matrix_reduceL2 columns_1 [] [] 0 0 (0, 1, 0, e2, [])) fun oe6 =>
    lk oe6 (fun e6 =>
      some (e6.2.2.1, e6.2.2.2, e6.1, e6.2.1, ())) (fun r => some r)) (fun r => some r)

/-! casebook/matrix.Rank -/

def matrix_Rank (m_0 : (List (List Int))) : Option (Int × Int) :=
  bnd (matrix_Valid m_0) fun r1 =>
  bif (!r1) then
    some (0, 1)
  else
    bnd (matrix_small m_0) fun r2 =>
    bif (!r2) then
      some (0, 6)
    else
      ckB (ix 0 m_0.length) <|
      ckB (ix 0 m_0.length) <|
      bnd (matrix_reduce m_0 ((m_0.getD 0 []).length : Int)) fun r3 =>
      some ((r3.2.1.length : Int), 0)

/-! slices.Index[[]int,int] -/

def slices_Index_int_intL0K {R : Type} (s_0 : (List Int)) (v_1 : Int) (v_7 : Int) (v_8 : Int) (nx : Int → Option R) (dn : Unit → Option R) (rt : Int → Option R) : Option R :=
  bif decide (v_8 < v_7) then
    ckB (ix v_8 s_0.length) <|
    ckB (ix v_8 s_0.length) <|
    bif decide (v_1 = (s_0.getD (Int.toNat v_8) 0)) then
      rt v_8
    else
      ckB (inR .i64 (v_8 + 1)) <|
      nx (v_8 + 1)
  else
    dn ()

def slices_Index_int_intL0 (s_0 : (List Int)) (v_1 : Int) (v_7 : Int) (s0 : Int) : Option (Unit ⊕ Int) :=
  loopM (fun a => slices_Index_int_intL0K s_0 v_1 v_7 a (fun a' => some (.next a')) (fun e => some (.done e)) (fun r => some (.ret r))) s0

def slices_Index_int_intL0I : Shp := ⟨[(0, .d false (.slice (.int .i64))), (1, .d true (.int .i64)), (7, .d true (.int .i64)), (8, .d true (.int .i64))], []⟩
def slices_Index_int_intL0E : Shp := ⟨[], []⟩

def slices_Index_int_int (s_0 : (List Int)) (v_1 : Int) : Option Int :=
  bnd (slices_Index_int_intL0 s_0 v_1 (s_0.length : Int) 0) fun oe1 =>
  lk oe1 (fun e1 =>
    some (-1)) (fun r => some r)

/-! slices.Contains[[]int,int] -/

def slices_Contains_int_int (s_0 : (List Int)) (v_1 : Int) : Option Bool :=
  bnd (slices_Index_int_int s_0 v_1) fun r1 =>
  some (decide ((0 : Int) ≤ r1))

/-! casebook/matrix.primitive -/

def matrix_primitiveL0K {R : Type} (v_10 : Int) (v_11 : Int) (l_0 : (List Int)) (a_6 : Int) (b_7 : Int) (nx : (Int × Int) → Option R) (dn : Int → Option R) (rt : (List Int) → Option R) : Option R :=
  bif (!decide (b_7 = 0)) then
    ckB (!decide (b_7 = 0)) <|
    nx (b_7, (Int.tmod a_6 b_7))
  else
    dn a_6

def matrix_primitiveL0 (v_10 : Int) (v_11 : Int) (l_0 : (List Int)) (s0 : (Int × Int)) : Option (Int ⊕ (List Int)) :=
  loopM (fun a => matrix_primitiveL0K v_10 v_11 l_0 a.1 a.2 (fun a' => some (.next a')) (fun e => some (.done e)) (fun r => some (.ret r))) s0

def matrix_primitiveL0I : Shp := ⟨[(0, .own 0), (6, .d true (.int .i64)), (7, .d true (.int .i64)), (9, .own 0), (10, .d true (.int .i64)), (11, .d true (.int .i64))], [.arr 3 (.fz true) [0] (.int .i64)]⟩
def matrix_primitiveL0E : Shp := ⟨[(0, .own 0), (6, .d true (.int .i64)), (9, .own 0), (10, .d true (.int .i64)), (11, .d true (.int .i64))], [.arr 3 (.fz true) [0] (.int .i64)]⟩

def matrix_primitiveL1K {R : Type} (v_10 : Int) (l_0 : (List Int)) (g_3 : Int) (v_11 : Int) (nx : (Int × Int) → Option R) (dn : Int → Option R) (rt : (List Int) → Option R) : Option R :=
  bif decide (v_11 < v_10) then
    ckB (ix v_11 l_0.length) <|
    ckB (ix v_11 l_0.length) <|
    bnd (matrix_abs (l_0.getD (Int.toNat v_11) 0)) fun r1 =>
    bnd (matrix_primitiveL0 v_10 v_11 l_0 (g_3, r1)) fun oe2 =>
    lk oe2 (fun e2 =>
      nx (e2, (IntKind.wrap .i64 (v_11 + 1)))) (fun r => rt r)
  else
    dn g_3

def matrix_primitiveL1 (v_10 : Int) (l_0 : (List Int)) (s0 : (Int × Int)) : Option (Int ⊕ (List Int)) :=
  loopM (fun a => matrix_primitiveL1K v_10 l_0 a.1 a.2 (fun a' => some (.next a')) (fun e => some (.done e)) (fun r => some (.ret r))) s0

def matrix_primitiveL1I : Shp := ⟨[(0, .own 0), (3, .d true (.int .i64)), (9, .own 0), (10, .d true (.int .i64)), (11, .d true (.int .i64))], [.arr 3 (.fz true) [0] (.int .i64)]⟩
def matrix_primitiveL1E : Shp := ⟨[(0, .own 0), (3, .d true (.int .i64))], [.arr 3 (.fz true) [0] (.int .i64)]⟩

def matrix_primitiveL2K {R : Type} (g_3 : Int) (v_27 : Int) (v_28 : Int) (l_0 : (List Int)) (nx : (Int × (List Int)) → Option R) (dn : (List Int) → Option R) (rt : (List Int) → Option R) : Option R :=
  bif decide (v_28 < v_27) then
    bif decide ((1 : Int) < g_3) then
      ckB (ix v_28 l_0.length) <|
      ckB (ix v_28 l_0.length) <|
      ckB (!decide (g_3 = 0)) <|
      ckB (ix v_28 l_0.length) <|
      ckB (ix v_28 l_0.length) <|
      nx ((IntKind.wrap .i64 (v_28 + 1)), (l_0.set (Int.toNat v_28) (IntKind.wrap .i64 (Int.tdiv (l_0.getD (Int.toNat v_28) 0) g_3))))
    else
      nx ((IntKind.wrap .i64 (v_28 + 1)), l_0)
  else
    dn l_0

def matrix_primitiveL2 (g_3 : Int) (v_27 : Int) (s0 : (Int × (List Int))) : Option ((List Int) ⊕ (List Int)) :=
  loopM (fun a => matrix_primitiveL2K g_3 v_27 a.1 a.2 (fun a' => some (.next a')) (fun e => some (.done e)) (fun r => some (.ret r))) s0

def matrix_primitiveL2I : Shp := ⟨[(0, .own 0), (3, .d true (.int .i64)), (27, .d true (.int .i64)), (28, .d true (.int .i64))], [.arr 3 (.fz true) [0] (.int .i64)]⟩
def matrix_primitiveL2E : Shp := ⟨[(0, .own 0)], [.arr 3 (.fz true) [0] (.int .i64)]⟩

def matrix_primitive (l_0 : (List Int)) : Option (List Int) :=
  bnd (matrix_primitiveL1 (l_0.length : Int) l_0 (0, 0)) fun oe3 =>
  lk oe3 (fun e3 =>
    bnd (matrix_primitiveL2 e3 (l_0.length : Int) (0, l_0)) fun oe4 =>
    lk oe4 (fun e4 =>
      some e4) (fun r => some r)) (fun r => some r)

/-! casebook/matrix.kernel -/

def matrix_kernelL0K {R : Type} (n_3 : Int) (c_6 : Int) (v_17 : Int) (v_18 : Int) (v_34 : (List Int)) (v_35 : Int) (r_40 : (List (List Int))) (r_41 : (List Int)) (r_42 : Int) (r_43 : Int) (out_5 : (List (List Int))) (v_36 : Int) (x_7 : (List Int)) (nx : (Int × (List Int)) → Option R) (dn : (List Int) → Option R) (rt : (List (List Int)) → Option R) : Option R :=
  bif decide (v_36 < v_35) then
    ckB (ix v_36 v_34.length) <|
    ckB (ix v_36 v_34.length) <|
    ckB (ix v_36 r_40.length) <|
    ckB (ix v_36 r_40.length) <|
    ckB (ix c_6 (r_40.getD (Int.toNat v_36) []).length) <|
    ckB (ix c_6 (r_40.getD (Int.toNat v_36) []).length) <|
    ckB (ix (v_34.getD (Int.toNat v_36) 0) x_7.length) <|
    ckB (ix (v_34.getD (Int.toNat v_36) 0) x_7.length) <|
    bif decide (r_42 < 0) then
      ckB (ix v_36 r_40.length) <|
      ckB (ix v_36 r_40.length) <|
      ckB (ix c_6 (r_40.getD (Int.toNat v_36) []).length) <|
      ckB (ix c_6 (r_40.getD (Int.toNat v_36) []).length) <|
      ckB (ix (v_34.getD (Int.toNat v_36) 0) (x_7.set (Int.toNat (v_34.getD (Int.toNat v_36) 0)) (IntKind.wrap .i64 (0 - ((r_40.getD (Int.toNat v_36) []).getD (Int.toNat c_6) 0)))).length) <|
      ckB (ix (v_34.getD (Int.toNat v_36) 0) (x_7.set (Int.toNat (v_34.getD (Int.toNat v_36) 0)) (IntKind.wrap .i64 (0 - ((r_40.getD (Int.toNat v_36) []).getD (Int.toNat c_6) 0)))).length) <|
      nx ((IntKind.wrap .i64 (v_36 + 1)), ((x_7.set (Int.toNat (v_34.getD (Int.toNat v_36) 0)) (IntKind.wrap .i64 (0 - ((r_40.getD (Int.toNat v_36) []).getD (Int.toNat c_6) 0)))).set (Int.toNat (v_34.getD (Int.toNat v_36) 0)) ((r_40.getD (Int.toNat v_36) []).getD (Int.toNat c_6) 0)))
    else
      nx ((IntKind.wrap .i64 (v_36 + 1)), (x_7.set (Int.toNat (v_34.getD (Int.toNat v_36) 0)) (IntKind.wrap .i64 (0 - ((r_40.getD (Int.toNat v_36) []).getD (Int.toNat c_6) 0)))))
  else
    dn x_7

def matrix_kernelL0 (n_3 : Int) (c_6 : Int) (v_17 : Int) (v_18 : Int) (v_34 : (List Int)) (v_35 : Int) (r_40 : (List (List Int))) (r_41 : (List Int)) (r_42 : Int) (r_43 : Int) (out_5 : (List (List Int))) (s0 : (Int × (List Int))) : Option ((List Int) ⊕ (List (List Int))) :=
  loopM (fun a => matrix_kernelL0K n_3 c_6 v_17 v_18 v_34 v_35 r_40 r_41 r_42 r_43 out_5 a.1 a.2 (fun a' => some (.next a')) (fun e => some (.done e)) (fun r => some (.ret r))) s0

def matrix_kernelL0I : Shp := ⟨[(3, .d true (.int .i64)), (4, .ptr 0), (5, .own 1), (6, .d true (.int .i64)), (7, .own 2), (17, .d true (.int .i64)), (18, .d true (.int .i64)), (34, .d true (.slice (.int .i64))), (35, .d true (.int .i64)), (36, .d true (.int .i64))], [.cs 67 4 1 (.cons (.d true (.slice (.slice (.int .i64)))) (.cons (.d true (.slice (.int .i64))) (.cons (.d true (.int .i64)) (.cons (.d true (.int .i64)) .nil)))), .arr 32 .own [3] (.slice (.int .i64)), .arr 3 (.fz true) [0] (.int .i64)]⟩
def matrix_kernelL0E : Shp := ⟨[(3, .d true (.int .i64)), (4, .ptr 0), (5, .own 1), (7, .own 2), (17, .d true (.int .i64)), (18, .d true (.int .i64))], [.cs 67 4 1 (.cons (.d true (.slice (.slice (.int .i64)))) (.cons (.d true (.slice (.int .i64))) (.cons (.d true (.int .i64)) (.cons (.d true (.int .i64)) .nil)))), .arr 32 .own [3] (.slice (.int .i64)), .arr 3 (.fz true) [0] (.int .i64)]⟩

def matrix_kernelL1K {R : Type} (n_3 : Int) (v_17 : Int) (r_40 : (List (List Int))) (r_41 : (List Int)) (r_42 : Int) (r_43 : Int) (v_18 : Int) (out_5 : (List (List Int))) (nx : (Int × (List (List Int))) → Option R) (dn : (List (List Int)) → Option R) (rt : (List (List Int)) → Option R) : Option R :=
  bif decide (v_18 < v_17) then
    bnd (slices_Contains_int_int r_41 v_18) fun r2 =>
    bif r2 then
      nx ((IntKind.wrap .i64 (v_18 + 1)), out_5)
    else
      ckB (mkOk n_3 n_3 8) <|
      bnd (matrix_abs r_42) fun r3 =>
      ckB (ix v_18 (List.replicate (Int.toNat n_3) (0 : Int)).length) <|
      ckB (ix v_18 (List.replicate (Int.toNat n_3) (0 : Int)).length) <|
      bnd (matrix_kernelL0 n_3 v_18 v_17 v_18 r_41 (r_41.length : Int) r_40 r_41 r_42 r_43 out_5 (0, ((List.replicate (Int.toNat n_3) (0 : Int)).set (Int.toNat v_18) r3))) fun oe4 =>
      lk oe4 (fun e4 =>
        bnd (matrix_primitive e4) fun r5 =>
        ckB (decide (r5.length = e4.length)) <|
        ckB (room (out_5.length + 1) 24) <|
        nx ((IntKind.wrap .i64 (v_18 + 1)), (out_5 ++ [r5]))) (fun r => rt r)
  else
    dn out_5

def matrix_kernelL1 (n_3 : Int) (v_17 : Int) (r_40 : (List (List Int))) (r_41 : (List Int)) (r_42 : Int) (r_43 : Int) (s0 : (Int × (List (List Int)))) : Option ((List (List Int)) ⊕ (List (List Int))) :=
  loopM (fun a => matrix_kernelL1K n_3 v_17 r_40 r_41 r_42 r_43 a.1 a.2 (fun a' => some (.next a')) (fun e => some (.done e)) (fun r => some (.ret r))) s0

def matrix_kernelL1I : Shp := ⟨[(3, .d true (.int .i64)), (4, .ptr 0), (5, .own 1), (17, .d true (.int .i64)), (18, .d true (.int .i64))], [.cs 67 4 1 (.cons (.d true (.slice (.slice (.int .i64)))) (.cons (.d true (.slice (.int .i64))) (.cons (.d true (.int .i64)) (.cons (.d true (.int .i64)) .nil)))), .arr 32 .own [3] (.slice (.int .i64))]⟩
def matrix_kernelL1E : Shp := ⟨[(5, .own 0)], [.arr 32 .own [3] (.slice (.int .i64))]⟩

def matrix_kernel (m_0 : (List (List Int))) : Option (List (List Int)) :=
  ckB (ix 0 m_0.length) <|
  ckB (ix 0 m_0.length) <|
  bnd (matrix_reduce m_0 ((m_0.getD 0 []).length : Int)) fun r1 =>
  bnd (matrix_kernelL1 ((m_0.getD 0 []).length : Int) ((m_0.getD 0 []).length : Int) r1.1 r1.2.1 r1.2.2.1 r1.2.2.2.1 (0, [])) fun oe6 =>
  lk oe6 (fun e6 =>
    some e6) (fun r => some r)

/-! casebook/matrix.Kernel -/

def matrix_Kernel (m_0 : (List (List Int))) : Option (Int × (List (List Int))) :=
  bnd (matrix_Valid m_0) fun r1 =>
  bif (!r1) then
    some (1, [])
  else
    bnd (matrix_small m_0) fun r2 =>
    bif (!r2) then
      some (6, [])
    else
      bnd (matrix_kernel m_0) fun r3 =>
      some (0, r3)

/-! casebook/matrix.column -/

def matrix_column (b_0 : (List Int)) : Option Bool :=
  bif decide ((1 : Int) ≤ (b_0.length : Int)) then
    bif decide ((b_0.length : Int) ≤ 20) then
      bnd (matrix_entries b_0) fun r1 =>
      some r1
    else
      some false
  else
    some false

/-! casebook/frac.abs -/

def frac_abs (n_0 : Int) : Option Int :=
  bif decide (n_0 < 0) then
    some (IntKind.wrap .u64 (0 - (IntKind.wrap .u64 n_0)))
  else
    some (IntKind.wrap .u64 n_0)

/-! casebook/frac.fit -/

def frac_fitL0K {R : Type} (negative_0 : Bool) (num_1 : Int) (den_2 : Int) (v_60 : Int) (v_61 : Int) (a_8 : Int) (b_9 : Int) (nx : (Int × Int) → Option R) (dn : Int → Option R) (rt : (Frac × Int) → Option R) : Option R :=
  bif (!decide (b_9 = 0)) then
    ckB (!decide (b_9 = 0)) <|
    nx (b_9, (Int.tmod a_8 b_9))
  else
    dn a_8

def frac_fitL0 (negative_0 : Bool) (num_1 : Int) (den_2 : Int) (v_60 : Int) (v_61 : Int) (s0 : (Int × Int)) : Option (Int ⊕ (Frac × Int)) :=
  loopM (fun a => frac_fitL0K negative_0 num_1 den_2 v_60 v_61 a.1 a.2 (fun a' => some (.next a')) (fun e => some (.done e)) (fun r => some (.ret r))) s0

def frac_fitL0I : Shp := ⟨[(0, .d true .bool), (1, .d true (.int .u64)), (2, .d true (.int .u64)), (6, .ptr 0), (8, .d true (.int .u64)), (9, .d true (.int .u64))], [.cs 50 2 1 (.cons (.d true (.int .i64)) (.cons (.d true (.int .i64)) .nil))]⟩
def frac_fitL0E : Shp := ⟨[(0, .d true .bool), (1, .d true (.int .u64)), (2, .d true (.int .u64)), (6, .ptr 0), (8, .d true (.int .u64))], [.cs 50 2 1 (.cons (.d true (.int .i64)) (.cons (.d true (.int .i64)) .nil))]⟩

def frac_fit (negative_0 : Bool) (num_1 : Int) (den_2 : Int) : Option (Frac × Int) :=
  bnd (frac_fitL0 negative_0 num_1 den_2 0 0 (num_1, den_2)) fun oe1 =>
  lk oe1 (fun e1 =>
    ckB (!decide (e1 = 0)) <|
    ckB (!decide (e1 = 0)) <|
    bif decide ((1073741824 : Int) < (IntKind.wrap .u64 (Int.tdiv num_1 e1))) then
      some ((0, 0, ()), 6)
    else
      bif decide ((1073741824 : Int) < (IntKind.wrap .u64 (Int.tdiv den_2 e1))) then
        some ((0, 0, ()), 6)
      else
        ckB (inR .i64 (IntKind.wrap .u64 (Int.tdiv num_1 e1))) <|
        ckB (inR .i64 (IntKind.wrap .u64 (Int.tdiv den_2 e1))) <|
        bif negative_0 then
          ckB (inR .i64 (0 - (IntKind.wrap .u64 (Int.tdiv num_1 e1)))) <|
          some (((0 - (IntKind.wrap .u64 (Int.tdiv num_1 e1))), (IntKind.wrap .u64 (Int.tdiv den_2 e1)), ()), 0)
        else
          some (((IntKind.wrap .u64 (Int.tdiv num_1 e1)), (IntKind.wrap .u64 (Int.tdiv den_2 e1)), ()), 0)) (fun r => some r)

/-! casebook/frac.Make -/

def frac_Make (num_0 : Int) (den_1 : Int) : Option (Frac × Int) :=
  bif decide (den_1 = 0) then
    some ((0, 0, ()), 7)
  else
    bnd (frac_abs num_0) fun r1 =>
    bnd (frac_abs den_1) fun r2 =>
    bnd (frac_fit (!(decide (num_0 < 0) == decide (den_1 < 0))) r1 r2) fun r3 =>
    some (r3.1, r3.2)

/-! casebook/matrix.Solve -/

def matrix_SolveL0K {R : Type} (m_0 : (List (List Int))) (b_1 : (List Int)) (v_32 : (List (List Int))) (v_33 : Int) (v_34 : Int) (with_6 : (List (List Int))) (nx : (Int × (List (List Int))) → Option R) (dn : (List (List Int)) → Option R) (rt : (Int × (List Frac)) → Option R) : Option R :=
  bif decide (v_34 < v_33) then
    ckB (ix v_34 v_32.length) <|
    ckB (ix v_34 v_32.length) <|
    bnd (slices_Clone_int_int (v_32.getD (Int.toNat v_34) [])) fun r3 =>
    ckB (ix v_34 b_1.length) <|
    ckB (ix v_34 b_1.length) <|
    ckB (room (r3.length + 1) 8) <|
    ckB (room (with_6.length + 1) 24) <|
    ckB (inR .i64 (v_34 + 1)) <|
    nx ((v_34 + 1), (with_6 ++ [(r3 ++ [(b_1.getD (Int.toNat v_34) 0)])]))
  else
    dn with_6

def matrix_SolveL0 (m_0 : (List (List Int))) (b_1 : (List Int)) (v_32 : (List (List Int))) (v_33 : Int) (s0 : (Int × (List (List Int)))) : Option ((List (List Int)) ⊕ (Int × (List Frac))) :=
  loopM (fun a => matrix_SolveL0K m_0 b_1 v_32 v_33 a.1 a.2 (fun a' => some (.next a')) (fun e => some (.done e)) (fun r => some (.ret r))) s0

def matrix_SolveL0I : Shp := ⟨[(0, .d false (.slice (.slice (.int .i64)))), (1, .d false (.slice (.int .i64))), (6, .own 0), (32, .d false (.slice (.slice (.int .i64)))), (33, .d true (.int .i64)), (34, .d true (.int .i64))], [.arr 32 (.fz true) [3] (.slice (.int .i64))]⟩
def matrix_SolveL0E : Shp := ⟨[(0, .d false (.slice (.slice (.int .i64)))), (6, .own 0)], [.arr 32 (.fz true) [3] (.slice (.int .i64))]⟩

def matrix_SolveL1K {R : Type} (n_9 : Int) (v_66 : (List (List Int))) (v_67 : Int) (r_100 : (List (List Int))) (r_101 : (List Int)) (r_102 : Int) (r_103 : Int) (v_68 : Int) (nx : Int → Option R) (dn : Unit → Option R) (rt : (Int × (List Frac)) → Option R) : Option R :=
  bif decide (v_68 < v_67) then
    ckB (ix v_68 v_66.length) <|
    ckB (ix v_68 v_66.length) <|
    ckB (ix n_9 (v_66.getD (Int.toNat v_68) []).length) <|
    ckB (ix n_9 (v_66.getD (Int.toNat v_68) []).length) <|
    bif (!decide (((v_66.getD (Int.toNat v_68) []).getD (Int.toNat n_9) 0) = 0)) then
      rt (10, [])
    else
      ckB (inR .i64 (v_68 + 1)) <|
      nx (v_68 + 1)
  else
    dn ()

def matrix_SolveL1 (n_9 : Int) (v_66 : (List (List Int))) (v_67 : Int) (r_100 : (List (List Int))) (r_101 : (List Int)) (r_102 : Int) (r_103 : Int) (s0 : Int) : Option (Unit ⊕ (Int × (List Frac))) :=
  loopM (fun a => matrix_SolveL1K n_9 v_66 v_67 r_100 r_101 r_102 r_103 a (fun a' => some (.next a')) (fun e => some (.done e)) (fun r => some (.ret r))) s0

def matrix_SolveL1I : Shp := ⟨[(9, .d true (.int .i64)), (10, .ptr 0), (66, .d true (.slice (.slice (.int .i64)))), (67, .d true (.int .i64)), (68, .d true (.int .i64))], [.cs 67 4 1 (.cons (.d true (.slice (.slice (.int .i64)))) (.cons (.d true (.slice (.int .i64))) (.cons (.d true (.int .i64)) (.cons (.d true (.int .i64)) .nil))))]⟩
def matrix_SolveL1E : Shp := ⟨[(9, .d true (.int .i64)), (10, .ptr 0)], [.cs 67 4 1 (.cons (.d true (.slice (.slice (.int .i64)))) (.cons (.d true (.slice (.int .i64))) (.cons (.d true (.int .i64)) (.cons (.d true (.int .i64)) .nil))))]⟩

def matrix_SolveL2K {R : Type} (n_9 : Int) (v_81 : Int) (r_100 : (List (List Int))) (r_101 : (List Int)) (r_102 : Int) (r_103 : Int) (v_82 : Int) (out_13 : (List Frac)) (nx : (Int × (List Frac)) → Option R) (dn : (List Frac) → Option R) (rt : (Int × (List Frac)) → Option R) : Option R :=
  bif decide (v_82 < v_81) then
    ckB (ix v_82 out_13.length) <|
    ckB (ix v_82 out_13.length) <|
    ckB (inR .i64 (v_82 + 1)) <|
    nx ((v_82 + 1), (out_13.set (Int.toNat v_82) (0, 1, ())))
  else
    dn out_13

def matrix_SolveL2 (n_9 : Int) (v_81 : Int) (r_100 : (List (List Int))) (r_101 : (List Int)) (r_102 : Int) (r_103 : Int) (s0 : (Int × (List Frac))) : Option ((List Frac) ⊕ (Int × (List Frac))) :=
  loopM (fun a => matrix_SolveL2K n_9 v_81 r_100 r_101 r_102 r_103 a.1 a.2 (fun a' => some (.next a')) (fun e => some (.done e)) (fun r => some (.ret r))) s0

def matrix_SolveL2I : Shp := ⟨[(9, .d true (.int .i64)), (10, .ptr 0), (13, .own 1), (81, .d true (.int .i64)), (82, .d true (.int .i64))], [.cs 67 4 1 (.cons (.d true (.slice (.slice (.int .i64)))) (.cons (.d true (.slice (.int .i64))) (.cons (.d true (.int .i64)) (.cons (.d true (.int .i64)) .nil)))), .arr 50 (.fz true) [0, 0] Frac.ty]⟩
def matrix_SolveL2E : Shp := ⟨[(9, .d true (.int .i64)), (10, .ptr 0), (13, .own 1)], [.cs 67 4 1 (.cons (.d true (.slice (.slice (.int .i64)))) (.cons (.d true (.slice (.int .i64))) (.cons (.d true (.int .i64)) (.cons (.d true (.int .i64)) .nil)))), .arr 50 (.fz true) [0, 0] Frac.ty]⟩

def matrix_SolveL3K {R : Type} (n_9 : Int) (v_91 : (List Int)) (v_92 : Int) (r_100 : (List (List Int))) (r_101 : (List Int)) (r_102 : Int) (r_103 : Int) (v_93 : Int) (out_13 : (List Frac)) (nx : (Int × (List Frac)) → Option R) (dn : (List Frac) → Option R) (rt : (Int × (List Frac)) → Option R) : Option R :=
  bif decide (v_93 < v_92) then
    ckB (ix v_93 v_91.length) <|
    ckB (ix v_93 v_91.length) <|
    ckB (ix v_93 r_100.length) <|
    ckB (ix v_93 r_100.length) <|
    ckB (ix n_9 (r_100.getD (Int.toNat v_93) []).length) <|
    ckB (ix n_9 (r_100.getD (Int.toNat v_93) []).length) <|
    bnd (frac_Make ((r_100.getD (Int.toNat v_93) []).getD (Int.toNat n_9) 0) r_102) fun r9 =>
    ckB (ix (v_91.getD (Int.toNat v_93) 0) out_13.length) <|
    ckB (ix (v_91.getD (Int.toNat v_93) 0) out_13.length) <|
    ckB (inR .i64 (v_93 + 1)) <|
    nx ((v_93 + 1), (out_13.set (Int.toNat (v_91.getD (Int.toNat v_93) 0)) r9.1))
  else
    dn out_13

def matrix_SolveL3 (n_9 : Int) (v_91 : (List Int)) (v_92 : Int) (r_100 : (List (List Int))) (r_101 : (List Int)) (r_102 : Int) (r_103 : Int) (s0 : (Int × (List Frac))) : Option ((List Frac) ⊕ (Int × (List Frac))) :=
  loopM (fun a => matrix_SolveL3K n_9 v_91 v_92 r_100 r_101 r_102 r_103 a.1 a.2 (fun a' => some (.next a')) (fun e => some (.done e)) (fun r => some (.ret r))) s0

def matrix_SolveL3I : Shp := ⟨[(9, .d true (.int .i64)), (10, .ptr 0), (13, .own 1), (91, .d true (.slice (.int .i64))), (92, .d true (.int .i64)), (93, .d true (.int .i64))], [.cs 67 4 1 (.cons (.d true (.slice (.slice (.int .i64)))) (.cons (.d true (.slice (.int .i64))) (.cons (.d true (.int .i64)) (.cons (.d true (.int .i64)) .nil)))), .arr 50 (.fz true) [0, 0] Frac.ty]⟩
def matrix_SolveL3E : Shp := ⟨[(13, .own 0)], [.arr 50 (.fz true) [0, 0] Frac.ty]⟩

def matrix_Solve (m_0 : (List (List Int))) (b_1 : (List Int)) : Option (Int × (List Frac)) :=
  bnd (matrix_Valid m_0) fun r1 =>
  bif (!r1) then
    some (1, [])
  else
    bnd (matrix_column b_1) fun r2 =>
    bif (!r2) then
      some (1, [])
    else
      bif (!decide ((b_1.length : Int) = (m_0.length : Int))) then
        some (29, [])
      else
        bnd (matrix_SolveL0 m_0 b_1 m_0 (m_0.length : Int) (0, [])) fun oe4 =>
        lk oe4 (fun e4 =>
          bnd (matrix_small e4) fun r5 =>
          bif (!r5) then
            some (6, [])
          else
            ckB (ix 0 m_0.length) <|
            ckB (ix 0 m_0.length) <|
            bnd (matrix_reduce e4 ((m_0.getD 0 []).length : Int)) fun r6 =>
            ckB (cut (r6.2.1.length : Int) r6.1.length r6.1.length) <|
            bnd (matrix_SolveL1 ((m_0.getD 0 []).length : Int) (r6.1.drop (Int.toNat (r6.2.1.length : Int))) ((r6.1.drop (Int.toNat (r6.2.1.length : Int))).length : Int) r6.1 r6.2.1 r6.2.2.1 r6.2.2.2.1 0) fun oe7 =>
            lk oe7 (fun e7 =>
              ckB (mkOk ((m_0.getD 0 []).length : Int) ((m_0.getD 0 []).length : Int) 16) <|
              bnd (matrix_SolveL2 ((m_0.getD 0 []).length : Int) ((List.replicate (Int.toNat ((m_0.getD 0 []).length : Int)) (Frac.z : Frac)).length : Int) r6.1 r6.2.1 r6.2.2.1 r6.2.2.2.1 (0, (List.replicate (Int.toNat ((m_0.getD 0 []).length : Int)) (Frac.z : Frac)))) fun oe8 =>
              lk oe8 (fun e8 =>
                bnd (matrix_SolveL3 ((m_0.getD 0 []).length : Int) r6.2.1 (r6.2.1.length : Int) r6.1 r6.2.1 r6.2.2.1 r6.2.2.2.1 (0, e8)) fun oe10 =>
                lk oe10 (fun e10 =>
                  some (0, e10)) (fun r => some r)) (fun r => some r)) (fun r => some r)) (fun r => some r)

/-! casebook/matrix.transposed -/

def matrix_transposedL0K {R : Type} (v_13 : (List (List Int))) (v_14 : Int) (v_15 : Int) (v_19 : (List Int)) (v_20 : Int) (v_21 : Int) (out_3 : (List (List Int))) (nx : (Int × (List (List Int))) → Option R) (dn : (List (List Int)) → Option R) (rt : (List (List Int)) → Option R) : Option R :=
  bif decide (v_21 < v_20) then
    ckB (ix v_21 v_19.length) <|
    ckB (ix v_21 v_19.length) <|
    ckB (ix v_21 out_3.length) <|
    ckB (ix v_21 out_3.length) <|
    ckB (room ((out_3.getD (Int.toNat v_21) []).length + 1) 8) <|
    ckB (ix v_21 (out_3.set (Int.toNat v_21) ((out_3.getD (Int.toNat v_21) []) ++ [(v_19.getD (Int.toNat v_21) 0)])).length) <|
    ckB (ix v_21 (out_3.set (Int.toNat v_21) ((out_3.getD (Int.toNat v_21) []) ++ [(v_19.getD (Int.toNat v_21) 0)])).length) <|
    ckB (decide (((Int.toNat v_21) : Nat) = (Int.toNat v_21))) <|
    ckB (decide (((Int.toNat v_21) : Nat) = (Int.toNat v_21))) <|
    ckB (inR .i64 (v_21 + 1)) <|
    nx ((v_21 + 1), (out_3.set (Int.toNat v_21) ((out_3.getD (Int.toNat v_21) []) ++ [(v_19.getD (Int.toNat v_21) 0)])))
  else
    dn out_3

def matrix_transposedL0 (v_13 : (List (List Int))) (v_14 : Int) (v_15 : Int) (v_19 : (List Int)) (v_20 : Int) (s0 : (Int × (List (List Int)))) : Option ((List (List Int)) ⊕ (List (List Int))) :=
  loopM (fun a => matrix_transposedL0K v_13 v_14 v_15 v_19 v_20 a.1 a.2 (fun a' => some (.next a')) (fun e => some (.done e)) (fun r => some (.ret r))) s0

def matrix_transposedL0I : Shp := ⟨[(3, .own 0), (13, .d false (.slice (.slice (.int .i64)))), (14, .d true (.int .i64)), (15, .d true (.int .i64)), (19, .d false (.slice (.int .i64))), (20, .d true (.int .i64)), (21, .d true (.int .i64))], [.arr 32 .own [3] (.slice (.int .i64))]⟩
def matrix_transposedL0E : Shp := ⟨[(3, .own 0), (13, .d false (.slice (.slice (.int .i64)))), (14, .d true (.int .i64)), (15, .d true (.int .i64))], [.arr 32 .own [3] (.slice (.int .i64))]⟩

def matrix_transposedL1K {R : Type} (v_13 : (List (List Int))) (v_14 : Int) (v_15 : Int) (out_3 : (List (List Int))) (nx : (Int × (List (List Int))) → Option R) (dn : (List (List Int)) → Option R) (rt : (List (List Int)) → Option R) : Option R :=
  bif decide (v_15 < v_14) then
    ckB (ix v_15 v_13.length) <|
    ckB (ix v_15 v_13.length) <|
    bnd (matrix_transposedL0 v_13 v_14 v_15 (v_13.getD (Int.toNat v_15) []) ((v_13.getD (Int.toNat v_15) []).length : Int) (0, out_3)) fun oe1 =>
    lk oe1 (fun e1 =>
      ckB (inR .i64 (v_15 + 1)) <|
      nx ((v_15 + 1), e1)) (fun r => rt r)
  else
    dn out_3

def matrix_transposedL1 (v_13 : (List (List Int))) (v_14 : Int) (s0 : (Int × (List (List Int)))) : Option ((List (List Int)) ⊕ (List (List Int))) :=
  loopM (fun a => matrix_transposedL1K v_13 v_14 a.1 a.2 (fun a' => some (.next a')) (fun e => some (.done e)) (fun r => some (.ret r))) s0

def matrix_transposedL1I : Shp := ⟨[(3, .own 0), (13, .d false (.slice (.slice (.int .i64)))), (14, .d true (.int .i64)), (15, .d true (.int .i64))], [.arr 32 .own [3] (.slice (.int .i64))]⟩
def matrix_transposedL1E : Shp := ⟨[(3, .own 0)], [.arr 32 .own [3] (.slice (.int .i64))]⟩

def matrix_transposed (m_0 : (List (List Int))) : Option (List (List Int)) :=
  ckB (ix 0 m_0.length) <|
  ckB (ix 0 m_0.length) <|
  ckB (mkOk ((m_0.getD 0 []).length : Int) ((m_0.getD 0 []).length : Int) 24) <|
  bnd (matrix_transposedL1 m_0 (m_0.length : Int) (0, (List.replicate (Int.toNat ((m_0.getD 0 []).length : Int)) ([] : (List Int))))) fun oe2 =>
  lk oe2 (fun e2 =>
    some e2) (fun r => some r)

/-! casebook/matrix.Refute -/

def matrix_RefuteL0K {R : Type} (b_1 : (List Int)) (y_8 : Nat) (v_34 : Int) (v_35 : Int) (v_39 : Nat) (v_40 : Int) (v_33 : (List (List Int))) (sum_9 : Int) (v_41 : Int) (nx : (Int × Int) → Option R) (dn : Int → Option R) (rt : ((List Int) × Int) → Option R) : Option R :=
  bif decide (v_41 < v_40) then
    ckB (ix v_41 (v_33.getD v_39 []).length) <|
    ckB (ix v_41 (v_33.getD v_39 []).length) <|
    ckB (ix v_41 b_1.length) <|
    ckB (ix v_41 b_1.length) <|
    ckB (inR .i64 (((v_33.getD v_39 []).getD (Int.toNat v_41) 0) * (b_1.getD (Int.toNat v_41) 0))) <|
    ckB (inR .i64 (sum_9 + (((v_33.getD v_39 []).getD (Int.toNat v_41) 0) * (b_1.getD (Int.toNat v_41) 0)))) <|
    ckB (inR .i64 (v_41 + 1)) <|
    nx ((sum_9 + (((v_33.getD v_39 []).getD (Int.toNat v_41) 0) * (b_1.getD (Int.toNat v_41) 0))), (v_41 + 1))
  else
    dn sum_9

def matrix_RefuteL0 (b_1 : (List Int)) (y_8 : Nat) (v_34 : Int) (v_35 : Int) (v_39 : Nat) (v_40 : Int) (v_33 : (List (List Int))) (s0 : (Int × Int)) : Option (Int ⊕ ((List Int) × Int)) :=
  loopM (fun a => matrix_RefuteL0K b_1 y_8 v_34 v_35 v_39 v_40 v_33 a.1 a.2 (fun a' => some (.next a')) (fun e => some (.done e)) (fun r => some (.ret r))) s0

def matrix_RefuteL0I : Shp := ⟨[(1, .d false (.slice (.int .i64))), (8, .kid 0 0), (9, .d true (.int .i64)), (33, .own 0), (34, .d true (.int .i64)), (35, .d true (.int .i64)), (39, .kid 0 0), (40, .d true (.int .i64)), (41, .d true (.int .i64))], [.arr 32 .own [3] (.slice (.int .i64))]⟩
def matrix_RefuteL0E : Shp := ⟨[(1, .d false (.slice (.int .i64))), (8, .kid 0 0), (9, .d true (.int .i64)), (33, .own 0), (34, .d true (.int .i64)), (35, .d true (.int .i64))], [.arr 32 .own [3] (.slice (.int .i64))]⟩

def matrix_RefuteL1K {R : Type} (b_1 : (List Int)) (v_34 : Int) (v_33 : (List (List Int))) (v_35 : Int) (nx : Int → Option R) (dn : Unit → Option R) (rt : ((List Int) × Int) → Option R) : Option R :=
  bif decide (v_35 < v_34) then
    ckB (ix v_35 v_33.length) <|
    ckB (ix v_35 v_33.length) <|
    bnd (matrix_RefuteL0 b_1 (Int.toNat v_35) v_34 v_35 (Int.toNat v_35) ((v_33.getD (Int.toNat v_35) []).length : Int) v_33 (0, 0)) fun oe6 =>
    lk oe6 (fun e6 =>
      bif (!decide (e6 = 0)) then
        rt ((v_33.getD (Int.toNat v_35) []), 0)
      else
        ckB (inR .i64 (v_35 + 1)) <|
        nx (v_35 + 1)) (fun r => rt r)
  else
    dn ()

def matrix_RefuteL1 (b_1 : (List Int)) (v_34 : Int) (v_33 : (List (List Int))) (s0 : Int) : Option (Unit ⊕ ((List Int) × Int)) :=
  loopM (fun a => matrix_RefuteL1K b_1 v_34 v_33 a (fun a' => some (.next a')) (fun e => some (.done e)) (fun r => some (.ret r))) s0

def matrix_RefuteL1I : Shp := ⟨[(1, .d false (.slice (.int .i64))), (33, .own 0), (34, .d true (.int .i64)), (35, .d true (.int .i64))], [.arr 32 .own [3] (.slice (.int .i64))]⟩
def matrix_RefuteL1E : Shp := ⟨[], []⟩

def matrix_Refute (m_0 : (List (List Int))) (b_1 : (List Int)) : Option ((List Int) × Int) :=
  bnd (matrix_Valid m_0) fun r1 =>
  bif (!r1) then
    some ([], 1)
  else
    bnd (matrix_column b_1) fun r2 =>
    bif (!r2) then
      some ([], 1)
    else
      bif (!decide ((b_1.length : Int) = (m_0.length : Int))) then
        some ([], 29)
      else
        bnd (matrix_transposed m_0) fun r3 =>
        bnd (matrix_small r3) fun r4 =>
        bif (!r4) then
          some ([], 6)
        else
          bnd (matrix_kernel r3) fun r5 =>
          bnd (matrix_RefuteL1 b_1 (r5.length : Int) r5 0) fun oe7 =>
          lk oe7 (fun e7 =>
            some ([], 10)) (fun r => some r)

/-! casebook/casebookref05.SameRow -/

def ref05_SameRowL0K {R : Type} (a_0 : (List Int)) (b_1 : (List Int)) (i_5 : Int) (nx : Int → Option R) (dn : Unit → Option R) (rt : Bool → Option R) : Option R :=
  bif decide (i_5 < (a_0.length : Int)) then
    ckB (ix i_5 a_0.length) <|
    ckB (ix i_5 a_0.length) <|
    ckB (ix i_5 b_1.length) <|
    ckB (ix i_5 b_1.length) <|
    bif (!decide ((a_0.getD (Int.toNat i_5) 0) = (b_1.getD (Int.toNat i_5) 0))) then
      rt false
    else
      ckB (inR .i64 (i_5 + 1)) <|
      nx (i_5 + 1)
  else
    dn ()

def ref05_SameRowL0 (a_0 : (List Int)) (b_1 : (List Int)) (s0 : Int) : Option (Unit ⊕ Bool) :=
  loopM (fun a => ref05_SameRowL0K a_0 b_1 a (fun a' => some (.next a')) (fun e => some (.done e)) (fun r => some (.ret r))) s0

def ref05_SameRowL0I : Shp := ⟨[(0, .d false (.slice (.int .i64))), (1, .d false (.slice (.int .i64))), (5, .d true (.int .i64))], []⟩
def ref05_SameRowL0E : Shp := ⟨[], []⟩

def ref05_SameRow (a_0 : (List Int)) (b_1 : (List Int)) : Option Bool :=
  bif (!decide ((a_0.length : Int) = (b_1.length : Int))) then
    some false
  else
    bnd (ref05_SameRowL0 a_0 b_1 0) fun oe1 =>
    lk oe1 (fun e1 =>
      some true) (fun r => some r)

/-! casebook/casebookref05.Same -/

def ref05_SameL0K {R : Type} (a_0 : (List (List Int))) (b_1 : (List (List Int))) (i_5 : Int) (nx : Int → Option R) (dn : Unit → Option R) (rt : Bool → Option R) : Option R :=
  bif decide (i_5 < (a_0.length : Int)) then
    ckB (ix i_5 a_0.length) <|
    ckB (ix i_5 a_0.length) <|
    ckB (ix i_5 b_1.length) <|
    ckB (ix i_5 b_1.length) <|
    bnd (ref05_SameRow (a_0.getD (Int.toNat i_5) []) (b_1.getD (Int.toNat i_5) [])) fun r1 =>
    bif (!r1) then
      rt false
    else
      ckB (inR .i64 (i_5 + 1)) <|
      nx (i_5 + 1)
  else
    dn ()

def ref05_SameL0 (a_0 : (List (List Int))) (b_1 : (List (List Int))) (s0 : Int) : Option (Unit ⊕ Bool) :=
  loopM (fun a => ref05_SameL0K a_0 b_1 a (fun a' => some (.next a')) (fun e => some (.done e)) (fun r => some (.ret r))) s0

def ref05_SameL0I : Shp := ⟨[(0, .d false (.slice (.slice (.int .i64)))), (1, .d false (.slice (.slice (.int .i64)))), (5, .d true (.int .i64))], []⟩
def ref05_SameL0E : Shp := ⟨[], []⟩

def ref05_Same (a_0 : (List (List Int))) (b_1 : (List (List Int))) : Option Bool :=
  bif (!decide ((a_0.length : Int) = (b_1.length : Int))) then
    some false
  else
    bnd (ref05_SameL0 a_0 b_1 0) fun oe2 =>
    lk oe2 (fun e2 =>
      some true) (fun r => some r)

/-! casebook/casebooklaw05.awake -/

def law05_awake  : Option Bool :=
  bnd (matrix_Rank [[1, 2, 3], [2, 4, 7]]) fun r1 =>
  bnd (matrix_Kernel [[1, 2, 3], [2, 4, 7]]) fun r2 =>
  bnd (matrix_Solve [[1, 1], [1, 1]] [1, 2]) fun r3 =>
  bnd (matrix_Refute [[1, 1], [1, 1]] [1, 2]) fun r4 =>
  bif decide (r1.2 = 0) then
    bif decide (r1.1 = 2) then
      bif decide (r2.1 = 0) then
        bnd (ref05_Same r2.2 [[(-2), 1, 0]]) fun r5 =>
        bif r5 then
          bif decide (r3.1 = 10) then
            bif decide (r4.2 = 0) then
              bnd (ref05_SameRow r4.1 [(-1), 1]) fun r6 =>
              some r6
            else
              some false
          else
            some false
        else
          some false
      else
        some false
    else
      some false
  else
    some false

/-! casebook/casebooklaw05.great -/

def law05_greatL0K {R : Type} (v_7 : (List (List (List Int)))) (v_8 : Int) (v_9 : Int) (v_26 : (List (List Int))) (v_27 : Int) (v_28 : Int) (nx : Int → Option R) (dn : Unit → Option R) (rt : Bool → Option R) : Option R :=
  bif decide (v_28 < v_27) then
    ckB (ix v_28 v_26.length) <|
    ckB (ix v_28 v_26.length) <|
    bif decide ((12 : Int) < ((v_26.getD (Int.toNat v_28) []).length : Int)) then
      bif decide (((v_26.getD (Int.toNat v_28) []).length : Int) ≤ 20) then
        rt true
      else
        bif decide ((40 : Int) < ((v_26.getD (Int.toNat v_28) []).length : Int)) then
          rt true
        else
          ckB (inR .i64 (v_28 + 1)) <|
          nx (v_28 + 1)
    else
      bif decide ((40 : Int) < ((v_26.getD (Int.toNat v_28) []).length : Int)) then
        rt true
      else
        ckB (inR .i64 (v_28 + 1)) <|
        nx (v_28 + 1)
  else
    dn ()

def law05_greatL0 (v_7 : (List (List (List Int)))) (v_8 : Int) (v_9 : Int) (v_26 : (List (List Int))) (v_27 : Int) (s0 : Int) : Option (Unit ⊕ Bool) :=
  loopM (fun a => law05_greatL0K v_7 v_8 v_9 v_26 v_27 a (fun a' => some (.next a')) (fun e => some (.done e)) (fun r => some (.ret r))) s0

def law05_greatL0I : Shp := ⟨[(7, .d false (.slice (.slice (.slice (.int .i64))))), (8, .d true (.int .i64)), (9, .d true (.int .i64)), (26, .d false (.slice (.slice (.int .i64)))), (27, .d true (.int .i64)), (28, .d true (.int .i64))], []⟩
def law05_greatL0E : Shp := ⟨[(7, .d false (.slice (.slice (.slice (.int .i64))))), (8, .d true (.int .i64)), (9, .d true (.int .i64))], []⟩

def law05_greatT1K {R : Type} (m_4 : (List (List Int))) (v_7 : (List (List (List Int)))) (v_8 : Int) (v_9 : Int) (dn : Unit → Option R) (rt : Bool → Option R) : Option R :=
  bnd (law05_greatL0 v_7 v_8 v_9 m_4 (m_4.length : Int) 0) fun oe1 =>
  lk oe1 (fun e1 =>
    dn ()) (fun r => rt r)

def law05_greatT1 (m_4 : (List (List Int))) (v_7 : (List (List (List Int)))) (v_8 : Int) (v_9 : Int) : Option (Unit ⊕ Bool) :=
  law05_greatT1K m_4 v_7 v_8 v_9 (fun e => some (.inl e)) (fun r => some (.inr r))

def law05_greatT1I : Shp := ⟨[(4, .d false (.slice (.slice (.int .i64)))), (7, .d false (.slice (.slice (.slice (.int .i64))))), (8, .d true (.int .i64)), (9, .d true (.int .i64))], []⟩
def law05_greatT1E : Shp := ⟨[(7, .d false (.slice (.slice (.slice (.int .i64))))), (8, .d true (.int .i64)), (9, .d true (.int .i64))], []⟩

def law05_greatL2K {R : Type} (v_7 : (List (List (List Int)))) (v_8 : Int) (v_9 : Int) (nx : Int → Option R) (dn : Unit → Option R) (rt : Bool → Option R) : Option R :=
  bif decide (v_9 < v_8) then
    ckB (ix v_9 v_7.length) <|
    ckB (ix v_9 v_7.length) <|
    bif decide ((12 : Int) < ((v_7.getD (Int.toNat v_9) []).length : Int)) then
      bif decide (((v_7.getD (Int.toNat v_9) []).length : Int) ≤ 20) then
        rt true
      else
        bif decide ((40 : Int) < ((v_7.getD (Int.toNat v_9) []).length : Int)) then
          rt true
        else
          bnd (law05_greatT1 (v_7.getD (Int.toNat v_9) []) v_7 v_8 v_9) fun oe2 =>
          lk oe2 (fun e2 =>
            ckB (inR .i64 (v_9 + 1)) <|
            nx (v_9 + 1)) (fun r => rt r)
    else
      bif decide ((40 : Int) < ((v_7.getD (Int.toNat v_9) []).length : Int)) then
        rt true
      else
        bnd (law05_greatT1 (v_7.getD (Int.toNat v_9) []) v_7 v_8 v_9) fun oe3 =>
        lk oe3 (fun e3 =>
          ckB (inR .i64 (v_9 + 1)) <|
          nx (v_9 + 1)) (fun r => rt r)
  else
    dn ()

def law05_greatL2 (v_7 : (List (List (List Int)))) (v_8 : Int) (s0 : Int) : Option (Unit ⊕ Bool) :=
  loopM (fun a => law05_greatL2K v_7 v_8 a (fun a' => some (.next a')) (fun e => some (.done e)) (fun r => some (.ret r))) s0

def law05_greatL2I : Shp := ⟨[(7, .d false (.slice (.slice (.slice (.int .i64))))), (8, .d true (.int .i64)), (9, .d true (.int .i64))], []⟩
def law05_greatL2E : Shp := ⟨[], []⟩

def law05_great (l_0 : (List (List (List Int)))) : Option Bool :=
  bnd (law05_greatL2 l_0 (l_0.length : Int) 0) fun oe4 =>
  lk oe4 (fun e4 =>
    some false) (fun r => some r)

/-! casebook/casebookref05.Column -/

def ref05_ColumnL0K {R : Type} (b_0 : (List Int)) (i_3 : Int) (nx : Int → Option R) (dn : Unit → Option R) (rt : Bool → Option R) : Option R :=
  bif decide (i_3 < (b_0.length : Int)) then
    ckB (ix i_3 b_0.length) <|
    ckB (ix i_3 b_0.length) <|
    bif decide ((b_0.getD (Int.toNat i_3) 0) < (-1048576)) then
      rt false
    else
      ckB (ix i_3 b_0.length) <|
      ckB (ix i_3 b_0.length) <|
      bif decide ((1048576 : Int) < (b_0.getD (Int.toNat i_3) 0)) then
        rt false
      else
        ckB (inR .i64 (i_3 + 1)) <|
        nx (i_3 + 1)
  else
    dn ()

def ref05_ColumnL0 (b_0 : (List Int)) (s0 : Int) : Option (Unit ⊕ Bool) :=
  loopM (fun a => ref05_ColumnL0K b_0 a (fun a' => some (.next a')) (fun e => some (.done e)) (fun r => some (.ret r))) s0

def ref05_ColumnL0I : Shp := ⟨[(0, .d false (.slice (.int .i64))), (3, .d true (.int .i64))], []⟩
def ref05_ColumnL0E : Shp := ⟨[], []⟩

def ref05_Column (b_0 : (List Int)) : Option Bool :=
  bif decide ((b_0.length : Int) < 1) then
    some false
  else
    bif decide ((20 : Int) < (b_0.length : Int)) then
      some false
    else
      bnd (ref05_ColumnL0 b_0 0) fun oe1 =>
      lk oe1 (fun e1 =>
        some true) (fun r => some r)

/-! casebook/casebookref05.Valid -/

def ref05_ValidL0K {R : Type} (m_0 : (List (List Int))) (i_3 : Int) (nx : Int → Option R) (dn : Unit → Option R) (rt : Bool → Option R) : Option R :=
  bif decide (i_3 < (m_0.length : Int)) then
    ckB (ix i_3 m_0.length) <|
    ckB (ix i_3 m_0.length) <|
    ckB (ix 0 m_0.length) <|
    ckB (ix 0 m_0.length) <|
    bif (!decide (((m_0.getD (Int.toNat i_3) []).length : Int) = ((m_0.getD 0 []).length : Int))) then
      rt false
    else
      ckB (ix i_3 m_0.length) <|
      ckB (ix i_3 m_0.length) <|
      bnd (ref05_Column (m_0.getD (Int.toNat i_3) [])) fun r1 =>
      bif (!r1) then
        rt false
      else
        ckB (inR .i64 (i_3 + 1)) <|
        nx (i_3 + 1)
  else
    dn ()

def ref05_ValidL0 (m_0 : (List (List Int))) (s0 : Int) : Option (Unit ⊕ Bool) :=
  loopM (fun a => ref05_ValidL0K m_0 a (fun a' => some (.next a')) (fun e => some (.done e)) (fun r => some (.ret r))) s0

def ref05_ValidL0I : Shp := ⟨[(0, .d false (.slice (.slice (.int .i64)))), (3, .d true (.int .i64))], []⟩
def ref05_ValidL0E : Shp := ⟨[], []⟩

def ref05_Valid (m_0 : (List (List Int))) : Option Bool :=
  bif decide ((m_0.length : Int) < 1) then
    some false
  else
    bif decide ((20 : Int) < (m_0.length : Int)) then
      some false
    else
      bnd (ref05_ValidL0 m_0 0) fun oe2 =>
      lk oe2 (fun e2 =>
        some true) (fun r => some r)

/-! casebook/casebookref05.size -/

def ref05_size (n_0 : Int) : Option Int :=
  bif decide (n_0 < 0) then
    some (IntKind.wrap .i64 ((0 : Int) - n_0))
  else
    some n_0

/-! casebook/casebookref05.Small -/

def ref05_SmallL0K {R : Type} (m_0 : (List (List Int))) (p_3 : Int) (i_4 : Int) (s_5 : Int) (j_6 : Int) (nx : (Int × Int) → Option R) (dn : Int → Option R) (rt : Bool → Option R) : Option R :=
  ckB (ix i_4 m_0.length) <|
  ckB (ix i_4 m_0.length) <|
  bif decide (j_6 < ((m_0.getD (Int.toNat i_4) []).length : Int)) then
    ckB (ix i_4 m_0.length) <|
    ckB (ix i_4 m_0.length) <|
    ckB (ix j_6 (m_0.getD (Int.toNat i_4) []).length) <|
    ckB (ix j_6 (m_0.getD (Int.toNat i_4) []).length) <|
    bnd (ref05_size ((m_0.getD (Int.toNat i_4) []).getD (Int.toNat j_6) 0)) fun r1 =>
    ckB (inR .i64 (s_5 + r1)) <|
    ckB (inR .i64 (j_6 + 1)) <|
    nx ((s_5 + r1), (j_6 + 1))
  else
    dn s_5

def ref05_SmallL0 (m_0 : (List (List Int))) (p_3 : Int) (i_4 : Int) (s0 : (Int × Int)) : Option (Int ⊕ Bool) :=
  loopM (fun a => ref05_SmallL0K m_0 p_3 i_4 a.1 a.2 (fun a' => some (.next a')) (fun e => some (.done e)) (fun r => some (.ret r))) s0

def ref05_SmallL0I : Shp := ⟨[(0, .d false (.slice (.slice (.int .i64)))), (3, .d true (.int .i64)), (4, .d true (.int .i64)), (5, .d true (.int .i64)), (6, .d true (.int .i64))], []⟩
def ref05_SmallL0E : Shp := ⟨[(0, .d false (.slice (.slice (.int .i64)))), (3, .d true (.int .i64)), (4, .d true (.int .i64)), (5, .d true (.int .i64))], []⟩

def ref05_SmallL1K {R : Type} (m_0 : (List (List Int))) (p_3 : Int) (i_4 : Int) (nx : (Int × Int) → Option R) (dn : Unit → Option R) (rt : Bool → Option R) : Option R :=
  bif decide (i_4 < (m_0.length : Int)) then
    bnd (ref05_SmallL0 m_0 p_3 i_4 (0, 0)) fun oe2 =>
    lk oe2 (fun e2 =>
      bif decide ((0 : Int) < e2) then
        ckB (inR .i64 (p_3 * e2)) <|
        bif decide ((1073741824 : Int) < (p_3 * e2)) then
          rt false
        else
          ckB (inR .i64 (i_4 + 1)) <|
          nx ((p_3 * e2), (i_4 + 1))
      else
        bif decide ((1073741824 : Int) < p_3) then
          rt false
        else
          ckB (inR .i64 (i_4 + 1)) <|
          nx (p_3, (i_4 + 1))) (fun r => rt r)
  else
    dn ()

def ref05_SmallL1 (m_0 : (List (List Int))) (s0 : (Int × Int)) : Option (Unit ⊕ Bool) :=
  loopM (fun a => ref05_SmallL1K m_0 a.1 a.2 (fun a' => some (.next a')) (fun e => some (.done e)) (fun r => some (.ret r))) s0

def ref05_SmallL1I : Shp := ⟨[(0, .d false (.slice (.slice (.int .i64)))), (3, .d true (.int .i64)), (4, .d true (.int .i64))], []⟩
def ref05_SmallL1E : Shp := ⟨[], []⟩

def ref05_Small (m_0 : (List (List Int))) : Option Bool :=
  bnd (ref05_SmallL1 m_0 (1, 0)) fun oe3 =>
  lk oe3 (fun e3 =>
    some true) (fun r => some r)

/-! casebook/casebookref05.Reduce -/

def ref05_ReduceL0K {R : Type} (m_0 : (List (List Int))) (cols_1 : Int) (v_40 : (List (List Int))) (v_41 : (List Int)) (v_42 : Int) (v_43 : Int) (f_52 : Int) (f_53 : Int) (f_51 : (List Int)) (i_6 : Int) (f_50 : (List (List Int))) (nx : (Int × (List (List Int))) → Option R) (dn : (List (List Int)) → Option R) (rt : Casebookref05Form → Option R) : Option R :=
  bif decide (i_6 < (m_0.length : Int)) then
    ckB (ix i_6 m_0.length) <|
    ckB (ix i_6 m_0.length) <|
    ckB (room (0 + (m_0.getD (Int.toNat i_6) []).length) 8) <|
    ckB (room (f_50.length + 1) 24) <|
    nx ((IntKind.wrap .i64 (i_6 + 1)), (f_50 ++ [([] ++ (m_0.getD (Int.toNat i_6) []))]))
  else
    dn f_50

def ref05_ReduceL0 (m_0 : (List (List Int))) (cols_1 : Int) (v_40 : (List (List Int))) (v_41 : (List Int)) (v_42 : Int) (v_43 : Int) (f_52 : Int) (f_53 : Int) (f_51 : (List Int)) (s0 : (Int × (List (List Int)))) : Option ((List (List Int)) ⊕ Casebookref05Form) :=
  loopM (fun a => ref05_ReduceL0K m_0 cols_1 v_40 v_41 v_42 v_43 f_52 f_53 f_51 a.1 a.2 (fun a' => some (.next a')) (fun e => some (.done e)) (fun r => some (.ret r))) s0

def ref05_ReduceL0I : Shp := ⟨[(0, .d false (.slice (.slice (.int .i64)))), (1, .d true (.int .i64)), (4, .ptr 0), (5, .ptr 1), (6, .d true (.int .i64))], [.cs 63 4 1 (.cons (.d true (.slice (.slice (.int .i64)))) (.cons (.d true (.slice (.int .i64))) (.cons (.d true (.int .i64)) (.cons (.d true (.int .i64)) .nil)))), .cs 63 4 1 (.cons (.own 2) (.cons (.own 3) (.cons (.d true (.int .i64)) (.cons (.d true (.int .i64)) .nil)))), .arr 32 .own [3] (.slice (.int .i64)), .arr 3 (.fz true) [0] (.int .i64)]⟩
def ref05_ReduceL0E : Shp := ⟨[(0, .d false (.slice (.slice (.int .i64)))), (1, .d true (.int .i64)), (4, .ptr 0), (5, .ptr 1)], [.cs 63 4 1 (.cons (.d true (.slice (.slice (.int .i64)))) (.cons (.d true (.slice (.int .i64))) (.cons (.d true (.int .i64)) (.cons (.d true (.int .i64)) .nil)))), .cs 63 4 1 (.cons (.own 2) (.cons (.own 3) (.cons (.d true (.int .i64)) (.cons (.d true (.int .i64)) .nil)))), .arr 32 .own [3] (.slice (.int .i64)), .arr 3 (.fz true) [0] (.int .i64)]⟩

def ref05_ReduceL1K {R : Type} (m_0 : (List (List Int))) (cols_1 : Int) (c_7 : Int) (k_8 : Int) (v_40 : (List (List Int))) (v_41 : (List Int)) (v_42 : Int) (v_43 : Int) (f_52 : Int) (f_53 : Int) (f_50 : (List (List Int))) (f_51 : (List Int)) (r_9 : Int) (nx : Int → Option R) (dn : Int → Option R) (rt : Casebookref05Form → Option R) : Option R :=
  bif decide (r_9 < (m_0.length : Int)) then
    ckB (ix r_9 f_50.length) <|
    ckB (ix r_9 f_50.length) <|
    ckB (ix c_7 (f_50.getD (Int.toNat r_9) []).length) <|
    ckB (ix c_7 (f_50.getD (Int.toNat r_9) []).length) <|
    bif decide (((f_50.getD (Int.toNat r_9) []).getD (Int.toNat c_7) 0) = 0) then
      nx (IntKind.wrap .i64 (r_9 + 1))
    else
      dn r_9
  else
    dn r_9

def ref05_ReduceL1 (m_0 : (List (List Int))) (cols_1 : Int) (c_7 : Int) (k_8 : Int) (v_40 : (List (List Int))) (v_41 : (List Int)) (v_42 : Int) (v_43 : Int) (f_52 : Int) (f_53 : Int) (f_50 : (List (List Int))) (f_51 : (List Int)) (s0 : Int) : Option (Int ⊕ Casebookref05Form) :=
  loopM (fun a => ref05_ReduceL1K m_0 cols_1 c_7 k_8 v_40 v_41 v_42 v_43 f_52 f_53 f_50 f_51 a (fun a' => some (.next a')) (fun e => some (.done e)) (fun r => some (.ret r))) s0

def ref05_ReduceL1I : Shp := ⟨[(0, .d false (.slice (.slice (.int .i64)))), (1, .d true (.int .i64)), (4, .ptr 0), (5, .ptr 1), (7, .d true (.int .i64)), (8, .d true (.int .i64)), (9, .d true (.int .i64))], [.cs 63 4 1 (.cons (.d true (.slice (.slice (.int .i64)))) (.cons (.d true (.slice (.int .i64))) (.cons (.d true (.int .i64)) (.cons (.d true (.int .i64)) .nil)))), .cs 63 4 1 (.cons (.own 2) (.cons (.own 3) (.cons (.d true (.int .i64)) (.cons (.d true (.int .i64)) .nil)))), .arr 32 .own [3] (.slice (.int .i64)), .arr 3 (.fz true) [0] (.int .i64)]⟩
def ref05_ReduceL1E : Shp := ⟨[(0, .d false (.slice (.slice (.int .i64)))), (1, .d true (.int .i64)), (4, .ptr 0), (5, .ptr 1), (7, .d true (.int .i64)), (8, .d true (.int .i64)), (9, .d true (.int .i64))], [.cs 63 4 1 (.cons (.d true (.slice (.slice (.int .i64)))) (.cons (.d true (.slice (.int .i64))) (.cons (.d true (.int .i64)) (.cons (.d true (.int .i64)) .nil)))), .cs 63 4 1 (.cons (.own 2) (.cons (.own 3) (.cons (.d true (.int .i64)) (.cons (.d true (.int .i64)) .nil)))), .arr 32 .own [3] (.slice (.int .i64)), .arr 3 (.fz true) [0] (.int .i64)]⟩

def ref05_ReduceL2K {R : Type} (m_0 : (List (List Int))) (cols_1 : Int) (c_7 : Int) (k_8 : Int) (p_10 : Int) (i_11 : Int) (q_12 : Int) (v_40 : (List (List Int))) (v_41 : (List Int)) (v_42 : Int) (v_43 : Int) (f_52 : Int) (f_53 : Int) (f_51 : (List Int)) (j_13 : Int) (f_50 : (List (List Int))) (nx : (Int × (List (List Int))) → Option R) (dn : (List (List Int)) → Option R) (rt : Casebookref05Form → Option R) : Option R :=
  ckB (ix 0 m_0.length) <|
  ckB (ix 0 m_0.length) <|
  bif decide (j_13 < ((m_0.getD 0 []).length : Int)) then
    ckB (ix i_11 f_50.length) <|
    ckB (ix i_11 f_50.length) <|
    ckB (ix i_11 f_50.length) <|
    ckB (ix i_11 f_50.length) <|
    ckB (ix j_13 (f_50.getD (Int.toNat i_11) []).length) <|
    ckB (ix j_13 (f_50.getD (Int.toNat i_11) []).length) <|
    ckB (ix k_8 f_50.length) <|
    ckB (ix k_8 f_50.length) <|
    ckB (ix j_13 (f_50.getD (Int.toNat k_8) []).length) <|
    ckB (ix j_13 (f_50.getD (Int.toNat k_8) []).length) <|
    ckB (!decide (f_52 = 0)) <|
    ckB (ix j_13 (f_50.getD (Int.toNat i_11) []).length) <|
    ckB (ix j_13 (f_50.getD (Int.toNat i_11) []).length) <|
    nx ((IntKind.wrap .i64 (j_13 + 1)), (f_50.set (Int.toNat i_11) ((f_50.getD (Int.toNat i_11) []).set (Int.toNat j_13) (IntKind.wrap .i64 (Int.tdiv (IntKind.wrap .i64 ((IntKind.wrap .i64 (p_10 * ((f_50.getD (Int.toNat i_11) []).getD (Int.toNat j_13) 0))) - (IntKind.wrap .i64 (q_12 * ((f_50.getD (Int.toNat k_8) []).getD (Int.toNat j_13) 0))))) f_52)))))
  else
    dn f_50

def ref05_ReduceL2 (m_0 : (List (List Int))) (cols_1 : Int) (c_7 : Int) (k_8 : Int) (p_10 : Int) (i_11 : Int) (q_12 : Int) (v_40 : (List (List Int))) (v_41 : (List Int)) (v_42 : Int) (v_43 : Int) (f_52 : Int) (f_53 : Int) (f_51 : (List Int)) (s0 : (Int × (List (List Int)))) : Option ((List (List Int)) ⊕ Casebookref05Form) :=
  loopM (fun a => ref05_ReduceL2K m_0 cols_1 c_7 k_8 p_10 i_11 q_12 v_40 v_41 v_42 v_43 f_52 f_53 f_51 a.1 a.2 (fun a' => some (.next a')) (fun e => some (.done e)) (fun r => some (.ret r))) s0

def ref05_ReduceL2I : Shp := ⟨[(0, .d false (.slice (.slice (.int .i64)))), (1, .d true (.int .i64)), (4, .ptr 0), (5, .ptr 1), (7, .d true (.int .i64)), (8, .d true (.int .i64)), (10, .d true (.int .i64)), (11, .d true (.int .i64)), (12, .d true (.int .i64)), (13, .d true (.int .i64))], [.cs 63 4 1 (.cons (.d true (.slice (.slice (.int .i64)))) (.cons (.d true (.slice (.int .i64))) (.cons (.d true (.int .i64)) (.cons (.d true (.int .i64)) .nil)))), .cs 63 4 1 (.cons (.own 2) (.cons (.own 3) (.cons (.d true (.int .i64)) (.cons (.d true (.int .i64)) .nil)))), .arr 32 .own [3] (.slice (.int .i64)), .arr 3 (.fz true) [0] (.int .i64)]⟩
def ref05_ReduceL2E : Shp := ⟨[(0, .d false (.slice (.slice (.int .i64)))), (1, .d true (.int .i64)), (4, .ptr 0), (5, .ptr 1), (7, .d true (.int .i64)), (8, .d true (.int .i64)), (10, .d true (.int .i64)), (11, .d true (.int .i64))], [.cs 63 4 1 (.cons (.d true (.slice (.slice (.int .i64)))) (.cons (.d true (.slice (.int .i64))) (.cons (.d true (.int .i64)) (.cons (.d true (.int .i64)) .nil)))), .cs 63 4 1 (.cons (.own 2) (.cons (.own 3) (.cons (.d true (.int .i64)) (.cons (.d true (.int .i64)) .nil)))), .arr 32 .own [3] (.slice (.int .i64)), .arr 3 (.fz true) [0] (.int .i64)]⟩

def ref05_ReduceL3K {R : Type} (m_0 : (List (List Int))) (cols_1 : Int) (c_7 : Int) (k_8 : Int) (p_10 : Int) (v_40 : (List (List Int))) (v_41 : (List Int)) (v_42 : Int) (v_43 : Int) (f_52 : Int) (f_53 : Int) (f_51 : (List Int)) (i_11 : Int) (f_50 : (List (List Int))) (nx : (Int × (List (List Int))) → Option R) (dn : (List (List Int)) → Option R) (rt : Casebookref05Form → Option R) : Option R :=
  bif decide (i_11 < (m_0.length : Int)) then
    bif decide (i_11 = k_8) then
      nx ((IntKind.wrap .i64 (i_11 + 1)), f_50)
    else
      ckB (ix i_11 f_50.length) <|
      ckB (ix i_11 f_50.length) <|
      ckB (ix c_7 (f_50.getD (Int.toNat i_11) []).length) <|
      ckB (ix c_7 (f_50.getD (Int.toNat i_11) []).length) <|
      bnd (ref05_ReduceL2 m_0 cols_1 c_7 k_8 p_10 i_11 ((f_50.getD (Int.toNat i_11) []).getD (Int.toNat c_7) 0) v_40 v_41 v_42 v_43 f_52 f_53 f_51 (0, f_50)) fun oe3 =>
      lk oe3 (fun e3 =>
        nx ((IntKind.wrap .i64 (i_11 + 1)), e3)) (fun r => rt r)
  else
    dn f_50

def ref05_ReduceL3 (m_0 : (List (List Int))) (cols_1 : Int) (c_7 : Int) (k_8 : Int) (p_10 : Int) (v_40 : (List (List Int))) (v_41 : (List Int)) (v_42 : Int) (v_43 : Int) (f_52 : Int) (f_53 : Int) (f_51 : (List Int)) (s0 : (Int × (List (List Int)))) : Option ((List (List Int)) ⊕ Casebookref05Form) :=
  loopM (fun a => ref05_ReduceL3K m_0 cols_1 c_7 k_8 p_10 v_40 v_41 v_42 v_43 f_52 f_53 f_51 a.1 a.2 (fun a' => some (.next a')) (fun e => some (.done e)) (fun r => some (.ret r))) s0

def ref05_ReduceL3I : Shp := ⟨[(0, .d false (.slice (.slice (.int .i64)))), (1, .d true (.int .i64)), (4, .ptr 0), (5, .ptr 1), (7, .d true (.int .i64)), (8, .d true (.int .i64)), (10, .d true (.int .i64)), (11, .d true (.int .i64))], [.cs 63 4 1 (.cons (.d true (.slice (.slice (.int .i64)))) (.cons (.d true (.slice (.int .i64))) (.cons (.d true (.int .i64)) (.cons (.d true (.int .i64)) .nil)))), .cs 63 4 1 (.cons (.own 2) (.cons (.own 3) (.cons (.d true (.int .i64)) (.cons (.d true (.int .i64)) .nil)))), .arr 32 .own [3] (.slice (.int .i64)), .arr 3 (.fz true) [0] (.int .i64)]⟩
def ref05_ReduceL3E : Shp := ⟨[(0, .d false (.slice (.slice (.int .i64)))), (1, .d true (.int .i64)), (4, .ptr 0), (5, .ptr 1), (7, .d true (.int .i64)), (10, .d true (.int .i64))], [.cs 63 4 1 (.cons (.d true (.slice (.slice (.int .i64)))) (.cons (.d true (.slice (.int .i64))) (.cons (.d true (.int .i64)) (.cons (.d true (.int .i64)) .nil)))), .cs 63 4 1 (.cons (.own 2) (.cons (.own 3) (.cons (.d true (.int .i64)) (.cons (.d true (.int .i64)) .nil)))), .arr 32 .own [3] (.slice (.int .i64)), .arr 3 (.fz true) [0] (.int .i64)]⟩

def ref05_ReduceT4K {R : Type} (m_0 : (List (List Int))) (cols_1 : Int) (c_7 : Int) (k_8 : Int) (v_40 : (List (List Int))) (v_41 : (List Int)) (v_42 : Int) (v_43 : Int) (f_52 : Int) (f_53 : Int) (f_50 : (List (List Int))) (f_51 : (List Int)) (dn : (Int × (List (List Int)) × (List Int)) → Option R) (rt : Casebookref05Form → Option R) : Option R :=
  ckB (ix k_8 f_50.length) <|
  ckB (ix k_8 f_50.length) <|
  ckB (ix c_7 (f_50.getD (Int.toNat k_8) []).length) <|
  ckB (ix c_7 (f_50.getD (Int.toNat k_8) []).length) <|
  bnd (ref05_ReduceL3 m_0 cols_1 c_7 k_8 ((f_50.getD (Int.toNat k_8) []).getD (Int.toNat c_7) 0) v_40 v_41 v_42 v_43 f_52 f_53 f_51 (0, f_50)) fun oe4 =>
  lk oe4 (fun e4 =>
    ckB (room (f_51.length + 1) 8) <|
    dn (((f_50.getD (Int.toNat k_8) []).getD (Int.toNat c_7) 0), e4, (f_51 ++ [c_7]))) (fun r => rt r)

def ref05_ReduceT4 (m_0 : (List (List Int))) (cols_1 : Int) (c_7 : Int) (k_8 : Int) (v_40 : (List (List Int))) (v_41 : (List Int)) (v_42 : Int) (v_43 : Int) (f_52 : Int) (f_53 : Int) (f_50 : (List (List Int))) (f_51 : (List Int)) : Option ((Int × (List (List Int)) × (List Int)) ⊕ Casebookref05Form) :=
  ref05_ReduceT4K m_0 cols_1 c_7 k_8 v_40 v_41 v_42 v_43 f_52 f_53 f_50 f_51 (fun e => some (.inl e)) (fun r => some (.inr r))

def ref05_ReduceT4I : Shp := ⟨[(0, .d false (.slice (.slice (.int .i64)))), (1, .d true (.int .i64)), (4, .ptr 0), (5, .ptr 1), (7, .d true (.int .i64)), (8, .d true (.int .i64))], [.cs 63 4 1 (.cons (.d true (.slice (.slice (.int .i64)))) (.cons (.d true (.slice (.int .i64))) (.cons (.d true (.int .i64)) (.cons (.d true (.int .i64)) .nil)))), .cs 63 4 1 (.cons (.own 2) (.cons (.own 3) (.cons (.d true (.int .i64)) (.cons (.d true (.int .i64)) .nil)))), .arr 32 .own [3] (.slice (.int .i64)), .arr 3 (.fz true) [0] (.int .i64)]⟩
def ref05_ReduceT4E : Shp := ⟨[(0, .d false (.slice (.slice (.int .i64)))), (1, .d true (.int .i64)), (4, .ptr 0), (5, .ptr 1), (7, .d true (.int .i64))], [.cs 63 4 1 (.cons (.d true (.slice (.slice (.int .i64)))) (.cons (.d true (.slice (.int .i64))) (.cons (.d true (.int .i64)) (.cons (.d true (.int .i64)) .nil)))), .cs 63 4 1 (.cons (.own 2) (.cons (.own 3) (.cons (.d true (.int .i64)) (.cons (.d true (.int .i64)) .nil)))), .arr 32 .own [3] (.slice (.int .i64)), .arr 3 (.fz true) [0] (.int .i64)]⟩

def ref05_ReduceL5K {R : Type} (m_0 : (List (List Int))) (cols_1 : Int) (v_40 : (List (List Int))) (v_41 : (List Int)) (v_42 : Int) (v_43 : Int) (c_7 : Int) (f_52 : Int) (f_53 : Int) (f_50 : (List (List Int))) (f_51 : (List Int)) (nx : (Int × Int × Int × (List (List Int)) × (List Int)) → Option R) (dn : (Int × Int × (List (List Int)) × (List Int)) → Option R) (rt : Casebookref05Form → Option R) : Option R :=
  bif decide (c_7 < cols_1) then
    bnd (ref05_ReduceL1 m_0 cols_1 c_7 (f_51.length : Int) v_40 v_41 v_42 v_43 f_52 f_53 f_50 f_51 (f_51.length : Int)) fun oe2 =>
    lk oe2 (fun e2 =>
      bif decide ((m_0.length : Int) ≤ e2) then
        nx ((IntKind.wrap .i64 (c_7 + 1)), f_52, f_53, f_50, f_51)
      else
        bif (!decide (e2 = (f_51.length : Int))) then
          ckB (ix (f_51.length : Int) f_50.length) <|
          ckB (ix (f_51.length : Int) f_50.length) <|
          ckB (ix e2 f_50.length) <|
          ckB (ix e2 f_50.length) <|
          ckB (ix e2 f_50.length) <|
          ckB (ix e2 f_50.length) <|
          ckB (ix (f_51.length : Int) f_50.length) <|
          ckB (ix (f_51.length : Int) f_50.length) <|
          ckB (decide (((Int.toNat (f_51.length : Int)) : Nat) = (Int.toNat (f_51.length : Int)))) <|
          ckB (decide (((Int.toNat e2) : Nat) = (Int.toNat e2))) <|
          bnd (ref05_ReduceT4 m_0 cols_1 c_7 (f_51.length : Int) v_40 v_41 v_42 v_43 f_52 (IntKind.wrap .i64 ((0 : Int) - f_53)) ((f_50.set (Int.toNat e2) (f_50.getD (Int.toNat (f_51.length : Int)) [])).set (Int.toNat (f_51.length : Int)) (f_50.getD (Int.toNat e2) [])) f_51) fun oe5 =>
          lk oe5 (fun e5 =>
            nx ((IntKind.wrap .i64 (c_7 + 1)), e5.1, (IntKind.wrap .i64 ((0 : Int) - f_53)), e5.2.1, e5.2.2)) (fun r => rt r)
        else
          bnd (ref05_ReduceT4 m_0 cols_1 c_7 (f_51.length : Int) v_40 v_41 v_42 v_43 f_52 f_53 f_50 f_51) fun oe6 =>
          lk oe6 (fun e6 =>
            nx ((IntKind.wrap .i64 (c_7 + 1)), e6.1, f_53, e6.2.1, e6.2.2)) (fun r => rt r)) (fun r => rt r)
  else
    dn (f_52, f_53, f_50, f_51)

def ref05_ReduceL5 (m_0 : (List (List Int))) (cols_1 : Int) (v_40 : (List (List Int))) (v_41 : (List Int)) (v_42 : Int) (v_43 : Int) (s0 : (Int × Int × Int × (List (List Int)) × (List Int))) : Option ((Int × Int × (List (List Int)) × (List Int)) ⊕ Casebookref05Form) :=
  loopM (fun a => ref05_ReduceL5K m_0 cols_1 v_40 v_41 v_42 v_43 a.1 a.2.1 a.2.2.1 a.2.2.2.1 a.2.2.2.2 (fun a' => some (.next a')) (fun e => some (.done e)) (fun r => some (.ret r))) s0

def ref05_ReduceL5I : Shp := ⟨[(0, .d false (.slice (.slice (.int .i64)))), (1, .d true (.int .i64)), (4, .ptr 0), (5, .ptr 1), (7, .d true (.int .i64))], [.cs 63 4 1 (.cons (.d true (.slice (.slice (.int .i64)))) (.cons (.d true (.slice (.int .i64))) (.cons (.d true (.int .i64)) (.cons (.d true (.int .i64)) .nil)))), .cs 63 4 1 (.cons (.own 2) (.cons (.own 3) (.cons (.d true (.int .i64)) (.cons (.d true (.int .i64)) .nil)))), .arr 32 .own [3] (.slice (.int .i64)), .arr 3 (.fz true) [0] (.int .i64)]⟩
def ref05_ReduceL5E : Shp := ⟨[(4, .ptr 0), (5, .ptr 1)], [.cs 63 4 1 (.cons (.d true (.slice (.slice (.int .i64)))) (.cons (.d true (.slice (.int .i64))) (.cons (.d true (.int .i64)) (.cons (.d true (.int .i64)) .nil)))), .cs 63 4 1 (.cons (.own 2) (.cons (.own 3) (.cons (.d true (.int .i64)) (.cons (.d true (.int .i64)) .nil)))), .arr 32 .own [3] (.slice (.int .i64)), .arr 3 (.fz true) [0] (.int .i64)]⟩

def ref05_Reduce (m_0 : (List (List Int))) (cols_1 : Int) : Option Casebookref05Form :=
  bnd (ref05_ReduceL0 m_0 cols_1 [] [] 0 0 1 1 [] (0, [])) fun oe1 =>
  lk oe1 (fun e1 =>
    bnd (ref05_ReduceL5 m_0 cols_1 [] [] 0 0 (0, 1, 1, e1, [])) fun oe7 =>
    lk oe7 (fun e7 =>
      some (e7.2.2.1, e7.2.2.2, e7.1, e7.2.1, ())) (fun r => some r)) (fun r => some r)

/-! casebook/casebookref05.gcd -/

def ref05_gcdL0K {R : Type}  (a_0 : Int) (b_1 : Int) (nx : (Int × Int) → Option R) (dn : Int → Option R) (rt : Int → Option R) : Option R :=
  bif (!decide (b_1 = 0)) then
    ckB (!decide (b_1 = 0)) <|
    nx (b_1, (Int.tmod a_0 b_1))
  else
    dn a_0

def ref05_gcdL0  (s0 : (Int × Int)) : Option (Int ⊕ Int) :=
  loopM (fun a => ref05_gcdL0K  a.1 a.2 (fun a' => some (.next a')) (fun e => some (.done e)) (fun r => some (.ret r))) s0

def ref05_gcdL0I : Shp := ⟨[(0, .d true (.int .i64)), (1, .d true (.int .i64))], []⟩
def ref05_gcdL0E : Shp := ⟨[(0, .d true (.int .i64))], []⟩

def ref05_gcd (a_0 : Int) (b_1 : Int) : Option Int :=
  bnd (ref05_gcdL0  (a_0, b_1)) fun oe1 =>
  lk oe1 (fun e1 =>
    some e1) (fun r => some r)

/-! casebook/casebookref05.Primitive -/

def ref05_PrimitiveL0K {R : Type} (x_0 : (List Int)) (g_3 : Int) (i_4 : Int) (nx : (Int × Int) → Option R) (dn : Int → Option R) (rt : (List Int) → Option R) : Option R :=
  bif decide (i_4 < (x_0.length : Int)) then
    ckB (ix i_4 x_0.length) <|
    ckB (ix i_4 x_0.length) <|
    bnd (ref05_size (x_0.getD (Int.toNat i_4) 0)) fun r1 =>
    bnd (ref05_gcd g_3 r1) fun r2 =>
    nx (r2, (IntKind.wrap .i64 (i_4 + 1)))
  else
    dn g_3

def ref05_PrimitiveL0 (x_0 : (List Int)) (s0 : (Int × Int)) : Option (Int ⊕ (List Int)) :=
  loopM (fun a => ref05_PrimitiveL0K x_0 a.1 a.2 (fun a' => some (.next a')) (fun e => some (.done e)) (fun r => some (.ret r))) s0

def ref05_PrimitiveL0I : Shp := ⟨[(0, .d false (.slice (.int .i64))), (3, .d true (.int .i64)), (4, .d true (.int .i64))], []⟩
def ref05_PrimitiveL0E : Shp := ⟨[(0, .d false (.slice (.int .i64))), (3, .d true (.int .i64))], []⟩

def ref05_PrimitiveL1K {R : Type} (x_0 : (List Int)) (g_3 : Int) (i_6 : Int) (out_5 : (List Int)) (nx : (Int × (List Int)) → Option R) (dn : (List Int) → Option R) (rt : (List Int) → Option R) : Option R :=
  bif decide (i_6 < (x_0.length : Int)) then
    ckB (ix i_6 x_0.length) <|
    ckB (ix i_6 x_0.length) <|
    ckB (!decide (g_3 = 0)) <|
    ckB (ix i_6 out_5.length) <|
    ckB (ix i_6 out_5.length) <|
    nx ((IntKind.wrap .i64 (i_6 + 1)), (out_5.set (Int.toNat i_6) (IntKind.wrap .i64 (Int.tdiv (x_0.getD (Int.toNat i_6) 0) g_3))))
  else
    dn out_5

def ref05_PrimitiveL1 (x_0 : (List Int)) (g_3 : Int) (s0 : (Int × (List Int))) : Option ((List Int) ⊕ (List Int)) :=
  loopM (fun a => ref05_PrimitiveL1K x_0 g_3 a.1 a.2 (fun a' => some (.next a')) (fun e => some (.done e)) (fun r => some (.ret r))) s0

def ref05_PrimitiveL1I : Shp := ⟨[(0, .d false (.slice (.int .i64))), (3, .d true (.int .i64)), (5, .own 0), (6, .d true (.int .i64))], [.arr 3 (.fz true) [0] (.int .i64)]⟩
def ref05_PrimitiveL1E : Shp := ⟨[(5, .own 0)], [.arr 3 (.fz true) [0] (.int .i64)]⟩

def ref05_Primitive (x_0 : (List Int)) : Option (List Int) :=
  bnd (ref05_PrimitiveL0 x_0 (0, 0)) fun oe3 =>
  lk oe3 (fun e3 =>
    ckB (room (0 + x_0.length) 8) <|
    bif decide ((1 : Int) < e3) then
      bnd (ref05_PrimitiveL1 x_0 e3 (0, ([] ++ x_0))) fun oe4 =>
      lk oe4 (fun e4 =>
        some e4) (fun r => some r)
    else
      some ([] ++ x_0)) (fun r => some r)

/-! casebook/casebookref05.Kernel -/

def ref05_KernelL0K {R : Type} (m_0 : (List (List Int))) (c_6 : Int) (sign_9 : Int) (f_40 : (List (List Int))) (f_41 : (List Int)) (f_42 : Int) (f_43 : Int) (out_5 : (List (List Int))) (pivot_7 : Bool) (i_10 : Int) (x_8 : (List Int)) (nx : (Bool × Int × (List Int)) → Option R) (dn : (Bool × (List Int)) → Option R) (rt : (Int × (List (List Int))) → Option R) : Option R :=
  bif decide (i_10 < (f_41.length : Int)) then
    bif pivot_7 then
      ckB (ix i_10 f_41.length) <|
      ckB (ix i_10 f_41.length) <|
      ckB (ix i_10 f_40.length) <|
      ckB (ix i_10 f_40.length) <|
      ckB (ix c_6 (f_40.getD (Int.toNat i_10) []).length) <|
      ckB (ix c_6 (f_40.getD (Int.toNat i_10) []).length) <|
      ckB (ix (f_41.getD (Int.toNat i_10) 0) x_8.length) <|
      ckB (ix (f_41.getD (Int.toNat i_10) 0) x_8.length) <|
      nx (true, (IntKind.wrap .i64 (i_10 + 1)), (x_8.set (Int.toNat (f_41.getD (Int.toNat i_10) 0)) (IntKind.wrap .i64 ((0 : Int) - (IntKind.wrap .i64 (sign_9 * ((f_40.getD (Int.toNat i_10) []).getD (Int.toNat c_6) 0)))))))
    else
      ckB (ix i_10 f_41.length) <|
      ckB (ix i_10 f_41.length) <|
      ckB (ix i_10 f_41.length) <|
      ckB (ix i_10 f_41.length) <|
      ckB (ix i_10 f_40.length) <|
      ckB (ix i_10 f_40.length) <|
      ckB (ix c_6 (f_40.getD (Int.toNat i_10) []).length) <|
      ckB (ix c_6 (f_40.getD (Int.toNat i_10) []).length) <|
      ckB (ix (f_41.getD (Int.toNat i_10) 0) x_8.length) <|
      ckB (ix (f_41.getD (Int.toNat i_10) 0) x_8.length) <|
      nx (decide ((f_41.getD (Int.toNat i_10) 0) = c_6), (IntKind.wrap .i64 (i_10 + 1)), (x_8.set (Int.toNat (f_41.getD (Int.toNat i_10) 0)) (IntKind.wrap .i64 ((0 : Int) - (IntKind.wrap .i64 (sign_9 * ((f_40.getD (Int.toNat i_10) []).getD (Int.toNat c_6) 0)))))))
  else
    dn (pivot_7, x_8)

def ref05_KernelL0 (m_0 : (List (List Int))) (c_6 : Int) (sign_9 : Int) (f_40 : (List (List Int))) (f_41 : (List Int)) (f_42 : Int) (f_43 : Int) (out_5 : (List (List Int))) (s0 : (Bool × Int × (List Int))) : Option ((Bool × (List Int)) ⊕ (Int × (List (List Int)))) :=
  loopM (fun a => ref05_KernelL0K m_0 c_6 sign_9 f_40 f_41 f_42 f_43 out_5 a.1 a.2.1 a.2.2 (fun a' => some (.next a')) (fun e => some (.done e)) (fun r => some (.ret r))) s0

def ref05_KernelL0I : Shp := ⟨[(0, .d false (.slice (.slice (.int .i64)))), (4, .ptr 0), (5, .own 1), (6, .d true (.int .i64)), (7, .d true .bool), (8, .own 2), (9, .d true (.int .i64)), (10, .d true (.int .i64))], [.cs 63 4 1 (.cons (.d true (.slice (.slice (.int .i64)))) (.cons (.d true (.slice (.int .i64))) (.cons (.d true (.int .i64)) (.cons (.d true (.int .i64)) .nil)))), .arr 32 .own [3] (.slice (.int .i64)), .arr 3 (.fz true) [0] (.int .i64)]⟩
def ref05_KernelL0E : Shp := ⟨[(0, .d false (.slice (.slice (.int .i64)))), (4, .ptr 0), (5, .own 1), (6, .d true (.int .i64)), (7, .d true .bool), (8, .own 2), (9, .d true (.int .i64))], [.cs 63 4 1 (.cons (.d true (.slice (.slice (.int .i64)))) (.cons (.d true (.slice (.int .i64))) (.cons (.d true (.int .i64)) (.cons (.d true (.int .i64)) .nil)))), .arr 32 .own [3] (.slice (.int .i64)), .arr 3 (.fz true) [0] (.int .i64)]⟩

def ref05_KernelL1K {R : Type} (m_0 : (List (List Int))) (f_40 : (List (List Int))) (f_41 : (List Int)) (f_42 : Int) (f_43 : Int) (c_6 : Int) (out_5 : (List (List Int))) (nx : (Int × (List (List Int))) → Option R) (dn : (List (List Int)) → Option R) (rt : (Int × (List (List Int))) → Option R) : Option R :=
  ckB (ix 0 m_0.length) <|
  ckB (ix 0 m_0.length) <|
  bif decide (c_6 < ((m_0.getD 0 []).length : Int)) then
    ckB (ix 0 m_0.length) <|
    ckB (ix 0 m_0.length) <|
    ckB (mkOk ((m_0.getD 0 []).length : Int) ((m_0.getD 0 []).length : Int) 8) <|
    bif decide (f_42 < 0) then
      bnd (ref05_KernelL0 m_0 c_6 (-1) f_40 f_41 f_42 f_43 out_5 (false, 0, (List.replicate (Int.toNat ((m_0.getD 0 []).length : Int)) (0 : Int)))) fun oe4 =>
      lk oe4 (fun e4 =>
        bif e4.1 then
          nx ((IntKind.wrap .i64 (c_6 + 1)), out_5)
        else
          ckB (ix c_6 e4.2.length) <|
          ckB (ix c_6 e4.2.length) <|
          bnd (ref05_Primitive (e4.2.set (Int.toNat c_6) (IntKind.wrap .i64 (((-1) : Int) * f_42)))) fun r5 =>
          ckB (room (out_5.length + 1) 24) <|
          nx ((IntKind.wrap .i64 (c_6 + 1)), (out_5 ++ [r5]))) (fun r => rt r)
    else
      bnd (ref05_KernelL0 m_0 c_6 1 f_40 f_41 f_42 f_43 out_5 (false, 0, (List.replicate (Int.toNat ((m_0.getD 0 []).length : Int)) (0 : Int)))) fun oe6 =>
      lk oe6 (fun e6 =>
        bif e6.1 then
          nx ((IntKind.wrap .i64 (c_6 + 1)), out_5)
        else
          ckB (ix c_6 e6.2.length) <|
          ckB (ix c_6 e6.2.length) <|
          bnd (ref05_Primitive (e6.2.set (Int.toNat c_6) (IntKind.wrap .i64 ((1 : Int) * f_42)))) fun r7 =>
          ckB (room (out_5.length + 1) 24) <|
          nx ((IntKind.wrap .i64 (c_6 + 1)), (out_5 ++ [r7]))) (fun r => rt r)
  else
    dn out_5

def ref05_KernelL1 (m_0 : (List (List Int))) (f_40 : (List (List Int))) (f_41 : (List Int)) (f_42 : Int) (f_43 : Int) (s0 : (Int × (List (List Int)))) : Option ((List (List Int)) ⊕ (Int × (List (List Int)))) :=
  loopM (fun a => ref05_KernelL1K m_0 f_40 f_41 f_42 f_43 a.1 a.2 (fun a' => some (.next a')) (fun e => some (.done e)) (fun r => some (.ret r))) s0

def ref05_KernelL1I : Shp := ⟨[(0, .d false (.slice (.slice (.int .i64)))), (4, .ptr 0), (5, .own 1), (6, .d true (.int .i64))], [.cs 63 4 1 (.cons (.d true (.slice (.slice (.int .i64)))) (.cons (.d true (.slice (.int .i64))) (.cons (.d true (.int .i64)) (.cons (.d true (.int .i64)) .nil)))), .arr 32 .own [3] (.slice (.int .i64))]⟩
def ref05_KernelL1E : Shp := ⟨[(5, .own 0)], [.arr 32 .own [3] (.slice (.int .i64))]⟩

def ref05_Kernel (m_0 : (List (List Int))) : Option (Int × (List (List Int))) :=
  bnd (ref05_Valid m_0) fun r1 =>
  bif (!r1) then
    some (1, [])
  else
    bnd (ref05_Small m_0) fun r2 =>
    bif (!r2) then
      some (6, [])
    else
      ckB (ix 0 m_0.length) <|
      ckB (ix 0 m_0.length) <|
      bnd (ref05_Reduce m_0 ((m_0.getD 0 []).length : Int)) fun r3 =>
      bnd (ref05_KernelL1 m_0 r3.1 r3.2.1 r3.2.2.1 r3.2.2.2.1 (0, [])) fun oe8 =>
      lk oe8 (fun e8 =>
        some (0, e8)) (fun r => some r)

/-! casebook/casebooklaw05.MatrixKernels -/

def law05_MatrixKernels (m_0 : (List (List Int))) : Option Bool :=
  bnd (law05_awake) fun r1 =>
  bif (!r1) then
    some false
  else
    bnd (law05_great [m_0]) fun r2 =>
    bif r2 then
      some true
    else
      bnd (matrix_Kernel m_0) fun r3 =>
      bnd (ref05_Kernel m_0) fun r4 =>
      bnd (ref05_Same r3.2 r4.2) fun r5 =>
      bif r5 then
        some (decide (r3.1 = r4.1))
      else
        some false

/-! casebook/casebookref05.with -/

def ref05_withL0K {R : Type} (m_0 : (List (List Int))) (b_1 : (List Int)) (i_6 : Int) (out_5 : (List (List Int))) (nx : (Int × (List (List Int))) → Option R) (dn : (List (List Int)) → Option R) (rt : (List (List Int)) → Option R) : Option R :=
  bif decide (i_6 < (m_0.length : Int)) then
    ckB (ix i_6 m_0.length) <|
    ckB (ix i_6 m_0.length) <|
    ckB (ix i_6 b_1.length) <|
    ckB (ix i_6 b_1.length) <|
    ckB (room (0 + (m_0.getD (Int.toNat i_6) []).length) 8) <|
    ckB (room (([] ++ (m_0.getD (Int.toNat i_6) [])).length + 1) 8) <|
    ckB (room (out_5.length + 1) 24) <|
    ckB (inR .i64 (i_6 + 1)) <|
    nx ((i_6 + 1), (out_5 ++ [(([] ++ (m_0.getD (Int.toNat i_6) [])) ++ [(b_1.getD (Int.toNat i_6) 0)])]))
  else
    dn out_5

def ref05_withL0 (m_0 : (List (List Int))) (b_1 : (List Int)) (s0 : (Int × (List (List Int)))) : Option ((List (List Int)) ⊕ (List (List Int))) :=
  loopM (fun a => ref05_withL0K m_0 b_1 a.1 a.2 (fun a' => some (.next a')) (fun e => some (.done e)) (fun r => some (.ret r))) s0

def ref05_withL0I : Shp := ⟨[(0, .d false (.slice (.slice (.int .i64)))), (1, .d false (.slice (.int .i64))), (5, .own 0), (6, .d true (.int .i64))], [.arr 32 (.fz true) [3] (.slice (.int .i64))]⟩
def ref05_withL0E : Shp := ⟨[(5, .own 0)], [.arr 32 (.fz true) [3] (.slice (.int .i64))]⟩

def ref05_with (m_0 : (List (List Int))) (b_1 : (List Int)) : Option (List (List Int)) :=
  bnd (ref05_withL0 m_0 b_1 (0, [])) fun oe1 =>
  lk oe1 (fun e1 =>
    some e1) (fun r => some r)

/-! casebook/casebookref01.Of -/

def ref01_Of (n_0 : Int) : Option Frac :=
  some (n_0, 1, ())

/-! casebook/casebookref01.Make -/

def ref01_MakeL0K {R : Type} (num_0 : Int) (den_1 : Int) (v_40 : Int) (v_41 : Int) (a_6 : Int) (b_7 : Int) (nx : (Int × Int) → Option R) (dn : Int → Option R) (rt : (Frac × Int) → Option R) : Option R :=
  bif (!decide (b_7 = 0)) then
    ckB (!decide (b_7 = 0)) <|
    nx (b_7, (Int.tmod a_6 b_7))
  else
    dn a_6

def ref01_MakeL0 (num_0 : Int) (den_1 : Int) (v_40 : Int) (v_41 : Int) (s0 : (Int × Int)) : Option (Int ⊕ (Frac × Int)) :=
  loopM (fun a => ref01_MakeL0K num_0 den_1 v_40 v_41 a.1 a.2 (fun a' => some (.next a')) (fun e => some (.done e)) (fun r => some (.ret r))) s0

def ref01_MakeL0I : Shp := ⟨[(0, .d true (.int .i64)), (1, .d true (.int .i64)), (4, .ptr 0), (6, .d true (.int .i64)), (7, .d true (.int .i64))], [.cs 50 2 1 (.cons (.d true (.int .i64)) (.cons (.d true (.int .i64)) .nil))]⟩
def ref01_MakeL0E : Shp := ⟨[(0, .d true (.int .i64)), (1, .d true (.int .i64)), (4, .ptr 0), (6, .d true (.int .i64))], [.cs 50 2 1 (.cons (.d true (.int .i64)) (.cons (.d true (.int .i64)) .nil))]⟩

def ref01_MakeT1K {R : Type} (n_8 : Int) (d_9 : Int) (v_54 : Bool) (v_40 : Int) (v_41 : Int) (dn : Unit → Option R) (rt : (Frac × Int) → Option R) : Option R :=
  bif v_54 then
    rt ((0, 0, ()), 6)
  else
    dn ()

def ref01_MakeT1 (n_8 : Int) (d_9 : Int) (v_54 : Bool) (v_40 : Int) (v_41 : Int) : Option (Unit ⊕ (Frac × Int)) :=
  ref01_MakeT1K n_8 d_9 v_54 v_40 v_41 (fun e => some (.inl e)) (fun r => some (.inr r))

def ref01_MakeT1I : Shp := ⟨[(4, .ptr 0), (8, .d true (.int .i64)), (9, .d true (.int .i64)), (54, .d true .bool)], [.cs 50 2 1 (.cons (.d true (.int .i64)) (.cons (.d true (.int .i64)) .nil))]⟩
def ref01_MakeT1E : Shp := ⟨[(4, .ptr 0), (8, .d true (.int .i64)), (9, .d true (.int .i64))], [.cs 50 2 1 (.cons (.d true (.int .i64)) (.cons (.d true (.int .i64)) .nil))]⟩

def ref01_MakeT2K {R : Type} (n_8 : Int) (d_9 : Int) (v_40 : Int) (v_41 : Int) (dn : Unit → Option R) (rt : (Frac × Int) → Option R) : Option R :=
  rt ((n_8, d_9, ()), 0)

def ref01_MakeT2 (n_8 : Int) (d_9 : Int) (v_40 : Int) (v_41 : Int) : Option (Unit ⊕ (Frac × Int)) :=
  ref01_MakeT2K n_8 d_9 v_40 v_41 (fun e => some (.inl e)) (fun r => some (.inr r))

def ref01_MakeT2I : Shp := ⟨[(4, .ptr 0), (8, .d true (.int .i64)), (9, .d true (.int .i64))], [.cs 50 2 1 (.cons (.d true (.int .i64)) (.cons (.d true (.int .i64)) .nil))]⟩
def ref01_MakeT2E : Shp := ⟨[], []⟩

def ref01_MakeT3K {R : Type} (num_0 : Int) (den_1 : Int) (a_6 : Int) (b_7 : Int) (v_40 : Int) (v_41 : Int) (dn : Unit → Option R) (rt : (Frac × Int) → Option R) : Option R :=
  bnd (ref01_MakeL0 num_0 den_1 v_40 v_41 (a_6, b_7)) fun oe1 =>
  lk oe1 (fun e1 =>
    ckB (!decide (e1 = 0)) <|
    ckB (inR .i64 (Int.tdiv num_0 e1)) <|
    ckB (!decide (e1 = 0)) <|
    ckB (inR .i64 (Int.tdiv den_1 e1)) <|
    bif decide ((Int.tdiv den_1 e1) < 0) then
      ckB (inR .i64 (0 - (Int.tdiv num_0 e1))) <|
      ckB (inR .i64 (0 - (Int.tdiv den_1 e1))) <|
      bif decide ((0 - (Int.tdiv num_0 e1)) < (-1073741824)) then
        bnd (ref01_MakeT1 (0 - (Int.tdiv num_0 e1)) (0 - (Int.tdiv den_1 e1)) true v_40 v_41) fun oe2 =>
        lk oe2 (fun e2 =>
          bnd (ref01_MakeT2 (0 - (Int.tdiv num_0 e1)) (0 - (Int.tdiv den_1 e1)) v_40 v_41) fun oe3 =>
          lk oe3 (fun e3 =>
            dn ()) (fun r => rt r)) (fun r => rt r)
      else
        bif decide ((1073741824 : Int) < (0 - (Int.tdiv num_0 e1))) then
          bnd (ref01_MakeT1 (0 - (Int.tdiv num_0 e1)) (0 - (Int.tdiv den_1 e1)) true v_40 v_41) fun oe4 =>
          lk oe4 (fun e4 =>
            bnd (ref01_MakeT2 (0 - (Int.tdiv num_0 e1)) (0 - (Int.tdiv den_1 e1)) v_40 v_41) fun oe5 =>
            lk oe5 (fun e5 =>
              dn ()) (fun r => rt r)) (fun r => rt r)
        else
          bif decide ((0 - (Int.tdiv den_1 e1)) < 1) then
            bnd (ref01_MakeT1 (0 - (Int.tdiv num_0 e1)) (0 - (Int.tdiv den_1 e1)) true v_40 v_41) fun oe6 =>
            lk oe6 (fun e6 =>
              bnd (ref01_MakeT2 (0 - (Int.tdiv num_0 e1)) (0 - (Int.tdiv den_1 e1)) v_40 v_41) fun oe7 =>
              lk oe7 (fun e7 =>
                dn ()) (fun r => rt r)) (fun r => rt r)
          else
            bnd (ref01_MakeT1 (0 - (Int.tdiv num_0 e1)) (0 - (Int.tdiv den_1 e1)) (decide ((1073741824 : Int) < (0 - (Int.tdiv den_1 e1)))) v_40 v_41) fun oe8 =>
            lk oe8 (fun e8 =>
              bnd (ref01_MakeT2 (0 - (Int.tdiv num_0 e1)) (0 - (Int.tdiv den_1 e1)) v_40 v_41) fun oe9 =>
              lk oe9 (fun e9 =>
                dn ()) (fun r => rt r)) (fun r => rt r)
    else
      bif decide ((Int.tdiv num_0 e1) < (-1073741824)) then
        bnd (ref01_MakeT1 (Int.tdiv num_0 e1) (Int.tdiv den_1 e1) true v_40 v_41) fun oe10 =>
        lk oe10 (fun e10 =>
          bnd (ref01_MakeT2 (Int.tdiv num_0 e1) (Int.tdiv den_1 e1) v_40 v_41) fun oe11 =>
          lk oe11 (fun e11 =>
            dn ()) (fun r => rt r)) (fun r => rt r)
      else
        bif decide ((1073741824 : Int) < (Int.tdiv num_0 e1)) then
          bnd (ref01_MakeT1 (Int.tdiv num_0 e1) (Int.tdiv den_1 e1) true v_40 v_41) fun oe12 =>
          lk oe12 (fun e12 =>
            bnd (ref01_MakeT2 (Int.tdiv num_0 e1) (Int.tdiv den_1 e1) v_40 v_41) fun oe13 =>
            lk oe13 (fun e13 =>
              dn ()) (fun r => rt r)) (fun r => rt r)
        else
          bif decide ((Int.tdiv den_1 e1) < 1) then
            bnd (ref01_MakeT1 (Int.tdiv num_0 e1) (Int.tdiv den_1 e1) true v_40 v_41) fun oe14 =>
            lk oe14 (fun e14 =>
              bnd (ref01_MakeT2 (Int.tdiv num_0 e1) (Int.tdiv den_1 e1) v_40 v_41) fun oe15 =>
              lk oe15 (fun e15 =>
                dn ()) (fun r => rt r)) (fun r => rt r)
          else
            bnd (ref01_MakeT1 (Int.tdiv num_0 e1) (Int.tdiv den_1 e1) (decide ((1073741824 : Int) < (Int.tdiv den_1 e1))) v_40 v_41) fun oe16 =>
            lk oe16 (fun e16 =>
              bnd (ref01_MakeT2 (Int.tdiv num_0 e1) (Int.tdiv den_1 e1) v_40 v_41) fun oe17 =>
              lk oe17 (fun e17 =>
                dn ()) (fun r => rt r)) (fun r => rt r)) (fun r => rt r)

def ref01_MakeT3 (num_0 : Int) (den_1 : Int) (a_6 : Int) (b_7 : Int) (v_40 : Int) (v_41 : Int) : Option (Unit ⊕ (Frac × Int)) :=
  ref01_MakeT3K num_0 den_1 a_6 b_7 v_40 v_41 (fun e => some (.inl e)) (fun r => some (.inr r))

def ref01_MakeT3I : Shp := ⟨[(0, .d true (.int .i64)), (1, .d true (.int .i64)), (4, .ptr 0), (6, .d true (.int .i64)), (7, .d true (.int .i64))], [.cs 50 2 1 (.cons (.d true (.int .i64)) (.cons (.d true (.int .i64)) .nil))]⟩
def ref01_MakeT3E : Shp := ⟨[], []⟩

def ref01_MakeT4K {R : Type} (num_0 : Int) (den_1 : Int) (a_6 : Int) (v_40 : Int) (v_41 : Int) (dn : Unit → Option R) (rt : (Frac × Int) → Option R) : Option R :=
  bif decide ((0 : Int) < den_1) then
    ckB (inR .i64 (0 - den_1)) <|
    bnd (ref01_MakeT3 num_0 den_1 a_6 (0 - den_1) v_40 v_41) fun oe18 =>
    lk oe18 (fun e18 =>
      dn ()) (fun r => rt r)
  else
    bnd (ref01_MakeT3 num_0 den_1 a_6 den_1 v_40 v_41) fun oe19 =>
    lk oe19 (fun e19 =>
      dn ()) (fun r => rt r)

def ref01_MakeT4 (num_0 : Int) (den_1 : Int) (a_6 : Int) (v_40 : Int) (v_41 : Int) : Option (Unit ⊕ (Frac × Int)) :=
  ref01_MakeT4K num_0 den_1 a_6 v_40 v_41 (fun e => some (.inl e)) (fun r => some (.inr r))

def ref01_MakeT4I : Shp := ⟨[(0, .d true (.int .i64)), (1, .d true (.int .i64)), (4, .ptr 0), (6, .d true (.int .i64))], [.cs 50 2 1 (.cons (.d true (.int .i64)) (.cons (.d true (.int .i64)) .nil))]⟩
def ref01_MakeT4E : Shp := ⟨[], []⟩

def ref01_Make (num_0 : Int) (den_1 : Int) : Option (Frac × Int) :=
  bif decide (den_1 = 0) then
    some ((0, 0, ()), 7)
  else
    bif decide ((0 : Int) < num_0) then
      ckB (inR .i64 (0 - num_0)) <|
      bnd (ref01_MakeT4 num_0 den_1 (0 - num_0) 0 0) fun oe20 =>
      lk oe20 (fun e20 =>
        none) (fun r => some r)
    else
      bnd (ref01_MakeT4 num_0 den_1 num_0 0 0) fun oe21 =>
      lk oe21 (fun e21 =>
        none) (fun r => some r)

/-! casebook/casebookref05.Solve -/

def ref05_SolveL0K {R : Type} (a_6 : (List (List Int))) (cols_7 : Int) (f_80 : (List (List Int))) (f_81 : (List Int)) (f_82 : Int) (f_83 : Int) (i_9 : Int) (nx : Int → Option R) (dn : Unit → Option R) (rt : (Int × (List Frac)) → Option R) : Option R :=
  bif decide (i_9 < (a_6.length : Int)) then
    ckB (ix i_9 f_80.length) <|
    ckB (ix i_9 f_80.length) <|
    ckB (ix cols_7 (f_80.getD (Int.toNat i_9) []).length) <|
    ckB (ix cols_7 (f_80.getD (Int.toNat i_9) []).length) <|
    bif (!decide (((f_80.getD (Int.toNat i_9) []).getD (Int.toNat cols_7) 0) = 0)) then
      rt (10, [])
    else
      ckB (inR .i64 (i_9 + 1)) <|
      nx (i_9 + 1)
  else
    dn ()

def ref05_SolveL0 (a_6 : (List (List Int))) (cols_7 : Int) (f_80 : (List (List Int))) (f_81 : (List Int)) (f_82 : Int) (f_83 : Int) (s0 : Int) : Option (Unit ⊕ (Int × (List Frac))) :=
  loopM (fun a => ref05_SolveL0K a_6 cols_7 f_80 f_81 f_82 f_83 a (fun a' => some (.next a')) (fun e => some (.done e)) (fun r => some (.ret r))) s0

def ref05_SolveL0I : Shp := ⟨[(6, .d true (.slice (.slice (.int .i64)))), (7, .d true (.int .i64)), (8, .ptr 0), (9, .d true (.int .i64))], [.cs 63 4 1 (.cons (.d true (.slice (.slice (.int .i64)))) (.cons (.d true (.slice (.int .i64))) (.cons (.d true (.int .i64)) (.cons (.d true (.int .i64)) .nil))))]⟩
def ref05_SolveL0E : Shp := ⟨[(7, .d true (.int .i64)), (8, .ptr 0)], [.cs 63 4 1 (.cons (.d true (.slice (.slice (.int .i64)))) (.cons (.d true (.slice (.int .i64))) (.cons (.d true (.int .i64)) (.cons (.d true (.int .i64)) .nil))))]⟩

def ref05_SolveL1K {R : Type} (cols_7 : Int) (f_80 : (List (List Int))) (f_81 : (List Int)) (f_82 : Int) (f_83 : Int) (c_11 : Int) (out_10 : (List Frac)) (nx : (Int × (List Frac)) → Option R) (dn : (List Frac) → Option R) (rt : (Int × (List Frac)) → Option R) : Option R :=
  bif decide (c_11 < cols_7) then
    bnd (ref01_Of 0) fun r7 =>
    ckB (room (out_10.length + 1) 16) <|
    ckB (inR .i64 (c_11 + 1)) <|
    nx ((c_11 + 1), (out_10 ++ [r7]))
  else
    dn out_10

def ref05_SolveL1 (cols_7 : Int) (f_80 : (List (List Int))) (f_81 : (List Int)) (f_82 : Int) (f_83 : Int) (s0 : (Int × (List Frac))) : Option ((List Frac) ⊕ (Int × (List Frac))) :=
  loopM (fun a => ref05_SolveL1K cols_7 f_80 f_81 f_82 f_83 a.1 a.2 (fun a' => some (.next a')) (fun e => some (.done e)) (fun r => some (.ret r))) s0

def ref05_SolveL1I : Shp := ⟨[(7, .d true (.int .i64)), (8, .ptr 0), (10, .own 1), (11, .d true (.int .i64))], [.cs 63 4 1 (.cons (.d true (.slice (.slice (.int .i64)))) (.cons (.d true (.slice (.int .i64))) (.cons (.d true (.int .i64)) (.cons (.d true (.int .i64)) .nil)))), .arr 50 (.fz true) [0, 0] Frac.ty]⟩
def ref05_SolveL1E : Shp := ⟨[(7, .d true (.int .i64)), (8, .ptr 0), (10, .own 1)], [.cs 63 4 1 (.cons (.d true (.slice (.slice (.int .i64)))) (.cons (.d true (.slice (.int .i64))) (.cons (.d true (.int .i64)) (.cons (.d true (.int .i64)) .nil)))), .arr 50 (.fz true) [0, 0] Frac.ty]⟩

def ref05_SolveL2K {R : Type} (cols_7 : Int) (f_80 : (List (List Int))) (f_81 : (List Int)) (f_82 : Int) (f_83 : Int) (i_12 : Int) (out_10 : (List Frac)) (nx : (Int × (List Frac)) → Option R) (dn : (List Frac) → Option R) (rt : (Int × (List Frac)) → Option R) : Option R :=
  bif decide (i_12 < (f_81.length : Int)) then
    ckB (ix i_12 f_80.length) <|
    ckB (ix i_12 f_80.length) <|
    ckB (ix cols_7 (f_80.getD (Int.toNat i_12) []).length) <|
    ckB (ix cols_7 (f_80.getD (Int.toNat i_12) []).length) <|
    bnd (ref01_Make ((f_80.getD (Int.toNat i_12) []).getD (Int.toNat cols_7) 0) f_82) fun r9 =>
    ckB (ix i_12 f_81.length) <|
    ckB (ix i_12 f_81.length) <|
    ckB (ix (f_81.getD (Int.toNat i_12) 0) out_10.length) <|
    ckB (ix (f_81.getD (Int.toNat i_12) 0) out_10.length) <|
    ckB (inR .i64 (i_12 + 1)) <|
    nx ((i_12 + 1), (out_10.set (Int.toNat (f_81.getD (Int.toNat i_12) 0)) r9.1))
  else
    dn out_10

def ref05_SolveL2 (cols_7 : Int) (f_80 : (List (List Int))) (f_81 : (List Int)) (f_82 : Int) (f_83 : Int) (s0 : (Int × (List Frac))) : Option ((List Frac) ⊕ (Int × (List Frac))) :=
  loopM (fun a => ref05_SolveL2K cols_7 f_80 f_81 f_82 f_83 a.1 a.2 (fun a' => some (.next a')) (fun e => some (.done e)) (fun r => some (.ret r))) s0

def ref05_SolveL2I : Shp := ⟨[(7, .d true (.int .i64)), (8, .ptr 0), (10, .own 1), (12, .d true (.int .i64))], [.cs 63 4 1 (.cons (.d true (.slice (.slice (.int .i64)))) (.cons (.d true (.slice (.int .i64))) (.cons (.d true (.int .i64)) (.cons (.d true (.int .i64)) .nil)))), .arr 50 (.fz true) [0, 0] Frac.ty]⟩
def ref05_SolveL2E : Shp := ⟨[(10, .own 0)], [.arr 50 (.fz true) [0, 0] Frac.ty]⟩

def ref05_Solve (m_0 : (List (List Int))) (b_1 : (List Int)) : Option (Int × (List Frac)) :=
  bnd (ref05_Valid m_0) fun r1 =>
  bif (!r1) then
    some (1, [])
  else
    bnd (ref05_Column b_1) fun r2 =>
    bif (!r2) then
      some (1, [])
    else
      bif (!decide ((b_1.length : Int) = (m_0.length : Int))) then
        some (29, [])
      else
        bnd (ref05_with m_0 b_1) fun r3 =>
        bnd (ref05_Small r3) fun r4 =>
        bif (!r4) then
          some (6, [])
        else
          ckB (ix 0 m_0.length) <|
          ckB (ix 0 m_0.length) <|
          bnd (ref05_Reduce r3 ((m_0.getD 0 []).length : Int)) fun r5 =>
          bnd (ref05_SolveL0 r3 ((m_0.getD 0 []).length : Int) r5.1 r5.2.1 r5.2.2.1 r5.2.2.2.1 (r5.2.1.length : Int)) fun oe6 =>
          lk oe6 (fun e6 =>
            bnd (ref05_SolveL1 ((m_0.getD 0 []).length : Int) r5.1 r5.2.1 r5.2.2.1 r5.2.2.2.1 (0, [])) fun oe8 =>
            lk oe8 (fun e8 =>
              bnd (ref05_SolveL2 ((m_0.getD 0 []).length : Int) r5.1 r5.2.1 r5.2.2.1 r5.2.2.2.1 (0, e8)) fun oe10 =>
              lk oe10 (fun e10 =>
                some (0, e10)) (fun r => some r)) (fun r => some r)) (fun r => some r)

/-! casebook/casebookref05.zeros -/

def ref05_zerosL0K {R : Type} (rows_0 : Int) (cols_1 : Int) (i_6 : Int) (out_5 : (List (List Int))) (nx : (Int × (List (List Int))) → Option R) (dn : (List (List Int)) → Option R) (rt : (List (List Int)) → Option R) : Option R :=
  bif decide (i_6 < rows_0) then
    ckB (mkOk cols_1 cols_1 8) <|
    ckB (room (out_5.length + 1) 24) <|
    ckB (inR .i64 (i_6 + 1)) <|
    nx ((i_6 + 1), (out_5 ++ [(List.replicate (Int.toNat cols_1) (0 : Int))]))
  else
    dn out_5

def ref05_zerosL0 (rows_0 : Int) (cols_1 : Int) (s0 : (Int × (List (List Int)))) : Option ((List (List Int)) ⊕ (List (List Int))) :=
  loopM (fun a => ref05_zerosL0K rows_0 cols_1 a.1 a.2 (fun a' => some (.next a')) (fun e => some (.done e)) (fun r => some (.ret r))) s0

def ref05_zerosL0I : Shp := ⟨[(0, .d true (.int .i64)), (1, .d true (.int .i64)), (5, .own 0), (6, .d true (.int .i64))], [.arr 32 .own [3] (.slice (.int .i64))]⟩
def ref05_zerosL0E : Shp := ⟨[(5, .own 0)], [.arr 32 .own [3] (.slice (.int .i64))]⟩

def ref05_zeros (rows_0 : Int) (cols_1 : Int) : Option (List (List Int)) :=
  bnd (ref05_zerosL0 rows_0 cols_1 (0, [])) fun oe1 =>
  lk oe1 (fun e1 =>
    some e1) (fun r => some r)

/-! casebook/casebookref05.Transpose -/

def ref05_TransposeL0K {R : Type} (m_0 : (List (List Int))) (i_4 : Int) (j_5 : Int) (out_3 : (List (List Int))) (nx : (Int × (List (List Int))) → Option R) (dn : (List (List Int)) → Option R) (rt : (List (List Int)) → Option R) : Option R :=
  ckB (ix 0 m_0.length) <|
  ckB (ix 0 m_0.length) <|
  bif decide (j_5 < ((m_0.getD 0 []).length : Int)) then
    ckB (ix j_5 out_3.length) <|
    ckB (ix j_5 out_3.length) <|
    ckB (ix i_4 m_0.length) <|
    ckB (ix i_4 m_0.length) <|
    ckB (ix j_5 (m_0.getD (Int.toNat i_4) []).length) <|
    ckB (ix j_5 (m_0.getD (Int.toNat i_4) []).length) <|
    ckB (ix i_4 (out_3.getD (Int.toNat j_5) []).length) <|
    ckB (ix i_4 (out_3.getD (Int.toNat j_5) []).length) <|
    ckB (inR .i64 (j_5 + 1)) <|
    nx ((j_5 + 1), (out_3.set (Int.toNat j_5) ((out_3.getD (Int.toNat j_5) []).set (Int.toNat i_4) ((m_0.getD (Int.toNat i_4) []).getD (Int.toNat j_5) 0))))
  else
    dn out_3

def ref05_TransposeL0 (m_0 : (List (List Int))) (i_4 : Int) (s0 : (Int × (List (List Int)))) : Option ((List (List Int)) ⊕ (List (List Int))) :=
  loopM (fun a => ref05_TransposeL0K m_0 i_4 a.1 a.2 (fun a' => some (.next a')) (fun e => some (.done e)) (fun r => some (.ret r))) s0

def ref05_TransposeL0I : Shp := ⟨[(0, .d false (.slice (.slice (.int .i64)))), (3, .own 0), (4, .d true (.int .i64)), (5, .d true (.int .i64))], [.arr 32 .own [3] (.slice (.int .i64))]⟩
def ref05_TransposeL0E : Shp := ⟨[(0, .d false (.slice (.slice (.int .i64)))), (3, .own 0), (4, .d true (.int .i64))], [.arr 32 .own [3] (.slice (.int .i64))]⟩

def ref05_TransposeL1K {R : Type} (m_0 : (List (List Int))) (i_4 : Int) (out_3 : (List (List Int))) (nx : (Int × (List (List Int))) → Option R) (dn : (List (List Int)) → Option R) (rt : (List (List Int)) → Option R) : Option R :=
  bif decide (i_4 < (m_0.length : Int)) then
    bnd (ref05_TransposeL0 m_0 i_4 (0, out_3)) fun oe2 =>
    lk oe2 (fun e2 =>
      ckB (inR .i64 (i_4 + 1)) <|
      nx ((i_4 + 1), e2)) (fun r => rt r)
  else
    dn out_3

def ref05_TransposeL1 (m_0 : (List (List Int))) (s0 : (Int × (List (List Int)))) : Option ((List (List Int)) ⊕ (List (List Int))) :=
  loopM (fun a => ref05_TransposeL1K m_0 a.1 a.2 (fun a' => some (.next a')) (fun e => some (.done e)) (fun r => some (.ret r))) s0

def ref05_TransposeL1I : Shp := ⟨[(0, .d false (.slice (.slice (.int .i64)))), (3, .own 0), (4, .d true (.int .i64))], [.arr 32 .own [3] (.slice (.int .i64))]⟩
def ref05_TransposeL1E : Shp := ⟨[(3, .own 0)], [.arr 32 .own [3] (.slice (.int .i64))]⟩

def ref05_Transpose (m_0 : (List (List Int))) : Option (List (List Int)) :=
  ckB (ix 0 m_0.length) <|
  ckB (ix 0 m_0.length) <|
  bnd (ref05_zeros ((m_0.getD 0 []).length : Int) (m_0.length : Int)) fun r1 =>
  bnd (ref05_TransposeL1 m_0 (0, r1)) fun oe3 =>
  lk oe3 (fun e3 =>
    some e3) (fun r => some r)

/-! casebook/casebookref05.Times -/

def ref05_TimesL0K {R : Type} (a_0 : (List Int)) (b_1 : (List Int)) (s_5 : Int) (i_6 : Int) (nx : (Int × Int) → Option R) (dn : Int → Option R) (rt : Int → Option R) : Option R :=
  bif decide (i_6 < (a_0.length : Int)) then
    ckB (ix i_6 a_0.length) <|
    ckB (ix i_6 a_0.length) <|
    ckB (ix i_6 b_1.length) <|
    ckB (ix i_6 b_1.length) <|
    ckB (inR .i64 ((a_0.getD (Int.toNat i_6) 0) * (b_1.getD (Int.toNat i_6) 0))) <|
    ckB (inR .i64 (s_5 + ((a_0.getD (Int.toNat i_6) 0) * (b_1.getD (Int.toNat i_6) 0)))) <|
    ckB (inR .i64 (i_6 + 1)) <|
    nx ((s_5 + ((a_0.getD (Int.toNat i_6) 0) * (b_1.getD (Int.toNat i_6) 0))), (i_6 + 1))
  else
    dn s_5

def ref05_TimesL0 (a_0 : (List Int)) (b_1 : (List Int)) (s0 : (Int × Int)) : Option (Int ⊕ Int) :=
  loopM (fun a => ref05_TimesL0K a_0 b_1 a.1 a.2 (fun a' => some (.next a')) (fun e => some (.done e)) (fun r => some (.ret r))) s0

def ref05_TimesL0I : Shp := ⟨[(0, .d false (.slice (.int .i64))), (1, .d false (.slice (.int .i64))), (5, .d true (.int .i64)), (6, .d true (.int .i64))], []⟩
def ref05_TimesL0E : Shp := ⟨[(5, .d true (.int .i64))], []⟩

def ref05_Times (a_0 : (List Int)) (b_1 : (List Int)) : Option Int :=
  bnd (ref05_TimesL0 a_0 b_1 (0, 0)) fun oe1 =>
  lk oe1 (fun e1 =>
    some e1) (fun r => some r)

/-! casebook/casebookref05.Refute -/

def ref05_RefuteL0K {R : Type} (b_1 : (List Int)) (l_6 : (List (List Int))) (i_8 : Int) (nx : Int → Option R) (dn : Unit → Option R) (rt : ((List Int) × Int) → Option R) : Option R :=
  bif decide (i_8 < (l_6.length : Int)) then
    ckB (ix i_8 l_6.length) <|
    ckB (ix i_8 l_6.length) <|
    bnd (ref05_Times (l_6.getD (Int.toNat i_8) []) b_1) fun r5 =>
    bif (!decide (r5 = 0)) then
      ckB (ix i_8 l_6.length) <|
      ckB (ix i_8 l_6.length) <|
      rt ((l_6.getD (Int.toNat i_8) []), 0)
    else
      ckB (inR .i64 (i_8 + 1)) <|
      nx (i_8 + 1)
  else
    dn ()

def ref05_RefuteL0 (b_1 : (List Int)) (l_6 : (List (List Int))) (s0 : Int) : Option (Unit ⊕ ((List Int) × Int)) :=
  loopM (fun a => ref05_RefuteL0K b_1 l_6 a (fun a' => some (.next a')) (fun e => some (.done e)) (fun r => some (.ret r))) s0

def ref05_RefuteL0I : Shp := ⟨[(1, .d false (.slice (.int .i64))), (6, .own 0), (8, .d true (.int .i64))], [.arr 32 .own [3] (.slice (.int .i64))]⟩
def ref05_RefuteL0E : Shp := ⟨[], []⟩

def ref05_Refute (m_0 : (List (List Int))) (b_1 : (List Int)) : Option ((List Int) × Int) :=
  bnd (ref05_Valid m_0) fun r1 =>
  bif (!r1) then
    some ([], 1)
  else
    bnd (ref05_Column b_1) fun r2 =>
    bif (!r2) then
      some ([], 1)
    else
      bif (!decide ((b_1.length : Int) = (m_0.length : Int))) then
        some ([], 29)
      else
        bnd (ref05_Transpose m_0) fun r3 =>
        bnd (ref05_Kernel r3) fun r4 =>
        bif (!decide (r4.1 = 0)) then
          some ([], r4.1)
        else
          bnd (ref05_RefuteL0 b_1 r4.2 0) fun oe6 =>
          lk oe6 (fun e6 =>
            some ([], 10)) (fun r => some r)

/-! casebook/casebookref01.Same -/

def ref01_SameL0K {R : Type} (a_0 : (List Frac)) (b_1 : (List Frac)) (i_5 : Int) (nx : Int → Option R) (dn : Unit → Option R) (rt : Bool → Option R) : Option R :=
  bif decide (i_5 < (a_0.length : Int)) then
    ckB (ix i_5 a_0.length) <|
    ckB (ix i_5 a_0.length) <|
    ckB (ix i_5 b_1.length) <|
    ckB (ix i_5 b_1.length) <|
    bif (!(decide ((a_0.getD (Int.toNat i_5) Frac.z).1 = (b_1.getD (Int.toNat i_5) Frac.z).1) && (decide ((a_0.getD (Int.toNat i_5) Frac.z).2.1 = (b_1.getD (Int.toNat i_5) Frac.z).2.1) && true))) then
      rt false
    else
      ckB (inR .i64 (i_5 + 1)) <|
      nx (i_5 + 1)
  else
    dn ()

def ref01_SameL0 (a_0 : (List Frac)) (b_1 : (List Frac)) (s0 : Int) : Option (Unit ⊕ Bool) :=
  loopM (fun a => ref01_SameL0K a_0 b_1 a (fun a' => some (.next a')) (fun e => some (.done e)) (fun r => some (.ret r))) s0

def ref01_SameL0I : Shp := ⟨[(0, .d false (.slice Frac.ty)), (1, .d false (.slice Frac.ty)), (5, .d true (.int .i64))], []⟩
def ref01_SameL0E : Shp := ⟨[], []⟩

def ref01_Same (a_0 : (List Frac)) (b_1 : (List Frac)) : Option Bool :=
  bif (!decide ((a_0.length : Int) = (b_1.length : Int))) then
    some false
  else
    bnd (ref01_SameL0 a_0 b_1 0) fun oe1 =>
    lk oe1 (fun e1 =>
      some true) (fun r => some r)

/-! casebook/casebooklaw05.MatrixSolves -/

def law05_MatrixSolves (m_0 : (List (List Int))) (b_1 : (List Int)) : Option Bool :=
  bnd (law05_awake) fun r1 =>
  bif (!r1) then
    some false
  else
    bnd (law05_great [m_0, [b_1]]) fun r2 =>
    bif r2 then
      some true
    else
      bnd (matrix_Solve m_0 b_1) fun r3 =>
      bnd (matrix_Refute m_0 b_1) fun r4 =>
      bnd (ref05_Solve m_0 b_1) fun r5 =>
      bnd (ref05_Refute m_0 b_1) fun r6 =>
      bnd (ref01_Same r3.2 r5.2) fun r7 =>
      bif r7 then
        bif decide (r3.1 = r5.1) then
          bnd (ref05_SameRow r4.1 r6.1) fun r8 =>
          bif r8 then
            some (decide (r4.2 = r6.2))
          else
            some false
        else
          some false
      else
        some false

/-! casebook/casebooklaw05.MatrixNull -/

def law05_MatrixNullL0K {R : Type} (m_0 : (List (List Int))) (last_7 : Int) (x_9 : (List Int)) (v_57 : (List (List Int))) (v_58 : Int) (v_59 : Int) (v_70 : (List Int)) (v_71 : Int) (v_72 : Int) (nx : Int → Option R) (dn : Unit → Option R) (rt : Bool → Option R) : Option R :=
  bif decide (v_72 < v_71) then
    ckB (ix v_72 v_70.length) <|
    ckB (ix v_72 v_70.length) <|
    bif decide ((v_70.getD (Int.toNat v_72) 0) < (-2147483648)) then
      rt false
    else
      bif decide ((2147483648 : Int) < (v_70.getD (Int.toNat v_72) 0)) then
        rt false
      else
        ckB (inR .i64 (v_72 + 1)) <|
        nx (v_72 + 1)
  else
    dn ()

def law05_MatrixNullL0 (m_0 : (List (List Int))) (last_7 : Int) (x_9 : (List Int)) (v_57 : (List (List Int))) (v_58 : Int) (v_59 : Int) (v_70 : (List Int)) (v_71 : Int) (s0 : Int) : Option (Unit ⊕ Bool) :=
  loopM (fun a => law05_MatrixNullL0K m_0 last_7 x_9 v_57 v_58 v_59 v_70 v_71 a (fun a' => some (.next a')) (fun e => some (.done e)) (fun r => some (.ret r))) s0

def law05_MatrixNullL0I : Shp := ⟨[(0, .d false (.slice (.slice (.int .i64)))), (7, .d true (.int .i64)), (9, .d true (.slice (.int .i64))), (57, .d true (.slice (.slice (.int .i64)))), (58, .d true (.int .i64)), (59, .d true (.int .i64)), (70, .d true (.slice (.int .i64))), (71, .d true (.int .i64)), (72, .d true (.int .i64))], []⟩
def law05_MatrixNullL0E : Shp := ⟨[(0, .d false (.slice (.slice (.int .i64)))), (7, .d true (.int .i64)), (9, .d true (.slice (.int .i64))), (57, .d true (.slice (.slice (.int .i64)))), (58, .d true (.int .i64)), (59, .d true (.int .i64))], []⟩

def law05_MatrixNullL1K {R : Type} (m_0 : (List (List Int))) (last_7 : Int) (x_9 : (List Int)) (v_57 : (List (List Int))) (v_58 : Int) (v_59 : Int) (v_83 : (List (List Int))) (v_84 : Int) (v_85 : Int) (nx : Int → Option R) (dn : Unit → Option R) (rt : Bool → Option R) : Option R :=
  bif decide (v_85 < v_84) then
    ckB (ix v_85 v_83.length) <|
    ckB (ix v_85 v_83.length) <|
    bnd (ref05_Times (v_83.getD (Int.toNat v_85) []) x_9) fun r8 =>
    bif (!decide (r8 = 0)) then
      rt false
    else
      ckB (inR .i64 (v_85 + 1)) <|
      nx (v_85 + 1)
  else
    dn ()

def law05_MatrixNullL1 (m_0 : (List (List Int))) (last_7 : Int) (x_9 : (List Int)) (v_57 : (List (List Int))) (v_58 : Int) (v_59 : Int) (v_83 : (List (List Int))) (v_84 : Int) (s0 : Int) : Option (Unit ⊕ Bool) :=
  loopM (fun a => law05_MatrixNullL1K m_0 last_7 x_9 v_57 v_58 v_59 v_83 v_84 a (fun a' => some (.next a')) (fun e => some (.done e)) (fun r => some (.ret r))) s0

def law05_MatrixNullL1I : Shp := ⟨[(0, .d false (.slice (.slice (.int .i64)))), (7, .d true (.int .i64)), (9, .d true (.slice (.int .i64))), (57, .d true (.slice (.slice (.int .i64)))), (58, .d true (.int .i64)), (59, .d true (.int .i64)), (83, .d false (.slice (.slice (.int .i64)))), (84, .d true (.int .i64)), (85, .d true (.int .i64))], []⟩
def law05_MatrixNullL1E : Shp := ⟨[(0, .d false (.slice (.slice (.int .i64)))), (7, .d true (.int .i64)), (9, .d true (.slice (.int .i64))), (57, .d true (.slice (.slice (.int .i64)))), (58, .d true (.int .i64)), (59, .d true (.int .i64))], []⟩

def law05_MatrixNullL2K {R : Type} (m_0 : (List (List Int))) (last_7 : Int) (x_9 : (List Int)) (v_57 : (List (List Int))) (v_58 : Int) (v_59 : Int) (k_14 : Int) (nx : Int → Option R) (dn : Int → Option R) (rt : Bool → Option R) : Option R :=
  bif decide ((0 : Int) ≤ k_14) then
    ckB (ix k_14 x_9.length) <|
    ckB (ix k_14 x_9.length) <|
    bif decide ((x_9.getD (Int.toNat k_14) 0) = 0) then
      ckB (inR .i64 (k_14 - 1)) <|
      nx (k_14 - 1)
    else
      dn k_14
  else
    dn k_14

def law05_MatrixNullL2 (m_0 : (List (List Int))) (last_7 : Int) (x_9 : (List Int)) (v_57 : (List (List Int))) (v_58 : Int) (v_59 : Int) (s0 : Int) : Option (Int ⊕ Bool) :=
  loopM (fun a => law05_MatrixNullL2K m_0 last_7 x_9 v_57 v_58 v_59 a (fun a' => some (.next a')) (fun e => some (.done e)) (fun r => some (.ret r))) s0

def law05_MatrixNullL2I : Shp := ⟨[(0, .d false (.slice (.slice (.int .i64)))), (7, .d true (.int .i64)), (9, .d true (.slice (.int .i64))), (14, .d true (.int .i64)), (57, .d true (.slice (.slice (.int .i64)))), (58, .d true (.int .i64)), (59, .d true (.int .i64))], []⟩
def law05_MatrixNullL2E : Shp := ⟨[(0, .d false (.slice (.slice (.int .i64)))), (7, .d true (.int .i64)), (9, .d true (.slice (.int .i64))), (14, .d true (.int .i64)), (57, .d true (.slice (.slice (.int .i64)))), (58, .d true (.int .i64)), (59, .d true (.int .i64))], []⟩

def law05_MatrixNullL3K {R : Type} (m_0 : (List (List Int))) (v_57 : (List (List Int))) (v_58 : Int) (last_7 : Int) (v_59 : Int) (nx : (Int × Int) → Option R) (dn : Unit → Option R) (rt : Bool → Option R) : Option R :=
  bif decide (v_59 < v_58) then
    ckB (ix v_59 v_57.length) <|
    ckB (ix v_59 v_57.length) <|
    ckB (ix 0 m_0.length) <|
    ckB (ix 0 m_0.length) <|
    bif (!decide (((v_57.getD (Int.toNat v_59) []).length : Int) = ((m_0.getD 0 []).length : Int))) then
      rt false
    else
      bnd (law05_MatrixNullL0 m_0 last_7 (v_57.getD (Int.toNat v_59) []) v_57 v_58 v_59 (v_57.getD (Int.toNat v_59) []) ((v_57.getD (Int.toNat v_59) []).length : Int) 0) fun oe7 =>
      lk oe7 (fun e7 =>
        bnd (law05_MatrixNullL1 m_0 last_7 (v_57.getD (Int.toNat v_59) []) v_57 v_58 v_59 m_0 (m_0.length : Int) 0) fun oe9 =>
        lk oe9 (fun e9 =>
          ckB (inR .i64 (((v_57.getD (Int.toNat v_59) []).length : Int) - 1)) <|
          bnd (law05_MatrixNullL2 m_0 last_7 (v_57.getD (Int.toNat v_59) []) v_57 v_58 v_59 (((v_57.getD (Int.toNat v_59) []).length : Int) - 1)) fun oe10 =>
          lk oe10 (fun e10 =>
            bif decide (e10 ≤ last_7) then
              rt false
            else
              ckB (ix e10 (v_57.getD (Int.toNat v_59) []).length) <|
              ckB (ix e10 (v_57.getD (Int.toNat v_59) []).length) <|
              bif decide (((v_57.getD (Int.toNat v_59) []).getD (Int.toNat e10) 0) < 1) then
                rt false
              else
                ckB (inR .i64 (v_59 + 1)) <|
                nx (e10, (v_59 + 1))) (fun r => rt r)) (fun r => rt r)) (fun r => rt r)
  else
    dn ()

def law05_MatrixNullL3 (m_0 : (List (List Int))) (v_57 : (List (List Int))) (v_58 : Int) (s0 : (Int × Int)) : Option (Unit ⊕ Bool) :=
  loopM (fun a => law05_MatrixNullL3K m_0 v_57 v_58 a.1 a.2 (fun a' => some (.next a')) (fun e => some (.done e)) (fun r => some (.ret r))) s0

def law05_MatrixNullL3I : Shp := ⟨[(0, .d false (.slice (.slice (.int .i64)))), (7, .d true (.int .i64)), (57, .d true (.slice (.slice (.int .i64)))), (58, .d true (.int .i64)), (59, .d true (.int .i64))], []⟩
def law05_MatrixNullL3E : Shp := ⟨[], []⟩

def law05_MatrixNull (m_0 : (List (List Int))) : Option Bool :=
  bnd (law05_awake) fun r1 =>
  bif (!r1) then
    some false
  else
    bnd (law05_great [m_0]) fun r2 =>
    bif r2 then
      some true
    else
      bnd (ref05_Valid m_0) fun r3 =>
      bif (!r3) then
        some true
      else
        bnd (ref05_Small m_0) fun r4 =>
        bif (!r4) then
          some true
        else
          bnd (matrix_Rank m_0) fun r5 =>
          bnd (matrix_Kernel m_0) fun r6 =>
          bif (!decide (r5.2 = 0)) then
            some false
          else
            bif (!decide (r6.1 = 0)) then
              some false
            else
              ckB (inR .i64 (r5.1 + (r6.2.length : Int))) <|
              ckB (ix 0 m_0.length) <|
              ckB (ix 0 m_0.length) <|
              bif (!decide ((r5.1 + (r6.2.length : Int)) = ((m_0.getD 0 []).length : Int))) then
                some false
              else
                bnd (law05_MatrixNullL3 m_0 r6.2 (r6.2.length : Int) ((-1), 0)) fun oe11 =>
                lk oe11 (fun e11 =>
                  some true) (fun r => some r)

/-! casebook/casebookref01.Valid -/

def ref01_Valid (a_0 : Frac) : Option Bool :=
  bif decide (a_0.1 < (-1073741824)) then
    some false
  else
    bif decide ((1073741824 : Int) < a_0.1) then
      some false
    else
      bif decide (a_0.2.1 < 1) then
        some false
      else
        bif decide ((1073741824 : Int) < a_0.2.1) then
          some false
        else
          bnd (ref01_Make a_0.1 a_0.2.1) fun r1 =>
          some (decide (r1.1.1 = a_0.1) && (decide (r1.1.2.1 = a_0.2.1) && true))

/-! casebook/casebookref01.Mul -/

def ref01_Mul (a_0 : Frac) (b_1 : Frac) : Option (Frac × Int) :=
  bnd (ref01_Valid a_0) fun r1 =>
  bif (!r1) then
    some ((0, 0, ()), 1)
  else
    bnd (ref01_Valid b_1) fun r2 =>
    bif (!r2) then
      some ((0, 0, ()), 1)
    else
      ckB (inR .i64 (a_0.1 * b_1.1)) <|
      ckB (inR .i64 (a_0.2.1 * b_1.2.1)) <|
      bnd (ref01_Make (a_0.1 * b_1.1) (a_0.2.1 * b_1.2.1)) fun r3 =>
      some (r3.1, r3.2)

/-! casebook/casebookref01.Add -/

def ref01_Add (a_0 : Frac) (b_1 : Frac) : Option (Frac × Int) :=
  bnd (ref01_Valid a_0) fun r1 =>
  bif (!r1) then
    some ((0, 0, ()), 1)
  else
    bnd (ref01_Valid b_1) fun r2 =>
    bif (!r2) then
      some ((0, 0, ()), 1)
    else
      ckB (inR .i64 (a_0.1 * b_1.2.1)) <|
      ckB (inR .i64 (b_1.1 * a_0.2.1)) <|
      ckB (inR .i64 ((a_0.1 * b_1.2.1) + (b_1.1 * a_0.2.1))) <|
      ckB (inR .i64 (a_0.2.1 * b_1.2.1)) <|
      bnd (ref01_Make ((a_0.1 * b_1.2.1) + (b_1.1 * a_0.2.1)) (a_0.2.1 * b_1.2.1)) fun r3 =>
      some (r3.1, r3.2)

/-! casebook/casebooklaw05.MatrixAlternative -/

def law05_MatrixAlternativeL0K {R : Type} (b_1 : (List Int)) (x_5 : (List Frac)) (i_9 : Int) (v_84 : (List (List Int))) (v_85 : Int) (v_86 : Int) (v_92 : (List Int)) (v_93 : Int) (v_94 : Int) (s_110 : Int) (s_111 : Int) (nx : (Int × Int × Int) → Option R) (dn : (Int × Int) → Option R) (rt : Bool → Option R) : Option R :=
  bif decide (v_94 < v_93) then
    ckB (ix v_94 v_92.length) <|
    ckB (ix v_94 v_92.length) <|
    bnd (ref01_Of (v_92.getD (Int.toNat v_94) 0)) fun r8 =>
    ckB (ix v_94 x_5.length) <|
    ckB (ix v_94 x_5.length) <|
    bnd (ref01_Mul r8 (x_5.getD (Int.toNat v_94) Frac.z)) fun r9 =>
    bif (!decide (r9.2 = 0)) then
      rt (decide (r9.2 = 6))
    else
      bnd (ref01_Add (s_110, s_111, ()) r9.1) fun r10 =>
      bif (!decide (r10.2 = 0)) then
        rt (decide (r10.2 = 6))
      else
        ckB (inR .i64 (v_94 + 1)) <|
        nx ((v_94 + 1), r10.1.1, r10.1.2.1)
  else
    dn (s_110, s_111)

def law05_MatrixAlternativeL0 (b_1 : (List Int)) (x_5 : (List Frac)) (i_9 : Int) (v_84 : (List (List Int))) (v_85 : Int) (v_86 : Int) (v_92 : (List Int)) (v_93 : Int) (s0 : (Int × Int × Int)) : Option ((Int × Int) ⊕ Bool) :=
  loopM (fun a => law05_MatrixAlternativeL0K b_1 x_5 i_9 v_84 v_85 v_86 v_92 v_93 a.1 a.2.1 a.2.2 (fun a' => some (.next a')) (fun e => some (.done e)) (fun r => some (.ret r))) s0

def law05_MatrixAlternativeL0I : Shp := ⟨[(1, .d false (.slice (.int .i64))), (5, .d true (.slice Frac.ty)), (9, .d true (.int .i64)), (11, .ptr 0), (84, .d false (.slice (.slice (.int .i64)))), (85, .d true (.int .i64)), (86, .d true (.int .i64)), (92, .d false (.slice (.int .i64))), (93, .d true (.int .i64)), (94, .d true (.int .i64))], [.cs 50 2 1 (.cons (.d true (.int .i64)) (.cons (.d true (.int .i64)) .nil))]⟩
def law05_MatrixAlternativeL0E : Shp := ⟨[(1, .d false (.slice (.int .i64))), (5, .d true (.slice Frac.ty)), (9, .d true (.int .i64)), (11, .ptr 0), (84, .d false (.slice (.slice (.int .i64)))), (85, .d true (.int .i64)), (86, .d true (.int .i64))], [.cs 50 2 1 (.cons (.d true (.int .i64)) (.cons (.d true (.int .i64)) .nil))]⟩

def law05_MatrixAlternativeL1K {R : Type} (b_1 : (List Int)) (x_5 : (List Frac)) (v_84 : (List (List Int))) (v_85 : Int) (v_86 : Int) (nx : Int → Option R) (dn : Unit → Option R) (rt : Bool → Option R) : Option R :=
  bif decide (v_86 < v_85) then
    ckB (ix v_86 v_84.length) <|
    ckB (ix v_86 v_84.length) <|
    bnd (ref01_Of 0) fun r7 =>
    bnd (law05_MatrixAlternativeL0 b_1 x_5 v_86 v_84 v_85 v_86 (v_84.getD (Int.toNat v_86) []) ((v_84.getD (Int.toNat v_86) []).length : Int) (0, r7.1, r7.2.1)) fun oe11 =>
    lk oe11 (fun e11 =>
      ckB (ix v_86 b_1.length) <|
      ckB (ix v_86 b_1.length) <|
      bnd (ref01_Of (b_1.getD (Int.toNat v_86) 0)) fun r12 =>
      bif (!(decide (e11.1 = r12.1) && (decide (e11.2 = r12.2.1) && true))) then
        rt false
      else
        ckB (inR .i64 (v_86 + 1)) <|
        nx (v_86 + 1)) (fun r => rt r)
  else
    dn ()

def law05_MatrixAlternativeL1 (b_1 : (List Int)) (x_5 : (List Frac)) (v_84 : (List (List Int))) (v_85 : Int) (s0 : Int) : Option (Unit ⊕ Bool) :=
  loopM (fun a => law05_MatrixAlternativeL1K b_1 x_5 v_84 v_85 a (fun a' => some (.next a')) (fun e => some (.done e)) (fun r => some (.ret r))) s0

def law05_MatrixAlternativeL1I : Shp := ⟨[(1, .d false (.slice (.int .i64))), (5, .d true (.slice Frac.ty)), (84, .d false (.slice (.slice (.int .i64)))), (85, .d true (.int .i64)), (86, .d true (.int .i64))], []⟩
def law05_MatrixAlternativeL1E : Shp := ⟨[], []⟩

def law05_MatrixAlternativeL2K {R : Type} (m_0 : (List (List Int))) (b_1 : (List Int)) (y_7 : (List Int)) (v_137 : (List Int)) (v_138 : Int) (v_139 : Int) (nx : Int → Option R) (dn : Unit → Option R) (rt : Bool → Option R) : Option R :=
  bif decide (v_139 < v_138) then
    ckB (ix v_139 v_137.length) <|
    ckB (ix v_139 v_137.length) <|
    bif decide ((v_137.getD (Int.toNat v_139) 0) < (-2147483648)) then
      rt false
    else
      bif decide ((2147483648 : Int) < (v_137.getD (Int.toNat v_139) 0)) then
        rt false
      else
        ckB (inR .i64 (v_139 + 1)) <|
        nx (v_139 + 1)
  else
    dn ()

def law05_MatrixAlternativeL2 (m_0 : (List (List Int))) (b_1 : (List Int)) (y_7 : (List Int)) (v_137 : (List Int)) (v_138 : Int) (s0 : Int) : Option (Unit ⊕ Bool) :=
  loopM (fun a => law05_MatrixAlternativeL2K m_0 b_1 y_7 v_137 v_138 a (fun a' => some (.next a')) (fun e => some (.done e)) (fun r => some (.ret r))) s0

def law05_MatrixAlternativeL2I : Shp := ⟨[(0, .d false (.slice (.slice (.int .i64)))), (1, .d false (.slice (.int .i64))), (7, .d true (.slice (.int .i64))), (137, .d true (.slice (.int .i64))), (138, .d true (.int .i64)), (139, .d true (.int .i64))], []⟩
def law05_MatrixAlternativeL2E : Shp := ⟨[(0, .d false (.slice (.slice (.int .i64)))), (1, .d false (.slice (.int .i64))), (7, .d true (.slice (.int .i64)))], []⟩

def law05_MatrixAlternativeL3K {R : Type} (b_1 : (List Int)) (y_7 : (List Int)) (v_151 : (List (List Int))) (v_152 : Int) (v_153 : Int) (nx : Int → Option R) (dn : Unit → Option R) (rt : Bool → Option R) : Option R :=
  bif decide (v_153 < v_152) then
    ckB (ix v_153 v_151.length) <|
    ckB (ix v_153 v_151.length) <|
    bnd (ref05_Times y_7 (v_151.getD (Int.toNat v_153) [])) fun r16 =>
    bif (!decide (r16 = 0)) then
      rt false
    else
      ckB (inR .i64 (v_153 + 1)) <|
      nx (v_153 + 1)
  else
    dn ()

def law05_MatrixAlternativeL3 (b_1 : (List Int)) (y_7 : (List Int)) (v_151 : (List (List Int))) (v_152 : Int) (s0 : Int) : Option (Unit ⊕ Bool) :=
  loopM (fun a => law05_MatrixAlternativeL3K b_1 y_7 v_151 v_152 a (fun a' => some (.next a')) (fun e => some (.done e)) (fun r => some (.ret r))) s0

def law05_MatrixAlternativeL3I : Shp := ⟨[(1, .d false (.slice (.int .i64))), (7, .d true (.slice (.int .i64))), (151, .d true (.slice (.slice (.int .i64)))), (152, .d true (.int .i64)), (153, .d true (.int .i64))], []⟩
def law05_MatrixAlternativeL3E : Shp := ⟨[(1, .d false (.slice (.int .i64))), (7, .d true (.slice (.int .i64)))], []⟩

def law05_MatrixAlternative (m_0 : (List (List Int))) (b_1 : (List Int)) : Option Bool :=
  bnd (law05_awake) fun r1 =>
  bif (!r1) then
    some false
  else
    bnd (law05_great [m_0, [b_1]]) fun r2 =>
    bif r2 then
      some true
    else
      bnd (ref05_Valid m_0) fun r3 =>
      bif (!r3) then
        some true
      else
        bnd (ref05_Column b_1) fun r4 =>
        bif (!r4) then
          some true
        else
          bif (!decide ((b_1.length : Int) = (m_0.length : Int))) then
            some true
          else
            bnd (matrix_Solve m_0 b_1) fun r5 =>
            bnd (matrix_Refute m_0 b_1) fun r6 =>
            bif decide (r5.1 = 6) then
              bif decide ((r5.2.length : Int) = 0) then
                some true
              else
                some (decide ((r6.1.length : Int) = 0))
            else
              bif decide (r6.2 = 6) then
                bif decide ((r5.2.length : Int) = 0) then
                  some true
                else
                  some (decide ((r6.1.length : Int) = 0))
              else
                bif (decide (r5.1 = 0) == decide (r6.2 = 0)) then
                  some false
                else
                  bif decide (r5.1 = 0) then
                    ckB (ix 0 m_0.length) <|
                    ckB (ix 0 m_0.length) <|
                    bif (!decide ((r5.2.length : Int) = ((m_0.getD 0 []).length : Int))) then
                      some false
                    else
                      bnd (law05_MatrixAlternativeL1 b_1 r5.2 m_0 (m_0.length : Int) 0) fun oe13 =>
                      lk oe13 (fun e13 =>
                        some true) (fun r => some r)
                  else
                    bif (!decide ((r6.1.length : Int) = (m_0.length : Int))) then
                      some false
                    else
                      bnd (law05_MatrixAlternativeL2 m_0 b_1 r6.1 r6.1 (r6.1.length : Int) 0) fun oe14 =>
                      lk oe14 (fun e14 =>
                        bnd (ref05_Transpose m_0) fun r15 =>
                        bnd (law05_MatrixAlternativeL3 b_1 r6.1 r15 (r15.length : Int) 0) fun oe17 =>
                        lk oe17 (fun e17 =>
                          bnd (ref05_Times r6.1 b_1) fun r18 =>
                          some (!decide (r18 = 0))) (fun r => some r)) (fun r => some r)

/-! casebook/matrix.Det -/

def matrix_Det (m_0 : (List (List Int))) : Option (Int × Int) :=
  bnd (matrix_Valid m_0) fun r1 =>
  bif (!r1) then
    some (0, 1)
  else
    ckB (ix 0 m_0.length) <|
    ckB (ix 0 m_0.length) <|
    bif (!decide ((m_0.length : Int) = ((m_0.getD 0 []).length : Int))) then
      some (0, 29)
    else
      bnd (matrix_small m_0) fun r2 =>
      bif (!r2) then
        some (0, 6)
      else
        bnd (matrix_reduce m_0 (m_0.length : Int)) fun r3 =>
        bif decide ((r3.2.1.length : Int) < (m_0.length : Int)) then
          some (0, 0)
        else
          ckB (!decide ((2 : Int) = 0)) <|
          bif decide ((Int.tmod r3.2.2.2.1 2) = 1) then
            some ((IntKind.wrap .i64 (0 - r3.2.2.1)), 0)
          else
            some (r3.2.2.1, 0)

/-! casebook/casebookref05.Rank -/

def ref05_Rank (m_0 : (List (List Int))) : Option (Int × Int) :=
  bnd (ref05_Valid m_0) fun r1 =>
  bif (!r1) then
    some (0, 1)
  else
    bnd (ref05_Small m_0) fun r2 =>
    bif (!r2) then
      some (0, 6)
    else
      ckB (ix 0 m_0.length) <|
      ckB (ix 0 m_0.length) <|
      bnd (ref05_Reduce m_0 ((m_0.getD 0 []).length : Int)) fun r3 =>
      some ((r3.2.1.length : Int), 0)

/-! casebook/casebookref05.Det -/

def ref05_Det (m_0 : (List (List Int))) : Option (Int × Int) :=
  bnd (ref05_Valid m_0) fun r1 =>
  bif (!r1) then
    some (0, 1)
  else
    ckB (ix 0 m_0.length) <|
    ckB (ix 0 m_0.length) <|
    bif (!decide ((m_0.length : Int) = ((m_0.getD 0 []).length : Int))) then
      some (0, 29)
    else
      bnd (ref05_Small m_0) fun r2 =>
      bif (!r2) then
        some (0, 6)
      else
        bnd (ref05_Reduce m_0 (m_0.length : Int)) fun r3 =>
        bif decide ((r3.2.1.length : Int) < (m_0.length : Int)) then
          some (0, 0)
        else
          some ((IntKind.wrap .i64 (r3.2.2.2.1 * r3.2.2.1)), 0)

/-! casebook/casebooklaw05.MatrixRanks -/

def law05_MatrixRanks (m_0 : (List (List Int))) : Option Bool :=
  bnd (law05_awake) fun r1 =>
  bif (!r1) then
    some false
  else
    bnd (law05_great [m_0]) fun r2 =>
    bif r2 then
      some true
    else
      bnd (matrix_Rank m_0) fun r3 =>
      bnd (matrix_Det m_0) fun r4 =>
      bnd (ref05_Rank m_0) fun r5 =>
      bnd (ref05_Det m_0) fun r6 =>
      bif decide (r3.1 = r5.1) then
        bif decide (r3.2 = r5.2) then
          bif decide (r4.1 = r6.1) then
            some (decide (r4.2 = r6.2))
          else
            some false
        else
          some false
      else
        some false

/-! casebook/matrix.Mul -/

def matrix_MulL0K {R : Type} (b_1 : (List (List Int))) (x_11 : Int) (v_31 : (List (List Int))) (v_32 : Int) (v_33 : Int) (v_42 : (List Int)) (v_43 : Int) (v_44 : Int) (v_52 : (List Int)) (v_53 : Int) (out_6 : (List (List Int))) (v_54 : Int) (next_9 : (List Int)) (nx : (Int × (List Int)) → Option R) (dn : (List Int) → Option R) (rt : (Int × (List (List Int))) → Option R) : Option R :=
  bif decide (v_54 < v_53) then
    ckB (ix v_54 v_52.length) <|
    ckB (ix v_54 v_52.length) <|
    ckB (ix v_54 next_9.length) <|
    ckB (ix v_54 next_9.length) <|
    ckB (inR .i64 (x_11 * (v_52.getD (Int.toNat v_54) 0))) <|
    ckB (inR .i64 ((next_9.getD (Int.toNat v_54) 0) + (x_11 * (v_52.getD (Int.toNat v_54) 0)))) <|
    ckB (ix v_54 next_9.length) <|
    ckB (ix v_54 next_9.length) <|
    ckB (inR .i64 (v_54 + 1)) <|
    nx ((v_54 + 1), (next_9.set (Int.toNat v_54) ((next_9.getD (Int.toNat v_54) 0) + (x_11 * (v_52.getD (Int.toNat v_54) 0)))))
  else
    dn next_9

def matrix_MulL0 (b_1 : (List (List Int))) (x_11 : Int) (v_31 : (List (List Int))) (v_32 : Int) (v_33 : Int) (v_42 : (List Int)) (v_43 : Int) (v_44 : Int) (v_52 : (List Int)) (v_53 : Int) (out_6 : (List (List Int))) (s0 : (Int × (List Int))) : Option ((List Int) ⊕ (Int × (List (List Int)))) :=
  loopM (fun a => matrix_MulL0K b_1 x_11 v_31 v_32 v_33 v_42 v_43 v_44 v_52 v_53 out_6 a.1 a.2 (fun a' => some (.next a')) (fun e => some (.done e)) (fun r => some (.ret r))) s0

def matrix_MulL0I : Shp := ⟨[(1, .d false (.slice (.slice (.int .i64)))), (6, .own 0), (9, .own 1), (11, .d true (.int .i64)), (31, .d false (.slice (.slice (.int .i64)))), (32, .d true (.int .i64)), (33, .d true (.int .i64)), (42, .d false (.slice (.int .i64))), (43, .d true (.int .i64)), (44, .d true (.int .i64)), (52, .d false (.slice (.int .i64))), (53, .d true (.int .i64)), (54, .d true (.int .i64))], [.arr 32 (.fz true) [3] (.slice (.int .i64)), .arr 3 (.fz true) [0] (.int .i64)]⟩
def matrix_MulL0E : Shp := ⟨[(1, .d false (.slice (.slice (.int .i64)))), (6, .own 0), (9, .own 1), (31, .d false (.slice (.slice (.int .i64)))), (32, .d true (.int .i64)), (33, .d true (.int .i64)), (42, .d false (.slice (.int .i64))), (43, .d true (.int .i64)), (44, .d true (.int .i64))], [.arr 32 (.fz true) [3] (.slice (.int .i64)), .arr 3 (.fz true) [0] (.int .i64)]⟩

def matrix_MulL1K {R : Type} (b_1 : (List (List Int))) (v_31 : (List (List Int))) (v_32 : Int) (v_33 : Int) (v_42 : (List Int)) (v_43 : Int) (out_6 : (List (List Int))) (v_44 : Int) (next_9 : (List Int)) (nx : (Int × (List Int)) → Option R) (dn : (List Int) → Option R) (rt : (Int × (List (List Int))) → Option R) : Option R :=
  bif decide (v_44 < v_43) then
    ckB (ix v_44 v_42.length) <|
    ckB (ix v_44 v_42.length) <|
    ckB (ix v_44 b_1.length) <|
    ckB (ix v_44 b_1.length) <|
    bnd (matrix_MulL0 b_1 (v_42.getD (Int.toNat v_44) 0) v_31 v_32 v_33 v_42 v_43 v_44 (b_1.getD (Int.toNat v_44) []) ((b_1.getD (Int.toNat v_44) []).length : Int) out_6 (0, next_9)) fun oe3 =>
    lk oe3 (fun e3 =>
      ckB (inR .i64 (v_44 + 1)) <|
      nx ((v_44 + 1), e3)) (fun r => rt r)
  else
    dn next_9

def matrix_MulL1 (b_1 : (List (List Int))) (v_31 : (List (List Int))) (v_32 : Int) (v_33 : Int) (v_42 : (List Int)) (v_43 : Int) (out_6 : (List (List Int))) (s0 : (Int × (List Int))) : Option ((List Int) ⊕ (Int × (List (List Int)))) :=
  loopM (fun a => matrix_MulL1K b_1 v_31 v_32 v_33 v_42 v_43 out_6 a.1 a.2 (fun a' => some (.next a')) (fun e => some (.done e)) (fun r => some (.ret r))) s0

def matrix_MulL1I : Shp := ⟨[(1, .d false (.slice (.slice (.int .i64)))), (6, .own 0), (9, .own 1), (31, .d false (.slice (.slice (.int .i64)))), (32, .d true (.int .i64)), (33, .d true (.int .i64)), (42, .d false (.slice (.int .i64))), (43, .d true (.int .i64)), (44, .d true (.int .i64))], [.arr 32 (.fz true) [3] (.slice (.int .i64)), .arr 3 (.fz true) [0] (.int .i64)]⟩
def matrix_MulL1E : Shp := ⟨[(1, .d false (.slice (.slice (.int .i64)))), (6, .own 0), (9, .own 1), (31, .d false (.slice (.slice (.int .i64)))), (32, .d true (.int .i64)), (33, .d true (.int .i64))], [.arr 32 (.fz true) [3] (.slice (.int .i64)), .arr 3 (.fz true) [0] (.int .i64)]⟩

def matrix_MulL2K {R : Type} (b_1 : (List (List Int))) (v_31 : (List (List Int))) (v_32 : Int) (v_33 : Int) (out_6 : (List (List Int))) (nx : (Int × (List (List Int))) → Option R) (dn : (List (List Int)) → Option R) (rt : (Int × (List (List Int))) → Option R) : Option R :=
  bif decide (v_33 < v_32) then
    ckB (ix v_33 v_31.length) <|
    ckB (ix v_33 v_31.length) <|
    ckB (ix 0 b_1.length) <|
    ckB (ix 0 b_1.length) <|
    ckB (mkOk ((b_1.getD 0 []).length : Int) ((b_1.getD 0 []).length : Int) 8) <|
    bnd (matrix_MulL1 b_1 v_31 v_32 v_33 (v_31.getD (Int.toNat v_33) []) ((v_31.getD (Int.toNat v_33) []).length : Int) out_6 (0, (List.replicate (Int.toNat ((b_1.getD 0 []).length : Int)) (0 : Int)))) fun oe4 =>
    lk oe4 (fun e4 =>
      ckB (room (out_6.length + 1) 24) <|
      ckB (inR .i64 (v_33 + 1)) <|
      nx ((v_33 + 1), (out_6 ++ [e4]))) (fun r => rt r)
  else
    dn out_6

def matrix_MulL2 (b_1 : (List (List Int))) (v_31 : (List (List Int))) (v_32 : Int) (s0 : (Int × (List (List Int)))) : Option ((List (List Int)) ⊕ (Int × (List (List Int)))) :=
  loopM (fun a => matrix_MulL2K b_1 v_31 v_32 a.1 a.2 (fun a' => some (.next a')) (fun e => some (.done e)) (fun r => some (.ret r))) s0

def matrix_MulL2I : Shp := ⟨[(1, .d false (.slice (.slice (.int .i64)))), (6, .own 0), (31, .d false (.slice (.slice (.int .i64)))), (32, .d true (.int .i64)), (33, .d true (.int .i64))], [.arr 32 (.fz true) [3] (.slice (.int .i64))]⟩
def matrix_MulL2E : Shp := ⟨[(6, .own 0)], [.arr 32 (.fz true) [3] (.slice (.int .i64))]⟩

def matrix_Mul (a_0 : (List (List Int))) (b_1 : (List (List Int))) : Option (Int × (List (List Int))) :=
  bnd (matrix_Valid a_0) fun r1 =>
  bif (!r1) then
    some (1, [])
  else
    bnd (matrix_Valid b_1) fun r2 =>
    bif (!r2) then
      some (1, [])
    else
      ckB (ix 0 a_0.length) <|
      ckB (ix 0 a_0.length) <|
      bif (!decide (((a_0.getD 0 []).length : Int) = (b_1.length : Int))) then
        some (29, [])
      else
        bnd (matrix_MulL2 b_1 a_0 (a_0.length : Int) (0, [])) fun oe5 =>
        lk oe5 (fun e5 =>
          bnd (matrix_Valid e5) fun r6 =>
          bif (!r6) then
            some (6, [])
          else
            some (0, e5)) (fun r => some r)

/-! casebook/casebookref05.Mul -/

def ref05_MulL0K {R : Type} (a_0 : (List (List Int))) (b_1 : (List (List Int))) (i_7 : Int) (j_8 : Int) (k_9 : Int) (out_6 : (List (List Int))) (nx : (Int × (List (List Int))) → Option R) (dn : (List (List Int)) → Option R) (rt : (Int × (List (List Int))) → Option R) : Option R :=
  bif decide (k_9 < (b_1.length : Int)) then
    ckB (ix i_7 out_6.length) <|
    ckB (ix i_7 out_6.length) <|
    ckB (ix i_7 out_6.length) <|
    ckB (ix i_7 out_6.length) <|
    ckB (ix j_8 (out_6.getD (Int.toNat i_7) []).length) <|
    ckB (ix j_8 (out_6.getD (Int.toNat i_7) []).length) <|
    ckB (ix i_7 a_0.length) <|
    ckB (ix i_7 a_0.length) <|
    ckB (ix k_9 (a_0.getD (Int.toNat i_7) []).length) <|
    ckB (ix k_9 (a_0.getD (Int.toNat i_7) []).length) <|
    ckB (ix k_9 b_1.length) <|
    ckB (ix k_9 b_1.length) <|
    ckB (ix j_8 (b_1.getD (Int.toNat k_9) []).length) <|
    ckB (ix j_8 (b_1.getD (Int.toNat k_9) []).length) <|
    ckB (inR .i64 (((a_0.getD (Int.toNat i_7) []).getD (Int.toNat k_9) 0) * ((b_1.getD (Int.toNat k_9) []).getD (Int.toNat j_8) 0))) <|
    ckB (inR .i64 (((out_6.getD (Int.toNat i_7) []).getD (Int.toNat j_8) 0) + (((a_0.getD (Int.toNat i_7) []).getD (Int.toNat k_9) 0) * ((b_1.getD (Int.toNat k_9) []).getD (Int.toNat j_8) 0)))) <|
    ckB (ix j_8 (out_6.getD (Int.toNat i_7) []).length) <|
    ckB (ix j_8 (out_6.getD (Int.toNat i_7) []).length) <|
    ckB (inR .i64 (k_9 + 1)) <|
    nx ((k_9 + 1), (out_6.set (Int.toNat i_7) ((out_6.getD (Int.toNat i_7) []).set (Int.toNat j_8) (((out_6.getD (Int.toNat i_7) []).getD (Int.toNat j_8) 0) + (((a_0.getD (Int.toNat i_7) []).getD (Int.toNat k_9) 0) * ((b_1.getD (Int.toNat k_9) []).getD (Int.toNat j_8) 0))))))
  else
    dn out_6

def ref05_MulL0 (a_0 : (List (List Int))) (b_1 : (List (List Int))) (i_7 : Int) (j_8 : Int) (s0 : (Int × (List (List Int)))) : Option ((List (List Int)) ⊕ (Int × (List (List Int)))) :=
  loopM (fun a => ref05_MulL0K a_0 b_1 i_7 j_8 a.1 a.2 (fun a' => some (.next a')) (fun e => some (.done e)) (fun r => some (.ret r))) s0

def ref05_MulL0I : Shp := ⟨[(0, .d false (.slice (.slice (.int .i64)))), (1, .d false (.slice (.slice (.int .i64)))), (6, .own 0), (7, .d true (.int .i64)), (8, .d true (.int .i64)), (9, .d true (.int .i64))], [.arr 32 .own [3] (.slice (.int .i64))]⟩
def ref05_MulL0E : Shp := ⟨[(0, .d false (.slice (.slice (.int .i64)))), (1, .d false (.slice (.slice (.int .i64)))), (6, .own 0), (7, .d true (.int .i64)), (8, .d true (.int .i64))], [.arr 32 .own [3] (.slice (.int .i64))]⟩

def ref05_MulL1K {R : Type} (a_0 : (List (List Int))) (b_1 : (List (List Int))) (i_7 : Int) (j_8 : Int) (out_6 : (List (List Int))) (nx : (Int × (List (List Int))) → Option R) (dn : (List (List Int)) → Option R) (rt : (Int × (List (List Int))) → Option R) : Option R :=
  ckB (ix 0 b_1.length) <|
  ckB (ix 0 b_1.length) <|
  bif decide (j_8 < ((b_1.getD 0 []).length : Int)) then
    bnd (ref05_MulL0 a_0 b_1 i_7 j_8 (0, out_6)) fun oe4 =>
    lk oe4 (fun e4 =>
      ckB (inR .i64 (j_8 + 1)) <|
      nx ((j_8 + 1), e4)) (fun r => rt r)
  else
    dn out_6

def ref05_MulL1 (a_0 : (List (List Int))) (b_1 : (List (List Int))) (i_7 : Int) (s0 : (Int × (List (List Int)))) : Option ((List (List Int)) ⊕ (Int × (List (List Int)))) :=
  loopM (fun a => ref05_MulL1K a_0 b_1 i_7 a.1 a.2 (fun a' => some (.next a')) (fun e => some (.done e)) (fun r => some (.ret r))) s0

def ref05_MulL1I : Shp := ⟨[(0, .d false (.slice (.slice (.int .i64)))), (1, .d false (.slice (.slice (.int .i64)))), (6, .own 0), (7, .d true (.int .i64)), (8, .d true (.int .i64))], [.arr 32 .own [3] (.slice (.int .i64))]⟩
def ref05_MulL1E : Shp := ⟨[(0, .d false (.slice (.slice (.int .i64)))), (1, .d false (.slice (.slice (.int .i64)))), (6, .own 0), (7, .d true (.int .i64))], [.arr 32 .own [3] (.slice (.int .i64))]⟩

def ref05_MulL2K {R : Type} (a_0 : (List (List Int))) (b_1 : (List (List Int))) (i_7 : Int) (out_6 : (List (List Int))) (nx : (Int × (List (List Int))) → Option R) (dn : (List (List Int)) → Option R) (rt : (Int × (List (List Int))) → Option R) : Option R :=
  bif decide (i_7 < (a_0.length : Int)) then
    bnd (ref05_MulL1 a_0 b_1 i_7 (0, out_6)) fun oe5 =>
    lk oe5 (fun e5 =>
      ckB (inR .i64 (i_7 + 1)) <|
      nx ((i_7 + 1), e5)) (fun r => rt r)
  else
    dn out_6

def ref05_MulL2 (a_0 : (List (List Int))) (b_1 : (List (List Int))) (s0 : (Int × (List (List Int)))) : Option ((List (List Int)) ⊕ (Int × (List (List Int)))) :=
  loopM (fun a => ref05_MulL2K a_0 b_1 a.1 a.2 (fun a' => some (.next a')) (fun e => some (.done e)) (fun r => some (.ret r))) s0

def ref05_MulL2I : Shp := ⟨[(0, .d false (.slice (.slice (.int .i64)))), (1, .d false (.slice (.slice (.int .i64)))), (6, .own 0), (7, .d true (.int .i64))], [.arr 32 .own [3] (.slice (.int .i64))]⟩
def ref05_MulL2E : Shp := ⟨[(6, .own 0)], [.arr 32 .own [3] (.slice (.int .i64))]⟩

def ref05_Mul (a_0 : (List (List Int))) (b_1 : (List (List Int))) : Option (Int × (List (List Int))) :=
  bnd (ref05_Valid a_0) fun r1 =>
  bif (!r1) then
    some (1, [])
  else
    bnd (ref05_Valid b_1) fun r2 =>
    bif (!r2) then
      some (1, [])
    else
      ckB (ix 0 a_0.length) <|
      ckB (ix 0 a_0.length) <|
      bif (!decide (((a_0.getD 0 []).length : Int) = (b_1.length : Int))) then
        some (29, [])
      else
        ckB (ix 0 b_1.length) <|
        ckB (ix 0 b_1.length) <|
        bnd (ref05_zeros (a_0.length : Int) ((b_1.getD 0 []).length : Int)) fun r3 =>
        bnd (ref05_MulL2 a_0 b_1 (0, r3)) fun oe6 =>
        lk oe6 (fun e6 =>
          bnd (ref05_Valid e6) fun r7 =>
          bif (!r7) then
            some (6, [])
          else
            some (0, e6)) (fun r => some r)

/-! casebook/matrix.Transpose -/

def matrix_Transpose (m_0 : (List (List Int))) : Option (Int × (List (List Int))) :=
  bnd (matrix_Valid m_0) fun r1 =>
  bif (!r1) then
    some (1, [])
  else
    bnd (matrix_transposed m_0) fun r2 =>
    some (0, r2)

/-! casebook/casebooklaw05.MatrixMuls -/

def law05_MatrixMuls (a_0 : (List (List Int))) (b_1 : (List (List Int))) : Option Bool :=
  bnd (law05_awake) fun r1 =>
  bif (!r1) then
    some false
  else
    bnd (law05_great [a_0, b_1]) fun r2 =>
    bif r2 then
      some true
    else
      bnd (matrix_Mul a_0 b_1) fun r3 =>
      bnd (ref05_Mul a_0 b_1) fun r4 =>
      bnd (matrix_Valid a_0) fun r5 =>
      bnd (ref05_Valid a_0) fun r6 =>
      bif (!(r5 == r6)) then
        some false
      else
        bnd (ref05_Same r3.2 r4.2) fun r7 =>
        bif (!r7) then
          some false
        else
          bif (!decide (r3.1 = r4.1)) then
            some false
          else
            bnd (matrix_Transpose a_0) fun r8 =>
            bnd (ref05_Valid a_0) fun r9 =>
            bif (!r9) then
              bif decide (r8.1 = 1) then
                some (decide ((r8.2.length : Int) = 0))
              else
                some false
            else
              bif decide (r8.1 = 0) then
                bnd (ref05_Transpose a_0) fun r10 =>
                bnd (ref05_Same r8.2 r10) fun r11 =>
                some r11
              else
                some false

/-! casebook/casebooklaw05.MatrixProducts -/

def law05_MatrixProductsT0K {R : Type} (a_0 : (List (List Int))) (b_1 : (List (List Int))) (ab_7 : (List (List Int))) (e_8 : Int) (dn : Unit → Option R) (rt : Bool → Option R) : Option R :=
  bif (!decide (e_8 = 0)) then
    rt true
  else
    bnd (matrix_Transpose a_0) fun r11 =>
    bnd (matrix_Transpose b_1) fun r12 =>
    bnd (matrix_Transpose ab_7) fun r13 =>
    bnd (matrix_Mul r12.2 r11.2) fun r14 =>
    bif decide (r11.1 = 0) then
      bif decide (r12.1 = 0) then
        bif decide (r13.1 = 0) then
          bif decide (r14.1 = 0) then
            bnd (ref05_Same r14.2 r13.2) fun r15 =>
            rt r15
          else
            rt false
        else
          rt false
      else
        rt false
    else
      rt false

def law05_MatrixProductsT0 (a_0 : (List (List Int))) (b_1 : (List (List Int))) (ab_7 : (List (List Int))) (e_8 : Int) : Option (Unit ⊕ Bool) :=
  law05_MatrixProductsT0K a_0 b_1 ab_7 e_8 (fun e => some (.inl e)) (fun r => some (.inr r))

def law05_MatrixProductsT0I : Shp := ⟨[(0, .d false (.slice (.slice (.int .i64)))), (1, .d false (.slice (.slice (.int .i64)))), (7, .d true (.slice (.slice (.int .i64)))), (8, .d true (.int .i64))], []⟩
def law05_MatrixProductsT0E : Shp := ⟨[], []⟩

def law05_MatrixProducts (a_0 : (List (List Int))) (b_1 : (List (List Int))) (c_2 : (List (List Int))) : Option Bool :=
  bnd (law05_awake) fun r1 =>
  bif (!r1) then
    some false
  else
    bnd (law05_great [a_0, b_1, c_2]) fun r2 =>
    bif r2 then
      some true
    else
      bnd (ref05_Valid a_0) fun r3 =>
      bif (!r3) then
        some true
      else
        bnd (ref05_Valid b_1) fun r4 =>
        bif (!r4) then
          some true
        else
          bnd (ref05_Valid c_2) fun r5 =>
          bif (!r5) then
            some true
          else
            bnd (matrix_Mul a_0 b_1) fun r6 =>
            bnd (matrix_Mul b_1 c_2) fun r7 =>
            bnd (matrix_Mul r6.2 c_2) fun r8 =>
            bnd (matrix_Mul a_0 r7.2) fun r9 =>
            bif decide (r6.1 = 0) then
              bif decide (r7.1 = 0) then
                bif decide (r8.1 = 0) then
                  bif decide (r9.1 = 0) then
                    bnd (ref05_Same r8.2 r9.2) fun r10 =>
                    bif (!r10) then
                      some false
                    else
                      bnd (law05_MatrixProductsT0 a_0 b_1 r6.2 r6.1) fun oe16 =>
                      lk oe16 (fun e16 =>
                        none) (fun r => some r)
                  else
                    bnd (law05_MatrixProductsT0 a_0 b_1 r6.2 r6.1) fun oe17 =>
                    lk oe17 (fun e17 =>
                      none) (fun r => some r)
                else
                  bnd (law05_MatrixProductsT0 a_0 b_1 r6.2 r6.1) fun oe18 =>
                  lk oe18 (fun e18 =>
                    none) (fun r => some r)
              else
                bnd (law05_MatrixProductsT0 a_0 b_1 r6.2 r6.1) fun oe19 =>
                lk oe19 (fun e19 =>
                  none) (fun r => some r)
            else
              bnd (law05_MatrixProductsT0 a_0 b_1 r6.2 r6.1) fun oe20 =>
              lk oe20 (fun e20 =>
                none) (fun r => some r)

/-! casebook/casebooklaw05.MatrixDets -/

def law05_MatrixDetsT0K {R : Type} (a_0 : (List (List Int))) (b_1 : (List (List Int))) (x_9 : Int) (dn : Unit → Option R) (rt : Bool → Option R) : Option R :=
  bnd (matrix_Det b_1) fun r8 =>
  bnd (matrix_Mul a_0 b_1) fun r9 =>
  bnd (matrix_Det r9.2) fun r10 =>
  bif (!decide (r8.2 = 0)) then
    rt true
  else
    bif (!decide (r9.1 = 0)) then
      rt true
    else
      bif (!decide (r10.2 = 0)) then
        rt true
      else
        ckB (inR .i64 (x_9 * r8.1)) <|
        rt (decide (r10.1 = (x_9 * r8.1)))

def law05_MatrixDetsT0 (a_0 : (List (List Int))) (b_1 : (List (List Int))) (x_9 : Int) : Option (Unit ⊕ Bool) :=
  law05_MatrixDetsT0K a_0 b_1 x_9 (fun e => some (.inl e)) (fun r => some (.inr r))

def law05_MatrixDetsT0I : Shp := ⟨[(0, .d false (.slice (.slice (.int .i64)))), (1, .d false (.slice (.slice (.int .i64)))), (9, .d true (.int .i64))], []⟩
def law05_MatrixDetsT0E : Shp := ⟨[], []⟩

def law05_MatrixDetsT1K {R : Type} (a_0 : (List (List Int))) (b_1 : (List (List Int))) (i_2 : Int) (j_3 : Int) (x_9 : Int) (e_10 : Int) (dn : Unit → Option R) (rt : Bool → Option R) : Option R :=
  bif (!decide (e_10 = 0)) then
    bif decide (e_10 = 6) then
      rt (decide (x_9 = 0))
    else
      rt false
  else
    ckB (room a_0.length 24) <|
    ckB (inR .i64 i_2) <|
    ckB (!decide ((a_0.length : Int) = 0)) <|
    ckB (inR .i64 j_3) <|
    ckB (!decide ((a_0.length : Int) = 0)) <|
    ckB (ix (Int.tmod j_3 (a_0.length : Int)) a_0.length) <|
    ckB (ix (Int.tmod j_3 (a_0.length : Int)) a_0.length) <|
    ckB (ix (Int.tmod i_2 (a_0.length : Int)) a_0.length) <|
    ckB (ix (Int.tmod i_2 (a_0.length : Int)) a_0.length) <|
    ckB (ix (Int.tmod i_2 (a_0.length : Int)) a_0.length) <|
    ckB (ix (Int.tmod i_2 (a_0.length : Int)) a_0.length) <|
    ckB (ix (Int.tmod j_3 (a_0.length : Int)) (a_0.set (Int.toNat (Int.tmod i_2 (a_0.length : Int))) (a_0.getD (Int.toNat (Int.tmod j_3 (a_0.length : Int))) [])).length) <|
    ckB (ix (Int.tmod j_3 (a_0.length : Int)) (a_0.set (Int.toNat (Int.tmod i_2 (a_0.length : Int))) (a_0.getD (Int.toNat (Int.tmod j_3 (a_0.length : Int))) [])).length) <|
    bnd (matrix_Det ((a_0.set (Int.toNat (Int.tmod i_2 (a_0.length : Int))) (a_0.getD (Int.toNat (Int.tmod j_3 (a_0.length : Int))) [])).set (Int.toNat (Int.tmod j_3 (a_0.length : Int))) (a_0.getD (Int.toNat (Int.tmod i_2 (a_0.length : Int))) []))) fun r7 =>
    bif (!decide (r7.2 = 0)) then
      rt false
    else
      bif (!decide ((Int.tmod i_2 (a_0.length : Int)) = (Int.tmod j_3 (a_0.length : Int)))) then
        ckB (inR .i64 (0 - x_9)) <|
        bif (!decide (r7.1 = (0 - x_9))) then
          rt false
        else
          bif decide ((Int.tmod i_2 (a_0.length : Int)) = (Int.tmod j_3 (a_0.length : Int))) then
            bif (!decide (r7.1 = x_9)) then
              rt false
            else
              bnd (law05_MatrixDetsT0 a_0 b_1 x_9) fun oe11 =>
              lk oe11 (fun e11 =>
                dn ()) (fun r => rt r)
          else
            bnd (law05_MatrixDetsT0 a_0 b_1 x_9) fun oe12 =>
            lk oe12 (fun e12 =>
              dn ()) (fun r => rt r)
      else
        bif decide ((Int.tmod i_2 (a_0.length : Int)) = (Int.tmod j_3 (a_0.length : Int))) then
          bif (!decide (r7.1 = x_9)) then
            rt false
          else
            bnd (law05_MatrixDetsT0 a_0 b_1 x_9) fun oe13 =>
            lk oe13 (fun e13 =>
              dn ()) (fun r => rt r)
        else
          bnd (law05_MatrixDetsT0 a_0 b_1 x_9) fun oe14 =>
          lk oe14 (fun e14 =>
            dn ()) (fun r => rt r)

def law05_MatrixDetsT1 (a_0 : (List (List Int))) (b_1 : (List (List Int))) (i_2 : Int) (j_3 : Int) (x_9 : Int) (e_10 : Int) : Option (Unit ⊕ Bool) :=
  law05_MatrixDetsT1K a_0 b_1 i_2 j_3 x_9 e_10 (fun e => some (.inl e)) (fun r => some (.inr r))

def law05_MatrixDetsT1I : Shp := ⟨[(0, .d false (.slice (.slice (.int .i64)))), (1, .d false (.slice (.slice (.int .i64)))), (2, .d true (.int .u8)), (3, .d true (.int .u8)), (9, .d true (.int .i64)), (10, .d true (.int .i64))], []⟩
def law05_MatrixDetsT1E : Shp := ⟨[], []⟩

def law05_MatrixDets (a_0 : (List (List Int))) (b_1 : (List (List Int))) (i_2 : Int) (j_3 : Int) : Option Bool :=
  bnd (law05_awake) fun r1 =>
  bif (!r1) then
    some false
  else
    bnd (law05_great [a_0, b_1]) fun r2 =>
    bif r2 then
      some true
    else
      bnd (ref05_Valid a_0) fun r3 =>
      bif (!r3) then
        some true
      else
        bnd (ref05_Valid b_1) fun r4 =>
        bif (!r4) then
          some true
        else
          ckB (ix 0 a_0.length) <|
          ckB (ix 0 a_0.length) <|
          bif (!decide ((a_0.length : Int) = ((a_0.getD 0 []).length : Int))) then
            some true
          else
            bif (!decide ((b_1.length : Int) = (a_0.length : Int))) then
              some true
            else
              ckB (ix 0 b_1.length) <|
              ckB (ix 0 b_1.length) <|
              bif (!decide (((b_1.getD 0 []).length : Int) = (a_0.length : Int))) then
                some true
              else
                bnd (matrix_Det a_0) fun r5 =>
                bnd (matrix_Rank a_0) fun r6 =>
                bif (!decide (r5.2 = r6.2)) then
                  some false
                else
                  bif decide (r5.2 = 0) then
                    bif (!((!decide (r5.1 = 0)) == decide (r6.1 = (a_0.length : Int)))) then
                      some false
                    else
                      bnd (law05_MatrixDetsT1 a_0 b_1 i_2 j_3 r5.1 r5.2) fun oe15 =>
                      lk oe15 (fun e15 =>
                        none) (fun r => some r)
                  else
                    bnd (law05_MatrixDetsT1 a_0 b_1 i_2 j_3 r5.1 r5.2) fun oe16 =>
                    lk oe16 (fun e16 =>
                      none) (fun r => some r)

end Go.Proofs.Ytjjhanfglelldaa
