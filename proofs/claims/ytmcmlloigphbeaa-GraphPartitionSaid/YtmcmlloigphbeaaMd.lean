/-
  What the functions compute, as plain functions of Lean. Made by program (mg3.py) out of the translation.
-/
import Derived.Test.YtmcmlloigphbeaaKE
set_option linter.all false
set_option maxRecDepth 100000
namespace Go.Proofs.Ytmcmlloigphbeaa
open Go.K Go.M

abbrev St4 : Type := Int × Int × Unit
abbrev St4.z : St4 := (0, 0, ())
def St4.ty : Ty := .struct (.cons (.int .i64) (.cons (.int .i64) .nil))
abbrev Graph : Type := Int × (List St4) × Unit
abbrev Graph.z : Graph := (0, [], ())
def Graph.ty : Ty := .struct (.cons (.int .i64) (.cons (.slice St4.ty) .nil))

/-! casebook/graph.vertex -/

def graph_vertex (g_0 : Graph) (v_1 : Int) : Option Bool :=
  bif decide ((0 : Int) ≤ v_1) then
    some (decide (v_1 < g_0.1))
  else
    some false

/-! casebook/graph.Valid -/

def graph_ValidL0K {R : Type} (v_20 : (List St4)) (v_21 : Int) (g_10 : Int) (g_11 : (List St4)) (v_22 : Int) (nx : Int → Option R) (dn : Unit → Option R) (rt : Bool → Option R) : Option R :=
  bif decide (v_22 < v_21) then
    ckB (ix v_22 v_20.length) <|
    ckB (ix v_22 v_20.length) <|
    bnd (graph_vertex (g_10, g_11, ()) (v_20.getD (Int.toNat v_22) St4.z).1) fun r1 =>
    bif (!r1) then
      rt false
    else
      bnd (graph_vertex (g_10, g_11, ()) (v_20.getD (Int.toNat v_22) St4.z).2.1) fun r2 =>
      bif (!r2) then
        rt false
      else
        ckB (inR .i64 (v_22 + 1)) <|
        nx (v_22 + 1)
  else
    dn ()

def graph_ValidL0 (v_20 : (List St4)) (v_21 : Int) (g_10 : Int) (g_11 : (List St4)) (s0 : Int) : Option (Unit ⊕ Bool) :=
  loopM (fun a => graph_ValidL0K v_20 v_21 g_10 g_11 a (fun a' => some (.next a')) (fun e => some (.done e)) (fun r => some (.ret r))) s0

def graph_ValidL0I : Shp := ⟨[(1, .ptr 0), (20, .d false (.slice St4.ty)), (21, .d true (.int .i64)), (22, .d true (.int .i64))], [.cs 24 2 1 (.cons (.d true (.int .i64)) (.cons (.d false (.slice St4.ty)) .nil))]⟩
def graph_ValidL0E : Shp := ⟨[], []⟩

def graph_Valid (g_0 : Graph) : Option Bool :=
  bif decide (g_0.1 < 0) then
    some false
  else
    bif decide ((1000 : Int) < g_0.1) then
      some false
    else
      bif decide ((20000 : Int) < (g_0.2.1.length : Int)) then
        some false
      else
        bnd (graph_ValidL0 g_0.2.1 (g_0.2.1.length : Int) g_0.1 g_0.2.1 0) fun oe3 =>
        lk oe3 (fun e3 =>
          some true) (fun r => some r)

/-! casebook/graph.gathered -/

def graph_gatheredL0K {R : Type} (both_1 : Bool) (v_12 : (List St4)) (v_13 : Int) (v_14 : Int) (out_5 : (List (List Int))) (nx : (Int × (List (List Int))) → Option R) (dn : (List (List Int)) → Option R) (rt : (List (List Int)) → Option R) : Option R :=
  bif decide (v_14 < v_13) then
    ckB (ix v_14 v_12.length) <|
    ckB (ix v_14 v_12.length) <|
    ckB (ix (v_12.getD (Int.toNat v_14) St4.z).1 out_5.length) <|
    ckB (ix (v_12.getD (Int.toNat v_14) St4.z).1 out_5.length) <|
    ckB (room ((out_5.getD (Int.toNat (v_12.getD (Int.toNat v_14) St4.z).1) []).length + 1) 8) <|
    ckB (ix (v_12.getD (Int.toNat v_14) St4.z).1 (out_5.set (Int.toNat (v_12.getD (Int.toNat v_14) St4.z).1) ((out_5.getD (Int.toNat (v_12.getD (Int.toNat v_14) St4.z).1) []) ++ [(v_12.getD (Int.toNat v_14) St4.z).2.1])).length) <|
    ckB (ix (v_12.getD (Int.toNat v_14) St4.z).1 (out_5.set (Int.toNat (v_12.getD (Int.toNat v_14) St4.z).1) ((out_5.getD (Int.toNat (v_12.getD (Int.toNat v_14) St4.z).1) []) ++ [(v_12.getD (Int.toNat v_14) St4.z).2.1])).length) <|
    ckB (decide (((Int.toNat (v_12.getD (Int.toNat v_14) St4.z).1) : Nat) = (Int.toNat (v_12.getD (Int.toNat v_14) St4.z).1))) <|
    ckB (decide (((Int.toNat (v_12.getD (Int.toNat v_14) St4.z).1) : Nat) = (Int.toNat (v_12.getD (Int.toNat v_14) St4.z).1))) <|
    bif both_1 then
      ckB (ix (v_12.getD (Int.toNat v_14) St4.z).2.1 (out_5.set (Int.toNat (v_12.getD (Int.toNat v_14) St4.z).1) ((out_5.getD (Int.toNat (v_12.getD (Int.toNat v_14) St4.z).1) []) ++ [(v_12.getD (Int.toNat v_14) St4.z).2.1])).length) <|
      ckB (ix (v_12.getD (Int.toNat v_14) St4.z).2.1 (out_5.set (Int.toNat (v_12.getD (Int.toNat v_14) St4.z).1) ((out_5.getD (Int.toNat (v_12.getD (Int.toNat v_14) St4.z).1) []) ++ [(v_12.getD (Int.toNat v_14) St4.z).2.1])).length) <|
      ckB (room (((out_5.set (Int.toNat (v_12.getD (Int.toNat v_14) St4.z).1) ((out_5.getD (Int.toNat (v_12.getD (Int.toNat v_14) St4.z).1) []) ++ [(v_12.getD (Int.toNat v_14) St4.z).2.1])).getD (Int.toNat (v_12.getD (Int.toNat v_14) St4.z).2.1) []).length + 1) 8) <|
      ckB (ix (v_12.getD (Int.toNat v_14) St4.z).2.1 ((out_5.set (Int.toNat (v_12.getD (Int.toNat v_14) St4.z).1) ((out_5.getD (Int.toNat (v_12.getD (Int.toNat v_14) St4.z).1) []) ++ [(v_12.getD (Int.toNat v_14) St4.z).2.1])).set (Int.toNat (v_12.getD (Int.toNat v_14) St4.z).2.1) (((out_5.set (Int.toNat (v_12.getD (Int.toNat v_14) St4.z).1) ((out_5.getD (Int.toNat (v_12.getD (Int.toNat v_14) St4.z).1) []) ++ [(v_12.getD (Int.toNat v_14) St4.z).2.1])).getD (Int.toNat (v_12.getD (Int.toNat v_14) St4.z).2.1) []) ++ [(v_12.getD (Int.toNat v_14) St4.z).1])).length) <|
      ckB (ix (v_12.getD (Int.toNat v_14) St4.z).2.1 ((out_5.set (Int.toNat (v_12.getD (Int.toNat v_14) St4.z).1) ((out_5.getD (Int.toNat (v_12.getD (Int.toNat v_14) St4.z).1) []) ++ [(v_12.getD (Int.toNat v_14) St4.z).2.1])).set (Int.toNat (v_12.getD (Int.toNat v_14) St4.z).2.1) (((out_5.set (Int.toNat (v_12.getD (Int.toNat v_14) St4.z).1) ((out_5.getD (Int.toNat (v_12.getD (Int.toNat v_14) St4.z).1) []) ++ [(v_12.getD (Int.toNat v_14) St4.z).2.1])).getD (Int.toNat (v_12.getD (Int.toNat v_14) St4.z).2.1) []) ++ [(v_12.getD (Int.toNat v_14) St4.z).1])).length) <|
      ckB (decide (((Int.toNat (v_12.getD (Int.toNat v_14) St4.z).2.1) : Nat) = (Int.toNat (v_12.getD (Int.toNat v_14) St4.z).2.1))) <|
      ckB (decide (((Int.toNat (v_12.getD (Int.toNat v_14) St4.z).2.1) : Nat) = (Int.toNat (v_12.getD (Int.toNat v_14) St4.z).2.1))) <|
      ckB (inR .i64 (v_14 + 1)) <|
      nx ((v_14 + 1), ((out_5.set (Int.toNat (v_12.getD (Int.toNat v_14) St4.z).1) ((out_5.getD (Int.toNat (v_12.getD (Int.toNat v_14) St4.z).1) []) ++ [(v_12.getD (Int.toNat v_14) St4.z).2.1])).set (Int.toNat (v_12.getD (Int.toNat v_14) St4.z).2.1) (((out_5.set (Int.toNat (v_12.getD (Int.toNat v_14) St4.z).1) ((out_5.getD (Int.toNat (v_12.getD (Int.toNat v_14) St4.z).1) []) ++ [(v_12.getD (Int.toNat v_14) St4.z).2.1])).getD (Int.toNat (v_12.getD (Int.toNat v_14) St4.z).2.1) []) ++ [(v_12.getD (Int.toNat v_14) St4.z).1])))
    else
      ckB (inR .i64 (v_14 + 1)) <|
      nx ((v_14 + 1), (out_5.set (Int.toNat (v_12.getD (Int.toNat v_14) St4.z).1) ((out_5.getD (Int.toNat (v_12.getD (Int.toNat v_14) St4.z).1) []) ++ [(v_12.getD (Int.toNat v_14) St4.z).2.1])))
  else
    dn out_5

def graph_gatheredL0 (both_1 : Bool) (v_12 : (List St4)) (v_13 : Int) (s0 : (Int × (List (List Int)))) : Option ((List (List Int)) ⊕ (List (List Int))) :=
  loopM (fun a => graph_gatheredL0K both_1 v_12 v_13 a.1 a.2 (fun a' => some (.next a')) (fun e => some (.done e)) (fun r => some (.ret r))) s0

def graph_gatheredL0I : Shp := ⟨[(1, .d true .bool), (5, .own 0), (12, .d false (.slice St4.ty)), (13, .d true (.int .i64)), (14, .d true (.int .i64))], [.arr 27 .own [3] (.slice (.int .i64))]⟩
def graph_gatheredL0E : Shp := ⟨[(5, .own 0)], [.arr 27 .own [3] (.slice (.int .i64))]⟩

def graph_gathered (g_0 : Graph) (both_1 : Bool) : Option (List (List Int)) :=
  ckB (mkOk g_0.1 g_0.1 24) <|
  bnd (graph_gatheredL0 both_1 g_0.2.1 (g_0.2.1.length : Int) (0, (List.replicate (Int.toNat g_0.1) ([] : (List Int))))) fun oe1 =>
  lk oe1 (fun e1 =>
    some e1) (fun r => some r)

/-! casebook/graph.classes$1 -/

def graph_classes_1_64L0K {R : Type} (rec : ((Int × Unit × Unit × Unit × Unit × Unit × Unit × Unit × Unit × Unit) × ((Int × Unit) × (Unit × Unit) × (Unit × Unit) × (Unit × Unit) × ((List (List Int)) × Unit) × ((Unit × Unit × Unit × Unit × Unit × Unit × Unit × Unit × Unit) × Unit) × (Unit × Unit) × (Int × Unit) × (List Int) × (List Int) × (List Int) × (List Int) × Unit)) → Option (Int × (List (List Int)) × Int × (List Int) × (List Int) × (List Int) × (List Int))) (v_0 : Int) (v_30 : (List Int)) (v_31 : Int) (v_32 : Int) (k0 : Int) (k4 : (List (List Int))) (v_8 : Int) (v_2 : (List Int)) (v_3 : (List Int)) (v_4 : (List Int)) (v_7 : (List Int)) (nx : (Int × Int × (List (List Int)) × Int × (List Int) × (List Int) × (List Int) × (List Int)) → Option R) (dn : (Int × (List (List Int)) × Int × (List Int) × (List Int) × (List Int) × (List Int)) → Option R) (rt : (Int × (List (List Int)) × Int × (List Int) × (List Int) × (List Int) × (List Int)) → Option R) : Option R :=
  bif decide (v_32 < v_31) then
    ckB (ix v_32 v_30.length) <|
    ckB (ix v_32 v_30.length) <|
    ckB (ix (v_30.getD (Int.toNat v_32) 0) v_2.length) <|
    ckB (ix (v_30.getD (Int.toNat v_32) 0) v_2.length) <|
    bif decide ((v_2.getD (Int.toNat (v_30.getD (Int.toNat v_32) 0)) 0) = 0) then
      bnd (rec (((v_30.getD (Int.toNat v_32) 0), (), (), (), (), (), (), (), (), ()), ((k0, ()), ((), ()), ((), ()), ((), ()), (k4, ()), (((), (), (), (), (), (), (), (), ()), ()), ((), ()), (v_8, ()), v_2, v_3, v_4, v_7, ()))) fun r1 =>
      ckB (decide (r1.2.2.2.1.length = v_2.length)) <|
      ckB (decide (r1.2.2.2.2.1.length = v_3.length)) <|
      ckB (decide (r1.2.2.2.2.2.2.length = v_7.length)) <|
      ckB (ix v_0 r1.2.2.2.2.1.length) <|
      ckB (ix v_0 r1.2.2.2.2.1.length) <|
      ckB (ix (v_30.getD (Int.toNat v_32) 0) r1.2.2.2.2.1.length) <|
      ckB (ix (v_30.getD (Int.toNat v_32) 0) r1.2.2.2.2.1.length) <|
      ckB (ix v_0 r1.2.2.2.2.1.length) <|
      ckB (ix v_0 r1.2.2.2.2.1.length) <|
      ckB (inR .i64 (v_32 + 1)) <|
      nx ((v_32 + 1), r1.1, r1.2.1, r1.2.2.1, r1.2.2.2.1, (r1.2.2.2.2.1.set (Int.toNat v_0) (min (r1.2.2.2.2.1.getD (Int.toNat v_0) 0) (r1.2.2.2.2.1.getD (Int.toNat (v_30.getD (Int.toNat v_32) 0)) 0))), r1.2.2.2.2.2.1, r1.2.2.2.2.2.2)
    else
      ckB (ix (v_30.getD (Int.toNat v_32) 0) v_7.length) <|
      ckB (ix (v_30.getD (Int.toNat v_32) 0) v_7.length) <|
      bif decide ((v_7.getD (Int.toNat (v_30.getD (Int.toNat v_32) 0)) 0) < 0) then
        ckB (ix v_0 v_3.length) <|
        ckB (ix v_0 v_3.length) <|
        ckB (ix (v_30.getD (Int.toNat v_32) 0) v_2.length) <|
        ckB (ix (v_30.getD (Int.toNat v_32) 0) v_2.length) <|
        ckB (ix v_0 v_3.length) <|
        ckB (ix v_0 v_3.length) <|
        ckB (inR .i64 (v_32 + 1)) <|
        nx ((v_32 + 1), k0, k4, v_8, v_2, (v_3.set (Int.toNat v_0) (min (v_3.getD (Int.toNat v_0) 0) (v_2.getD (Int.toNat (v_30.getD (Int.toNat v_32) 0)) 0))), v_4, v_7)
      else
        ckB (inR .i64 (v_32 + 1)) <|
        nx ((v_32 + 1), k0, k4, v_8, v_2, v_3, v_4, v_7)
  else
    dn (k0, k4, v_8, v_2, v_3, v_4, v_7)

def graph_classes_1_64L0 (rec : ((Int × Unit × Unit × Unit × Unit × Unit × Unit × Unit × Unit × Unit) × ((Int × Unit) × (Unit × Unit) × (Unit × Unit) × (Unit × Unit) × ((List (List Int)) × Unit) × ((Unit × Unit × Unit × Unit × Unit × Unit × Unit × Unit × Unit) × Unit) × (Unit × Unit) × (Int × Unit) × (List Int) × (List Int) × (List Int) × (List Int) × Unit)) → Option (Int × (List (List Int)) × Int × (List Int) × (List Int) × (List Int) × (List Int))) (v_0 : Int) (v_30 : (List Int)) (v_31 : Int) (s0 : (Int × Int × (List (List Int)) × Int × (List Int) × (List Int) × (List Int) × (List Int))) : Option ((Int × (List (List Int)) × Int × (List Int) × (List Int) × (List Int) × (List Int)) ⊕ (Int × (List (List Int)) × Int × (List Int) × (List Int) × (List Int) × (List Int))) :=
  loopM (fun a => graph_classes_1_64L0K rec v_0 v_30 v_31 a.1 a.2.1 a.2.2.1 a.2.2.2.1 a.2.2.2.2.1 a.2.2.2.2.2.1 a.2.2.2.2.2.2.1 a.2.2.2.2.2.2.2 (fun a' => some (.next a')) (fun e => some (.done e)) (fun r => some (.ret r))) s0

def graph_classes_1_64L0I : Shp := ⟨[(0, .d true (.int .i64)), (2, .ptr 1), (3, .ptr 2), (4, .ptr 3), (6, .ptr 5), (7, .ptr 6), (8, .ptr 7), (30, .d true (.slice (.int .i64))), (31, .d true (.int .i64)), (32, .d true (.int .i64))], [.cs 3 1 1 (.cons (.d true (.int .i64)) .nil), .cs 27 1 1 (.cons (.own 8) .nil), .cs 27 1 1 (.cons (.own 9) .nil), .cs 27 1 1 (.cons (.own 10) .nil), .cs 39 1 1 (.cons (.d true (.slice (.slice (.int .i64)))) .nil), .cs 77 1 1 (.cons (.fn 64 (.cons (.ptr 0) (.cons (.ptr 1) (.cons (.ptr 2) (.cons (.ptr 3) (.cons (.ptr 4) (.cons (.ptr 5) (.cons (.ptr 6) (.cons (.ptr 7) .nil))))))))) .nil), .cs 27 1 1 (.cons (.own 11) .nil), .cs 3 1 1 (.cons (.d true (.int .i64)) .nil), .arr 3 (.fz true) [0] (.int .i64), .arr 3 (.fz true) [0] (.int .i64), .arr 3 (.fz true) [0] (.int .i64), .arr 3 (.fz true) [0] (.int .i64)]⟩
def graph_classes_1_64L0E : Shp := ⟨[(0, .d true (.int .i64)), (2, .ptr 1), (3, .ptr 2), (4, .ptr 3), (7, .ptr 6), (8, .ptr 7)], [.cs 3 1 1 (.cons (.d true (.int .i64)) .nil), .cs 27 1 1 (.cons (.own 8) .nil), .cs 27 1 1 (.cons (.own 9) .nil), .cs 27 1 1 (.cons (.own 10) .nil), .cs 39 1 1 (.cons (.d true (.slice (.slice (.int .i64)))) .nil), .cs 77 1 1 (.cons (.fn 64 (.cons (.ptr 0) (.cons (.ptr 1) (.cons (.ptr 2) (.cons (.ptr 3) (.cons (.ptr 4) (.cons (.ptr 5) (.cons (.ptr 6) (.cons (.ptr 7) .nil))))))))) .nil), .cs 27 1 1 (.cons (.own 11) .nil), .cs 3 1 1 (.cons (.d true (.int .i64)) .nil), .arr 3 (.fz true) [0] (.int .i64), .arr 3 (.fz true) [0] (.int .i64), .arr 3 (.fz true) [0] (.int .i64), .arr 3 (.fz true) [0] (.int .i64)]⟩

def graph_classes_1_64L1K {R : Type} (rec : ((Int × Unit × Unit × Unit × Unit × Unit × Unit × Unit × Unit × Unit) × ((Int × Unit) × (Unit × Unit) × (Unit × Unit) × (Unit × Unit) × ((List (List Int)) × Unit) × ((Unit × Unit × Unit × Unit × Unit × Unit × Unit × Unit × Unit) × Unit) × (Unit × Unit) × (Int × Unit) × (List Int) × (List Int) × (List Int) × (List Int) × Unit)) → Option (Int × (List (List Int)) × Int × (List Int) × (List Int) × (List Int) × (List Int))) (v_0 : Int) (k0 : Int) (k4 : (List (List Int))) (v_8 : Int) (k1 : (List Int)) (k2 : (List Int)) (v_4 : (List Int)) (v_7 : (List Int)) (nx : ((List Int) × (List Int)) → Option R) (dn : ((List Int) × (List Int)) → Option R) (rt : (Int × (List (List Int)) × Int × (List Int) × (List Int) × (List Int) × (List Int)) → Option R) : Option R :=
  ckB (inR .i64 ((v_4.length : Int) - 1)) <|
  ckB (ix ((v_4.length : Int) - 1) v_4.length) <|
  ckB (ix ((v_4.length : Int) - 1) v_4.length) <|
  ckB (inR .i64 ((v_4.length : Int) - 1)) <|
  ckB (cut 0 ((v_4.length : Int) - 1) v_4.length) <|
  ckB (ix (v_4.getD (Int.toNat ((v_4.length : Int) - 1)) 0) v_7.length) <|
  ckB (ix (v_4.getD (Int.toNat ((v_4.length : Int) - 1)) 0) v_7.length) <|
  bif decide ((v_4.getD (Int.toNat ((v_4.length : Int) - 1)) 0) = v_0) then
    dn (((v_4.drop 0).take ((Int.toNat ((v_4.length : Int) - 1)) - 0)), (v_7.set (Int.toNat (v_4.getD (Int.toNat ((v_4.length : Int) - 1)) 0)) v_8))
  else
    nx (((v_4.drop 0).take ((Int.toNat ((v_4.length : Int) - 1)) - 0)), (v_7.set (Int.toNat (v_4.getD (Int.toNat ((v_4.length : Int) - 1)) 0)) v_8))

def graph_classes_1_64L1 (rec : ((Int × Unit × Unit × Unit × Unit × Unit × Unit × Unit × Unit × Unit) × ((Int × Unit) × (Unit × Unit) × (Unit × Unit) × (Unit × Unit) × ((List (List Int)) × Unit) × ((Unit × Unit × Unit × Unit × Unit × Unit × Unit × Unit × Unit) × Unit) × (Unit × Unit) × (Int × Unit) × (List Int) × (List Int) × (List Int) × (List Int) × Unit)) → Option (Int × (List (List Int)) × Int × (List Int) × (List Int) × (List Int) × (List Int))) (v_0 : Int) (k0 : Int) (k4 : (List (List Int))) (v_8 : Int) (k1 : (List Int)) (k2 : (List Int)) (s0 : ((List Int) × (List Int))) : Option (((List Int) × (List Int)) ⊕ (Int × (List (List Int)) × Int × (List Int) × (List Int) × (List Int) × (List Int))) :=
  loopM (fun a => graph_classes_1_64L1K rec v_0 k0 k4 v_8 k1 k2 a.1 a.2 (fun a' => some (.next a')) (fun e => some (.done e)) (fun r => some (.ret r))) s0

def graph_classes_1_64L1I : Shp := ⟨[(0, .d true (.int .i64)), (4, .ptr 3), (7, .ptr 6), (8, .ptr 7)], [.cs 3 1 1 (.cons (.d true (.int .i64)) .nil), .cs 27 1 1 (.cons (.own 8) .nil), .cs 27 1 1 (.cons (.own 9) .nil), .cs 27 1 1 (.cons (.own 10) .nil), .cs 39 1 1 (.cons (.d true (.slice (.slice (.int .i64)))) .nil), .cs 77 1 1 (.cons (.fn 64 (.cons (.ptr 0) (.cons (.ptr 1) (.cons (.ptr 2) (.cons (.ptr 3) (.cons (.ptr 4) (.cons (.ptr 5) (.cons (.ptr 6) (.cons (.ptr 7) .nil))))))))) .nil), .cs 27 1 1 (.cons (.own 11) .nil), .cs 3 1 1 (.cons (.d true (.int .i64)) .nil), .arr 3 (.fz true) [0] (.int .i64), .arr 3 (.fz true) [0] (.int .i64), .arr 3 (.fz true) [0] (.int .i64), .arr 3 (.fz true) [0] (.int .i64)]⟩
def graph_classes_1_64L1E : Shp := ⟨[(8, .ptr 7)], [.cs 3 1 1 (.cons (.d true (.int .i64)) .nil), .cs 27 1 1 (.cons (.own 8) .nil), .cs 27 1 1 (.cons (.own 9) .nil), .cs 27 1 1 (.cons (.own 10) .nil), .cs 39 1 1 (.cons (.d true (.slice (.slice (.int .i64)))) .nil), .cs 77 1 1 (.cons (.fn 64 (.cons (.ptr 0) (.cons (.ptr 1) (.cons (.ptr 2) (.cons (.ptr 3) (.cons (.ptr 4) (.cons (.ptr 5) (.cons (.ptr 6) (.cons (.ptr 7) .nil))))))))) .nil), .cs 27 1 1 (.cons (.own 11) .nil), .cs 3 1 1 (.cons (.d true (.int .i64)) .nil), .arr 3 (.fz true) [0] (.int .i64), .arr 3 (.fz true) [0] (.int .i64), .arr 3 (.fz true) [0] (.int .i64), .arr 3 (.fz true) [0] (.int .i64)]⟩

def graph_classes_1_64F (rec : ((Int × Unit × Unit × Unit × Unit × Unit × Unit × Unit × Unit × Unit) × ((Int × Unit) × (Unit × Unit) × (Unit × Unit) × (Unit × Unit) × ((List (List Int)) × Unit) × ((Unit × Unit × Unit × Unit × Unit × Unit × Unit × Unit × Unit) × Unit) × (Unit × Unit) × (Int × Unit) × (List Int) × (List Int) × (List Int) × (List Int) × Unit)) → Option (Int × (List (List Int)) × Int × (List Int) × (List Int) × (List Int) × (List Int))) (v_0 : Int) (p_1 : Int) (p_5 : (List (List Int))) (p_8 : Int) (p_2 : (List Int)) (p_3 : (List Int)) (p_4 : (List Int)) (p_7 : (List Int)) : Option (Int × (List (List Int)) × Int × (List Int) × (List Int) × (List Int) × (List Int)) :=
  ckB (inR .i64 (p_1 + 1)) <|
  ckB (ix v_0 p_2.length) <|
  ckB (ix v_0 p_3.length) <|
  ckB (ix v_0 p_2.length) <|
  ckB (ix v_0 p_3.length) <|
  ckB (room (p_4.length + 1) 8) <|
  ckB (ix v_0 p_5.length) <|
  ckB (ix v_0 p_5.length) <|
  bnd (graph_classes_1_64L0 rec v_0 (p_5.getD (Int.toNat v_0) []) ((p_5.getD (Int.toNat v_0) []).length : Int) (0, (p_1 + 1), p_5, p_8, (p_2.set (Int.toNat v_0) (p_1 + 1)), (p_3.set (Int.toNat v_0) (p_1 + 1)), (p_4 ++ [v_0]), p_7)) fun oe2 =>
  lk oe2 (fun e2 =>
    ckB (ix v_0 e2.2.2.2.2.1.length) <|
    ckB (ix v_0 e2.2.2.2.2.1.length) <|
    ckB (ix v_0 e2.2.2.2.1.length) <|
    ckB (ix v_0 e2.2.2.2.1.length) <|
    bif decide ((e2.2.2.2.2.1.getD (Int.toNat v_0) 0) < (e2.2.2.2.1.getD (Int.toNat v_0) 0)) then
      some (e2.1, e2.2.1, e2.2.2.1, e2.2.2.2.1, e2.2.2.2.2.1, e2.2.2.2.2.2.1, e2.2.2.2.2.2.2)
    else
      bnd (graph_classes_1_64L1 rec v_0 e2.1 e2.2.1 e2.2.2.1 e2.2.2.2.1 e2.2.2.2.2.1 (e2.2.2.2.2.2.1, e2.2.2.2.2.2.2)) fun oe3 =>
      lk oe3 (fun e3 =>
        ckB (inR .i64 (e2.2.2.1 + 1)) <|
        some (e2.1, e2.2.1, (e2.2.2.1 + 1), e2.2.2.2.1, e2.2.2.2.2.1, e3.1, e3.2)) (fun r => some r)) (fun r => some r)

def graph_classes_1_64R (a : ((Int × Unit × Unit × Unit × Unit × Unit × Unit × Unit × Unit × Unit) × ((Int × Unit) × (Unit × Unit) × (Unit × Unit) × (Unit × Unit) × ((List (List Int)) × Unit) × ((Unit × Unit × Unit × Unit × Unit × Unit × Unit × Unit × Unit) × Unit) × (Unit × Unit) × (Int × Unit) × (List Int) × (List Int) × (List Int) × (List Int) × Unit))) : Option (Int × (List (List Int)) × Int × (List Int) × (List Int) × (List Int) × (List Int)) :=
  recM (fun (rec : ((Int × Unit × Unit × Unit × Unit × Unit × Unit × Unit × Unit × Unit) × ((Int × Unit) × (Unit × Unit) × (Unit × Unit) × (Unit × Unit) × ((List (List Int)) × Unit) × ((Unit × Unit × Unit × Unit × Unit × Unit × Unit × Unit × Unit) × Unit) × (Unit × Unit) × (Int × Unit) × (List Int) × (List Int) × (List Int) × (List Int) × Unit)) → Option (Int × (List (List Int)) × Int × (List Int) × (List Int) × (List Int) × (List Int))) (a : ((Int × Unit × Unit × Unit × Unit × Unit × Unit × Unit × Unit × Unit) × ((Int × Unit) × (Unit × Unit) × (Unit × Unit) × (Unit × Unit) × ((List (List Int)) × Unit) × ((Unit × Unit × Unit × Unit × Unit × Unit × Unit × Unit × Unit) × Unit) × (Unit × Unit) × (Int × Unit) × (List Int) × (List Int) × (List Int) × (List Int) × Unit))) => graph_classes_1_64F rec a.1.1 a.2.1.1 a.2.2.2.2.2.1.1 a.2.2.2.2.2.2.2.2.1.1 a.2.2.2.2.2.2.2.2.2.1 a.2.2.2.2.2.2.2.2.2.2.1 a.2.2.2.2.2.2.2.2.2.2.2.1 a.2.2.2.2.2.2.2.2.2.2.2.2.1) many a

def graph_classes_1_64 (v_0 : Int) (p_1 : Int) (p_5 : (List (List Int))) (p_8 : Int) (p_2 : (List Int)) (p_3 : (List Int)) (p_4 : (List Int)) (p_7 : (List Int)) : Option (Int × (List (List Int)) × Int × (List Int) × (List Int) × (List Int) × (List Int)) :=
  graph_classes_1_64R ((v_0, (), (), (), (), (), (), (), (), ()), ((p_1, ()), ((), ()), ((), ()), ((), ()), (p_5, ()), (((), (), (), (), (), (), (), (), ()), ()), ((), ()), (p_8, ()), p_2, p_3, p_4, p_7, ()))

/-! casebook/graph.classes -/

def graph_classesL0K {R : Type} (v_26 : Int) (g_10 : Int) (g_11 : (List St4)) (next_4 : (List (List Int))) (low_5 : (List Int)) (index_6 : (List Int)) (v_27 : Int) (class_7 : (List Int)) (nx : (Int × (List Int)) → Option R) (dn : (List Int) → Option R) (rt : (Int × (List Int)) → Option R) : Option R :=
  bif decide (v_27 < v_26) then
    ckB (ix v_27 class_7.length) <|
    ckB (ix v_27 class_7.length) <|
    ckB (inR .i64 (v_27 + 1)) <|
    nx ((v_27 + 1), (class_7.set (Int.toNat v_27) (-1)))
  else
    dn class_7

def graph_classesL0 (v_26 : Int) (g_10 : Int) (g_11 : (List St4)) (next_4 : (List (List Int))) (low_5 : (List Int)) (index_6 : (List Int)) (s0 : (Int × (List Int))) : Option ((List Int) ⊕ (Int × (List Int))) :=
  loopM (fun a => graph_classesL0K v_26 g_10 g_11 next_4 low_5 index_6 a.1 a.2 (fun a' => some (.next a')) (fun e => some (.done e)) (fun r => some (.ret r))) s0

def graph_classesL0I : Shp := ⟨[(1, .ptr 0), (4, .ptr 1), (5, .ptr 2), (6, .ptr 3), (7, .ptr 4), (26, .d true (.int .i64)), (27, .d true (.int .i64))], [.cs 24 2 1 (.cons (.d true (.int .i64)) (.cons (.d false (.slice St4.ty)) .nil)), .cs 39 1 1 (.cons (.d true (.slice (.slice (.int .i64)))) .nil), .cs 27 1 1 (.cons (.own 5) .nil), .cs 27 1 1 (.cons (.own 6) .nil), .cs 27 1 1 (.cons (.own 7) .nil), .arr 3 (.fz true) [0] (.int .i64), .arr 3 (.fz true) [0] (.int .i64), .arr 3 (.fz true) [0] (.int .i64)]⟩
def graph_classesL0E : Shp := ⟨[(1, .ptr 0), (4, .ptr 1), (5, .ptr 2), (6, .ptr 3), (7, .ptr 4)], [.cs 24 2 1 (.cons (.d true (.int .i64)) (.cons (.d false (.slice St4.ty)) .nil)), .cs 39 1 1 (.cons (.d true (.slice (.slice (.int .i64)))) .nil), .cs 27 1 1 (.cons (.own 5) .nil), .cs 27 1 1 (.cons (.own 6) .nil), .cs 27 1 1 (.cons (.own 7) .nil), .arr 3 (.fz true) [0] (.int .i64), .arr 3 (.fz true) [0] (.int .i64), .arr 3 (.fz true) [0] (.int .i64)]⟩

def graph_classesL1K {R : Type} (v_36 : Int) (v_37 : Int) (classCount_11 : Int) (index_6 : (List Int)) (class_7 : (List Int)) (visit_12c0 : Int) (visit_12c4 : (List (List Int))) (visit_12c2 : (List Int)) (visit_12c3 : (List Int)) (nx : (Int × Int × (List Int) × (List Int) × Int × (List (List Int)) × (List Int) × (List Int)) → Option R) (dn : (Int × (List Int)) → Option R) (rt : (Int × (List Int)) → Option R) : Option R :=
  bif decide (v_37 < v_36) then
    ckB (ix v_37 index_6.length) <|
    ckB (ix v_37 index_6.length) <|
    bif decide ((index_6.getD (Int.toNat v_37) 0) = 0) then
      bnd (graph_classes_1_64 v_37 visit_12c0 visit_12c4 classCount_11 index_6 visit_12c2 visit_12c3 class_7) fun r3 =>
      ckB (decide (r3.2.2.2.1.length = index_6.length)) <|
      ckB (decide (r3.2.2.2.2.1.length = visit_12c2.length)) <|
      ckB (decide (r3.2.2.2.2.2.2.length = class_7.length)) <|
      ckB (inR .i64 (v_37 + 1)) <|
      nx ((v_37 + 1), r3.2.2.1, r3.2.2.2.1, r3.2.2.2.2.2.2, r3.1, r3.2.1, r3.2.2.2.2.1, r3.2.2.2.2.2.1)
    else
      ckB (inR .i64 (v_37 + 1)) <|
      nx ((v_37 + 1), classCount_11, index_6, class_7, visit_12c0, visit_12c4, visit_12c2, visit_12c3)
  else
    dn (classCount_11, class_7)

def graph_classesL1 (v_36 : Int) (s0 : (Int × Int × (List Int) × (List Int) × Int × (List (List Int)) × (List Int) × (List Int))) : Option ((Int × (List Int)) ⊕ (Int × (List Int))) :=
  loopM (fun a => graph_classesL1K v_36 a.1 a.2.1 a.2.2.1 a.2.2.2.1 a.2.2.2.2.1 a.2.2.2.2.2.1 a.2.2.2.2.2.2.1 a.2.2.2.2.2.2.2 (fun a' => some (.next a')) (fun e => some (.done e)) (fun r => some (.ret r))) s0

def graph_classesL1I : Shp := ⟨[(6, .ptr 0), (7, .ptr 1), (11, .ptr 2), (12, .ptr 3), (36, .d true (.int .i64)), (37, .d true (.int .i64))], [.cs 27 1 1 (.cons (.own 4) .nil), .cs 27 1 1 (.cons (.own 5) .nil), .cs 3 1 1 (.cons (.d true (.int .i64)) .nil), .cs 77 1 1 (.cons (.fn 64 (.cons (.ptr 6) (.cons (.ptr 0) (.cons (.ptr 7) (.cons (.ptr 8) (.cons (.ptr 9) (.cons (.ptr 3) (.cons (.ptr 1) (.cons (.ptr 2) .nil))))))))) .nil), .arr 3 (.fz true) [0] (.int .i64), .arr 3 (.fz true) [0] (.int .i64), .cs 3 1 1 (.cons (.d true (.int .i64)) .nil), .cs 27 1 1 (.cons (.own 10) .nil), .cs 27 1 1 (.cons (.own 11) .nil), .cs 39 1 1 (.cons (.d true (.slice (.slice (.int .i64)))) .nil), .arr 3 (.fz true) [0] (.int .i64), .arr 3 (.fz true) [0] (.int .i64)]⟩
def graph_classesL1E : Shp := ⟨[(7, .ptr 0), (11, .ptr 1)], [.cs 27 1 1 (.cons (.own 2) .nil), .cs 3 1 1 (.cons (.d true (.int .i64)) .nil), .arr 3 (.fz true) [0] (.int .i64)]⟩

def graph_classes (g_0 : Graph) : Option (Int × (List Int)) :=
  bnd (graph_gathered g_0 false) fun r1 =>
  ckB (mkOk g_0.1 g_0.1 8) <|
  ckB (mkOk g_0.1 g_0.1 8) <|
  ckB (mkOk g_0.1 g_0.1 8) <|
  bnd (graph_classesL0 ((List.replicate (Int.toNat g_0.1) (0 : Int)).length : Int) g_0.1 g_0.2.1 r1 (List.replicate (Int.toNat g_0.1) (0 : Int)) (List.replicate (Int.toNat g_0.1) (0 : Int)) (0, (List.replicate (Int.toNat g_0.1) (0 : Int)))) fun oe2 =>
  lk oe2 (fun e2 =>
    bnd (graph_classesL1 g_0.1 (0, 0, (List.replicate (Int.toNat g_0.1) (0 : Int)), e2, 0, r1, (List.replicate (Int.toNat g_0.1) (0 : Int)), [])) fun oe4 =>
    lk oe4 (fun e4 =>
      some (e4.1, e4.2)) (fun r => some r)) (fun r => some r)

/-! casebook/graph.Strong -/

def graph_StrongL0K {R : Type} (class_4 : (List Int)) (n_5 : Int) (v_31 : (List Int)) (v_32 : Int) (g_10 : Int) (g_11 : (List St4)) (v_33 : Int) (members_6 : (List (List Int))) (nx : (Int × (List (List Int))) → Option R) (dn : (List (List Int)) → Option R) (rt : (Int × (List (List Int))) → Option R) : Option R :=
  bif decide (v_33 < v_32) then
    ckB (ix v_33 v_31.length) <|
    ckB (ix v_33 v_31.length) <|
    ckB (ix (v_31.getD (Int.toNat v_33) 0) members_6.length) <|
    ckB (ix (v_31.getD (Int.toNat v_33) 0) members_6.length) <|
    ckB (room ((members_6.getD (Int.toNat (v_31.getD (Int.toNat v_33) 0)) []).length + 1) 8) <|
    ckB (ix (v_31.getD (Int.toNat v_33) 0) (members_6.set (Int.toNat (v_31.getD (Int.toNat v_33) 0)) ((members_6.getD (Int.toNat (v_31.getD (Int.toNat v_33) 0)) []) ++ [v_33])).length) <|
    ckB (ix (v_31.getD (Int.toNat v_33) 0) (members_6.set (Int.toNat (v_31.getD (Int.toNat v_33) 0)) ((members_6.getD (Int.toNat (v_31.getD (Int.toNat v_33) 0)) []) ++ [v_33])).length) <|
    ckB (decide (((Int.toNat (v_31.getD (Int.toNat v_33) 0)) : Nat) = (Int.toNat (v_31.getD (Int.toNat v_33) 0)))) <|
    ckB (decide (((Int.toNat (v_31.getD (Int.toNat v_33) 0)) : Nat) = (Int.toNat (v_31.getD (Int.toNat v_33) 0)))) <|
    ckB (inR .i64 (v_33 + 1)) <|
    nx ((v_33 + 1), (members_6.set (Int.toNat (v_31.getD (Int.toNat v_33) 0)) ((members_6.getD (Int.toNat (v_31.getD (Int.toNat v_33) 0)) []) ++ [v_33])))
  else
    dn members_6

def graph_StrongL0 (class_4 : (List Int)) (n_5 : Int) (v_31 : (List Int)) (v_32 : Int) (g_10 : Int) (g_11 : (List St4)) (s0 : (Int × (List (List Int)))) : Option ((List (List Int)) ⊕ (Int × (List (List Int)))) :=
  loopM (fun a => graph_StrongL0K class_4 n_5 v_31 v_32 g_10 g_11 a.1 a.2 (fun a' => some (.next a')) (fun e => some (.done e)) (fun r => some (.ret r))) s0

def graph_StrongL0I : Shp := ⟨[(1, .ptr 0), (4, .d true (.slice (.int .i64))), (5, .d true (.int .i64)), (6, .own 1), (31, .d true (.slice (.int .i64))), (32, .d true (.int .i64)), (33, .d true (.int .i64))], [.cs 24 2 1 (.cons (.d true (.int .i64)) (.cons (.d false (.slice St4.ty)) .nil)), .arr 27 .own [3] (.slice (.int .i64))]⟩
def graph_StrongL0E : Shp := ⟨[(1, .ptr 0), (4, .d true (.slice (.int .i64))), (5, .d true (.int .i64)), (6, .own 1)], [.cs 24 2 1 (.cons (.d true (.int .i64)) (.cons (.d false (.slice St4.ty)) .nil)), .arr 27 .own [3] (.slice (.int .i64))]⟩

def graph_StrongL1K {R : Type} (class_4 : (List Int)) (n_5 : Int) (members_6 : (List (List Int))) (v_52 : (List St4)) (v_53 : Int) (g_10 : Int) (g_11 : (List St4)) (v_54 : Int) (open_9 : (List Int)) (nx : (Int × (List Int)) → Option R) (dn : (List Int) → Option R) (rt : (Int × (List (List Int))) → Option R) : Option R :=
  bif decide (v_54 < v_53) then
    ckB (ix v_54 v_52.length) <|
    ckB (ix v_54 v_52.length) <|
    ckB (ix (v_52.getD (Int.toNat v_54) St4.z).1 class_4.length) <|
    ckB (ix (v_52.getD (Int.toNat v_54) St4.z).1 class_4.length) <|
    ckB (ix (v_52.getD (Int.toNat v_54) St4.z).2.1 class_4.length) <|
    ckB (ix (v_52.getD (Int.toNat v_54) St4.z).2.1 class_4.length) <|
    bif (!decide ((class_4.getD (Int.toNat (v_52.getD (Int.toNat v_54) St4.z).1) 0) = (class_4.getD (Int.toNat (v_52.getD (Int.toNat v_54) St4.z).2.1) 0))) then
      ckB (ix (v_52.getD (Int.toNat v_54) St4.z).2.1 class_4.length) <|
      ckB (ix (v_52.getD (Int.toNat v_54) St4.z).2.1 class_4.length) <|
      ckB (ix (class_4.getD (Int.toNat (v_52.getD (Int.toNat v_54) St4.z).2.1) 0) open_9.length) <|
      ckB (ix (class_4.getD (Int.toNat (v_52.getD (Int.toNat v_54) St4.z).2.1) 0) open_9.length) <|
      ckB (inR .i64 ((open_9.getD (Int.toNat (class_4.getD (Int.toNat (v_52.getD (Int.toNat v_54) St4.z).2.1) 0)) 0) + 1)) <|
      ckB (ix (class_4.getD (Int.toNat (v_52.getD (Int.toNat v_54) St4.z).2.1) 0) open_9.length) <|
      ckB (ix (class_4.getD (Int.toNat (v_52.getD (Int.toNat v_54) St4.z).2.1) 0) open_9.length) <|
      ckB (inR .i64 (v_54 + 1)) <|
      nx ((v_54 + 1), (open_9.set (Int.toNat (class_4.getD (Int.toNat (v_52.getD (Int.toNat v_54) St4.z).2.1) 0)) ((open_9.getD (Int.toNat (class_4.getD (Int.toNat (v_52.getD (Int.toNat v_54) St4.z).2.1) 0)) 0) + 1)))
    else
      ckB (inR .i64 (v_54 + 1)) <|
      nx ((v_54 + 1), open_9)
  else
    dn open_9

def graph_StrongL1 (class_4 : (List Int)) (n_5 : Int) (members_6 : (List (List Int))) (v_52 : (List St4)) (v_53 : Int) (g_10 : Int) (g_11 : (List St4)) (s0 : (Int × (List Int))) : Option ((List Int) ⊕ (Int × (List (List Int)))) :=
  loopM (fun a => graph_StrongL1K class_4 n_5 members_6 v_52 v_53 g_10 g_11 a.1 a.2 (fun a' => some (.next a')) (fun e => some (.done e)) (fun r => some (.ret r))) s0

def graph_StrongL1I : Shp := ⟨[(1, .ptr 0), (4, .d true (.slice (.int .i64))), (5, .d true (.int .i64)), (6, .d true (.slice (.slice (.int .i64)))), (9, .own 1), (52, .d false (.slice St4.ty)), (53, .d true (.int .i64)), (54, .d true (.int .i64))], [.cs 24 2 1 (.cons (.d true (.int .i64)) (.cons (.d false (.slice St4.ty)) .nil)), .arr 3 (.fz true) [0] (.int .i64)]⟩
def graph_StrongL1E : Shp := ⟨[(1, .ptr 0), (4, .d true (.slice (.int .i64))), (5, .d true (.int .i64)), (6, .d true (.slice (.slice (.int .i64)))), (9, .own 1)], [.cs 24 2 1 (.cons (.d true (.int .i64)) (.cons (.d false (.slice St4.ty)) .nil)), .arr 3 (.fz true) [0] (.int .i64)]⟩

def graph_StrongL2K {R : Type} (class_4 : (List Int)) (n_5 : Int) (members_6 : (List (List Int))) (next_12 : (List (List Int))) (v_84 : Int) (v_85 : Int) (v_87 : Int) (open_9 : (List Int)) (taken_13 : (List Bool)) (out_14 : (List (List Int))) (best_15 : Int) (v_88 : Int) (nx : (Int × Int) → Option R) (dn : Int → Option R) (rt : (Int × (List (List Int))) → Option R) : Option R :=
  bif decide (v_88 < v_87) then
    ckB (ix v_88 taken_13.length) <|
    ckB (ix v_88 taken_13.length) <|
    bif (!(taken_13.getD (Int.toNat v_88) false)) then
      ckB (ix v_88 open_9.length) <|
      ckB (ix v_88 open_9.length) <|
      bif decide ((open_9.getD (Int.toNat v_88) 0) = 0) then
        bif decide (best_15 < 0) then
          ckB (inR .i64 (v_88 + 1)) <|
          nx (v_88, (v_88 + 1))
        else
          ckB (ix v_88 members_6.length) <|
          ckB (ix v_88 members_6.length) <|
          ckB (ix 0 (members_6.getD (Int.toNat v_88) []).length) <|
          ckB (ix 0 (members_6.getD (Int.toNat v_88) []).length) <|
          ckB (ix best_15 members_6.length) <|
          ckB (ix best_15 members_6.length) <|
          ckB (ix 0 (members_6.getD (Int.toNat best_15) []).length) <|
          ckB (ix 0 (members_6.getD (Int.toNat best_15) []).length) <|
          bif decide (((members_6.getD (Int.toNat v_88) []).getD 0 0) < ((members_6.getD (Int.toNat best_15) []).getD 0 0)) then
            ckB (inR .i64 (v_88 + 1)) <|
            nx (v_88, (v_88 + 1))
          else
            ckB (inR .i64 (v_88 + 1)) <|
            nx (best_15, (v_88 + 1))
      else
        ckB (inR .i64 (v_88 + 1)) <|
        nx (best_15, (v_88 + 1))
    else
      ckB (inR .i64 (v_88 + 1)) <|
      nx (best_15, (v_88 + 1))
  else
    dn best_15

def graph_StrongL2 (class_4 : (List Int)) (n_5 : Int) (members_6 : (List (List Int))) (next_12 : (List (List Int))) (v_84 : Int) (v_85 : Int) (v_87 : Int) (open_9 : (List Int)) (taken_13 : (List Bool)) (out_14 : (List (List Int))) (s0 : (Int × Int)) : Option (Int ⊕ (Int × (List (List Int)))) :=
  loopM (fun a => graph_StrongL2K class_4 n_5 members_6 next_12 v_84 v_85 v_87 open_9 taken_13 out_14 a.1 a.2 (fun a' => some (.next a')) (fun e => some (.done e)) (fun r => some (.ret r))) s0

def graph_StrongL2I : Shp := ⟨[(4, .d true (.slice (.int .i64))), (5, .d true (.int .i64)), (6, .d true (.slice (.slice (.int .i64)))), (9, .own 0), (12, .d true (.slice (.slice (.int .i64)))), (13, .own 1), (14, .own 2), (15, .d true (.int .i64)), (84, .d true (.int .i64)), (85, .d true (.int .i64)), (87, .d true (.int .i64)), (88, .d true (.int .i64))], [.arr 3 (.fz true) [0] (.int .i64), .arr 4 (.fz true) [0] .bool, .arr 27 (.fz true) [3] (.slice (.int .i64))]⟩
def graph_StrongL2E : Shp := ⟨[(4, .d true (.slice (.int .i64))), (5, .d true (.int .i64)), (6, .d true (.slice (.slice (.int .i64)))), (9, .own 0), (12, .d true (.slice (.slice (.int .i64)))), (13, .own 1), (14, .own 2), (15, .d true (.int .i64)), (84, .d true (.int .i64)), (85, .d true (.int .i64))], [.arr 3 (.fz true) [0] (.int .i64), .arr 4 (.fz true) [0] .bool, .arr 27 (.fz true) [3] (.slice (.int .i64))]⟩

def graph_StrongL3K {R : Type} (class_4 : (List Int)) (n_5 : Int) (members_6 : (List (List Int))) (next_12 : (List (List Int))) (best_15 : Int) (v_84 : Int) (v_85 : Int) (v_137 : (List Int)) (v_138 : Int) (v_139 : Int) (v_146 : (List Int)) (v_147 : Int) (taken_13 : (List Bool)) (out_14 : (List (List Int))) (v_148 : Int) (open_9 : (List Int)) (nx : (Int × (List Int)) → Option R) (dn : (List Int) → Option R) (rt : (Int × (List (List Int))) → Option R) : Option R :=
  bif decide (v_148 < v_147) then
    ckB (ix v_148 v_146.length) <|
    ckB (ix v_148 v_146.length) <|
    ckB (ix (v_146.getD (Int.toNat v_148) 0) class_4.length) <|
    ckB (ix (v_146.getD (Int.toNat v_148) 0) class_4.length) <|
    bif (!decide ((class_4.getD (Int.toNat (v_146.getD (Int.toNat v_148) 0)) 0) = best_15)) then
      ckB (ix (v_146.getD (Int.toNat v_148) 0) class_4.length) <|
      ckB (ix (v_146.getD (Int.toNat v_148) 0) class_4.length) <|
      ckB (ix (class_4.getD (Int.toNat (v_146.getD (Int.toNat v_148) 0)) 0) open_9.length) <|
      ckB (ix (class_4.getD (Int.toNat (v_146.getD (Int.toNat v_148) 0)) 0) open_9.length) <|
      ckB (inR .i64 ((open_9.getD (Int.toNat (class_4.getD (Int.toNat (v_146.getD (Int.toNat v_148) 0)) 0)) 0) - 1)) <|
      ckB (ix (class_4.getD (Int.toNat (v_146.getD (Int.toNat v_148) 0)) 0) open_9.length) <|
      ckB (ix (class_4.getD (Int.toNat (v_146.getD (Int.toNat v_148) 0)) 0) open_9.length) <|
      ckB (inR .i64 (v_148 + 1)) <|
      nx ((v_148 + 1), (open_9.set (Int.toNat (class_4.getD (Int.toNat (v_146.getD (Int.toNat v_148) 0)) 0)) ((open_9.getD (Int.toNat (class_4.getD (Int.toNat (v_146.getD (Int.toNat v_148) 0)) 0)) 0) - 1)))
    else
      ckB (inR .i64 (v_148 + 1)) <|
      nx ((v_148 + 1), open_9)
  else
    dn open_9

def graph_StrongL3 (class_4 : (List Int)) (n_5 : Int) (members_6 : (List (List Int))) (next_12 : (List (List Int))) (best_15 : Int) (v_84 : Int) (v_85 : Int) (v_137 : (List Int)) (v_138 : Int) (v_139 : Int) (v_146 : (List Int)) (v_147 : Int) (taken_13 : (List Bool)) (out_14 : (List (List Int))) (s0 : (Int × (List Int))) : Option ((List Int) ⊕ (Int × (List (List Int)))) :=
  loopM (fun a => graph_StrongL3K class_4 n_5 members_6 next_12 best_15 v_84 v_85 v_137 v_138 v_139 v_146 v_147 taken_13 out_14 a.1 a.2 (fun a' => some (.next a')) (fun e => some (.done e)) (fun r => some (.ret r))) s0

def graph_StrongL3I : Shp := ⟨[(4, .d true (.slice (.int .i64))), (5, .d true (.int .i64)), (6, .d true (.slice (.slice (.int .i64)))), (9, .own 0), (12, .d true (.slice (.slice (.int .i64)))), (13, .own 1), (14, .own 2), (15, .d true (.int .i64)), (84, .d true (.int .i64)), (85, .d true (.int .i64)), (137, .d true (.slice (.int .i64))), (138, .d true (.int .i64)), (139, .d true (.int .i64)), (146, .d true (.slice (.int .i64))), (147, .d true (.int .i64)), (148, .d true (.int .i64))], [.arr 3 (.fz true) [0] (.int .i64), .arr 4 (.fz true) [0] .bool, .arr 27 (.fz true) [3] (.slice (.int .i64))]⟩
def graph_StrongL3E : Shp := ⟨[(4, .d true (.slice (.int .i64))), (5, .d true (.int .i64)), (6, .d true (.slice (.slice (.int .i64)))), (9, .own 0), (12, .d true (.slice (.slice (.int .i64)))), (13, .own 1), (14, .own 2), (15, .d true (.int .i64)), (84, .d true (.int .i64)), (85, .d true (.int .i64)), (137, .d true (.slice (.int .i64))), (138, .d true (.int .i64)), (139, .d true (.int .i64))], [.arr 3 (.fz true) [0] (.int .i64), .arr 4 (.fz true) [0] .bool, .arr 27 (.fz true) [3] (.slice (.int .i64))]⟩

def graph_StrongL4K {R : Type} (class_4 : (List Int)) (n_5 : Int) (members_6 : (List (List Int))) (next_12 : (List (List Int))) (best_15 : Int) (v_84 : Int) (v_85 : Int) (v_137 : (List Int)) (v_138 : Int) (taken_13 : (List Bool)) (out_14 : (List (List Int))) (v_139 : Int) (open_9 : (List Int)) (nx : (Int × (List Int)) → Option R) (dn : (List Int) → Option R) (rt : (Int × (List (List Int))) → Option R) : Option R :=
  bif decide (v_139 < v_138) then
    ckB (ix v_139 v_137.length) <|
    ckB (ix v_139 v_137.length) <|
    ckB (ix (v_137.getD (Int.toNat v_139) 0) next_12.length) <|
    ckB (ix (v_137.getD (Int.toNat v_139) 0) next_12.length) <|
    bnd (graph_StrongL3 class_4 n_5 members_6 next_12 best_15 v_84 v_85 v_137 v_138 v_139 (next_12.getD (Int.toNat (v_137.getD (Int.toNat v_139) 0)) []) ((next_12.getD (Int.toNat (v_137.getD (Int.toNat v_139) 0)) []).length : Int) taken_13 out_14 (0, open_9)) fun oe7 =>
    lk oe7 (fun e7 =>
      ckB (inR .i64 (v_139 + 1)) <|
      nx ((v_139 + 1), e7)) (fun r => rt r)
  else
    dn open_9

def graph_StrongL4 (class_4 : (List Int)) (n_5 : Int) (members_6 : (List (List Int))) (next_12 : (List (List Int))) (best_15 : Int) (v_84 : Int) (v_85 : Int) (v_137 : (List Int)) (v_138 : Int) (taken_13 : (List Bool)) (out_14 : (List (List Int))) (s0 : (Int × (List Int))) : Option ((List Int) ⊕ (Int × (List (List Int)))) :=
  loopM (fun a => graph_StrongL4K class_4 n_5 members_6 next_12 best_15 v_84 v_85 v_137 v_138 taken_13 out_14 a.1 a.2 (fun a' => some (.next a')) (fun e => some (.done e)) (fun r => some (.ret r))) s0

def graph_StrongL4I : Shp := ⟨[(4, .d true (.slice (.int .i64))), (5, .d true (.int .i64)), (6, .d true (.slice (.slice (.int .i64)))), (9, .own 0), (12, .d true (.slice (.slice (.int .i64)))), (13, .own 1), (14, .own 2), (15, .d true (.int .i64)), (84, .d true (.int .i64)), (85, .d true (.int .i64)), (137, .d true (.slice (.int .i64))), (138, .d true (.int .i64)), (139, .d true (.int .i64))], [.arr 3 (.fz true) [0] (.int .i64), .arr 4 (.fz true) [0] .bool, .arr 27 (.fz true) [3] (.slice (.int .i64))]⟩
def graph_StrongL4E : Shp := ⟨[(4, .d true (.slice (.int .i64))), (5, .d true (.int .i64)), (6, .d true (.slice (.slice (.int .i64)))), (9, .own 0), (12, .d true (.slice (.slice (.int .i64)))), (13, .own 1), (14, .own 2), (84, .d true (.int .i64)), (85, .d true (.int .i64))], [.arr 3 (.fz true) [0] (.int .i64), .arr 4 (.fz true) [0] .bool, .arr 27 (.fz true) [3] (.slice (.int .i64))]⟩

def graph_StrongL5K {R : Type} (class_4 : (List Int)) (n_5 : Int) (members_6 : (List (List Int))) (next_12 : (List (List Int))) (v_84 : Int) (v_85 : Int) (open_9 : (List Int)) (taken_13 : (List Bool)) (out_14 : (List (List Int))) (nx : (Int × (List Int) × (List Bool) × (List (List Int))) → Option R) (dn : (List (List Int)) → Option R) (rt : (Int × (List (List Int))) → Option R) : Option R :=
  bif decide (v_85 < v_84) then
    bnd (graph_StrongL2 class_4 n_5 members_6 next_12 v_84 v_85 n_5 open_9 taken_13 out_14 ((-1), 0)) fun oe6 =>
    lk oe6 (fun e6 =>
      ckB (ix e6 taken_13.length) <|
      ckB (ix e6 taken_13.length) <|
      ckB (ix e6 members_6.length) <|
      ckB (ix e6 members_6.length) <|
      ckB (room (out_14.length + 1) 24) <|
      ckB (ix e6 members_6.length) <|
      ckB (ix e6 members_6.length) <|
      bnd (graph_StrongL4 class_4 n_5 members_6 next_12 e6 v_84 v_85 (members_6.getD (Int.toNat e6) []) ((members_6.getD (Int.toNat e6) []).length : Int) (taken_13.set (Int.toNat e6) true) (out_14 ++ [(members_6.getD (Int.toNat e6) [])]) (0, open_9)) fun oe8 =>
      lk oe8 (fun e8 =>
        ckB (inR .i64 (v_85 + 1)) <|
        nx ((v_85 + 1), e8, (taken_13.set (Int.toNat e6) true), (out_14 ++ [(members_6.getD (Int.toNat e6) [])]))) (fun r => rt r)) (fun r => rt r)
  else
    dn out_14

def graph_StrongL5 (class_4 : (List Int)) (n_5 : Int) (members_6 : (List (List Int))) (next_12 : (List (List Int))) (v_84 : Int) (s0 : (Int × (List Int) × (List Bool) × (List (List Int)))) : Option ((List (List Int)) ⊕ (Int × (List (List Int)))) :=
  loopM (fun a => graph_StrongL5K class_4 n_5 members_6 next_12 v_84 a.1 a.2.1 a.2.2.1 a.2.2.2 (fun a' => some (.next a')) (fun e => some (.done e)) (fun r => some (.ret r))) s0

def graph_StrongL5I : Shp := ⟨[(4, .d true (.slice (.int .i64))), (5, .d true (.int .i64)), (6, .d true (.slice (.slice (.int .i64)))), (9, .own 0), (12, .d true (.slice (.slice (.int .i64)))), (13, .own 1), (14, .own 2), (84, .d true (.int .i64)), (85, .d true (.int .i64))], [.arr 3 (.fz true) [0] (.int .i64), .arr 4 (.fz true) [0] .bool, .arr 27 (.fz true) [3] (.slice (.int .i64))]⟩
def graph_StrongL5E : Shp := ⟨[(14, .own 0)], [.arr 27 (.fz true) [3] (.slice (.int .i64))]⟩

def graph_Strong (g_0 : Graph) : Option (Int × (List (List Int))) :=
  bnd (graph_Valid g_0) fun r1 =>
  bif (!r1) then
    some (1, [])
  else
    bnd (graph_classes g_0) fun r2 =>
    ckB (mkOk r2.1 r2.1 24) <|
    bnd (graph_StrongL0 r2.2 r2.1 r2.2 (r2.2.length : Int) g_0.1 g_0.2.1 (0, (List.replicate (Int.toNat r2.1) ([] : (List Int))))) fun oe3 =>
    lk oe3 (fun e3 =>
      ckB (mkOk r2.1 r2.1 8) <|
      bnd (graph_StrongL1 r2.2 r2.1 e3 g_0.2.1 (g_0.2.1.length : Int) g_0.1 g_0.2.1 (0, (List.replicate (Int.toNat r2.1) (0 : Int)))) fun oe4 =>
      lk oe4 (fun e4 =>
        bnd (graph_gathered g_0 false) fun r5 =>
        ckB (mkOk r2.1 r2.1 1) <|
        bnd (graph_StrongL5 r2.2 r2.1 e3 r5 r2.1 (0, e4, (List.replicate (Int.toNat r2.1) (false : Bool)), [])) fun oe9 =>
        lk oe9 (fun e9 =>
          some (0, e9)) (fun r => some r)) (fun r => some r)) (fun r => some r)

/-! casebook/graph.reversed -/

def graph_reversedL0K {R : Type} (v_10 : (List St4)) (v_11 : Int) (v_20 : Int) (v_21 : (List St4)) (out_30 : Int) (v_12 : Int) (out_31 : (List St4)) (nx : (Int × (List St4)) → Option R) (dn : (List St4) → Option R) (rt : Graph → Option R) : Option R :=
  bif decide (v_12 < v_11) then
    ckB (ix v_12 v_10.length) <|
    ckB (ix v_12 v_10.length) <|
    ckB (room (out_31.length + 1) 16) <|
    ckB (inR .i64 (v_12 + 1)) <|
    nx ((v_12 + 1), (out_31 ++ [((v_10.getD (Int.toNat v_12) St4.z).2.1, (v_10.getD (Int.toNat v_12) St4.z).1, ())]))
  else
    dn out_31

def graph_reversedL0 (v_10 : (List St4)) (v_11 : Int) (v_20 : Int) (v_21 : (List St4)) (out_30 : Int) (s0 : (Int × (List St4))) : Option ((List St4) ⊕ Graph) :=
  loopM (fun a => graph_reversedL0K v_10 v_11 v_20 v_21 out_30 a.1 a.2 (fun a' => some (.next a')) (fun e => some (.done e)) (fun r => some (.ret r))) s0

def graph_reversedL0I : Shp := ⟨[(2, .ptr 0), (3, .ptr 1), (10, .d false (.slice St4.ty)), (11, .d true (.int .i64)), (12, .d true (.int .i64))], [.cs 24 2 1 (.cons (.d true (.int .i64)) (.cons (.d true (.slice St4.ty)) .nil)), .cs 24 2 1 (.cons (.d true (.int .i64)) (.cons (.own 2) .nil)), .arr 37 (.fz true) [0, 0] St4.ty]⟩
def graph_reversedL0E : Shp := ⟨[(2, .ptr 0), (3, .ptr 1)], [.cs 24 2 1 (.cons (.d true (.int .i64)) (.cons (.d true (.slice St4.ty)) .nil)), .cs 24 2 1 (.cons (.d true (.int .i64)) (.cons (.own 2) .nil)), .arr 37 (.fz true) [0, 0] St4.ty]⟩

def graph_reversed (g_0 : Graph) : Option Graph :=
  bnd (graph_reversedL0 g_0.2.1 (g_0.2.1.length : Int) 0 [] g_0.1 (0, [])) fun oe1 =>
  lk oe1 (fun e1 =>
    some (g_0.1, e1, ())) (fun r => some r)

/-! casebook/graph.reached -/

def graph_reachedL0K {R : Type} (next_0 : (List (List Int))) (from_1 : (List Int)) (v_17 : Int) (v_18 : Int) (far_5 : (List Int)) (nx : (Int × (List Int)) → Option R) (dn : (List Int) → Option R) (rt : (List Int) → Option R) : Option R :=
  bif decide (v_18 < v_17) then
    ckB (ix v_18 far_5.length) <|
    ckB (ix v_18 far_5.length) <|
    ckB (inR .i64 (v_18 + 1)) <|
    nx ((v_18 + 1), (far_5.set (Int.toNat v_18) (-1)))
  else
    dn far_5

def graph_reachedL0 (next_0 : (List (List Int))) (from_1 : (List Int)) (v_17 : Int) (s0 : (Int × (List Int))) : Option ((List Int) ⊕ (List Int)) :=
  loopM (fun a => graph_reachedL0K next_0 from_1 v_17 a.1 a.2 (fun a' => some (.next a')) (fun e => some (.done e)) (fun r => some (.ret r))) s0

def graph_reachedL0I : Shp := ⟨[(0, .d false (.slice (.slice (.int .i64)))), (1, .d false (.slice (.int .i64))), (5, .own 0), (17, .d true (.int .i64)), (18, .d true (.int .i64))], [.arr 3 (.fz true) [0] (.int .i64)]⟩
def graph_reachedL0E : Shp := ⟨[(0, .d false (.slice (.slice (.int .i64)))), (1, .d false (.slice (.int .i64))), (5, .own 0)], [.arr 3 (.fz true) [0] (.int .i64)]⟩

def graph_reachedL1K {R : Type} (next_0 : (List (List Int))) (v_25 : (List Int)) (v_26 : Int) (v_27 : Int) (far_5 : (List Int)) (queue_7 : (List Int)) (nx : (Int × (List Int) × (List Int)) → Option R) (dn : ((List Int) × (List Int)) → Option R) (rt : (List Int) → Option R) : Option R :=
  bif decide (v_27 < v_26) then
    ckB (ix v_27 v_25.length) <|
    ckB (ix v_27 v_25.length) <|
    ckB (ix (v_25.getD (Int.toNat v_27) 0) far_5.length) <|
    ckB (ix (v_25.getD (Int.toNat v_27) 0) far_5.length) <|
    bif decide ((far_5.getD (Int.toNat (v_25.getD (Int.toNat v_27) 0)) 0) < 0) then
      ckB (ix (v_25.getD (Int.toNat v_27) 0) far_5.length) <|
      ckB (ix (v_25.getD (Int.toNat v_27) 0) far_5.length) <|
      ckB (room (queue_7.length + 1) 8) <|
      ckB (inR .i64 (v_27 + 1)) <|
      nx ((v_27 + 1), (far_5.set (Int.toNat (v_25.getD (Int.toNat v_27) 0)) 0), (queue_7 ++ [(v_25.getD (Int.toNat v_27) 0)]))
    else
      ckB (inR .i64 (v_27 + 1)) <|
      nx ((v_27 + 1), far_5, queue_7)
  else
    dn (far_5, queue_7)

def graph_reachedL1 (next_0 : (List (List Int))) (v_25 : (List Int)) (v_26 : Int) (s0 : (Int × (List Int) × (List Int))) : Option (((List Int) × (List Int)) ⊕ (List Int)) :=
  loopM (fun a => graph_reachedL1K next_0 v_25 v_26 a.1 a.2.1 a.2.2 (fun a' => some (.next a')) (fun e => some (.done e)) (fun r => some (.ret r))) s0

def graph_reachedL1I : Shp := ⟨[(0, .d false (.slice (.slice (.int .i64)))), (5, .own 0), (7, .own 1), (25, .d false (.slice (.int .i64))), (26, .d true (.int .i64)), (27, .d true (.int .i64))], [.arr 3 (.fz true) [0] (.int .i64), .arr 3 (.fz true) [0] (.int .i64)]⟩
def graph_reachedL1E : Shp := ⟨[(0, .d false (.slice (.slice (.int .i64)))), (5, .own 0), (7, .own 1)], [.arr 3 (.fz true) [0] (.int .i64), .arr 3 (.fz true) [0] (.int .i64)]⟩

def graph_reachedL2K {R : Type} (next_0 : (List (List Int))) (i_10 : Int) (v_56 : (List Int)) (v_57 : Int) (v_58 : Int) (far_5 : (List Int)) (queue_7 : (List Int)) (nx : (Int × (List Int) × (List Int)) → Option R) (dn : ((List Int) × (List Int)) → Option R) (rt : (List Int) → Option R) : Option R :=
  bif decide (v_58 < v_57) then
    ckB (ix v_58 v_56.length) <|
    ckB (ix v_58 v_56.length) <|
    ckB (ix (v_56.getD (Int.toNat v_58) 0) far_5.length) <|
    ckB (ix (v_56.getD (Int.toNat v_58) 0) far_5.length) <|
    bif decide ((far_5.getD (Int.toNat (v_56.getD (Int.toNat v_58) 0)) 0) < 0) then
      ckB (ix i_10 queue_7.length) <|
      ckB (ix i_10 queue_7.length) <|
      ckB (ix (queue_7.getD (Int.toNat i_10) 0) far_5.length) <|
      ckB (ix (queue_7.getD (Int.toNat i_10) 0) far_5.length) <|
      ckB (inR .i64 ((far_5.getD (Int.toNat (queue_7.getD (Int.toNat i_10) 0)) 0) + 1)) <|
      ckB (ix (v_56.getD (Int.toNat v_58) 0) far_5.length) <|
      ckB (ix (v_56.getD (Int.toNat v_58) 0) far_5.length) <|
      ckB (room (queue_7.length + 1) 8) <|
      ckB (inR .i64 (v_58 + 1)) <|
      nx ((v_58 + 1), (far_5.set (Int.toNat (v_56.getD (Int.toNat v_58) 0)) ((far_5.getD (Int.toNat (queue_7.getD (Int.toNat i_10) 0)) 0) + 1)), (queue_7 ++ [(v_56.getD (Int.toNat v_58) 0)]))
    else
      ckB (inR .i64 (v_58 + 1)) <|
      nx ((v_58 + 1), far_5, queue_7)
  else
    dn (far_5, queue_7)

def graph_reachedL2 (next_0 : (List (List Int))) (i_10 : Int) (v_56 : (List Int)) (v_57 : Int) (s0 : (Int × (List Int) × (List Int))) : Option (((List Int) × (List Int)) ⊕ (List Int)) :=
  loopM (fun a => graph_reachedL2K next_0 i_10 v_56 v_57 a.1 a.2.1 a.2.2 (fun a' => some (.next a')) (fun e => some (.done e)) (fun r => some (.ret r))) s0

def graph_reachedL2I : Shp := ⟨[(0, .d false (.slice (.slice (.int .i64)))), (5, .own 0), (7, .own 1), (10, .d true (.int .i64)), (56, .d false (.slice (.int .i64))), (57, .d true (.int .i64)), (58, .d true (.int .i64))], [.arr 3 (.fz true) [0] (.int .i64), .arr 3 (.fz true) [0] (.int .i64)]⟩
def graph_reachedL2E : Shp := ⟨[(0, .d false (.slice (.slice (.int .i64)))), (5, .own 0), (7, .own 1), (10, .d true (.int .i64))], [.arr 3 (.fz true) [0] (.int .i64), .arr 3 (.fz true) [0] (.int .i64)]⟩

def graph_reachedL3K {R : Type} (next_0 : (List (List Int))) (i_10 : Int) (far_5 : (List Int)) (queue_7 : (List Int)) (nx : (Int × (List Int) × (List Int)) → Option R) (dn : (List Int) → Option R) (rt : (List Int) → Option R) : Option R :=
  bif decide (i_10 < (queue_7.length : Int)) then
    ckB (ix i_10 queue_7.length) <|
    ckB (ix i_10 queue_7.length) <|
    ckB (ix (queue_7.getD (Int.toNat i_10) 0) next_0.length) <|
    ckB (ix (queue_7.getD (Int.toNat i_10) 0) next_0.length) <|
    bnd (graph_reachedL2 next_0 i_10 (next_0.getD (Int.toNat (queue_7.getD (Int.toNat i_10) 0)) []) ((next_0.getD (Int.toNat (queue_7.getD (Int.toNat i_10) 0)) []).length : Int) (0, far_5, queue_7)) fun oe3 =>
    lk oe3 (fun e3 =>
      ckB (inR .i64 (i_10 + 1)) <|
      nx ((i_10 + 1), e3.1, e3.2)) (fun r => rt r)
  else
    dn far_5

def graph_reachedL3 (next_0 : (List (List Int))) (s0 : (Int × (List Int) × (List Int))) : Option ((List Int) ⊕ (List Int)) :=
  loopM (fun a => graph_reachedL3K next_0 a.1 a.2.1 a.2.2 (fun a' => some (.next a')) (fun e => some (.done e)) (fun r => some (.ret r))) s0

def graph_reachedL3I : Shp := ⟨[(0, .d false (.slice (.slice (.int .i64)))), (5, .own 0), (7, .own 1), (10, .d true (.int .i64))], [.arr 3 (.fz true) [0] (.int .i64), .arr 3 (.fz true) [0] (.int .i64)]⟩
def graph_reachedL3E : Shp := ⟨[(5, .own 0)], [.arr 3 (.fz true) [0] (.int .i64)]⟩

def graph_reached (next_0 : (List (List Int))) (from_1 : (List Int)) : Option (List Int) :=
  ckB (mkOk (next_0.length : Int) (next_0.length : Int) 8) <|
  bnd (graph_reachedL0 next_0 from_1 ((List.replicate (Int.toNat (next_0.length : Int)) (0 : Int)).length : Int) (0, (List.replicate (Int.toNat (next_0.length : Int)) (0 : Int)))) fun oe1 =>
  lk oe1 (fun e1 =>
    bnd (graph_reachedL1 next_0 from_1 (from_1.length : Int) (0, e1, [])) fun oe2 =>
    lk oe2 (fun e2 =>
      bnd (graph_reachedL3 next_0 (0, e2.1, e2.2)) fun oe4 =>
      lk oe4 (fun e4 =>
        some e4) (fun r => some r)) (fun r => some r)) (fun r => some r)

/-! casebook/graph.Path -/

def graph_PathL0K {R : Type} (far_8 : (List Int)) (next_9 : (List (List Int))) (v_11 : Int) (v_52 : (List Int)) (v_53 : Int) (out_10 : (List Int)) (best_12 : Int) (v_54 : Int) (nx : (Int × Int) → Option R) (dn : Int → Option R) (rt : (Int × (List Int)) → Option R) : Option R :=
  bif decide (v_54 < v_53) then
    ckB (ix v_54 v_52.length) <|
    ckB (ix v_54 v_52.length) <|
    ckB (ix (v_52.getD (Int.toNat v_54) 0) far_8.length) <|
    ckB (ix (v_52.getD (Int.toNat v_54) 0) far_8.length) <|
    ckB (ix v_11 far_8.length) <|
    ckB (ix v_11 far_8.length) <|
    ckB (inR .i64 ((far_8.getD (Int.toNat v_11) 0) - 1)) <|
    bif decide ((far_8.getD (Int.toNat (v_52.getD (Int.toNat v_54) 0)) 0) = ((far_8.getD (Int.toNat v_11) 0) - 1)) then
      bif decide (best_12 < 0) then
        ckB (inR .i64 (v_54 + 1)) <|
        nx ((v_52.getD (Int.toNat v_54) 0), (v_54 + 1))
      else
        bif decide ((v_52.getD (Int.toNat v_54) 0) < best_12) then
          ckB (inR .i64 (v_54 + 1)) <|
          nx ((v_52.getD (Int.toNat v_54) 0), (v_54 + 1))
        else
          ckB (inR .i64 (v_54 + 1)) <|
          nx (best_12, (v_54 + 1))
    else
      ckB (inR .i64 (v_54 + 1)) <|
      nx (best_12, (v_54 + 1))
  else
    dn best_12

def graph_PathL0 (far_8 : (List Int)) (next_9 : (List (List Int))) (v_11 : Int) (v_52 : (List Int)) (v_53 : Int) (out_10 : (List Int)) (s0 : (Int × Int)) : Option (Int ⊕ (Int × (List Int))) :=
  loopM (fun a => graph_PathL0K far_8 next_9 v_11 v_52 v_53 out_10 a.1 a.2 (fun a' => some (.next a')) (fun e => some (.done e)) (fun r => some (.ret r))) s0

def graph_PathL0I : Shp := ⟨[(8, .d true (.slice (.int .i64))), (9, .d true (.slice (.slice (.int .i64)))), (10, .own 0), (11, .d true (.int .i64)), (12, .d true (.int .i64)), (52, .d true (.slice (.int .i64))), (53, .d true (.int .i64)), (54, .d true (.int .i64))], [.arr 3 (.fz true) [0] (.int .i64)]⟩
def graph_PathL0E : Shp := ⟨[(8, .d true (.slice (.int .i64))), (9, .d true (.slice (.slice (.int .i64)))), (10, .own 0), (12, .d true (.int .i64))], [.arr 3 (.fz true) [0] (.int .i64)]⟩

def graph_PathL1K {R : Type} (far_8 : (List Int)) (next_9 : (List (List Int))) (v_11 : Int) (out_10 : (List Int)) (nx : (Int × (List Int)) → Option R) (dn : (List Int) → Option R) (rt : (Int × (List Int)) → Option R) : Option R :=
  ckB (ix v_11 far_8.length) <|
  ckB (ix v_11 far_8.length) <|
  bif decide ((0 : Int) < (far_8.getD (Int.toNat v_11) 0)) then
    ckB (ix v_11 next_9.length) <|
    ckB (ix v_11 next_9.length) <|
    bnd (graph_PathL0 far_8 next_9 v_11 (next_9.getD (Int.toNat v_11) []) ((next_9.getD (Int.toNat v_11) []).length : Int) out_10 ((-1), 0)) fun oe8 =>
    lk oe8 (fun e8 =>
      ckB (room (out_10.length + 1) 8) <|
      nx (e8, (out_10 ++ [e8]))) (fun r => rt r)
  else
    dn out_10

def graph_PathL1 (far_8 : (List Int)) (next_9 : (List (List Int))) (s0 : (Int × (List Int))) : Option ((List Int) ⊕ (Int × (List Int))) :=
  loopM (fun a => graph_PathL1K far_8 next_9 a.1 a.2 (fun a' => some (.next a')) (fun e => some (.done e)) (fun r => some (.ret r))) s0

def graph_PathL1I : Shp := ⟨[(8, .d true (.slice (.int .i64))), (9, .d true (.slice (.slice (.int .i64)))), (10, .own 0), (11, .d true (.int .i64))], [.arr 3 (.fz true) [0] (.int .i64)]⟩
def graph_PathL1E : Shp := ⟨[(10, .own 0)], [.arr 3 (.fz true) [0] (.int .i64)]⟩

def graph_Path (g_0 : Graph) (a_1 : Int) (b_2 : Int) : Option (Int × (List Int)) :=
  bnd (graph_Valid g_0) fun r1 =>
  bif (!r1) then
    some (1, [])
  else
    bnd (graph_vertex g_0 a_1) fun r2 =>
    bif (!r2) then
      some (2, [])
    else
      bnd (graph_vertex g_0 b_2) fun r3 =>
      bif (!r3) then
        some (2, [])
      else
        bnd (graph_reversed g_0) fun r4 =>
        bnd (graph_gathered r4 false) fun r5 =>
        bnd (graph_reached r5 [b_2]) fun r6 =>
        ckB (ix a_1 r6.length) <|
        ckB (ix a_1 r6.length) <|
        bif decide ((r6.getD (Int.toNat a_1) 0) < 0) then
          some (10, [])
        else
          bnd (graph_gathered g_0 false) fun r7 =>
          bnd (graph_PathL1 r6 r7 (a_1, [a_1])) fun oe9 =>
          lk oe9 (fun e9 =>
            some (0, e9)) (fun r => some r)

/-! slices.Index[[]int,int] -/

def slices_Index_int_intL0K {R : Type} (s_0 : (List Int)) (v_1 : Int) (v_7 : Int) (v_8 : Int) (nx : Int → Option R) (dn : Unit → Option R) (rt : Int → Option R) : Option R :=
  bif decide (v_8 < v_7) then
    ckB (ix v_8 s_0.length) <|
    ckB (ix v_8 s_0.length) <|
    bif decide (v_1 = (s_0.getD (Int.toNat v_8) 0)) then
      rt v_8
    else
      ckB (inR .i64 (v_8 + 1)) <|
      nx (v_8 + 1)
  else
    dn ()

def slices_Index_int_intL0 (s_0 : (List Int)) (v_1 : Int) (v_7 : Int) (s0 : Int) : Option (Unit ⊕ Int) :=
  loopM (fun a => slices_Index_int_intL0K s_0 v_1 v_7 a (fun a' => some (.next a')) (fun e => some (.done e)) (fun r => some (.ret r))) s0

def slices_Index_int_intL0I : Shp := ⟨[(0, .d false (.slice (.int .i64))), (1, .d true (.int .i64)), (7, .d true (.int .i64)), (8, .d true (.int .i64))], []⟩
def slices_Index_int_intL0E : Shp := ⟨[], []⟩

def slices_Index_int_int (s_0 : (List Int)) (v_1 : Int) : Option Int :=
  bnd (slices_Index_int_intL0 s_0 v_1 (s_0.length : Int) 0) fun oe1 =>
  lk oe1 (fun e1 =>
    some (-1)) (fun r => some r)

/-! casebook/graph.Order -/

def graph_OrderL0K {R : Type} (v_19 : (List St4)) (v_20 : Int) (g_10 : Int) (g_11 : (List St4)) (v_21 : Int) (open_4 : (List Int)) (nx : (Int × (List Int)) → Option R) (dn : (List Int) → Option R) (rt : (Int × (List Int)) → Option R) : Option R :=
  bif decide (v_21 < v_20) then
    ckB (ix v_21 v_19.length) <|
    ckB (ix v_21 v_19.length) <|
    ckB (ix (v_19.getD (Int.toNat v_21) St4.z).2.1 open_4.length) <|
    ckB (ix (v_19.getD (Int.toNat v_21) St4.z).2.1 open_4.length) <|
    ckB (inR .i64 ((open_4.getD (Int.toNat (v_19.getD (Int.toNat v_21) St4.z).2.1) 0) + 1)) <|
    ckB (ix (v_19.getD (Int.toNat v_21) St4.z).2.1 open_4.length) <|
    ckB (ix (v_19.getD (Int.toNat v_21) St4.z).2.1 open_4.length) <|
    ckB (inR .i64 (v_21 + 1)) <|
    nx ((v_21 + 1), (open_4.set (Int.toNat (v_19.getD (Int.toNat v_21) St4.z).2.1) ((open_4.getD (Int.toNat (v_19.getD (Int.toNat v_21) St4.z).2.1) 0) + 1)))
  else
    dn open_4

def graph_OrderL0 (v_19 : (List St4)) (v_20 : Int) (g_10 : Int) (g_11 : (List St4)) (s0 : (Int × (List Int))) : Option ((List Int) ⊕ (Int × (List Int))) :=
  loopM (fun a => graph_OrderL0K v_19 v_20 g_10 g_11 a.1 a.2 (fun a' => some (.next a')) (fun e => some (.done e)) (fun r => some (.ret r))) s0

def graph_OrderL0I : Shp := ⟨[(1, .ptr 0), (4, .own 1), (19, .d false (.slice St4.ty)), (20, .d true (.int .i64)), (21, .d true (.int .i64))], [.cs 24 2 1 (.cons (.d true (.int .i64)) (.cons (.d false (.slice St4.ty)) .nil)), .arr 3 (.fz true) [0] (.int .i64)]⟩
def graph_OrderL0E : Shp := ⟨[(1, .ptr 0), (4, .own 1)], [.cs 24 2 1 (.cons (.d true (.int .i64)) (.cons (.d false (.slice St4.ty)) .nil)), .arr 3 (.fz true) [0] (.int .i64)]⟩

def graph_OrderL1K {R : Type} (next_7 : (List (List Int))) (v_36 : Int) (v_37 : Int) (v_53 : (List Int)) (v_54 : Int) (out_8 : (List Int)) (v_55 : Int) (open_4 : (List Int)) (nx : (Int × (List Int)) → Option R) (dn : (List Int) → Option R) (rt : (Int × (List Int)) → Option R) : Option R :=
  bif decide (v_55 < v_54) then
    ckB (ix v_55 v_53.length) <|
    ckB (ix v_55 v_53.length) <|
    ckB (ix (v_53.getD (Int.toNat v_55) 0) open_4.length) <|
    ckB (ix (v_53.getD (Int.toNat v_55) 0) open_4.length) <|
    ckB (inR .i64 ((open_4.getD (Int.toNat (v_53.getD (Int.toNat v_55) 0)) 0) - 1)) <|
    ckB (ix (v_53.getD (Int.toNat v_55) 0) open_4.length) <|
    ckB (ix (v_53.getD (Int.toNat v_55) 0) open_4.length) <|
    ckB (inR .i64 (v_55 + 1)) <|
    nx ((v_55 + 1), (open_4.set (Int.toNat (v_53.getD (Int.toNat v_55) 0)) ((open_4.getD (Int.toNat (v_53.getD (Int.toNat v_55) 0)) 0) - 1)))
  else
    dn open_4

def graph_OrderL1 (next_7 : (List (List Int))) (v_36 : Int) (v_37 : Int) (v_53 : (List Int)) (v_54 : Int) (out_8 : (List Int)) (s0 : (Int × (List Int))) : Option ((List Int) ⊕ (Int × (List Int))) :=
  loopM (fun a => graph_OrderL1K next_7 v_36 v_37 v_53 v_54 out_8 a.1 a.2 (fun a' => some (.next a')) (fun e => some (.done e)) (fun r => some (.ret r))) s0

def graph_OrderL1I : Shp := ⟨[(4, .own 0), (7, .d true (.slice (.slice (.int .i64)))), (8, .own 1), (36, .d true (.int .i64)), (37, .d true (.int .i64)), (53, .d true (.slice (.int .i64))), (54, .d true (.int .i64)), (55, .d true (.int .i64))], [.arr 3 (.fz true) [0] (.int .i64), .arr 3 (.fz true) [0] (.int .i64)]⟩
def graph_OrderL1E : Shp := ⟨[(4, .own 0), (7, .d true (.slice (.slice (.int .i64)))), (8, .own 1), (36, .d true (.int .i64)), (37, .d true (.int .i64))], [.arr 3 (.fz true) [0] (.int .i64), .arr 3 (.fz true) [0] (.int .i64)]⟩

def graph_OrderL2K {R : Type} (next_7 : (List (List Int))) (v_36 : Int) (v_37 : Int) (open_4 : (List Int)) (out_8 : (List Int)) (nx : (Int × (List Int) × (List Int)) → Option R) (dn : (List Int) → Option R) (rt : (Int × (List Int)) → Option R) : Option R :=
  bif decide (v_37 < v_36) then
    bnd (slices_Index_int_int open_4 0) fun r4 =>
    bif decide (r4 < 0) then
      rt (16, [])
    else
      ckB (ix r4 open_4.length) <|
      ckB (ix r4 open_4.length) <|
      ckB (room (out_8.length + 1) 8) <|
      ckB (ix r4 next_7.length) <|
      ckB (ix r4 next_7.length) <|
      bnd (graph_OrderL1 next_7 v_36 v_37 (next_7.getD (Int.toNat r4) []) ((next_7.getD (Int.toNat r4) []).length : Int) (out_8 ++ [r4]) (0, (open_4.set (Int.toNat r4) (-1)))) fun oe5 =>
      lk oe5 (fun e5 =>
        ckB (inR .i64 (v_37 + 1)) <|
        nx ((v_37 + 1), e5, (out_8 ++ [r4]))) (fun r => rt r)
  else
    dn out_8

def graph_OrderL2 (next_7 : (List (List Int))) (v_36 : Int) (s0 : (Int × (List Int) × (List Int))) : Option ((List Int) ⊕ (Int × (List Int))) :=
  loopM (fun a => graph_OrderL2K next_7 v_36 a.1 a.2.1 a.2.2 (fun a' => some (.next a')) (fun e => some (.done e)) (fun r => some (.ret r))) s0

def graph_OrderL2I : Shp := ⟨[(4, .own 0), (7, .d true (.slice (.slice (.int .i64)))), (8, .own 1), (36, .d true (.int .i64)), (37, .d true (.int .i64))], [.arr 3 (.fz true) [0] (.int .i64), .arr 3 (.fz true) [0] (.int .i64)]⟩
def graph_OrderL2E : Shp := ⟨[(8, .own 0)], [.arr 3 (.fz true) [0] (.int .i64)]⟩

def graph_Order (g_0 : Graph) : Option (Int × (List Int)) :=
  bnd (graph_Valid g_0) fun r1 =>
  bif (!r1) then
    some (1, [])
  else
    ckB (mkOk g_0.1 g_0.1 8) <|
    bnd (graph_OrderL0 g_0.2.1 (g_0.2.1.length : Int) g_0.1 g_0.2.1 (0, (List.replicate (Int.toNat g_0.1) (0 : Int)))) fun oe2 =>
    lk oe2 (fun e2 =>
      bnd (graph_gathered g_0 false) fun r3 =>
      bnd (graph_OrderL2 r3 g_0.1 (0, e2, [])) fun oe6 =>
      lk oe6 (fun e6 =>
        some (0, e6)) (fun r => some r)) (fun r => some r)

/-! casebook/casebookref04.Same -/

def ref04_SameL0K {R : Type} (a_0 : (List (List Int))) (b_1 : (List (List Int))) (i_5 : Int) (k_6 : Int) (nx : Int → Option R) (dn : Unit → Option R) (rt : Bool → Option R) : Option R :=
  ckB (ix i_5 a_0.length) <|
  ckB (ix i_5 a_0.length) <|
  bif decide (k_6 < ((a_0.getD (Int.toNat i_5) []).length : Int)) then
    ckB (ix i_5 a_0.length) <|
    ckB (ix i_5 a_0.length) <|
    ckB (ix k_6 (a_0.getD (Int.toNat i_5) []).length) <|
    ckB (ix k_6 (a_0.getD (Int.toNat i_5) []).length) <|
    ckB (ix i_5 b_1.length) <|
    ckB (ix i_5 b_1.length) <|
    ckB (ix k_6 (b_1.getD (Int.toNat i_5) []).length) <|
    ckB (ix k_6 (b_1.getD (Int.toNat i_5) []).length) <|
    bif (!decide (((a_0.getD (Int.toNat i_5) []).getD (Int.toNat k_6) 0) = ((b_1.getD (Int.toNat i_5) []).getD (Int.toNat k_6) 0))) then
      rt false
    else
      ckB (inR .i64 (k_6 + 1)) <|
      nx (k_6 + 1)
  else
    dn ()

def ref04_SameL0 (a_0 : (List (List Int))) (b_1 : (List (List Int))) (i_5 : Int) (s0 : Int) : Option (Unit ⊕ Bool) :=
  loopM (fun a => ref04_SameL0K a_0 b_1 i_5 a (fun a' => some (.next a')) (fun e => some (.done e)) (fun r => some (.ret r))) s0

def ref04_SameL0I : Shp := ⟨[(0, .d false (.slice (.slice (.int .i64)))), (1, .d false (.slice (.slice (.int .i64)))), (5, .d true (.int .i64)), (6, .d true (.int .i64))], []⟩
def ref04_SameL0E : Shp := ⟨[(0, .d false (.slice (.slice (.int .i64)))), (1, .d false (.slice (.slice (.int .i64)))), (5, .d true (.int .i64))], []⟩

def ref04_SameL1K {R : Type} (a_0 : (List (List Int))) (b_1 : (List (List Int))) (i_5 : Int) (nx : Int → Option R) (dn : Unit → Option R) (rt : Bool → Option R) : Option R :=
  bif decide (i_5 < (a_0.length : Int)) then
    ckB (ix i_5 a_0.length) <|
    ckB (ix i_5 a_0.length) <|
    ckB (ix i_5 b_1.length) <|
    ckB (ix i_5 b_1.length) <|
    bif (!decide (((a_0.getD (Int.toNat i_5) []).length : Int) = ((b_1.getD (Int.toNat i_5) []).length : Int))) then
      rt false
    else
      bnd (ref04_SameL0 a_0 b_1 i_5 0) fun oe1 =>
      lk oe1 (fun e1 =>
        ckB (inR .i64 (i_5 + 1)) <|
        nx (i_5 + 1)) (fun r => rt r)
  else
    dn ()

def ref04_SameL1 (a_0 : (List (List Int))) (b_1 : (List (List Int))) (s0 : Int) : Option (Unit ⊕ Bool) :=
  loopM (fun a => ref04_SameL1K a_0 b_1 a (fun a' => some (.next a')) (fun e => some (.done e)) (fun r => some (.ret r))) s0

def ref04_SameL1I : Shp := ⟨[(0, .d false (.slice (.slice (.int .i64)))), (1, .d false (.slice (.slice (.int .i64)))), (5, .d true (.int .i64))], []⟩
def ref04_SameL1E : Shp := ⟨[], []⟩

def ref04_Same (a_0 : (List (List Int))) (b_1 : (List (List Int))) : Option Bool :=
  bif (!decide ((a_0.length : Int) = (b_1.length : Int))) then
    some false
  else
    bnd (ref04_SameL1 a_0 b_1 0) fun oe2 =>
    lk oe2 (fun e2 =>
      some true) (fun r => some r)

/-! slices.Equal[[]int,int] -/

def slices_Equal_int_intL0K {R : Type} (s1_0 : (List Int)) (s2_1 : (List Int)) (v_12 : Int) (v_13 : Int) (nx : Int → Option R) (dn : Unit → Option R) (rt : Bool → Option R) : Option R :=
  bif decide (v_13 < v_12) then
    ckB (ix v_13 s1_0.length) <|
    ckB (ix v_13 s1_0.length) <|
    ckB (ix v_13 s2_1.length) <|
    ckB (ix v_13 s2_1.length) <|
    bif (!decide ((s1_0.getD (Int.toNat v_13) 0) = (s2_1.getD (Int.toNat v_13) 0))) then
      rt false
    else
      ckB (inR .i64 (v_13 + 1)) <|
      nx (v_13 + 1)
  else
    dn ()

def slices_Equal_int_intL0 (s1_0 : (List Int)) (s2_1 : (List Int)) (v_12 : Int) (s0 : Int) : Option (Unit ⊕ Bool) :=
  loopM (fun a => slices_Equal_int_intL0K s1_0 s2_1 v_12 a (fun a' => some (.next a')) (fun e => some (.done e)) (fun r => some (.ret r))) s0

def slices_Equal_int_intL0I : Shp := ⟨[(0, .d false (.slice (.int .i64))), (1, .d false (.slice (.int .i64))), (12, .d true (.int .i64)), (13, .d true (.int .i64))], []⟩
def slices_Equal_int_intL0E : Shp := ⟨[], []⟩

def slices_Equal_int_int (s1_0 : (List Int)) (s2_1 : (List Int)) : Option Bool :=
  bif (!decide ((s1_0.length : Int) = (s2_1.length : Int))) then
    some false
  else
    bnd (slices_Equal_int_intL0 s1_0 s2_1 (s1_0.length : Int) 0) fun oe1 =>
    lk oe1 (fun e1 =>
      some true) (fun r => some r)

/-! casebook/casebooklaw04.awake -/

def law04_awake  : Option Bool :=
  bnd (graph_Strong (4, [(0, 1, ()), (1, 2, ()), (2, 1, ()), (3, 2, ())], ())) fun r1 =>
  bnd (graph_Path (4, [(0, 1, ()), (1, 2, ()), (2, 1, ()), (3, 2, ())], ()) 0 2) fun r2 =>
  bnd (graph_Order (4, [(0, 1, ()), (1, 2, ()), (2, 1, ()), (3, 2, ())], ())) fun r3 =>
  bnd (ref04_Same r1.2 [[0], [3], [1, 2]]) fun r4 =>
  bif r4 then
    bif decide (r1.1 = 0) then
      bnd (slices_Equal_int_int r2.2 [0, 1, 2]) fun r5 =>
      bif r5 then
        bif decide (r2.1 = 0) then
          some (decide (r3.1 = 16))
        else
          some false
      else
        some false
    else
      some false
  else
    some false

/-! casebook/casebooklaw04.small -/

def law04_small (g_0 : Graph) : Option Bool :=
  bif decide (g_0.1 ≤ 12) then
    some (decide ((g_0.2.1.length : Int) ≤ 40))
  else
    bif decide ((1000 : Int) < g_0.1) then
      some (decide ((g_0.2.1.length : Int) ≤ 40))
    else
      some false

/-! casebook/casebookref04.Vertex -/

def ref04_Vertex (g_0 : Graph) (n_1 : Int) : Option Bool :=
  bif decide ((0 : Int) ≤ n_1) then
    some (decide (n_1 < g_0.1))
  else
    some false

/-! casebook/casebookref04.Valid -/

def ref04_ValidL0K {R : Type} (g_10 : Int) (g_11 : (List St4)) (i_3 : Int) (nx : Int → Option R) (dn : Unit → Option R) (rt : Bool → Option R) : Option R :=
  bif decide (i_3 < (g_11.length : Int)) then
    ckB (ix i_3 g_11.length) <|
    ckB (ix i_3 g_11.length) <|
    bnd (ref04_Vertex (g_10, g_11, ()) (g_11.getD (Int.toNat i_3) St4.z).1) fun r1 =>
    bif (!r1) then
      rt false
    else
      ckB (ix i_3 g_11.length) <|
      ckB (ix i_3 g_11.length) <|
      bnd (ref04_Vertex (g_10, g_11, ()) (g_11.getD (Int.toNat i_3) St4.z).2.1) fun r2 =>
      bif (!r2) then
        rt false
      else
        ckB (inR .i64 (i_3 + 1)) <|
        nx (i_3 + 1)
  else
    dn ()

def ref04_ValidL0 (g_10 : Int) (g_11 : (List St4)) (s0 : Int) : Option (Unit ⊕ Bool) :=
  loopM (fun a => ref04_ValidL0K g_10 g_11 a (fun a' => some (.next a')) (fun e => some (.done e)) (fun r => some (.ret r))) s0

def ref04_ValidL0I : Shp := ⟨[(1, .ptr 0), (3, .d true (.int .i64))], [.cs 24 2 1 (.cons (.d true (.int .i64)) (.cons (.d false (.slice St4.ty)) .nil))]⟩
def ref04_ValidL0E : Shp := ⟨[], []⟩

def ref04_Valid (g_0 : Graph) : Option Bool :=
  bif decide (g_0.1 < 0) then
    some false
  else
    bif decide ((1000 : Int) < g_0.1) then
      some false
    else
      bif decide ((20000 : Int) < (g_0.2.1.length : Int)) then
        some false
      else
        bnd (ref04_ValidL0 g_0.1 g_0.2.1 0) fun oe3 =>
        lk oe3 (fun e3 =>
          some true) (fun r => some r)

/-! casebook/casebookref04.free -/

def ref04_freeL0K {R : Type} (n_1 : Int) (taken_2 : (List Bool)) (g_30 : Int) (g_31 : (List St4)) (i_7 : Int) (nx : Int → Option R) (dn : Unit → Option R) (rt : Bool → Option R) : Option R :=
  bif decide (i_7 < (g_31.length : Int)) then
    ckB (ix i_7 g_31.length) <|
    ckB (ix i_7 g_31.length) <|
    bif decide ((g_31.getD (Int.toNat i_7) St4.z).2.1 = n_1) then
      ckB (ix i_7 g_31.length) <|
      ckB (ix i_7 g_31.length) <|
      ckB (ix (g_31.getD (Int.toNat i_7) St4.z).1 taken_2.length) <|
      ckB (ix (g_31.getD (Int.toNat i_7) St4.z).1 taken_2.length) <|
      bif (!(taken_2.getD (Int.toNat (g_31.getD (Int.toNat i_7) St4.z).1) false)) then
        rt false
      else
        ckB (inR .i64 (i_7 + 1)) <|
        nx (i_7 + 1)
    else
      ckB (inR .i64 (i_7 + 1)) <|
      nx (i_7 + 1)
  else
    dn ()

def ref04_freeL0 (n_1 : Int) (taken_2 : (List Bool)) (g_30 : Int) (g_31 : (List St4)) (s0 : Int) : Option (Unit ⊕ Bool) :=
  loopM (fun a => ref04_freeL0K n_1 taken_2 g_30 g_31 a (fun a' => some (.next a')) (fun e => some (.done e)) (fun r => some (.ret r))) s0

def ref04_freeL0I : Shp := ⟨[(1, .d true (.int .i64)), (2, .d false (.slice .bool)), (3, .ptr 0), (7, .d true (.int .i64))], [.cs 24 2 1 (.cons (.d true (.int .i64)) (.cons (.d false (.slice St4.ty)) .nil))]⟩
def ref04_freeL0E : Shp := ⟨[], []⟩

def ref04_free (g_0 : Graph) (n_1 : Int) (taken_2 : (List Bool)) : Option Bool :=
  bnd (ref04_freeL0 n_1 taken_2 g_0.1 g_0.2.1 0) fun oe1 =>
  lk oe1 (fun e1 =>
    some true) (fun r => some r)

/-! casebook/casebookref04.Order -/

def ref04_OrderL0K {R : Type} (g_10 : Int) (g_11 : (List St4)) (again_6 : Bool) (i_7 : Int) (out_4 : (List Int)) (taken_5 : (List Bool)) (nx : (Bool × Int × (List Int) × (List Bool)) → Option R) (dn : (Bool × (List Int) × (List Bool)) → Option R) (rt : (Bool × (List Int)) → Option R) : Option R :=
  bif decide (i_7 < g_10) then
    bif (!again_6) then
      ckB (ix i_7 taken_5.length) <|
      ckB (ix i_7 taken_5.length) <|
      bif (!(taken_5.getD (Int.toNat i_7) false)) then
        bnd (ref04_free (g_10, g_11, ()) i_7 taken_5) fun r1 =>
        bif r1 then
          ckB (room (out_4.length + 1) 8) <|
          ckB (ix i_7 taken_5.length) <|
          ckB (ix i_7 taken_5.length) <|
          ckB (inR .i64 (i_7 + 1)) <|
          nx (true, (i_7 + 1), (out_4 ++ [i_7]), (taken_5.set (Int.toNat i_7) true))
        else
          ckB (inR .i64 (i_7 + 1)) <|
          nx (again_6, (i_7 + 1), out_4, taken_5)
      else
        ckB (inR .i64 (i_7 + 1)) <|
        nx (again_6, (i_7 + 1), out_4, taken_5)
    else
      dn (again_6, out_4, taken_5)
  else
    dn (again_6, out_4, taken_5)

def ref04_OrderL0 (g_10 : Int) (g_11 : (List St4)) (s0 : (Bool × Int × (List Int) × (List Bool))) : Option ((Bool × (List Int) × (List Bool)) ⊕ (Bool × (List Int))) :=
  loopM (fun a => ref04_OrderL0K g_10 g_11 a.1 a.2.1 a.2.2.1 a.2.2.2 (fun a' => some (.next a')) (fun e => some (.done e)) (fun r => some (.ret r))) s0

def ref04_OrderL0I : Shp := ⟨[(1, .ptr 0), (4, .own 1), (5, .own 2), (6, .d true .bool), (7, .d true (.int .i64))], [.cs 24 2 1 (.cons (.d true (.int .i64)) (.cons (.d false (.slice St4.ty)) .nil)), .arr 3 (.fz true) [0] (.int .i64), .arr 4 (.fz true) [0] .bool]⟩
def ref04_OrderL0E : Shp := ⟨[(1, .ptr 0), (4, .own 1), (5, .own 2), (6, .d true .bool)], [.cs 24 2 1 (.cons (.d true (.int .i64)) (.cons (.d false (.slice St4.ty)) .nil)), .arr 3 (.fz true) [0] (.int .i64), .arr 4 (.fz true) [0] .bool]⟩

def ref04_OrderL1K {R : Type} (g_10 : Int) (g_11 : (List St4)) (again_6 : Bool) (out_4 : (List Int)) (taken_5 : (List Bool)) (nx : (Bool × (List Int) × (List Bool)) → Option R) (dn : (List Int) → Option R) (rt : (Bool × (List Int)) → Option R) : Option R :=
  bif again_6 then
    bnd (ref04_OrderL0 g_10 g_11 (false, 0, out_4, taken_5)) fun oe2 =>
    lk oe2 (fun e2 =>
      nx (e2.1, e2.2.1, e2.2.2)) (fun r => rt r)
  else
    dn out_4

def ref04_OrderL1 (g_10 : Int) (g_11 : (List St4)) (s0 : (Bool × (List Int) × (List Bool))) : Option ((List Int) ⊕ (Bool × (List Int))) :=
  loopM (fun a => ref04_OrderL1K g_10 g_11 a.1 a.2.1 a.2.2 (fun a' => some (.next a')) (fun e => some (.done e)) (fun r => some (.ret r))) s0

def ref04_OrderL1I : Shp := ⟨[(1, .ptr 0), (4, .own 1), (5, .own 2), (6, .d true .bool)], [.cs 24 2 1 (.cons (.d true (.int .i64)) (.cons (.d false (.slice St4.ty)) .nil)), .arr 3 (.fz true) [0] (.int .i64), .arr 4 (.fz true) [0] .bool]⟩
def ref04_OrderL1E : Shp := ⟨[(1, .ptr 0), (4, .own 1)], [.cs 24 2 1 (.cons (.d true (.int .i64)) (.cons (.d false (.slice St4.ty)) .nil)), .arr 3 (.fz true) [0] (.int .i64)]⟩

def ref04_Order (g_0 : Graph) : Option (Bool × (List Int)) :=
  ckB (mkOk g_0.1 g_0.1 1) <|
  bnd (ref04_OrderL1 g_0.1 g_0.2.1 (true, [], (List.replicate (Int.toNat g_0.1) (false : Bool)))) fun oe3 =>
  lk oe3 (fun e3 =>
    some (decide ((e3.length : Int) = g_0.1), e3)) (fun r => some r)

/-! casebook/casebooklaw04.GraphOrders -/

def law04_GraphOrders (g_0 : Graph) : Option Bool :=
  bnd (law04_awake) fun r1 =>
  bif (!r1) then
    bnd (law04_awake) fun r2 =>
    some r2
  else
    bnd (law04_small g_0) fun r3 =>
    bif (!r3) then
      bnd (law04_awake) fun r4 =>
      some r4
    else
      bnd (graph_Order g_0) fun r5 =>
      bnd (ref04_Valid g_0) fun r6 =>
      bif (!r6) then
        bif decide ((r5.2.length : Int) = 0) then
          some (decide (r5.1 = 1))
        else
          some false
      else
        bnd (ref04_Order g_0) fun r7 =>
        bif (!r7.1) then
          bif decide ((r5.2.length : Int) = 0) then
            some (decide (r5.1 = 16))
          else
            some false
        else
          bnd (slices_Equal_int_int r5.2 r7.2) fun r8 =>
          bif r8 then
            some (decide (r5.1 = 0))
          else
            some false

/-! casebook/graph.Reverse -/

def graph_Reverse (g_0 : Graph) : Option (Graph × Int) :=
  bnd (graph_Valid g_0) fun r1 =>
  bif (!r1) then
    some ((0, [], ()), 1)
  else
    bnd (graph_reversed g_0) fun r2 =>
    some (r2, 0)

/-! casebook/casebookref04.Reverse -/

def ref04_ReverseL0K {R : Type} (g_10 : Int) (g_11 : (List St4)) (v_20 : Int) (v_21 : (List St4)) (out_30 : Int) (i_4 : Int) (out_31 : (List St4)) (nx : (Int × (List St4)) → Option R) (dn : (List St4) → Option R) (rt : Graph → Option R) : Option R :=
  bif decide (i_4 < (g_11.length : Int)) then
    ckB (ix i_4 g_11.length) <|
    ckB (ix i_4 g_11.length) <|
    ckB (ix i_4 g_11.length) <|
    ckB (ix i_4 g_11.length) <|
    ckB (room (out_31.length + 1) 16) <|
    ckB (inR .i64 (i_4 + 1)) <|
    nx ((i_4 + 1), (out_31 ++ [((g_11.getD (Int.toNat i_4) St4.z).2.1, (g_11.getD (Int.toNat i_4) St4.z).1, ())]))
  else
    dn out_31

def ref04_ReverseL0 (g_10 : Int) (g_11 : (List St4)) (v_20 : Int) (v_21 : (List St4)) (out_30 : Int) (s0 : (Int × (List St4))) : Option ((List St4) ⊕ Graph) :=
  loopM (fun a => ref04_ReverseL0K g_10 g_11 v_20 v_21 out_30 a.1 a.2 (fun a' => some (.next a')) (fun e => some (.done e)) (fun r => some (.ret r))) s0

def ref04_ReverseL0I : Shp := ⟨[(1, .ptr 0), (2, .ptr 1), (3, .ptr 2), (4, .d true (.int .i64))], [.cs 24 2 1 (.cons (.d true (.int .i64)) (.cons (.d false (.slice St4.ty)) .nil)), .cs 24 2 1 (.cons (.d true (.int .i64)) (.cons (.d true (.slice St4.ty)) .nil)), .cs 24 2 1 (.cons (.d true (.int .i64)) (.cons (.own 3) .nil)), .arr 37 (.fz true) [0, 0] St4.ty]⟩
def ref04_ReverseL0E : Shp := ⟨[(2, .ptr 0), (3, .ptr 1)], [.cs 24 2 1 (.cons (.d true (.int .i64)) (.cons (.d true (.slice St4.ty)) .nil)), .cs 24 2 1 (.cons (.d true (.int .i64)) (.cons (.own 2) .nil)), .arr 37 (.fz true) [0, 0] St4.ty]⟩

def ref04_Reverse (g_0 : Graph) : Option Graph :=
  bnd (ref04_ReverseL0 g_0.1 g_0.2.1 0 [] g_0.1 (0, [])) fun oe1 =>
  lk oe1 (fun e1 =>
    some (g_0.1, e1, ())) (fun r => some r)

/-! slices.Equal[[][2]int,[2]int] -/

def slices_Equal_2_int_2_intL0K {R : Type} (s1_0 : (List St4)) (s2_1 : (List St4)) (v_12 : Int) (v_13 : Int) (nx : Int → Option R) (dn : Unit → Option R) (rt : Bool → Option R) : Option R :=
  bif decide (v_13 < v_12) then
    ckB (ix v_13 s1_0.length) <|
    ckB (ix v_13 s1_0.length) <|
    ckB (ix v_13 s2_1.length) <|
    ckB (ix v_13 s2_1.length) <|
    bif (!(decide ((s1_0.getD (Int.toNat v_13) St4.z).1 = (s2_1.getD (Int.toNat v_13) St4.z).1) && (decide ((s1_0.getD (Int.toNat v_13) St4.z).2.1 = (s2_1.getD (Int.toNat v_13) St4.z).2.1) && true))) then
      rt false
    else
      ckB (inR .i64 (v_13 + 1)) <|
      nx (v_13 + 1)
  else
    dn ()

def slices_Equal_2_int_2_intL0 (s1_0 : (List St4)) (s2_1 : (List St4)) (v_12 : Int) (s0 : Int) : Option (Unit ⊕ Bool) :=
  loopM (fun a => slices_Equal_2_int_2_intL0K s1_0 s2_1 v_12 a (fun a' => some (.next a')) (fun e => some (.done e)) (fun r => some (.ret r))) s0

def slices_Equal_2_int_2_intL0I : Shp := ⟨[(0, .d false (.slice St4.ty)), (1, .d false (.slice St4.ty)), (12, .d true (.int .i64)), (13, .d true (.int .i64))], []⟩
def slices_Equal_2_int_2_intL0E : Shp := ⟨[], []⟩

def slices_Equal_2_int_2_int (s1_0 : (List St4)) (s2_1 : (List St4)) : Option Bool :=
  bif (!decide ((s1_0.length : Int) = (s2_1.length : Int))) then
    some false
  else
    bnd (slices_Equal_2_int_2_intL0 s1_0 s2_1 (s1_0.length : Int) 0) fun oe1 =>
    lk oe1 (fun e1 =>
      some true) (fun r => some r)

/-! casebook/casebooklaw04.GraphForms -/

def law04_GraphForms (g_0 : Graph) : Option Bool :=
  bnd (law04_awake) fun r1 =>
  bif (!r1) then
    bnd (law04_awake) fun r2 =>
    some r2
  else
    bnd (law04_small g_0) fun r3 =>
    bif (!r3) then
      bnd (law04_awake) fun r4 =>
      some r4
    else
      bnd (ref04_Valid g_0) fun r5 =>
      bnd (graph_Reverse g_0) fun r6 =>
      bnd (graph_Valid g_0) fun r7 =>
      bif (!(r7 == r5)) then
        some false
      else
        bif (!r5) then
          bif decide (r6.1.1 = 0) then
            bif decide ((r6.1.2.1.length : Int) = 0) then
              some (decide (r6.2 = 1))
            else
              some false
          else
            some false
        else
          bif decide (r6.1.1 = g_0.1) then
            bnd (ref04_Reverse g_0) fun r8 =>
            bnd (slices_Equal_2_int_2_int r6.1.2.1 r8.2.1) fun r9 =>
            bif r9 then
              some (decide (r6.2 = 0))
            else
              some false
          else
            some false

/-! casebook/graph.Between -/

def graph_BetweenL0K {R : Type} (front_8 : (List Int)) (back_9 : (List Int)) (v_37 : Int) (v_38 : Int) (out_10 : (List Int)) (nx : (Int × (List Int)) → Option R) (dn : (List Int) → Option R) (rt : (Int × (List Int)) → Option R) : Option R :=
  bif decide (v_38 < v_37) then
    ckB (ix v_38 front_8.length) <|
    ckB (ix v_38 front_8.length) <|
    bif decide ((0 : Int) ≤ (front_8.getD (Int.toNat v_38) 0)) then
      ckB (ix v_38 back_9.length) <|
      ckB (ix v_38 back_9.length) <|
      bif decide ((0 : Int) ≤ (back_9.getD (Int.toNat v_38) 0)) then
        ckB (room (out_10.length + 1) 8) <|
        ckB (inR .i64 (v_38 + 1)) <|
        nx ((v_38 + 1), (out_10 ++ [v_38]))
      else
        ckB (inR .i64 (v_38 + 1)) <|
        nx ((v_38 + 1), out_10)
    else
      ckB (inR .i64 (v_38 + 1)) <|
      nx ((v_38 + 1), out_10)
  else
    dn out_10

def graph_BetweenL0 (front_8 : (List Int)) (back_9 : (List Int)) (v_37 : Int) (s0 : (Int × (List Int))) : Option ((List Int) ⊕ (Int × (List Int))) :=
  loopM (fun a => graph_BetweenL0K front_8 back_9 v_37 a.1 a.2 (fun a' => some (.next a')) (fun e => some (.done e)) (fun r => some (.ret r))) s0

def graph_BetweenL0I : Shp := ⟨[(8, .d true (.slice (.int .i64))), (9, .d true (.slice (.int .i64))), (10, .own 0), (37, .d true (.int .i64)), (38, .d true (.int .i64))], [.arr 3 (.fz true) [0] (.int .i64)]⟩
def graph_BetweenL0E : Shp := ⟨[(10, .own 0)], [.arr 3 (.fz true) [0] (.int .i64)]⟩

def graph_Between (g_0 : Graph) (a_1 : Int) (b_2 : Int) : Option (Int × (List Int)) :=
  bnd (graph_Valid g_0) fun r1 =>
  bif (!r1) then
    some (1, [])
  else
    bnd (graph_vertex g_0 a_1) fun r2 =>
    bif (!r2) then
      some (2, [])
    else
      bnd (graph_vertex g_0 b_2) fun r3 =>
      bif (!r3) then
        some (2, [])
      else
        bnd (graph_gathered g_0 false) fun r4 =>
        bnd (graph_reached r4 [a_1]) fun r5 =>
        bnd (graph_reversed g_0) fun r6 =>
        bnd (graph_gathered r6 false) fun r7 =>
        bnd (graph_reached r7 [b_2]) fun r8 =>
        bnd (graph_BetweenL0 r5 r8 g_0.1 (0, [])) fun oe9 =>
        lk oe9 (fun e9 =>
          some (0, e9)) (fun r => some r)

/-! casebook/casebookref04.one -/

def ref04_one (g_0 : Graph) (n_1 : Int) : Option (List Bool) :=
  ckB (mkOk g_0.1 g_0.1 1) <|
  ckB (ix n_1 (List.replicate (Int.toNat g_0.1) (false : Bool)).length) <|
  ckB (ix n_1 (List.replicate (Int.toNat g_0.1) (false : Bool)).length) <|
  some ((List.replicate (Int.toNat g_0.1) (false : Bool)).set (Int.toNat n_1) true)

/-! casebook/casebookref04.Marks -/

def ref04_MarksL0K {R : Type} (g_20 : Int) (g_21 : (List St4)) (again_6 : Bool) (i_7 : Int) (out_5 : (List Bool)) (nx : (Bool × Int × (List Bool)) → Option R) (dn : (Bool × (List Bool)) → Option R) (rt : (List Bool) → Option R) : Option R :=
  bif decide (i_7 < (g_21.length : Int)) then
    ckB (ix i_7 g_21.length) <|
    ckB (ix i_7 g_21.length) <|
    ckB (ix (g_21.getD (Int.toNat i_7) St4.z).1 out_5.length) <|
    ckB (ix (g_21.getD (Int.toNat i_7) St4.z).1 out_5.length) <|
    bif (out_5.getD (Int.toNat (g_21.getD (Int.toNat i_7) St4.z).1) false) then
      ckB (ix i_7 g_21.length) <|
      ckB (ix i_7 g_21.length) <|
      ckB (ix (g_21.getD (Int.toNat i_7) St4.z).2.1 out_5.length) <|
      ckB (ix (g_21.getD (Int.toNat i_7) St4.z).2.1 out_5.length) <|
      bif (!(out_5.getD (Int.toNat (g_21.getD (Int.toNat i_7) St4.z).2.1) false)) then
        ckB (ix i_7 g_21.length) <|
        ckB (ix i_7 g_21.length) <|
        ckB (ix (g_21.getD (Int.toNat i_7) St4.z).2.1 out_5.length) <|
        ckB (ix (g_21.getD (Int.toNat i_7) St4.z).2.1 out_5.length) <|
        ckB (inR .i64 (i_7 + 1)) <|
        nx (true, (i_7 + 1), (out_5.set (Int.toNat (g_21.getD (Int.toNat i_7) St4.z).2.1) true))
      else
        ckB (inR .i64 (i_7 + 1)) <|
        nx (again_6, (i_7 + 1), out_5)
    else
      ckB (inR .i64 (i_7 + 1)) <|
      nx (again_6, (i_7 + 1), out_5)
  else
    dn (again_6, out_5)

def ref04_MarksL0 (g_20 : Int) (g_21 : (List St4)) (s0 : (Bool × Int × (List Bool))) : Option ((Bool × (List Bool)) ⊕ (List Bool)) :=
  loopM (fun a => ref04_MarksL0K g_20 g_21 a.1 a.2.1 a.2.2 (fun a' => some (.next a')) (fun e => some (.done e)) (fun r => some (.ret r))) s0

def ref04_MarksL0I : Shp := ⟨[(2, .ptr 0), (5, .own 1), (6, .d true .bool), (7, .d true (.int .i64))], [.cs 24 2 1 (.cons (.d true (.int .i64)) (.cons (.d false (.slice St4.ty)) .nil)), .arr 4 (.fz true) [0] .bool]⟩
def ref04_MarksL0E : Shp := ⟨[(2, .ptr 0), (5, .own 1), (6, .d true .bool)], [.cs 24 2 1 (.cons (.d true (.int .i64)) (.cons (.d false (.slice St4.ty)) .nil)), .arr 4 (.fz true) [0] .bool]⟩

def ref04_MarksL1K {R : Type} (g_20 : Int) (g_21 : (List St4)) (again_6 : Bool) (out_5 : (List Bool)) (nx : (Bool × (List Bool)) → Option R) (dn : (List Bool) → Option R) (rt : (List Bool) → Option R) : Option R :=
  bif again_6 then
    bnd (ref04_MarksL0 g_20 g_21 (false, 0, out_5)) fun oe1 =>
    lk oe1 (fun e1 =>
      nx (e1.1, e1.2)) (fun r => rt r)
  else
    dn out_5

def ref04_MarksL1 (g_20 : Int) (g_21 : (List St4)) (s0 : (Bool × (List Bool))) : Option ((List Bool) ⊕ (List Bool)) :=
  loopM (fun a => ref04_MarksL1K g_20 g_21 a.1 a.2 (fun a' => some (.next a')) (fun e => some (.done e)) (fun r => some (.ret r))) s0

def ref04_MarksL1I : Shp := ⟨[(2, .ptr 0), (5, .own 1), (6, .d true .bool)], [.cs 24 2 1 (.cons (.d true (.int .i64)) (.cons (.d false (.slice St4.ty)) .nil)), .arr 4 (.fz true) [0] .bool]⟩
def ref04_MarksL1E : Shp := ⟨[(5, .own 0)], [.arr 4 (.fz true) [0] .bool]⟩

def ref04_Marks (g_0 : Graph) (from_1 : (List Bool)) : Option (List Bool) :=
  ckB (room (0 + from_1.length) 1) <|
  bnd (ref04_MarksL1 g_0.1 g_0.2.1 (true, ([] ++ from_1))) fun oe2 =>
  lk oe2 (fun e2 =>
    some e2) (fun r => some r)

/-! casebook/casebookref04.list -/

def ref04_listL0K {R : Type} (l_0 : (List Bool)) (i_4 : Int) (out_3 : (List Int)) (nx : (Int × (List Int)) → Option R) (dn : (List Int) → Option R) (rt : (List Int) → Option R) : Option R :=
  bif decide (i_4 < (l_0.length : Int)) then
    ckB (ix i_4 l_0.length) <|
    ckB (ix i_4 l_0.length) <|
    bif (l_0.getD (Int.toNat i_4) false) then
      ckB (room (out_3.length + 1) 8) <|
      ckB (inR .i64 (i_4 + 1)) <|
      nx ((i_4 + 1), (out_3 ++ [i_4]))
    else
      ckB (inR .i64 (i_4 + 1)) <|
      nx ((i_4 + 1), out_3)
  else
    dn out_3

def ref04_listL0 (l_0 : (List Bool)) (s0 : (Int × (List Int))) : Option ((List Int) ⊕ (List Int)) :=
  loopM (fun a => ref04_listL0K l_0 a.1 a.2 (fun a' => some (.next a')) (fun e => some (.done e)) (fun r => some (.ret r))) s0

def ref04_listL0I : Shp := ⟨[(0, .d false (.slice .bool)), (3, .own 0), (4, .d true (.int .i64))], [.arr 3 (.fz true) [0] (.int .i64)]⟩
def ref04_listL0E : Shp := ⟨[(3, .own 0)], [.arr 3 (.fz true) [0] (.int .i64)]⟩

def ref04_list (l_0 : (List Bool)) : Option (List Int) :=
  bnd (ref04_listL0 l_0 (0, [])) fun oe1 =>
  lk oe1 (fun e1 =>
    some e1) (fun r => some r)

/-! casebook/casebookref04.Between -/

def ref04_BetweenL0K {R : Type} (from_8 : (List Bool)) (g_30 : Int) (g_31 : (List St4)) (i_9 : Int) (to_7 : (List Bool)) (nx : (Int × (List Bool)) → Option R) (dn : (List Bool) → Option R) (rt : (List Int) → Option R) : Option R :=
  bif decide (i_9 < g_30) then
    ckB (ix i_9 to_7.length) <|
    ckB (ix i_9 to_7.length) <|
    bif (to_7.getD (Int.toNat i_9) false) then
      ckB (ix i_9 from_8.length) <|
      ckB (ix i_9 from_8.length) <|
      ckB (ix i_9 to_7.length) <|
      ckB (ix i_9 to_7.length) <|
      ckB (inR .i64 (i_9 + 1)) <|
      nx ((i_9 + 1), (to_7.set (Int.toNat i_9) (from_8.getD (Int.toNat i_9) false)))
    else
      ckB (ix i_9 to_7.length) <|
      ckB (ix i_9 to_7.length) <|
      ckB (inR .i64 (i_9 + 1)) <|
      nx ((i_9 + 1), (to_7.set (Int.toNat i_9) false))
  else
    dn to_7

def ref04_BetweenL0 (from_8 : (List Bool)) (g_30 : Int) (g_31 : (List St4)) (s0 : (Int × (List Bool))) : Option ((List Bool) ⊕ (List Int)) :=
  loopM (fun a => ref04_BetweenL0K from_8 g_30 g_31 a.1 a.2 (fun a' => some (.next a')) (fun e => some (.done e)) (fun r => some (.ret r))) s0

def ref04_BetweenL0I : Shp := ⟨[(3, .ptr 0), (7, .own 1), (8, .d true (.slice .bool)), (9, .d true (.int .i64))], [.cs 24 2 1 (.cons (.d true (.int .i64)) (.cons (.d false (.slice St4.ty)) .nil)), .arr 4 (.fz true) [0] .bool]⟩
def ref04_BetweenL0E : Shp := ⟨[(7, .own 0)], [.arr 4 (.fz true) [0] .bool]⟩

def ref04_Between (g_0 : Graph) (a_1 : Int) (b_2 : Int) : Option (List Int) :=
  bnd (ref04_one g_0 a_1) fun r1 =>
  bnd (ref04_Marks g_0 r1) fun r2 =>
  bnd (ref04_Reverse g_0) fun r3 =>
  bnd (ref04_one g_0 b_2) fun r4 =>
  bnd (ref04_Marks r3 r4) fun r5 =>
  bnd (ref04_BetweenL0 r5 g_0.1 g_0.2.1 (0, r2)) fun oe6 =>
  lk oe6 (fun e6 =>
    bnd (ref04_list e6) fun r7 =>
    some r7) (fun r => some r)

/-! casebook/casebookref04.Path -/

def ref04_PathL0K {R : Type} (a_1 : Int) (b_2 : Int) (g_30 : Int) (g_31 : (List St4)) (i_9 : Int) (far_8 : (List Int)) (nx : (Int × (List Int)) → Option R) (dn : (List Int) → Option R) (rt : (Bool × (List Int)) → Option R) : Option R :=
  bif decide (i_9 < g_30) then
    ckB (ix i_9 far_8.length) <|
    ckB (ix i_9 far_8.length) <|
    ckB (inR .i64 (i_9 + 1)) <|
    nx ((i_9 + 1), (far_8.set (Int.toNat i_9) g_30))
  else
    dn far_8

def ref04_PathL0 (a_1 : Int) (b_2 : Int) (g_30 : Int) (g_31 : (List St4)) (s0 : (Int × (List Int))) : Option ((List Int) ⊕ (Bool × (List Int))) :=
  loopM (fun a => ref04_PathL0K a_1 b_2 g_30 g_31 a.1 a.2 (fun a' => some (.next a')) (fun e => some (.done e)) (fun r => some (.ret r))) s0

def ref04_PathL0I : Shp := ⟨[(1, .d true (.int .i64)), (2, .d true (.int .i64)), (3, .ptr 0), (8, .own 1), (9, .d true (.int .i64))], [.cs 24 2 1 (.cons (.d true (.int .i64)) (.cons (.d false (.slice St4.ty)) .nil)), .arr 3 (.fz true) [0] (.int .i64)]⟩
def ref04_PathL0E : Shp := ⟨[(1, .d true (.int .i64)), (2, .d true (.int .i64)), (3, .ptr 0), (8, .own 1)], [.cs 24 2 1 (.cons (.d true (.int .i64)) (.cons (.d false (.slice St4.ty)) .nil)), .arr 3 (.fz true) [0] (.int .i64)]⟩

def ref04_PathL1K {R : Type} (a_1 : Int) (b_2 : Int) (g_30 : Int) (g_31 : (List St4)) (again_10 : Bool) (i_11 : Int) (far_8 : (List Int)) (nx : (Bool × Int × (List Int)) → Option R) (dn : (Bool × (List Int)) → Option R) (rt : (Bool × (List Int)) → Option R) : Option R :=
  bif decide (i_11 < (g_31.length : Int)) then
    ckB (ix i_11 g_31.length) <|
    ckB (ix i_11 g_31.length) <|
    ckB (ix i_11 g_31.length) <|
    ckB (ix i_11 g_31.length) <|
    ckB (ix (g_31.getD (Int.toNat i_11) St4.z).2.1 far_8.length) <|
    ckB (ix (g_31.getD (Int.toNat i_11) St4.z).2.1 far_8.length) <|
    ckB (inR .i64 ((far_8.getD (Int.toNat (g_31.getD (Int.toNat i_11) St4.z).2.1) 0) + 1)) <|
    ckB (ix (g_31.getD (Int.toNat i_11) St4.z).1 far_8.length) <|
    ckB (ix (g_31.getD (Int.toNat i_11) St4.z).1 far_8.length) <|
    bif decide (((far_8.getD (Int.toNat (g_31.getD (Int.toNat i_11) St4.z).2.1) 0) + 1) < (far_8.getD (Int.toNat (g_31.getD (Int.toNat i_11) St4.z).1) 0)) then
      ckB (ix (g_31.getD (Int.toNat i_11) St4.z).2.1 far_8.length) <|
      ckB (ix (g_31.getD (Int.toNat i_11) St4.z).2.1 far_8.length) <|
      ckB (inR .i64 ((far_8.getD (Int.toNat (g_31.getD (Int.toNat i_11) St4.z).2.1) 0) + 1)) <|
      ckB (ix (g_31.getD (Int.toNat i_11) St4.z).1 far_8.length) <|
      ckB (ix (g_31.getD (Int.toNat i_11) St4.z).1 far_8.length) <|
      ckB (inR .i64 (i_11 + 1)) <|
      nx (true, (i_11 + 1), (far_8.set (Int.toNat (g_31.getD (Int.toNat i_11) St4.z).1) ((far_8.getD (Int.toNat (g_31.getD (Int.toNat i_11) St4.z).2.1) 0) + 1)))
    else
      ckB (inR .i64 (i_11 + 1)) <|
      nx (again_10, (i_11 + 1), far_8)
  else
    dn (again_10, far_8)

def ref04_PathL1 (a_1 : Int) (b_2 : Int) (g_30 : Int) (g_31 : (List St4)) (s0 : (Bool × Int × (List Int))) : Option ((Bool × (List Int)) ⊕ (Bool × (List Int))) :=
  loopM (fun a => ref04_PathL1K a_1 b_2 g_30 g_31 a.1 a.2.1 a.2.2 (fun a' => some (.next a')) (fun e => some (.done e)) (fun r => some (.ret r))) s0

def ref04_PathL1I : Shp := ⟨[(1, .d true (.int .i64)), (2, .d true (.int .i64)), (3, .ptr 0), (8, .own 1), (10, .d true .bool), (11, .d true (.int .i64))], [.cs 24 2 1 (.cons (.d true (.int .i64)) (.cons (.d false (.slice St4.ty)) .nil)), .arr 3 (.fz true) [0] (.int .i64)]⟩
def ref04_PathL1E : Shp := ⟨[(1, .d true (.int .i64)), (2, .d true (.int .i64)), (3, .ptr 0), (8, .own 1), (10, .d true .bool)], [.cs 24 2 1 (.cons (.d true (.int .i64)) (.cons (.d false (.slice St4.ty)) .nil)), .arr 3 (.fz true) [0] (.int .i64)]⟩

def ref04_PathL2K {R : Type} (a_1 : Int) (b_2 : Int) (g_30 : Int) (g_31 : (List St4)) (again_10 : Bool) (far_8 : (List Int)) (nx : (Bool × (List Int)) → Option R) (dn : (List Int) → Option R) (rt : (Bool × (List Int)) → Option R) : Option R :=
  bif again_10 then
    bnd (ref04_PathL1 a_1 b_2 g_30 g_31 (false, 0, far_8)) fun oe2 =>
    lk oe2 (fun e2 =>
      nx (e2.1, e2.2)) (fun r => rt r)
  else
    dn far_8

def ref04_PathL2 (a_1 : Int) (b_2 : Int) (g_30 : Int) (g_31 : (List St4)) (s0 : (Bool × (List Int))) : Option ((List Int) ⊕ (Bool × (List Int))) :=
  loopM (fun a => ref04_PathL2K a_1 b_2 g_30 g_31 a.1 a.2 (fun a' => some (.next a')) (fun e => some (.done e)) (fun r => some (.ret r))) s0

def ref04_PathL2I : Shp := ⟨[(1, .d true (.int .i64)), (2, .d true (.int .i64)), (3, .ptr 0), (8, .own 1), (10, .d true .bool)], [.cs 24 2 1 (.cons (.d true (.int .i64)) (.cons (.d false (.slice St4.ty)) .nil)), .arr 3 (.fz true) [0] (.int .i64)]⟩
def ref04_PathL2E : Shp := ⟨[(1, .d true (.int .i64)), (2, .d true (.int .i64)), (3, .ptr 0), (8, .own 1)], [.cs 24 2 1 (.cons (.d true (.int .i64)) (.cons (.d false (.slice St4.ty)) .nil)), .arr 3 (.fz true) [0] (.int .i64)]⟩

def ref04_PathL3K {R : Type} (a_1 : Int) (b_2 : Int) (far_8 : (List Int)) (g_30 : Int) (g_31 : (List St4)) (out_14 : (List Int)) (next_15 : Int) (i_16 : Int) (nx : (Int × Int) → Option R) (dn : Int → Option R) (rt : (Bool × (List Int)) → Option R) : Option R :=
  bif decide (i_16 < (g_31.length : Int)) then
    ckB (ix i_16 g_31.length) <|
    ckB (ix i_16 g_31.length) <|
    ckB (ix i_16 g_31.length) <|
    ckB (ix i_16 g_31.length) <|
    bif decide ((g_31.getD (Int.toNat i_16) St4.z).1 = a_1) then
      ckB (ix (g_31.getD (Int.toNat i_16) St4.z).2.1 far_8.length) <|
      ckB (ix (g_31.getD (Int.toNat i_16) St4.z).2.1 far_8.length) <|
      ckB (inR .i64 ((far_8.getD (Int.toNat (g_31.getD (Int.toNat i_16) St4.z).2.1) 0) + 1)) <|
      ckB (ix a_1 far_8.length) <|
      ckB (ix a_1 far_8.length) <|
      bif decide (((far_8.getD (Int.toNat (g_31.getD (Int.toNat i_16) St4.z).2.1) 0) + 1) = (far_8.getD (Int.toNat a_1) 0)) then
        bif decide ((g_31.getD (Int.toNat i_16) St4.z).2.1 < next_15) then
          ckB (inR .i64 (i_16 + 1)) <|
          nx ((g_31.getD (Int.toNat i_16) St4.z).2.1, (i_16 + 1))
        else
          ckB (inR .i64 (i_16 + 1)) <|
          nx (next_15, (i_16 + 1))
      else
        ckB (inR .i64 (i_16 + 1)) <|
        nx (next_15, (i_16 + 1))
    else
      ckB (inR .i64 (i_16 + 1)) <|
      nx (next_15, (i_16 + 1))
  else
    dn next_15

def ref04_PathL3 (a_1 : Int) (b_2 : Int) (far_8 : (List Int)) (g_30 : Int) (g_31 : (List St4)) (out_14 : (List Int)) (s0 : (Int × Int)) : Option (Int ⊕ (Bool × (List Int))) :=
  loopM (fun a => ref04_PathL3K a_1 b_2 far_8 g_30 g_31 out_14 a.1 a.2 (fun a' => some (.next a')) (fun e => some (.done e)) (fun r => some (.ret r))) s0

def ref04_PathL3I : Shp := ⟨[(1, .d true (.int .i64)), (2, .d true (.int .i64)), (3, .ptr 0), (8, .d true (.slice (.int .i64))), (14, .own 1), (15, .d true (.int .i64)), (16, .d true (.int .i64))], [.cs 24 2 1 (.cons (.d true (.int .i64)) (.cons (.d false (.slice St4.ty)) .nil)), .arr 3 (.fz true) [0] (.int .i64)]⟩
def ref04_PathL3E : Shp := ⟨[(2, .d true (.int .i64)), (3, .ptr 0), (8, .d true (.slice (.int .i64))), (14, .own 1), (15, .d true (.int .i64))], [.cs 24 2 1 (.cons (.d true (.int .i64)) (.cons (.d false (.slice St4.ty)) .nil)), .arr 3 (.fz true) [0] (.int .i64)]⟩

def ref04_PathL4K {R : Type} (b_2 : Int) (far_8 : (List Int)) (g_30 : Int) (g_31 : (List St4)) (a_1 : Int) (out_14 : (List Int)) (nx : (Int × (List Int)) → Option R) (dn : (List Int) → Option R) (rt : (Bool × (List Int)) → Option R) : Option R :=
  bif (!decide (a_1 = b_2)) then
    bnd (ref04_PathL3 a_1 b_2 far_8 g_30 g_31 out_14 (g_30, 0)) fun oe4 =>
    lk oe4 (fun e4 =>
      ckB (room (out_14.length + 1) 8) <|
      nx (e4, (out_14 ++ [e4]))) (fun r => rt r)
  else
    dn out_14

def ref04_PathL4 (b_2 : Int) (far_8 : (List Int)) (g_30 : Int) (g_31 : (List St4)) (s0 : (Int × (List Int))) : Option ((List Int) ⊕ (Bool × (List Int))) :=
  loopM (fun a => ref04_PathL4K b_2 far_8 g_30 g_31 a.1 a.2 (fun a' => some (.next a')) (fun e => some (.done e)) (fun r => some (.ret r))) s0

def ref04_PathL4I : Shp := ⟨[(1, .d true (.int .i64)), (2, .d true (.int .i64)), (3, .ptr 0), (8, .d true (.slice (.int .i64))), (14, .own 1)], [.cs 24 2 1 (.cons (.d true (.int .i64)) (.cons (.d false (.slice St4.ty)) .nil)), .arr 3 (.fz true) [0] (.int .i64)]⟩
def ref04_PathL4E : Shp := ⟨[(14, .own 0)], [.arr 3 (.fz true) [0] (.int .i64)]⟩

def ref04_Path (g_0 : Graph) (a_1 : Int) (b_2 : Int) : Option (Bool × (List Int)) :=
  ckB (mkOk g_0.1 g_0.1 8) <|
  bnd (ref04_PathL0 a_1 b_2 g_0.1 g_0.2.1 (0, (List.replicate (Int.toNat g_0.1) (0 : Int)))) fun oe1 =>
  lk oe1 (fun e1 =>
    ckB (ix b_2 e1.length) <|
    ckB (ix b_2 e1.length) <|
    bnd (ref04_PathL2 a_1 b_2 g_0.1 g_0.2.1 (true, (e1.set (Int.toNat b_2) 0))) fun oe3 =>
    lk oe3 (fun e3 =>
      ckB (ix a_1 e3.length) <|
      ckB (ix a_1 e3.length) <|
      bif decide ((e3.getD (Int.toNat a_1) 0) = g_0.1) then
        some (false, [])
      else
        bnd (ref04_PathL4 b_2 e3 g_0.1 g_0.2.1 (a_1, [a_1])) fun oe5 =>
        lk oe5 (fun e5 =>
          some (true, e5)) (fun r => some r)) (fun r => some r)) (fun r => some r)

/-! casebook/casebooklaw04.GraphPaths -/

def law04_GraphPaths (g_0 : Graph) (a_1 : Int) (b_2 : Int) : Option Bool :=
  bnd (law04_awake) fun r1 =>
  bif (!r1) then
    bnd (law04_awake) fun r2 =>
    some r2
  else
    bnd (law04_small g_0) fun r3 =>
    bif (!r3) then
      bnd (law04_awake) fun r4 =>
      some r4
    else
      bnd (graph_Between g_0 a_1 b_2) fun r5 =>
      bnd (graph_Path g_0 a_1 b_2) fun r6 =>
      bnd (ref04_Valid g_0) fun r7 =>
      bif (!r7) then
        bif decide ((r5.2.length : Int) = 0) then
          bif decide (r5.1 = 1) then
            bif decide ((r6.2.length : Int) = 0) then
              some (decide (r6.1 = 1))
            else
              some false
          else
            some false
        else
          some false
      else
        bnd (ref04_Vertex g_0 a_1) fun r8 =>
        bif (!r8) then
          bif decide ((r5.2.length : Int) = 0) then
            bif decide (r5.1 = 2) then
              bif decide ((r6.2.length : Int) = 0) then
                some (decide (r6.1 = 2))
              else
                some false
            else
              some false
          else
            some false
        else
          bnd (ref04_Vertex g_0 b_2) fun r9 =>
          bif (!r9) then
            bif decide ((r5.2.length : Int) = 0) then
              bif decide (r5.1 = 2) then
                bif decide ((r6.2.length : Int) = 0) then
                  some (decide (r6.1 = 2))
                else
                  some false
              else
                some false
            else
              some false
          else
            bnd (ref04_Between g_0 a_1 b_2) fun r10 =>
            bnd (slices_Equal_int_int r5.2 r10) fun r11 =>
            bif (!r11) then
              some false
            else
              bif (!decide (r5.1 = 0)) then
                some false
              else
                bnd (ref04_Path g_0 a_1 b_2) fun r12 =>
                bif (!r12.1) then
                  bif decide ((r6.2.length : Int) = 0) then
                    some (decide (r6.1 = 10))
                  else
                    some false
                else
                  bnd (slices_Equal_int_int r6.2 r12.2) fun r13 =>
                  bif r13 then
                    some (decide (r6.1 = 0))
                  else
                    some false

/-! casebook/graph.Reach$1 -/

def graph_Reach_1 (v_0 : Int) (p_1 : Graph) : Option Bool :=
  ckB (ix 0 1) <|
  bnd (graph_vertex p_1 v_0) fun r1 =>
  some (!r1)

/-! slices.IndexFunc[[]int,int] -/

def slices_IndexFunc_int_int_59L0K {R : Type} (s_0 : (List Int)) (f_1c0 : Graph) (v_7 : Int) (v_8 : Int) (nx : Int → Option R) (dn : Unit → Option R) (rt : Int → Option R) : Option R :=
  bif decide (v_8 < v_7) then
    ckB (ix v_8 s_0.length) <|
    ckB (ix v_8 s_0.length) <|
    bnd (graph_Reach_1 (s_0.getD (Int.toNat v_8) 0) f_1c0) fun r1 =>
    bif r1 then
      rt v_8
    else
      ckB (inR .i64 (v_8 + 1)) <|
      nx (v_8 + 1)
  else
    dn ()

def slices_IndexFunc_int_int_59L0 (s_0 : (List Int)) (f_1c0 : Graph) (v_7 : Int) (s0 : Int) : Option (Unit ⊕ Int) :=
  loopM (fun a => slices_IndexFunc_int_int_59L0K s_0 f_1c0 v_7 a (fun a' => some (.next a')) (fun e => some (.done e)) (fun r => some (.ret r))) s0

def slices_IndexFunc_int_int_59L0I : Shp := ⟨[(0, .d false (.slice (.int .i64))), (1, .fn 59 (.cons (.rp false Graph.ty) .nil)), (7, .d true (.int .i64)), (8, .d true (.int .i64))], []⟩
def slices_IndexFunc_int_int_59L0E : Shp := ⟨[], []⟩

def slices_IndexFunc_int_int_59 (s_0 : (List Int)) (f_1c0 : Graph) : Option Int :=
  bnd (slices_IndexFunc_int_int_59L0 s_0 f_1c0 (s_0.length : Int) 0) fun oe2 =>
  lk oe2 (fun e2 =>
    some (-1)) (fun r => some r)

/-! slices.ContainsFunc[[]int,int] -/

def slices_ContainsFunc_int_int_59 (s_0 : (List Int)) (f_1c0 : Graph) : Option Bool :=
  bnd (slices_IndexFunc_int_int_59 s_0 f_1c0) fun r1 =>
  some (decide ((0 : Int) ≤ r1))

/-! casebook/graph.Reach -/

def graph_ReachL0K {R : Type} (v_18 : (List Int)) (v_19 : Int) (v_20 : Int) (out_6 : (List Int)) (nx : (Int × (List Int)) → Option R) (dn : (List Int) → Option R) (rt : (Int × (List Int)) → Option R) : Option R :=
  bif decide (v_20 < v_19) then
    ckB (ix v_20 v_18.length) <|
    ckB (ix v_20 v_18.length) <|
    bif decide ((0 : Int) ≤ (v_18.getD (Int.toNat v_20) 0)) then
      ckB (room (out_6.length + 1) 8) <|
      ckB (inR .i64 (v_20 + 1)) <|
      nx ((v_20 + 1), (out_6 ++ [v_20]))
    else
      ckB (inR .i64 (v_20 + 1)) <|
      nx ((v_20 + 1), out_6)
  else
    dn out_6

def graph_ReachL0 (v_18 : (List Int)) (v_19 : Int) (s0 : (Int × (List Int))) : Option ((List Int) ⊕ (Int × (List Int))) :=
  loopM (fun a => graph_ReachL0K v_18 v_19 a.1 a.2 (fun a' => some (.next a')) (fun e => some (.done e)) (fun r => some (.ret r))) s0

def graph_ReachL0I : Shp := ⟨[(6, .own 0), (18, .d true (.slice (.int .i64))), (19, .d true (.int .i64)), (20, .d true (.int .i64))], [.arr 3 (.fz true) [0] (.int .i64)]⟩
def graph_ReachL0E : Shp := ⟨[(6, .own 0)], [.arr 3 (.fz true) [0] (.int .i64)]⟩

def graph_Reach (g_0 : Graph) (from_1 : (List Int)) : Option (Int × (List Int)) :=
  bnd (graph_Valid g_0) fun r1 =>
  bif (!r1) then
    some (1, [])
  else
    bnd (slices_ContainsFunc_int_int_59 from_1 g_0) fun r2 =>
    bif r2 then
      some (2, [])
    else
      bnd (graph_gathered g_0 false) fun r3 =>
      bnd (graph_reached r3 from_1) fun r4 =>
      bnd (graph_ReachL0 r4 (r4.length : Int) (0, [])) fun oe5 =>
      lk oe5 (fun e5 =>
        some (0, e5)) (fun r => some r)

/-! casebook/casebooklaw04.GraphReaches$1 -/

def law04_GraphReaches_1 (n_0 : Int) (p_1 : Graph) : Option Bool :=
  ckB (ix 0 1) <|
  bnd (ref04_Vertex p_1 n_0) fun r1 =>
  some (!r1)

/-! slices.IndexFunc[[]int,int] -/

def slices_IndexFunc_int_int_36L0K {R : Type} (s_0 : (List Int)) (f_1c0 : Graph) (v_7 : Int) (v_8 : Int) (nx : Int → Option R) (dn : Unit → Option R) (rt : Int → Option R) : Option R :=
  bif decide (v_8 < v_7) then
    ckB (ix v_8 s_0.length) <|
    ckB (ix v_8 s_0.length) <|
    bnd (law04_GraphReaches_1 (s_0.getD (Int.toNat v_8) 0) f_1c0) fun r1 =>
    bif r1 then
      rt v_8
    else
      ckB (inR .i64 (v_8 + 1)) <|
      nx (v_8 + 1)
  else
    dn ()

def slices_IndexFunc_int_int_36L0 (s_0 : (List Int)) (f_1c0 : Graph) (v_7 : Int) (s0 : Int) : Option (Unit ⊕ Int) :=
  loopM (fun a => slices_IndexFunc_int_int_36L0K s_0 f_1c0 v_7 a (fun a' => some (.next a')) (fun e => some (.done e)) (fun r => some (.ret r))) s0

def slices_IndexFunc_int_int_36L0I : Shp := ⟨[(0, .d false (.slice (.int .i64))), (1, .fn 36 (.cons (.rp false Graph.ty) .nil)), (7, .d true (.int .i64)), (8, .d true (.int .i64))], []⟩
def slices_IndexFunc_int_int_36L0E : Shp := ⟨[], []⟩

def slices_IndexFunc_int_int_36 (s_0 : (List Int)) (f_1c0 : Graph) : Option Int :=
  bnd (slices_IndexFunc_int_int_36L0 s_0 f_1c0 (s_0.length : Int) 0) fun oe2 =>
  lk oe2 (fun e2 =>
    some (-1)) (fun r => some r)

/-! slices.ContainsFunc[[]int,int] -/

def slices_ContainsFunc_int_int_36 (s_0 : (List Int)) (f_1c0 : Graph) : Option Bool :=
  bnd (slices_IndexFunc_int_int_36 s_0 f_1c0) fun r1 =>
  some (decide ((0 : Int) ≤ r1))

/-! casebook/casebookref04.Reach -/

def ref04_ReachL0K {R : Type} (from_1 : (List Int)) (g_20 : Int) (g_21 : (List St4)) (i_6 : Int) (l_5 : (List Bool)) (nx : (Int × (List Bool)) → Option R) (dn : (List Bool) → Option R) (rt : (List Int) → Option R) : Option R :=
  bif decide (i_6 < (from_1.length : Int)) then
    ckB (ix i_6 from_1.length) <|
    ckB (ix i_6 from_1.length) <|
    ckB (ix (from_1.getD (Int.toNat i_6) 0) l_5.length) <|
    ckB (ix (from_1.getD (Int.toNat i_6) 0) l_5.length) <|
    ckB (inR .i64 (i_6 + 1)) <|
    nx ((i_6 + 1), (l_5.set (Int.toNat (from_1.getD (Int.toNat i_6) 0)) true))
  else
    dn l_5

def ref04_ReachL0 (from_1 : (List Int)) (g_20 : Int) (g_21 : (List St4)) (s0 : (Int × (List Bool))) : Option ((List Bool) ⊕ (List Int)) :=
  loopM (fun a => ref04_ReachL0K from_1 g_20 g_21 a.1 a.2 (fun a' => some (.next a')) (fun e => some (.done e)) (fun r => some (.ret r))) s0

def ref04_ReachL0I : Shp := ⟨[(1, .d false (.slice (.int .i64))), (2, .ptr 0), (5, .own 1), (6, .d true (.int .i64))], [.cs 24 2 1 (.cons (.d true (.int .i64)) (.cons (.d false (.slice St4.ty)) .nil)), .arr 4 (.fz true) [0] .bool]⟩
def ref04_ReachL0E : Shp := ⟨[(2, .ptr 0), (5, .own 1)], [.cs 24 2 1 (.cons (.d true (.int .i64)) (.cons (.d false (.slice St4.ty)) .nil)), .arr 4 (.fz true) [0] .bool]⟩

def ref04_Reach (g_0 : Graph) (from_1 : (List Int)) : Option (List Int) :=
  ckB (mkOk g_0.1 g_0.1 1) <|
  bnd (ref04_ReachL0 from_1 g_0.1 g_0.2.1 (0, (List.replicate (Int.toNat g_0.1) (false : Bool)))) fun oe1 =>
  lk oe1 (fun e1 =>
    bnd (ref04_Marks g_0 e1) fun r2 =>
    bnd (ref04_list r2) fun r3 =>
    some r3) (fun r => some r)

/-! casebook/casebooklaw04.GraphReaches -/

def law04_GraphReaches (g_0 : Graph) (from_1 : (List Int)) : Option Bool :=
  bnd (law04_awake) fun r1 =>
  bif (!r1) then
    bnd (law04_awake) fun r2 =>
    some r2
  else
    bnd (law04_small g_0) fun r3 =>
    bif (!r3) then
      bnd (law04_awake) fun r4 =>
      some r4
    else
      bif decide ((12 : Int) < (from_1.length : Int)) then
        bnd (law04_awake) fun r5 =>
        some r5
      else
        bnd (graph_Reach g_0 from_1) fun r6 =>
        bnd (ref04_Valid g_0) fun r7 =>
        bif (!r7) then
          bif decide ((r6.2.length : Int) = 0) then
            some (decide (r6.1 = 1))
          else
            some false
        else
          bnd (slices_ContainsFunc_int_int_36 from_1 g_0) fun r8 =>
          bif r8 then
            bif decide ((r6.2.length : Int) = 0) then
              some (decide (r6.1 = 2))
            else
              some false
          else
            bnd (ref04_Reach g_0 from_1) fun r9 =>
            bnd (slices_Equal_int_int r6.2 r9) fun r10 =>
            bif r10 then
              some (decide (r6.1 = 0))
            else
              some false

/-! casebook/casebooklaw04.GraphAcyclic$1 -/

def law04_GraphAcyclic_1 (x_0 : St4) : Option Bool :=
  some (decide (x_0.1 = x_0.2.1))

/-! slices.IndexFunc[[][2]int,[2]int] -/

def slices_IndexFunc_2_int_2_int_24L0K {R : Type} (s_0 : (List St4)) (v_7 : Int) (v_8 : Int) (nx : Int → Option R) (dn : Unit → Option R) (rt : Int → Option R) : Option R :=
  bif decide (v_8 < v_7) then
    ckB (ix v_8 s_0.length) <|
    ckB (ix v_8 s_0.length) <|
    bnd (law04_GraphAcyclic_1 (s_0.getD (Int.toNat v_8) St4.z)) fun r1 =>
    bif r1 then
      rt v_8
    else
      ckB (inR .i64 (v_8 + 1)) <|
      nx (v_8 + 1)
  else
    dn ()

def slices_IndexFunc_2_int_2_int_24L0 (s_0 : (List St4)) (v_7 : Int) (s0 : Int) : Option (Unit ⊕ Int) :=
  loopM (fun a => slices_IndexFunc_2_int_2_int_24L0K s_0 v_7 a (fun a' => some (.next a')) (fun e => some (.done e)) (fun r => some (.ret r))) s0

def slices_IndexFunc_2_int_2_int_24L0I : Shp := ⟨[(0, .d false (.slice St4.ty)), (1, .fn 24 .nil), (7, .d true (.int .i64)), (8, .d true (.int .i64))], []⟩
def slices_IndexFunc_2_int_2_int_24L0E : Shp := ⟨[], []⟩

def slices_IndexFunc_2_int_2_int_24 (s_0 : (List St4)) : Option Int :=
  bnd (slices_IndexFunc_2_int_2_int_24L0 s_0 (s_0.length : Int) 0) fun oe2 =>
  lk oe2 (fun e2 =>
    some (-1)) (fun r => some r)

/-! slices.ContainsFunc[[][2]int,[2]int] -/

def slices_ContainsFunc_2_int_2_int_24 (s_0 : (List St4)) : Option Bool :=
  bnd (slices_IndexFunc_2_int_2_int_24 s_0) fun r1 =>
  some (decide ((0 : Int) ≤ r1))

/-! casebook/casebooklaw04.GraphAcyclic -/

def law04_GraphAcyclicL0K {R : Type} (l_5 : (List Int)) (v_70 : (List (List Int))) (v_71 : Int) (v_72 : Int) (nx : Int → Option R) (dn : Unit → Option R) (rt : Bool → Option R) : Option R :=
  bif decide (v_72 < v_71) then
    ckB (ix v_72 v_70.length) <|
    ckB (ix v_72 v_70.length) <|
    ckB (inR .i64 (v_72 + 1)) <|
    ckB (cut v_72 (v_72 + 1) l_5.length) <|
    bnd (slices_Equal_int_int (v_70.getD (Int.toNat v_72) []) ((l_5.take (Int.toNat (v_72 + 1))).drop (Int.toNat v_72))) fun r10 =>
    bif (!r10) then
      rt false
    else
      ckB (inR .i64 (v_72 + 1)) <|
      nx (v_72 + 1)
  else
    dn ()

def law04_GraphAcyclicL0 (l_5 : (List Int)) (v_70 : (List (List Int))) (v_71 : Int) (s0 : Int) : Option (Unit ⊕ Bool) :=
  loopM (fun a => law04_GraphAcyclicL0K l_5 v_70 v_71 a (fun a' => some (.next a')) (fun e => some (.done e)) (fun r => some (.ret r))) s0

def law04_GraphAcyclicL0I : Shp := ⟨[(5, .d true (.slice (.int .i64))), (70, .d true (.slice (.slice (.int .i64)))), (71, .d true (.int .i64)), (72, .d true (.int .i64))], []⟩
def law04_GraphAcyclicL0E : Shp := ⟨[], []⟩

def law04_GraphAcyclicT1K {R : Type} (s_3 : (List (List Int))) (l_5 : (List Int)) (f_6 : Int) (plain_7 : Bool) (g_10 : Int) (g_11 : (List St4)) (dn : Unit → Option R) (rt : Bool → Option R) : Option R :=
  bif (!plain_7) then
    bif decide (f_6 = 16) then
      rt (decide ((l_5.length : Int) = 0))
    else
      rt false
  else
    bif (!decide (f_6 = 0)) then
      rt false
    else
      bif (!decide ((l_5.length : Int) = g_10)) then
        rt false
      else
        bnd (law04_GraphAcyclicL0 l_5 s_3 (s_3.length : Int) 0) fun oe11 =>
        lk oe11 (fun e11 =>
          rt true) (fun r => rt r)

def law04_GraphAcyclicT1 (s_3 : (List (List Int))) (l_5 : (List Int)) (f_6 : Int) (plain_7 : Bool) (g_10 : Int) (g_11 : (List St4)) : Option (Unit ⊕ Bool) :=
  law04_GraphAcyclicT1K s_3 l_5 f_6 plain_7 g_10 g_11 (fun e => some (.inl e)) (fun r => some (.inr r))

def law04_GraphAcyclicT1I : Shp := ⟨[(1, .ptr 0), (3, .d true (.slice (.slice (.int .i64)))), (5, .d true (.slice (.int .i64))), (6, .d true (.int .i64)), (7, .d true .bool)], [.cs 24 2 1 (.cons (.d true (.int .i64)) (.cons (.d false (.slice St4.ty)) .nil))]⟩
def law04_GraphAcyclicT1E : Shp := ⟨[], []⟩

def law04_GraphAcyclic (g_0 : Graph) : Option Bool :=
  bnd (law04_awake) fun r1 =>
  bif (!r1) then
    bnd (law04_awake) fun r2 =>
    some r2
  else
    bif decide ((30 : Int) < g_0.1) then
      bnd (law04_awake) fun r3 =>
      some r3
    else
      bif decide ((90 : Int) < (g_0.2.1.length : Int)) then
        bnd (law04_awake) fun r4 =>
        some r4
      else
        bnd (graph_Valid g_0) fun r5 =>
        bif (!r5) then
          bnd (law04_awake) fun r6 =>
          some r6
        else
          bnd (graph_Strong g_0) fun r7 =>
          bnd (graph_Order g_0) fun r8 =>
          bif (!decide (r7.1 = 0)) then
            some false
          else
            bif decide ((r7.2.length : Int) = g_0.1) then
              bnd (slices_ContainsFunc_2_int_2_int_24 g_0.2.1) fun r9 =>
              bnd (law04_GraphAcyclicT1 r7.2 r8.2 r8.1 (!r9) g_0.1 g_0.2.1) fun oe12 =>
              lk oe12 (fun e12 =>
                none) (fun r => some r)
            else
              bnd (law04_GraphAcyclicT1 r7.2 r8.2 r8.1 false g_0.1 g_0.2.1) fun oe13 =>
              lk oe13 (fun e13 =>
                none) (fun r => some r)

/-! casebook/graph.Components -/

def graph_ComponentsL0K {R : Type} (next_4 : (List (List Int))) (v_20 : Int) (v_21 : Int) (v_31 : (List Int)) (v_32 : Int) (out_6 : (List (List Int))) (v_33 : Int) (taken_5 : (List Bool)) (l_8 : (List Int)) (nx : (Int × (List Bool) × (List Int)) → Option R) (dn : ((List Bool) × (List Int)) → Option R) (rt : (Int × (List (List Int))) → Option R) : Option R :=
  bif decide (v_33 < v_32) then
    ckB (ix v_33 v_31.length) <|
    ckB (ix v_33 v_31.length) <|
    bif decide ((0 : Int) ≤ (v_31.getD (Int.toNat v_33) 0)) then
      ckB (ix v_33 taken_5.length) <|
      ckB (ix v_33 taken_5.length) <|
      ckB (room (l_8.length + 1) 8) <|
      ckB (inR .i64 (v_33 + 1)) <|
      nx ((v_33 + 1), (taken_5.set (Int.toNat v_33) true), (l_8 ++ [v_33]))
    else
      ckB (inR .i64 (v_33 + 1)) <|
      nx ((v_33 + 1), taken_5, l_8)
  else
    dn (taken_5, l_8)

def graph_ComponentsL0 (next_4 : (List (List Int))) (v_20 : Int) (v_21 : Int) (v_31 : (List Int)) (v_32 : Int) (out_6 : (List (List Int))) (s0 : (Int × (List Bool) × (List Int))) : Option (((List Bool) × (List Int)) ⊕ (Int × (List (List Int)))) :=
  loopM (fun a => graph_ComponentsL0K next_4 v_20 v_21 v_31 v_32 out_6 a.1 a.2.1 a.2.2 (fun a' => some (.next a')) (fun e => some (.done e)) (fun r => some (.ret r))) s0

def graph_ComponentsL0I : Shp := ⟨[(4, .d true (.slice (.slice (.int .i64)))), (5, .own 0), (6, .own 1), (8, .own 2), (20, .d true (.int .i64)), (21, .d true (.int .i64)), (31, .d true (.slice (.int .i64))), (32, .d true (.int .i64)), (33, .d true (.int .i64))], [.arr 4 (.fz true) [0] .bool, .arr 27 (.fz true) [3] (.slice (.int .i64)), .arr 3 (.fz true) [0] (.int .i64)]⟩
def graph_ComponentsL0E : Shp := ⟨[(4, .d true (.slice (.slice (.int .i64)))), (5, .own 0), (6, .own 1), (8, .own 2), (20, .d true (.int .i64)), (21, .d true (.int .i64))], [.arr 4 (.fz true) [0] .bool, .arr 27 (.fz true) [3] (.slice (.int .i64)), .arr 3 (.fz true) [0] (.int .i64)]⟩

def graph_ComponentsL1K {R : Type} (next_4 : (List (List Int))) (v_20 : Int) (v_21 : Int) (taken_5 : (List Bool)) (out_6 : (List (List Int))) (nx : (Int × (List Bool) × (List (List Int))) → Option R) (dn : (List (List Int)) → Option R) (rt : (Int × (List (List Int))) → Option R) : Option R :=
  bif decide (v_21 < v_20) then
    ckB (ix v_21 taken_5.length) <|
    ckB (ix v_21 taken_5.length) <|
    bif (taken_5.getD (Int.toNat v_21) false) then
      ckB (inR .i64 (v_21 + 1)) <|
      nx ((v_21 + 1), taken_5, out_6)
    else
      bnd (graph_reached next_4 [v_21]) fun r3 =>
      bnd (graph_ComponentsL0 next_4 v_20 v_21 r3 (r3.length : Int) out_6 (0, taken_5, [])) fun oe4 =>
      lk oe4 (fun e4 =>
        ckB (room (out_6.length + 1) 24) <|
        ckB (inR .i64 (v_21 + 1)) <|
        nx ((v_21 + 1), e4.1, (out_6 ++ [e4.2]))) (fun r => rt r)
  else
    dn out_6

def graph_ComponentsL1 (next_4 : (List (List Int))) (v_20 : Int) (s0 : (Int × (List Bool) × (List (List Int)))) : Option ((List (List Int)) ⊕ (Int × (List (List Int)))) :=
  loopM (fun a => graph_ComponentsL1K next_4 v_20 a.1 a.2.1 a.2.2 (fun a' => some (.next a')) (fun e => some (.done e)) (fun r => some (.ret r))) s0

def graph_ComponentsL1I : Shp := ⟨[(4, .d true (.slice (.slice (.int .i64)))), (5, .own 0), (6, .own 1), (20, .d true (.int .i64)), (21, .d true (.int .i64))], [.arr 4 (.fz true) [0] .bool, .arr 27 (.fz true) [3] (.slice (.int .i64))]⟩
def graph_ComponentsL1E : Shp := ⟨[(6, .own 0)], [.arr 27 (.fz true) [3] (.slice (.int .i64))]⟩

def graph_Components (g_0 : Graph) : Option (Int × (List (List Int))) :=
  bnd (graph_Valid g_0) fun r1 =>
  bif (!r1) then
    some (1, [])
  else
    bnd (graph_gathered g_0 true) fun r2 =>
    ckB (mkOk g_0.1 g_0.1 1) <|
    bnd (graph_ComponentsL1 r2 g_0.1 (0, (List.replicate (Int.toNat g_0.1) (false : Bool)), [])) fun oe5 =>
    lk oe5 (fun e5 =>
      some (0, e5)) (fun r => some r)

/-! casebook/casebookref04.both -/

def ref04_both (g_0 : Graph) : Option Graph :=
  bnd (ref04_Reverse g_0) fun r1 =>
  ckB (room (0 + g_0.2.1.length) 16) <|
  ckB (room (([] ++ g_0.2.1).length + r1.2.1.length) 16) <|
  some (g_0.1, (([] ++ g_0.2.1) ++ r1.2.1), ())

/-! casebook/casebookref04.Components -/

def ref04_ComponentsL0K {R : Type} (i_5 : Int) (l_6 : (List Int)) (g_10 : Int) (g_11 : (List St4)) (out_3 : (List (List Int))) (k_7 : Int) (seen_4 : (List Bool)) (nx : (Int × (List Bool)) → Option R) (dn : (List Bool) → Option R) (rt : (List (List Int)) → Option R) : Option R :=
  bif decide (k_7 < (l_6.length : Int)) then
    ckB (ix k_7 l_6.length) <|
    ckB (ix k_7 l_6.length) <|
    ckB (ix (l_6.getD (Int.toNat k_7) 0) seen_4.length) <|
    ckB (ix (l_6.getD (Int.toNat k_7) 0) seen_4.length) <|
    ckB (inR .i64 (k_7 + 1)) <|
    nx ((k_7 + 1), (seen_4.set (Int.toNat (l_6.getD (Int.toNat k_7) 0)) true))
  else
    dn seen_4

def ref04_ComponentsL0 (i_5 : Int) (l_6 : (List Int)) (g_10 : Int) (g_11 : (List St4)) (out_3 : (List (List Int))) (s0 : (Int × (List Bool))) : Option ((List Bool) ⊕ (List (List Int))) :=
  loopM (fun a => ref04_ComponentsL0K i_5 l_6 g_10 g_11 out_3 a.1 a.2 (fun a' => some (.next a')) (fun e => some (.done e)) (fun r => some (.ret r))) s0

def ref04_ComponentsL0I : Shp := ⟨[(1, .ptr 0), (3, .own 1), (4, .own 2), (5, .d true (.int .i64)), (6, .d true (.slice (.int .i64))), (7, .d true (.int .i64))], [.cs 24 2 1 (.cons (.d true (.int .i64)) (.cons (.d false (.slice St4.ty)) .nil)), .arr 27 (.fz true) [3] (.slice (.int .i64)), .arr 4 (.fz true) [0] .bool]⟩
def ref04_ComponentsL0E : Shp := ⟨[(1, .ptr 0), (3, .own 1), (4, .own 2), (5, .d true (.int .i64)), (6, .d true (.slice (.int .i64)))], [.cs 24 2 1 (.cons (.d true (.int .i64)) (.cons (.d false (.slice St4.ty)) .nil)), .arr 27 (.fz true) [3] (.slice (.int .i64)), .arr 4 (.fz true) [0] .bool]⟩

def ref04_ComponentsL1K {R : Type} (g_10 : Int) (g_11 : (List St4)) (i_5 : Int) (out_3 : (List (List Int))) (seen_4 : (List Bool)) (nx : (Int × (List (List Int)) × (List Bool)) → Option R) (dn : (List (List Int)) → Option R) (rt : (List (List Int)) → Option R) : Option R :=
  bif decide (i_5 < g_10) then
    ckB (ix i_5 seen_4.length) <|
    ckB (ix i_5 seen_4.length) <|
    bif (seen_4.getD (Int.toNat i_5) false) then
      ckB (inR .i64 (i_5 + 1)) <|
      nx ((i_5 + 1), out_3, seen_4)
    else
      bnd (ref04_both (g_10, g_11, ())) fun r1 =>
      bnd (ref04_Reach r1 [i_5]) fun r2 =>
      bnd (ref04_ComponentsL0 i_5 r2 g_10 g_11 out_3 (0, seen_4)) fun oe3 =>
      lk oe3 (fun e3 =>
        ckB (room (out_3.length + 1) 24) <|
        ckB (inR .i64 (i_5 + 1)) <|
        nx ((i_5 + 1), (out_3 ++ [r2]), e3)) (fun r => rt r)
  else
    dn out_3

def ref04_ComponentsL1 (g_10 : Int) (g_11 : (List St4)) (s0 : (Int × (List (List Int)) × (List Bool))) : Option ((List (List Int)) ⊕ (List (List Int))) :=
  loopM (fun a => ref04_ComponentsL1K g_10 g_11 a.1 a.2.1 a.2.2 (fun a' => some (.next a')) (fun e => some (.done e)) (fun r => some (.ret r))) s0

def ref04_ComponentsL1I : Shp := ⟨[(1, .ptr 0), (3, .own 1), (4, .own 2), (5, .d true (.int .i64))], [.cs 24 2 1 (.cons (.d true (.int .i64)) (.cons (.d false (.slice St4.ty)) .nil)), .arr 27 (.fz true) [3] (.slice (.int .i64)), .arr 4 (.fz true) [0] .bool]⟩
def ref04_ComponentsL1E : Shp := ⟨[(3, .own 0)], [.arr 27 (.fz true) [3] (.slice (.int .i64))]⟩

def ref04_Components (g_0 : Graph) : Option (List (List Int)) :=
  ckB (mkOk g_0.1 g_0.1 1) <|
  bnd (ref04_ComponentsL1 g_0.1 g_0.2.1 (0, [], (List.replicate (Int.toNat g_0.1) (false : Bool)))) fun oe4 =>
  lk oe4 (fun e4 =>
    some e4) (fun r => some r)

/-! casebook/casebookref04.class -/

def ref04_classL0K {R : Type} (from_6 : (List Bool)) (g_20 : Int) (g_21 : (List St4)) (i_7 : Int) (to_5 : (List Bool)) (nx : (Int × (List Bool)) → Option R) (dn : (List Bool) → Option R) (rt : (List Bool) → Option R) : Option R :=
  bif decide (i_7 < g_20) then
    ckB (ix i_7 to_5.length) <|
    ckB (ix i_7 to_5.length) <|
    bif (to_5.getD (Int.toNat i_7) false) then
      ckB (ix i_7 from_6.length) <|
      ckB (ix i_7 from_6.length) <|
      ckB (ix i_7 to_5.length) <|
      ckB (ix i_7 to_5.length) <|
      ckB (inR .i64 (i_7 + 1)) <|
      nx ((i_7 + 1), (to_5.set (Int.toNat i_7) (from_6.getD (Int.toNat i_7) false)))
    else
      ckB (ix i_7 to_5.length) <|
      ckB (ix i_7 to_5.length) <|
      ckB (inR .i64 (i_7 + 1)) <|
      nx ((i_7 + 1), (to_5.set (Int.toNat i_7) false))
  else
    dn to_5

def ref04_classL0 (from_6 : (List Bool)) (g_20 : Int) (g_21 : (List St4)) (s0 : (Int × (List Bool))) : Option ((List Bool) ⊕ (List Bool)) :=
  loopM (fun a => ref04_classL0K from_6 g_20 g_21 a.1 a.2 (fun a' => some (.next a')) (fun e => some (.done e)) (fun r => some (.ret r))) s0

def ref04_classL0I : Shp := ⟨[(2, .ptr 0), (5, .own 1), (6, .d true (.slice .bool)), (7, .d true (.int .i64))], [.cs 24 2 1 (.cons (.d true (.int .i64)) (.cons (.d false (.slice St4.ty)) .nil)), .arr 4 (.fz true) [0] .bool]⟩
def ref04_classL0E : Shp := ⟨[(5, .own 0)], [.arr 4 (.fz true) [0] .bool]⟩

def ref04_class (g_0 : Graph) (n_1 : Int) : Option (List Bool) :=
  bnd (ref04_one g_0 n_1) fun r1 =>
  bnd (ref04_Marks g_0 r1) fun r2 =>
  bnd (ref04_Reverse g_0) fun r3 =>
  bnd (ref04_one g_0 n_1) fun r4 =>
  bnd (ref04_Marks r3 r4) fun r5 =>
  bnd (ref04_classL0 r5 g_0.1 g_0.2.1 (0, r2)) fun oe6 =>
  lk oe6 (fun e6 =>
    some e6) (fun r => some r)

/-! casebook/casebookref04.ready -/

def ref04_readyL0K {R : Type} (l_1 : (List Bool)) (taken_2 : (List Bool)) (g_30 : Int) (g_31 : (List St4)) (i_7 : Int) (nx : Int → Option R) (dn : Unit → Option R) (rt : Bool → Option R) : Option R :=
  bif decide (i_7 < (g_31.length : Int)) then
    ckB (ix i_7 g_31.length) <|
    ckB (ix i_7 g_31.length) <|
    ckB (ix i_7 g_31.length) <|
    ckB (ix i_7 g_31.length) <|
    ckB (ix (g_31.getD (Int.toNat i_7) St4.z).2.1 l_1.length) <|
    ckB (ix (g_31.getD (Int.toNat i_7) St4.z).2.1 l_1.length) <|
    bif (l_1.getD (Int.toNat (g_31.getD (Int.toNat i_7) St4.z).2.1) false) then
      ckB (ix (g_31.getD (Int.toNat i_7) St4.z).1 l_1.length) <|
      ckB (ix (g_31.getD (Int.toNat i_7) St4.z).1 l_1.length) <|
      bif (!(l_1.getD (Int.toNat (g_31.getD (Int.toNat i_7) St4.z).1) false)) then
        ckB (ix (g_31.getD (Int.toNat i_7) St4.z).1 taken_2.length) <|
        ckB (ix (g_31.getD (Int.toNat i_7) St4.z).1 taken_2.length) <|
        bif (!(taken_2.getD (Int.toNat (g_31.getD (Int.toNat i_7) St4.z).1) false)) then
          rt false
        else
          ckB (inR .i64 (i_7 + 1)) <|
          nx (i_7 + 1)
      else
        ckB (inR .i64 (i_7 + 1)) <|
        nx (i_7 + 1)
    else
      ckB (inR .i64 (i_7 + 1)) <|
      nx (i_7 + 1)
  else
    dn ()

def ref04_readyL0 (l_1 : (List Bool)) (taken_2 : (List Bool)) (g_30 : Int) (g_31 : (List St4)) (s0 : Int) : Option (Unit ⊕ Bool) :=
  loopM (fun a => ref04_readyL0K l_1 taken_2 g_30 g_31 a (fun a' => some (.next a')) (fun e => some (.done e)) (fun r => some (.ret r))) s0

def ref04_readyL0I : Shp := ⟨[(1, .d false (.slice .bool)), (2, .d false (.slice .bool)), (3, .ptr 0), (7, .d true (.int .i64))], [.cs 24 2 1 (.cons (.d true (.int .i64)) (.cons (.d false (.slice St4.ty)) .nil))]⟩
def ref04_readyL0E : Shp := ⟨[], []⟩

def ref04_ready (g_0 : Graph) (l_1 : (List Bool)) (taken_2 : (List Bool)) : Option Bool :=
  bnd (ref04_readyL0 l_1 taken_2 g_0.1 g_0.2.1 0) fun oe1 =>
  lk oe1 (fun e1 =>
    some true) (fun r => some r)

/-! casebook/casebookref04.Strong -/

def ref04_StrongL0K {R : Type} (g_10 : Int) (g_11 : (List St4)) (i_4 : Int) (classes_3 : (List (List Bool))) (nx : (Int × (List (List Bool))) → Option R) (dn : (List (List Bool)) → Option R) (rt : (List (List Int)) → Option R) : Option R :=
  bif decide (i_4 < g_10) then
    bnd (ref04_class (g_10, g_11, ()) i_4) fun r1 =>
    ckB (room (classes_3.length + 1) 24) <|
    ckB (inR .i64 (i_4 + 1)) <|
    nx ((i_4 + 1), (classes_3 ++ [r1]))
  else
    dn classes_3

def ref04_StrongL0 (g_10 : Int) (g_11 : (List St4)) (s0 : (Int × (List (List Bool)))) : Option ((List (List Bool)) ⊕ (List (List Int))) :=
  loopM (fun a => ref04_StrongL0K g_10 g_11 a.1 a.2 (fun a' => some (.next a')) (fun e => some (.done e)) (fun r => some (.ret r))) s0

def ref04_StrongL0I : Shp := ⟨[(1, .ptr 0), (3, .own 1), (4, .d true (.int .i64))], [.cs 24 2 1 (.cons (.d true (.int .i64)) (.cons (.d false (.slice St4.ty)) .nil)), .arr 63 (.fz true) [4] (.slice .bool)]⟩
def ref04_StrongL0E : Shp := ⟨[(1, .ptr 0), (3, .own 1)], [.cs 24 2 1 (.cons (.d true (.int .i64)) (.cons (.d false (.slice St4.ty)) .nil)), .arr 63 (.fz true) [4] (.slice .bool)]⟩

def ref04_StrongL1K {R : Type} (classes_3 : (List (List Bool))) (i_8 : Int) (g_10 : Int) (g_11 : (List St4)) (out_5 : (List (List Int))) (k_9 : Int) (taken_6 : (List Bool)) (nx : (Int × (List Bool)) → Option R) (dn : (List Bool) → Option R) (rt : (List (List Int)) → Option R) : Option R :=
  bif decide (k_9 < g_10) then
    ckB (ix k_9 taken_6.length) <|
    ckB (ix k_9 taken_6.length) <|
    bif (taken_6.getD (Int.toNat k_9) false) then
      ckB (ix k_9 taken_6.length) <|
      ckB (ix k_9 taken_6.length) <|
      ckB (inR .i64 (k_9 + 1)) <|
      nx ((k_9 + 1), (taken_6.set (Int.toNat k_9) true))
    else
      ckB (ix i_8 classes_3.length) <|
      ckB (ix i_8 classes_3.length) <|
      ckB (ix k_9 (classes_3.getD (Int.toNat i_8) []).length) <|
      ckB (ix k_9 (classes_3.getD (Int.toNat i_8) []).length) <|
      ckB (ix k_9 taken_6.length) <|
      ckB (ix k_9 taken_6.length) <|
      ckB (inR .i64 (k_9 + 1)) <|
      nx ((k_9 + 1), (taken_6.set (Int.toNat k_9) ((classes_3.getD (Int.toNat i_8) []).getD (Int.toNat k_9) false)))
  else
    dn taken_6

def ref04_StrongL1 (classes_3 : (List (List Bool))) (i_8 : Int) (g_10 : Int) (g_11 : (List St4)) (out_5 : (List (List Int))) (s0 : (Int × (List Bool))) : Option ((List Bool) ⊕ (List (List Int))) :=
  loopM (fun a => ref04_StrongL1K classes_3 i_8 g_10 g_11 out_5 a.1 a.2 (fun a' => some (.next a')) (fun e => some (.done e)) (fun r => some (.ret r))) s0

def ref04_StrongL1I : Shp := ⟨[(1, .ptr 0), (3, .d true (.slice (.slice .bool))), (5, .own 1), (6, .own 2), (8, .d true (.int .i64)), (9, .d true (.int .i64))], [.cs 24 2 1 (.cons (.d true (.int .i64)) (.cons (.d false (.slice St4.ty)) .nil)), .arr 27 (.fz true) [3] (.slice (.int .i64)), .arr 4 (.fz true) [0] .bool]⟩
def ref04_StrongL1E : Shp := ⟨[(1, .ptr 0), (3, .d true (.slice (.slice .bool))), (5, .own 1), (6, .own 2), (8, .d true (.int .i64))], [.cs 24 2 1 (.cons (.d true (.int .i64)) (.cons (.d false (.slice St4.ty)) .nil)), .arr 27 (.fz true) [3] (.slice (.int .i64)), .arr 4 (.fz true) [0] .bool]⟩

def ref04_StrongT2K {R : Type} (classes_3 : (List (List Bool))) (again_7 : Bool) (i_8 : Int) (v_49 : Bool) (g_10 : Int) (g_11 : (List St4)) (out_5 : (List (List Int))) (taken_6 : (List Bool)) (dn : (Bool × (List (List Int)) × (List Bool)) → Option R) (rt : (List (List Int)) → Option R) : Option R :=
  bif v_49 then
    ckB (ix i_8 classes_3.length) <|
    ckB (ix i_8 classes_3.length) <|
    bnd (ref04_list (classes_3.getD (Int.toNat i_8) [])) fun r4 =>
    ckB (room (out_5.length + 1) 24) <|
    bnd (ref04_StrongL1 classes_3 i_8 g_10 g_11 (out_5 ++ [r4]) (0, taken_6)) fun oe5 =>
    lk oe5 (fun e5 =>
      dn (true, (out_5 ++ [r4]), e5)) (fun r => rt r)
  else
    dn (again_7, out_5, taken_6)

def ref04_StrongT2 (classes_3 : (List (List Bool))) (again_7 : Bool) (i_8 : Int) (v_49 : Bool) (g_10 : Int) (g_11 : (List St4)) (out_5 : (List (List Int))) (taken_6 : (List Bool)) : Option ((Bool × (List (List Int)) × (List Bool)) ⊕ (List (List Int))) :=
  ref04_StrongT2K classes_3 again_7 i_8 v_49 g_10 g_11 out_5 taken_6 (fun e => some (.inl e)) (fun r => some (.inr r))

def ref04_StrongT2I : Shp := ⟨[(1, .ptr 0), (3, .d true (.slice (.slice .bool))), (5, .own 1), (6, .own 2), (7, .d true .bool), (8, .d true (.int .i64)), (49, .d true .bool)], [.cs 24 2 1 (.cons (.d true (.int .i64)) (.cons (.d false (.slice St4.ty)) .nil)), .arr 27 (.fz true) [3] (.slice (.int .i64)), .arr 4 (.fz true) [0] .bool]⟩
def ref04_StrongT2E : Shp := ⟨[(1, .ptr 0), (3, .d true (.slice (.slice .bool))), (5, .own 1), (6, .own 2), (7, .d true .bool), (8, .d true (.int .i64))], [.cs 24 2 1 (.cons (.d true (.int .i64)) (.cons (.d false (.slice St4.ty)) .nil)), .arr 27 (.fz true) [3] (.slice (.int .i64)), .arr 4 (.fz true) [0] .bool]⟩

def ref04_StrongL3K {R : Type} (classes_3 : (List (List Bool))) (g_10 : Int) (g_11 : (List St4)) (again_7 : Bool) (i_8 : Int) (out_5 : (List (List Int))) (taken_6 : (List Bool)) (nx : (Bool × Int × (List (List Int)) × (List Bool)) → Option R) (dn : (Bool × (List (List Int)) × (List Bool)) → Option R) (rt : (List (List Int)) → Option R) : Option R :=
  bif decide (i_8 < g_10) then
    bif (!again_7) then
      ckB (ix i_8 taken_6.length) <|
      ckB (ix i_8 taken_6.length) <|
      bif (!(taken_6.getD (Int.toNat i_8) false)) then
        ckB (ix i_8 classes_3.length) <|
        ckB (ix i_8 classes_3.length) <|
        bnd (ref04_ready (g_10, g_11, ()) (classes_3.getD (Int.toNat i_8) []) taken_6) fun r3 =>
        bnd (ref04_StrongT2 classes_3 again_7 i_8 r3 g_10 g_11 out_5 taken_6) fun oe6 =>
        lk oe6 (fun e6 =>
          ckB (inR .i64 (i_8 + 1)) <|
          nx (e6.1, (i_8 + 1), e6.2.1, e6.2.2)) (fun r => rt r)
      else
        bnd (ref04_StrongT2 classes_3 again_7 i_8 false g_10 g_11 out_5 taken_6) fun oe7 =>
        lk oe7 (fun e7 =>
          ckB (inR .i64 (i_8 + 1)) <|
          nx (e7.1, (i_8 + 1), e7.2.1, e7.2.2)) (fun r => rt r)
    else
      dn (again_7, out_5, taken_6)
  else
    dn (again_7, out_5, taken_6)

def ref04_StrongL3 (classes_3 : (List (List Bool))) (g_10 : Int) (g_11 : (List St4)) (s0 : (Bool × Int × (List (List Int)) × (List Bool))) : Option ((Bool × (List (List Int)) × (List Bool)) ⊕ (List (List Int))) :=
  loopM (fun a => ref04_StrongL3K classes_3 g_10 g_11 a.1 a.2.1 a.2.2.1 a.2.2.2 (fun a' => some (.next a')) (fun e => some (.done e)) (fun r => some (.ret r))) s0

def ref04_StrongL3I : Shp := ⟨[(1, .ptr 0), (3, .d true (.slice (.slice .bool))), (5, .own 1), (6, .own 2), (7, .d true .bool), (8, .d true (.int .i64))], [.cs 24 2 1 (.cons (.d true (.int .i64)) (.cons (.d false (.slice St4.ty)) .nil)), .arr 27 (.fz true) [3] (.slice (.int .i64)), .arr 4 (.fz true) [0] .bool]⟩
def ref04_StrongL3E : Shp := ⟨[(1, .ptr 0), (3, .d true (.slice (.slice .bool))), (5, .own 1), (6, .own 2), (7, .d true .bool)], [.cs 24 2 1 (.cons (.d true (.int .i64)) (.cons (.d false (.slice St4.ty)) .nil)), .arr 27 (.fz true) [3] (.slice (.int .i64)), .arr 4 (.fz true) [0] .bool]⟩

def ref04_StrongL4K {R : Type} (classes_3 : (List (List Bool))) (g_10 : Int) (g_11 : (List St4)) (again_7 : Bool) (out_5 : (List (List Int))) (taken_6 : (List Bool)) (nx : (Bool × (List (List Int)) × (List Bool)) → Option R) (dn : (List (List Int)) → Option R) (rt : (List (List Int)) → Option R) : Option R :=
  bif again_7 then
    bnd (ref04_StrongL3 classes_3 g_10 g_11 (false, 0, out_5, taken_6)) fun oe8 =>
    lk oe8 (fun e8 =>
      nx (e8.1, e8.2.1, e8.2.2)) (fun r => rt r)
  else
    dn out_5

def ref04_StrongL4 (classes_3 : (List (List Bool))) (g_10 : Int) (g_11 : (List St4)) (s0 : (Bool × (List (List Int)) × (List Bool))) : Option ((List (List Int)) ⊕ (List (List Int))) :=
  loopM (fun a => ref04_StrongL4K classes_3 g_10 g_11 a.1 a.2.1 a.2.2 (fun a' => some (.next a')) (fun e => some (.done e)) (fun r => some (.ret r))) s0

def ref04_StrongL4I : Shp := ⟨[(1, .ptr 0), (3, .d true (.slice (.slice .bool))), (5, .own 1), (6, .own 2), (7, .d true .bool)], [.cs 24 2 1 (.cons (.d true (.int .i64)) (.cons (.d false (.slice St4.ty)) .nil)), .arr 27 (.fz true) [3] (.slice (.int .i64)), .arr 4 (.fz true) [0] .bool]⟩
def ref04_StrongL4E : Shp := ⟨[(5, .own 0)], [.arr 27 (.fz true) [3] (.slice (.int .i64))]⟩

def ref04_Strong (g_0 : Graph) : Option (List (List Int)) :=
  bnd (ref04_StrongL0 g_0.1 g_0.2.1 (0, [])) fun oe2 =>
  lk oe2 (fun e2 =>
    ckB (mkOk g_0.1 g_0.1 1) <|
    bnd (ref04_StrongL4 e2 g_0.1 g_0.2.1 (true, [], (List.replicate (Int.toNat g_0.1) (false : Bool)))) fun oe9 =>
    lk oe9 (fun e9 =>
      some e9) (fun r => some r)) (fun r => some r)

/-! casebook/casebooklaw04.GraphParts -/

def law04_GraphParts (g_0 : Graph) : Option Bool :=
  bnd (law04_awake) fun r1 =>
  bif (!r1) then
    bnd (law04_awake) fun r2 =>
    some r2
  else
    bnd (law04_small g_0) fun r3 =>
    bif (!r3) then
      bnd (law04_awake) fun r4 =>
      some r4
    else
      bnd (graph_Components g_0) fun r5 =>
      bnd (graph_Strong g_0) fun r6 =>
      bnd (ref04_Valid g_0) fun r7 =>
      bif (!r7) then
        bif decide ((r5.2.length : Int) = 0) then
          bif decide (r5.1 = 1) then
            bif decide ((r6.2.length : Int) = 0) then
              some (decide (r6.1 = 1))
            else
              some false
          else
            some false
        else
          some false
      else
        bnd (ref04_Components g_0) fun r8 =>
        bnd (ref04_Same r5.2 r8) fun r9 =>
        bif r9 then
          bif decide (r5.1 = 0) then
            bnd (ref04_Strong g_0) fun r10 =>
            bnd (ref04_Same r6.2 r10) fun r11 =>
            bif r11 then
              some (decide (r6.1 = 0))
            else
              some false
          else
            some false
        else
          some false

/-! casebook/casebooklaw04.GraphTurned$1 -/

def law04_GraphTurned_1 (x_0 : (List Int)) (p_1 : (List Int)) : Option Bool :=
  ckB (ix 0 1) <|
  bnd (slices_Equal_int_int x_0 p_1) fun r1 =>
  some r1

/-! slices.IndexFunc[[][]int,[]int] -/

def slices_IndexFunc_int_int_43L0K {R : Type} (s_0 : (List (List Int))) (f_1c0 : (List Int)) (v_7 : Int) (v_8 : Int) (nx : Int → Option R) (dn : Unit → Option R) (rt : Int → Option R) : Option R :=
  bif decide (v_8 < v_7) then
    ckB (ix v_8 s_0.length) <|
    ckB (ix v_8 s_0.length) <|
    bnd (law04_GraphTurned_1 (s_0.getD (Int.toNat v_8) []) f_1c0) fun r1 =>
    bif r1 then
      rt v_8
    else
      ckB (inR .i64 (v_8 + 1)) <|
      nx (v_8 + 1)
  else
    dn ()

def slices_IndexFunc_int_int_43L0 (s_0 : (List (List Int))) (f_1c0 : (List Int)) (v_7 : Int) (s0 : Int) : Option (Unit ⊕ Int) :=
  loopM (fun a => slices_IndexFunc_int_int_43L0K s_0 f_1c0 v_7 a (fun a' => some (.next a')) (fun e => some (.done e)) (fun r => some (.ret r))) s0

def slices_IndexFunc_int_int_43L0I : Shp := ⟨[(0, .d false (.slice (.slice (.int .i64)))), (1, .fn 43 (.cons (.rp false (.slice (.int .i64))) .nil)), (7, .d true (.int .i64)), (8, .d true (.int .i64))], []⟩
def slices_IndexFunc_int_int_43L0E : Shp := ⟨[], []⟩

def slices_IndexFunc_int_int_43 (s_0 : (List (List Int))) (f_1c0 : (List Int)) : Option Int :=
  bnd (slices_IndexFunc_int_int_43L0 s_0 f_1c0 (s_0.length : Int) 0) fun oe2 =>
  lk oe2 (fun e2 =>
    some (-1)) (fun r => some r)

/-! slices.ContainsFunc[[][]int,[]int] -/

def slices_ContainsFunc_int_int_43 (s_0 : (List (List Int))) (f_1c0 : (List Int)) : Option Bool :=
  bnd (slices_IndexFunc_int_int_43 s_0 f_1c0) fun r1 =>
  some (decide ((0 : Int) ≤ r1))

/-! slices.Contains[[]int,int] -/

def slices_Contains_int_int (s_0 : (List Int)) (v_1 : Int) : Option Bool :=
  bnd (slices_Index_int_int s_0 v_1) fun r1 =>
  some (decide ((0 : Int) ≤ r1))

/-! casebook/casebooklaw04.GraphTurned$2 -/

def law04_GraphTurned_2 (n_0 : Int) (p_1 : (List Int)) : Option Bool :=
  ckB (ix 0 1) <|
  bnd (slices_Contains_int_int p_1 n_0) fun r1 =>
  some (!r1)

/-! slices.IndexFunc[[]int,int] -/

def slices_IndexFunc_int_int_44L0K {R : Type} (s_0 : (List Int)) (f_1c0 : (List Int)) (v_7 : Int) (v_8 : Int) (nx : Int → Option R) (dn : Unit → Option R) (rt : Int → Option R) : Option R :=
  bif decide (v_8 < v_7) then
    ckB (ix v_8 s_0.length) <|
    ckB (ix v_8 s_0.length) <|
    bnd (law04_GraphTurned_2 (s_0.getD (Int.toNat v_8) 0) f_1c0) fun r1 =>
    bif r1 then
      rt v_8
    else
      ckB (inR .i64 (v_8 + 1)) <|
      nx (v_8 + 1)
  else
    dn ()

def slices_IndexFunc_int_int_44L0 (s_0 : (List Int)) (f_1c0 : (List Int)) (v_7 : Int) (s0 : Int) : Option (Unit ⊕ Int) :=
  loopM (fun a => slices_IndexFunc_int_int_44L0K s_0 f_1c0 v_7 a (fun a' => some (.next a')) (fun e => some (.done e)) (fun r => some (.ret r))) s0

def slices_IndexFunc_int_int_44L0I : Shp := ⟨[(0, .d false (.slice (.int .i64))), (1, .fn 44 (.cons (.rp false (.slice (.int .i64))) .nil)), (7, .d true (.int .i64)), (8, .d true (.int .i64))], []⟩
def slices_IndexFunc_int_int_44L0E : Shp := ⟨[], []⟩

def slices_IndexFunc_int_int_44 (s_0 : (List Int)) (f_1c0 : (List Int)) : Option Int :=
  bnd (slices_IndexFunc_int_int_44L0 s_0 f_1c0 (s_0.length : Int) 0) fun oe2 =>
  lk oe2 (fun e2 =>
    some (-1)) (fun r => some r)

/-! slices.ContainsFunc[[]int,int] -/

def slices_ContainsFunc_int_int_44 (s_0 : (List Int)) (f_1c0 : (List Int)) : Option Bool :=
  bnd (slices_IndexFunc_int_int_44 s_0 f_1c0) fun r1 =>
  some (decide ((0 : Int) ≤ r1))

/-! casebook/casebooklaw04.GraphTurned -/

def law04_GraphTurnedT0K {R : Type} (a_1 : Int) (b_2 : Int) (v_65 : Bool) (g_30 : Int) (g_31 : (List St4)) (dn : Unit → Option R) (rt : Bool → Option R) : Option R :=
  bif v_65 then
    bnd (law04_awake) fun r2 =>
    rt r2
  else
    dn ()

def law04_GraphTurnedT0 (a_1 : Int) (b_2 : Int) (v_65 : Bool) (g_30 : Int) (g_31 : (List St4)) : Option (Unit ⊕ Bool) :=
  law04_GraphTurnedT0K a_1 b_2 v_65 g_30 g_31 (fun e => some (.inl e)) (fun r => some (.inr r))

def law04_GraphTurnedT0I : Shp := ⟨[(1, .d true (.int .i64)), (2, .d true (.int .i64)), (3, .ptr 0), (65, .d true .bool)], [.cs 24 2 1 (.cons (.d true (.int .i64)) (.cons (.d false (.slice St4.ty)) .nil))]⟩
def law04_GraphTurnedT0E : Shp := ⟨[(1, .d true (.int .i64)), (2, .d true (.int .i64)), (3, .ptr 0)], [.cs 24 2 1 (.cons (.d true (.int .i64)) (.cons (.d false (.slice St4.ty)) .nil))]⟩

def law04_GraphTurnedL1K {R : Type} (a_1 : Int) (b_2 : Int) (t_15 : (List (List Int))) (v_145 : (List (List Int))) (v_146 : Int) (g_30 : Int) (g_31 : (List St4)) (r_70 : Int) (r_71 : (List St4)) (v_147 : Int) (nx : Int → Option R) (dn : Unit → Option R) (rt : Bool → Option R) : Option R :=
  bif decide (v_147 < v_146) then
    ckB (ix v_147 v_145.length) <|
    ckB (ix v_147 v_145.length) <|
    bnd (slices_ContainsFunc_int_int_43 t_15 (v_145.getD (Int.toNat v_147) [])) fun r12 =>
    bif (!r12) then
      rt false
    else
      ckB (inR .i64 (v_147 + 1)) <|
      nx (v_147 + 1)
  else
    dn ()

def law04_GraphTurnedL1 (a_1 : Int) (b_2 : Int) (t_15 : (List (List Int))) (v_145 : (List (List Int))) (v_146 : Int) (g_30 : Int) (g_31 : (List St4)) (r_70 : Int) (r_71 : (List St4)) (s0 : Int) : Option (Unit ⊕ Bool) :=
  loopM (fun a => law04_GraphTurnedL1K a_1 b_2 t_15 v_145 v_146 g_30 g_31 r_70 r_71 a (fun a' => some (.next a')) (fun e => some (.done e)) (fun r => some (.ret r))) s0

def law04_GraphTurnedL1I : Shp := ⟨[(1, .d true (.int .i64)), (2, .d true (.int .i64)), (3, .ptr 0), (7, .ptr 1), (15, .d true (.slice (.slice (.int .i64)))), (145, .d true (.slice (.slice (.int .i64)))), (146, .d true (.int .i64)), (147, .d true (.int .i64))], [.cs 24 2 1 (.cons (.d true (.int .i64)) (.cons (.d false (.slice St4.ty)) .nil)), .cs 24 2 1 (.cons (.d true (.int .i64)) (.cons (.d true (.slice St4.ty)) .nil))]⟩
def law04_GraphTurnedL1E : Shp := ⟨[(1, .d true (.int .i64)), (2, .d true (.int .i64)), (3, .ptr 0), (7, .ptr 1)], [.cs 24 2 1 (.cons (.d true (.int .i64)) (.cons (.d false (.slice St4.ty)) .nil)), .cs 24 2 1 (.cons (.d true (.int .i64)) (.cons (.d true (.slice St4.ty)) .nil))]⟩

def law04_GraphTurnedT2K {R : Type} (a_1 : Int) (b_2 : Int) (g_30 : Int) (g_31 : (List St4)) (dn : Unit → Option R) (rt : Bool → Option R) : Option R :=
  bnd (graph_Reverse (g_30, g_31, ())) fun r4 =>
  bnd (graph_Reverse r4.1) fun r5 =>
  bif (!decide (r4.2 = 0)) then
    rt false
  else
    bif (!decide (r5.2 = 0)) then
      rt false
    else
      bif (!decide (r5.1.1 = g_30)) then
        rt false
      else
        bnd (slices_Equal_2_int_2_int r5.1.2.1 g_31) fun r6 =>
        bif (!r6) then
          rt false
        else
          bnd (graph_Components (g_30, g_31, ())) fun r7 =>
          bnd (graph_Components r4.1) fun r8 =>
          bnd (graph_Strong (g_30, g_31, ())) fun r9 =>
          bnd (graph_Strong r4.1) fun r10 =>
          bif (!decide (r7.1 = 0)) then
            rt false
          else
            bif (!decide (r8.1 = 0)) then
              rt false
            else
              bif (!decide (r9.1 = 0)) then
                rt false
              else
                bif (!decide (r10.1 = 0)) then
                  rt false
                else
                  bnd (ref04_Same r7.2 r8.2) fun r11 =>
                  bif (!r11) then
                    rt false
                  else
                    bif (!decide ((r9.2.length : Int) = (r10.2.length : Int))) then
                      rt false
                    else
                      bnd (law04_GraphTurnedL1 a_1 b_2 r10.2 r9.2 (r9.2.length : Int) g_30 g_31 r4.1.1 r4.1.2.1 0) fun oe13 =>
                      lk oe13 (fun e13 =>
                        bnd (graph_Between (g_30, g_31, ()) a_1 b_2) fun r14 =>
                        bnd (graph_Between r4.1 b_2 a_1) fun r15 =>
                        bnd (graph_Reach (g_30, g_31, ()) [a_1]) fun r16 =>
                        bnd (graph_Reach (g_30, g_31, ()) [a_1, b_2]) fun r17 =>
                        bif (!decide (r14.1 = 0)) then
                          rt false
                        else
                          bif (!decide (r15.1 = 0)) then
                            rt false
                          else
                            bif (!decide (r16.1 = 0)) then
                              rt false
                            else
                              bif (!decide (r17.1 = 0)) then
                                rt false
                              else
                                bnd (slices_Equal_int_int r14.2 r15.2) fun r18 =>
                                bif (!r18) then
                                  rt false
                                else
                                  bnd (slices_Contains_int_int r16.2 b_2) fun r19 =>
                                  bif (!(r19 == decide ((0 : Int) < (r14.2.length : Int)))) then
                                    rt false
                                  else
                                    bnd (slices_ContainsFunc_int_int_44 r16.2 r17.2) fun r20 =>
                                    rt (!r20)) (fun r => rt r)

def law04_GraphTurnedT2 (a_1 : Int) (b_2 : Int) (g_30 : Int) (g_31 : (List St4)) : Option (Unit ⊕ Bool) :=
  law04_GraphTurnedT2K a_1 b_2 g_30 g_31 (fun e => some (.inl e)) (fun r => some (.inr r))

def law04_GraphTurnedT2I : Shp := ⟨[(1, .d true (.int .i64)), (2, .d true (.int .i64)), (3, .ptr 0)], [.cs 24 2 1 (.cons (.d true (.int .i64)) (.cons (.d false (.slice St4.ty)) .nil))]⟩
def law04_GraphTurnedT2E : Shp := ⟨[], []⟩

def law04_GraphTurned (g_0 : Graph) (a_1 : Int) (b_2 : Int) : Option Bool :=
  bnd (law04_awake) fun r1 =>
  bif (!r1) then
    bnd (law04_GraphTurnedT0 a_1 b_2 true g_0.1 g_0.2.1) fun oe3 =>
    lk oe3 (fun e3 =>
      bnd (law04_GraphTurnedT2 a_1 b_2 g_0.1 g_0.2.1) fun oe21 =>
      lk oe21 (fun e21 =>
        none) (fun r => some r)) (fun r => some r)
  else
    bif decide (g_0.1 < 1) then
      bnd (law04_GraphTurnedT0 a_1 b_2 true g_0.1 g_0.2.1) fun oe22 =>
      lk oe22 (fun e22 =>
        bnd (law04_GraphTurnedT2 a_1 b_2 g_0.1 g_0.2.1) fun oe23 =>
        lk oe23 (fun e23 =>
          none) (fun r => some r)) (fun r => some r)
    else
      bif decide ((20 : Int) < g_0.1) then
        bnd (law04_GraphTurnedT0 a_1 b_2 true g_0.1 g_0.2.1) fun oe24 =>
        lk oe24 (fun e24 =>
          bnd (law04_GraphTurnedT2 a_1 b_2 g_0.1 g_0.2.1) fun oe25 =>
          lk oe25 (fun e25 =>
            none) (fun r => some r)) (fun r => some r)
      else
        bif decide ((60 : Int) < (g_0.2.1.length : Int)) then
          bnd (law04_GraphTurnedT0 a_1 b_2 true g_0.1 g_0.2.1) fun oe26 =>
          lk oe26 (fun e26 =>
            bnd (law04_GraphTurnedT2 a_1 b_2 g_0.1 g_0.2.1) fun oe27 =>
            lk oe27 (fun e27 =>
              none) (fun r => some r)) (fun r => some r)
        else
          bnd (graph_Valid g_0) fun r28 =>
          bif (!r28) then
            bnd (law04_GraphTurnedT0 a_1 b_2 true g_0.1 g_0.2.1) fun oe29 =>
            lk oe29 (fun e29 =>
              bnd (law04_GraphTurnedT2 a_1 b_2 g_0.1 g_0.2.1) fun oe30 =>
              lk oe30 (fun e30 =>
                none) (fun r => some r)) (fun r => some r)
          else
            bif decide (a_1 < 0) then
              bnd (law04_GraphTurnedT0 a_1 b_2 true g_0.1 g_0.2.1) fun oe31 =>
              lk oe31 (fun e31 =>
                bnd (law04_GraphTurnedT2 a_1 b_2 g_0.1 g_0.2.1) fun oe32 =>
                lk oe32 (fun e32 =>
                  none) (fun r => some r)) (fun r => some r)
            else
              bif decide (g_0.1 ≤ a_1) then
                bnd (law04_GraphTurnedT0 a_1 b_2 true g_0.1 g_0.2.1) fun oe33 =>
                lk oe33 (fun e33 =>
                  bnd (law04_GraphTurnedT2 a_1 b_2 g_0.1 g_0.2.1) fun oe34 =>
                  lk oe34 (fun e34 =>
                    none) (fun r => some r)) (fun r => some r)
              else
                bif decide (b_2 < 0) then
                  bnd (law04_GraphTurnedT0 a_1 b_2 true g_0.1 g_0.2.1) fun oe35 =>
                  lk oe35 (fun e35 =>
                    bnd (law04_GraphTurnedT2 a_1 b_2 g_0.1 g_0.2.1) fun oe36 =>
                    lk oe36 (fun e36 =>
                      none) (fun r => some r)) (fun r => some r)
                else
                  bnd (law04_GraphTurnedT0 a_1 b_2 (decide (g_0.1 ≤ b_2)) g_0.1 g_0.2.1) fun oe37 =>
                  lk oe37 (fun e37 =>
                    bnd (law04_GraphTurnedT2 a_1 b_2 g_0.1 g_0.2.1) fun oe38 =>
                    lk oe38 (fun e38 =>
                      none) (fun r => some r)) (fun r => some r)

/-! slices.Index[[][2]int,[2]int] -/

def slices_Index_2_int_2_intL0K {R : Type} (s_0 : (List St4)) (v_7 : Int) (v_30 : Int) (v_31 : Int) (v_8 : Int) (nx : Int → Option R) (dn : Unit → Option R) (rt : Int → Option R) : Option R :=
  bif decide (v_8 < v_7) then
    ckB (ix v_8 s_0.length) <|
    ckB (ix v_8 s_0.length) <|
    bif (decide (v_30 = (s_0.getD (Int.toNat v_8) St4.z).1) && (decide (v_31 = (s_0.getD (Int.toNat v_8) St4.z).2.1) && true)) then
      rt v_8
    else
      ckB (inR .i64 (v_8 + 1)) <|
      nx (v_8 + 1)
  else
    dn ()

def slices_Index_2_int_2_intL0 (s_0 : (List St4)) (v_7 : Int) (v_30 : Int) (v_31 : Int) (s0 : Int) : Option (Unit ⊕ Int) :=
  loopM (fun a => slices_Index_2_int_2_intL0K s_0 v_7 v_30 v_31 a (fun a' => some (.next a')) (fun e => some (.done e)) (fun r => some (.ret r))) s0

def slices_Index_2_int_2_intL0I : Shp := ⟨[(0, .d false (.slice St4.ty)), (3, .ptr 0), (7, .d true (.int .i64)), (8, .d true (.int .i64))], [.cs 37 2 1 (.cons (.d true (.int .i64)) (.cons (.d true (.int .i64)) .nil))]⟩
def slices_Index_2_int_2_intL0E : Shp := ⟨[], []⟩

def slices_Index_2_int_2_int (s_0 : (List St4)) (v_1 : St4) : Option Int :=
  bnd (slices_Index_2_int_2_intL0 s_0 (s_0.length : Int) v_1.1 v_1.2.1 0) fun oe1 =>
  lk oe1 (fun e1 =>
    some (-1)) (fun r => some r)

/-! slices.Contains[[][2]int,[2]int] -/

def slices_Contains_2_int_2_int (s_0 : (List St4)) (v_1 : St4) : Option Bool :=
  bnd (slices_Index_2_int_2_int s_0 v_1) fun r1 =>
  some (decide ((0 : Int) ≤ r1))

/-! casebook/casebooklaw04.GraphShortest -/

def law04_GraphShortestT0K {R : Type} (a_1 : Int) (b_2 : Int) (v_60 : Bool) (g_30 : Int) (g_31 : (List St4)) (dn : Unit → Option R) (rt : Bool → Option R) : Option R :=
  bif v_60 then
    bnd (law04_awake) fun r2 =>
    rt r2
  else
    dn ()

def law04_GraphShortestT0 (a_1 : Int) (b_2 : Int) (v_60 : Bool) (g_30 : Int) (g_31 : (List St4)) : Option (Unit ⊕ Bool) :=
  law04_GraphShortestT0K a_1 b_2 v_60 g_30 g_31 (fun e => some (.inl e)) (fun r => some (.inr r))

def law04_GraphShortestT0I : Shp := ⟨[(1, .d true (.int .i64)), (2, .d true (.int .i64)), (3, .ptr 0), (60, .d true .bool)], [.cs 24 2 1 (.cons (.d true (.int .i64)) (.cons (.d false (.slice St4.ty)) .nil))]⟩
def law04_GraphShortestT0E : Shp := ⟨[(1, .d true (.int .i64)), (2, .d true (.int .i64)), (3, .ptr 0)], [.cs 24 2 1 (.cons (.d true (.int .i64)) (.cons (.d false (.slice St4.ty)) .nil))]⟩

def law04_GraphShortestL1K {R : Type} (a_1 : Int) (b_2 : Int) (p_7 : (List Int)) (g_30 : Int) (g_31 : (List St4)) (i_11 : Int) (nx : Int → Option R) (dn : Unit → Option R) (rt : Bool → Option R) : Option R :=
  bif decide (i_11 < (p_7.length : Int)) then
    ckB (inR .i64 (i_11 - 1)) <|
    ckB (ix (i_11 - 1) p_7.length) <|
    ckB (ix (i_11 - 1) p_7.length) <|
    ckB (ix i_11 p_7.length) <|
    ckB (ix i_11 p_7.length) <|
    bnd (slices_Contains_2_int_2_int g_31 ((p_7.getD (Int.toNat (i_11 - 1)) 0), (p_7.getD (Int.toNat i_11) 0), ())) fun r7 =>
    bif (!r7) then
      rt false
    else
      ckB (ix i_11 p_7.length) <|
      ckB (ix i_11 p_7.length) <|
      bnd (graph_Path (g_30, g_31, ()) a_1 (p_7.getD (Int.toNat i_11) 0)) fun r8 =>
      bif (!decide (r8.1 = 0)) then
        rt false
      else
        ckB (inR .i64 (i_11 + 1)) <|
        ckB (cut 0 (i_11 + 1) p_7.length) <|
        bnd (slices_Equal_int_int r8.2 (p_7.take (Int.toNat (i_11 + 1)))) fun r9 =>
        bif (!r9) then
          rt false
        else
          ckB (inR .i64 (i_11 + 1)) <|
          nx (i_11 + 1)
  else
    dn ()

def law04_GraphShortestL1 (a_1 : Int) (b_2 : Int) (p_7 : (List Int)) (g_30 : Int) (g_31 : (List St4)) (s0 : Int) : Option (Unit ⊕ Bool) :=
  loopM (fun a => law04_GraphShortestL1K a_1 b_2 p_7 g_30 g_31 a (fun a' => some (.next a')) (fun e => some (.done e)) (fun r => some (.ret r))) s0

def law04_GraphShortestL1I : Shp := ⟨[(1, .d true (.int .i64)), (2, .d true (.int .i64)), (3, .ptr 0), (7, .d true (.slice (.int .i64))), (11, .d true (.int .i64))], [.cs 24 2 1 (.cons (.d true (.int .i64)) (.cons (.d false (.slice St4.ty)) .nil))]⟩
def law04_GraphShortestL1E : Shp := ⟨[(1, .d true (.int .i64)), (2, .d true (.int .i64)), (3, .ptr 0), (7, .d true (.slice (.int .i64)))], [.cs 24 2 1 (.cons (.d true (.int .i64)) (.cons (.d false (.slice St4.ty)) .nil))]⟩

def law04_GraphShortestL2K {R : Type} (a_1 : Int) (b_2 : Int) (p_7 : (List Int)) (v_157 : (List St4)) (v_158 : Int) (g_30 : Int) (g_31 : (List St4)) (v_159 : Int) (nx : Int → Option R) (dn : Unit → Option R) (rt : Bool → Option R) : Option R :=
  bif decide (v_159 < v_158) then
    ckB (ix v_159 v_157.length) <|
    ckB (ix v_159 v_157.length) <|
    bif (!decide ((v_157.getD (Int.toNat v_159) St4.z).1 = b_2)) then
      ckB (inR .i64 (v_159 + 1)) <|
      nx (v_159 + 1)
    else
      bnd (graph_Path (g_30, g_31, ()) a_1 (v_157.getD (Int.toNat v_159) St4.z).2.1) fun r11 =>
      bif (!decide (r11.1 = 0)) then
        rt false
      else
        ckB (inR .i64 ((p_7.length : Int) + 1)) <|
        bif decide (((p_7.length : Int) + 1) < (r11.2.length : Int)) then
          rt false
        else
          ckB (inR .i64 (v_159 + 1)) <|
          nx (v_159 + 1)
  else
    dn ()

def law04_GraphShortestL2 (a_1 : Int) (b_2 : Int) (p_7 : (List Int)) (v_157 : (List St4)) (v_158 : Int) (g_30 : Int) (g_31 : (List St4)) (s0 : Int) : Option (Unit ⊕ Bool) :=
  loopM (fun a => law04_GraphShortestL2K a_1 b_2 p_7 v_157 v_158 g_30 g_31 a (fun a' => some (.next a')) (fun e => some (.done e)) (fun r => some (.ret r))) s0

def law04_GraphShortestL2I : Shp := ⟨[(1, .d true (.int .i64)), (2, .d true (.int .i64)), (3, .ptr 0), (7, .d true (.slice (.int .i64))), (157, .d false (.slice St4.ty)), (158, .d true (.int .i64)), (159, .d true (.int .i64))], [.cs 24 2 1 (.cons (.d true (.int .i64)) (.cons (.d false (.slice St4.ty)) .nil))]⟩
def law04_GraphShortestL2E : Shp := ⟨[], []⟩

def law04_GraphShortestT3K {R : Type} (a_1 : Int) (b_2 : Int) (g_30 : Int) (g_31 : (List St4)) (dn : Unit → Option R) (rt : Bool → Option R) : Option R :=
  bnd (graph_Path (g_30, g_31, ()) a_1 b_2) fun r4 =>
  bnd (graph_Reach (g_30, g_31, ()) [a_1]) fun r5 =>
  bif (!decide (r5.1 = 0)) then
    rt false
  else
    bnd (slices_Contains_int_int r5.2 b_2) fun r6 =>
    bif (!(decide (r4.1 = 0) == r6)) then
      rt false
    else
      bif (!decide (r4.1 = 0)) then
        bif decide (r4.1 = 10) then
          rt (decide ((r4.2.length : Int) = 0))
        else
          rt false
      else
        bif decide ((r4.2.length : Int) = 0) then
          rt false
        else
          ckB (ix 0 r4.2.length) <|
          ckB (ix 0 r4.2.length) <|
          bif (!decide ((r4.2.getD 0 0) = a_1)) then
            rt false
          else
            ckB (inR .i64 ((r4.2.length : Int) - 1)) <|
            ckB (ix ((r4.2.length : Int) - 1) r4.2.length) <|
            ckB (ix ((r4.2.length : Int) - 1) r4.2.length) <|
            bif (!decide ((r4.2.getD (Int.toNat ((r4.2.length : Int) - 1)) 0) = b_2)) then
              rt false
            else
              bnd (law04_GraphShortestL1 a_1 b_2 r4.2 g_30 g_31 1) fun oe10 =>
              lk oe10 (fun e10 =>
                bnd (law04_GraphShortestL2 a_1 b_2 r4.2 g_31 (g_31.length : Int) g_30 g_31 0) fun oe12 =>
                lk oe12 (fun e12 =>
                  rt true) (fun r => rt r)) (fun r => rt r)

def law04_GraphShortestT3 (a_1 : Int) (b_2 : Int) (g_30 : Int) (g_31 : (List St4)) : Option (Unit ⊕ Bool) :=
  law04_GraphShortestT3K a_1 b_2 g_30 g_31 (fun e => some (.inl e)) (fun r => some (.inr r))

def law04_GraphShortestT3I : Shp := ⟨[(1, .d true (.int .i64)), (2, .d true (.int .i64)), (3, .ptr 0)], [.cs 24 2 1 (.cons (.d true (.int .i64)) (.cons (.d false (.slice St4.ty)) .nil))]⟩
def law04_GraphShortestT3E : Shp := ⟨[], []⟩

def law04_GraphShortest (g_0 : Graph) (a_1 : Int) (b_2 : Int) : Option Bool :=
  bnd (law04_awake) fun r1 =>
  bif (!r1) then
    bnd (law04_GraphShortestT0 a_1 b_2 true g_0.1 g_0.2.1) fun oe3 =>
    lk oe3 (fun e3 =>
      bnd (law04_GraphShortestT3 a_1 b_2 g_0.1 g_0.2.1) fun oe13 =>
      lk oe13 (fun e13 =>
        none) (fun r => some r)) (fun r => some r)
  else
    bif decide (g_0.1 < 1) then
      bnd (law04_GraphShortestT0 a_1 b_2 true g_0.1 g_0.2.1) fun oe14 =>
      lk oe14 (fun e14 =>
        bnd (law04_GraphShortestT3 a_1 b_2 g_0.1 g_0.2.1) fun oe15 =>
        lk oe15 (fun e15 =>
          none) (fun r => some r)) (fun r => some r)
    else
      bif decide ((20 : Int) < g_0.1) then
        bnd (law04_GraphShortestT0 a_1 b_2 true g_0.1 g_0.2.1) fun oe16 =>
        lk oe16 (fun e16 =>
          bnd (law04_GraphShortestT3 a_1 b_2 g_0.1 g_0.2.1) fun oe17 =>
          lk oe17 (fun e17 =>
            none) (fun r => some r)) (fun r => some r)
      else
        bif decide ((60 : Int) < (g_0.2.1.length : Int)) then
          bnd (law04_GraphShortestT0 a_1 b_2 true g_0.1 g_0.2.1) fun oe18 =>
          lk oe18 (fun e18 =>
            bnd (law04_GraphShortestT3 a_1 b_2 g_0.1 g_0.2.1) fun oe19 =>
            lk oe19 (fun e19 =>
              none) (fun r => some r)) (fun r => some r)
        else
          bnd (graph_Valid g_0) fun r20 =>
          bif (!r20) then
            bnd (law04_GraphShortestT0 a_1 b_2 true g_0.1 g_0.2.1) fun oe21 =>
            lk oe21 (fun e21 =>
              bnd (law04_GraphShortestT3 a_1 b_2 g_0.1 g_0.2.1) fun oe22 =>
              lk oe22 (fun e22 =>
                none) (fun r => some r)) (fun r => some r)
          else
            bif decide (a_1 < 0) then
              bnd (law04_GraphShortestT0 a_1 b_2 true g_0.1 g_0.2.1) fun oe23 =>
              lk oe23 (fun e23 =>
                bnd (law04_GraphShortestT3 a_1 b_2 g_0.1 g_0.2.1) fun oe24 =>
                lk oe24 (fun e24 =>
                  none) (fun r => some r)) (fun r => some r)
            else
              bif decide (g_0.1 ≤ a_1) then
                bnd (law04_GraphShortestT0 a_1 b_2 true g_0.1 g_0.2.1) fun oe25 =>
                lk oe25 (fun e25 =>
                  bnd (law04_GraphShortestT3 a_1 b_2 g_0.1 g_0.2.1) fun oe26 =>
                  lk oe26 (fun e26 =>
                    none) (fun r => some r)) (fun r => some r)
              else
                bif decide (b_2 < 0) then
                  bnd (law04_GraphShortestT0 a_1 b_2 true g_0.1 g_0.2.1) fun oe27 =>
                  lk oe27 (fun e27 =>
                    bnd (law04_GraphShortestT3 a_1 b_2 g_0.1 g_0.2.1) fun oe28 =>
                    lk oe28 (fun e28 =>
                      none) (fun r => some r)) (fun r => some r)
                else
                  bnd (law04_GraphShortestT0 a_1 b_2 (decide (g_0.1 ≤ b_2)) g_0.1 g_0.2.1) fun oe29 =>
                  lk oe29 (fun e29 =>
                    bnd (law04_GraphShortestT3 a_1 b_2 g_0.1 g_0.2.1) fun oe30 =>
                    lk oe30 (fun e30 =>
                      none) (fun r => some r)) (fun r => some r)

/-! cmp.isNaN[int] -/

def cmp_isNaN_int (x_0 : Int) : Option Bool :=
  some (!decide (x_0 = x_0))

/-! cmp.Less[int] -/

def cmp_Less_int (x_0 : Int) (y_1 : Int) : Option Bool :=
  bnd (cmp_isNaN_int x_0) fun r1 =>
  bif r1 then
    bnd (cmp_isNaN_int y_1) fun r2 =>
    bif (!r2) then
      some true
    else
      some (decide (x_0 < y_1))
  else
    some (decide (x_0 < y_1))

/-! slices.IsSorted[[]int,int] -/

def slices_IsSorted_int_intL0K {R : Type} (x_0 : (List Int)) (i_3 : Int) (nx : Int → Option R) (dn : Unit → Option R) (rt : Bool → Option R) : Option R :=
  bif decide ((0 : Int) < i_3) then
    ckB (ix i_3 x_0.length) <|
    ckB (ix i_3 x_0.length) <|
    ckB (inR .i64 (i_3 - 1)) <|
    ckB (ix (i_3 - 1) x_0.length) <|
    ckB (ix (i_3 - 1) x_0.length) <|
    bnd (cmp_Less_int (x_0.getD (Int.toNat i_3) 0) (x_0.getD (Int.toNat (i_3 - 1)) 0)) fun r1 =>
    bif r1 then
      rt false
    else
      ckB (inR .i64 (i_3 - 1)) <|
      nx (i_3 - 1)
  else
    dn ()

def slices_IsSorted_int_intL0 (x_0 : (List Int)) (s0 : Int) : Option (Unit ⊕ Bool) :=
  loopM (fun a => slices_IsSorted_int_intL0K x_0 a (fun a' => some (.next a')) (fun e => some (.done e)) (fun r => some (.ret r))) s0

def slices_IsSorted_int_intL0I : Shp := ⟨[(0, .d false (.slice (.int .i64))), (3, .d true (.int .i64))], []⟩
def slices_IsSorted_int_intL0E : Shp := ⟨[], []⟩

def slices_IsSorted_int_int (x_0 : (List Int)) : Option Bool :=
  ckB (inR .i64 ((x_0.length : Int) - 1)) <|
  bnd (slices_IsSorted_int_intL0 x_0 ((x_0.length : Int) - 1)) fun oe2 =>
  lk oe2 (fun e2 =>
    some true) (fun r => some r)

/-! casebook/casebooklaw04.places -/

def law04_placesL0K {R : Type} (l_0 : (List (List Int))) (n_1 : Int) (v_14 : Int) (v_15 : Int) (out_5 : (List Int)) (nx : (Int × (List Int)) → Option R) (dn : (List Int) → Option R) (rt : (List Int) → Option R) : Option R :=
  bif decide (v_15 < v_14) then
    ckB (ix v_15 out_5.length) <|
    ckB (ix v_15 out_5.length) <|
    ckB (inR .i64 (v_15 + 1)) <|
    nx ((v_15 + 1), (out_5.set (Int.toNat v_15) (-1)))
  else
    dn out_5

def law04_placesL0 (l_0 : (List (List Int))) (n_1 : Int) (v_14 : Int) (s0 : (Int × (List Int))) : Option ((List Int) ⊕ (List Int)) :=
  loopM (fun a => law04_placesL0K l_0 n_1 v_14 a.1 a.2 (fun a' => some (.next a')) (fun e => some (.done e)) (fun r => some (.ret r))) s0

def law04_placesL0I : Shp := ⟨[(0, .d false (.slice (.slice (.int .i64)))), (1, .d true (.int .i64)), (5, .own 0), (14, .d true (.int .i64)), (15, .d true (.int .i64))], [.arr 3 (.fz true) [0] (.int .i64)]⟩
def law04_placesL0E : Shp := ⟨[(0, .d false (.slice (.slice (.int .i64)))), (1, .d true (.int .i64)), (5, .own 0)], [.arr 3 (.fz true) [0] (.int .i64)]⟩

def law04_placesL1K {R : Type} (n_1 : Int) (i_7 : Int) (v_22 : (List (List Int))) (v_23 : Int) (v_24 : Int) (v_37 : (List Int)) (v_38 : Int) (v_39 : Int) (out_5 : (List Int)) (nx : (Int × (List Int)) → Option R) (dn : (List Int) → Option R) (rt : (List Int) → Option R) : Option R :=
  bif decide (v_39 < v_38) then
    ckB (ix v_39 v_37.length) <|
    ckB (ix v_39 v_37.length) <|
    bif decide ((v_37.getD (Int.toNat v_39) 0) < 0) then
      rt []
    else
      bif decide (n_1 ≤ (v_37.getD (Int.toNat v_39) 0)) then
        rt []
      else
        ckB (ix (v_37.getD (Int.toNat v_39) 0) out_5.length) <|
        ckB (ix (v_37.getD (Int.toNat v_39) 0) out_5.length) <|
        bif decide ((0 : Int) ≤ (out_5.getD (Int.toNat (v_37.getD (Int.toNat v_39) 0)) 0)) then
          rt []
        else
          ckB (ix (v_37.getD (Int.toNat v_39) 0) out_5.length) <|
          ckB (ix (v_37.getD (Int.toNat v_39) 0) out_5.length) <|
          ckB (inR .i64 (v_39 + 1)) <|
          nx ((v_39 + 1), (out_5.set (Int.toNat (v_37.getD (Int.toNat v_39) 0)) i_7))
  else
    dn out_5

def law04_placesL1 (n_1 : Int) (i_7 : Int) (v_22 : (List (List Int))) (v_23 : Int) (v_24 : Int) (v_37 : (List Int)) (v_38 : Int) (s0 : (Int × (List Int))) : Option ((List Int) ⊕ (List Int)) :=
  loopM (fun a => law04_placesL1K n_1 i_7 v_22 v_23 v_24 v_37 v_38 a.1 a.2 (fun a' => some (.next a')) (fun e => some (.done e)) (fun r => some (.ret r))) s0

def law04_placesL1I : Shp := ⟨[(1, .d true (.int .i64)), (5, .own 0), (7, .d true (.int .i64)), (22, .d false (.slice (.slice (.int .i64)))), (23, .d true (.int .i64)), (24, .d true (.int .i64)), (37, .d false (.slice (.int .i64))), (38, .d true (.int .i64)), (39, .d true (.int .i64))], [.arr 3 (.fz true) [0] (.int .i64)]⟩
def law04_placesL1E : Shp := ⟨[(1, .d true (.int .i64)), (5, .own 0), (22, .d false (.slice (.slice (.int .i64)))), (23, .d true (.int .i64)), (24, .d true (.int .i64))], [.arr 3 (.fz true) [0] (.int .i64)]⟩

def law04_placesL2K {R : Type} (n_1 : Int) (v_22 : (List (List Int))) (v_23 : Int) (v_24 : Int) (out_5 : (List Int)) (nx : (Int × (List Int)) → Option R) (dn : (List Int) → Option R) (rt : (List Int) → Option R) : Option R :=
  bif decide (v_24 < v_23) then
    ckB (ix v_24 v_22.length) <|
    ckB (ix v_24 v_22.length) <|
    bif decide (((v_22.getD (Int.toNat v_24) []).length : Int) = 0) then
      rt []
    else
      bnd (slices_IsSorted_int_int (v_22.getD (Int.toNat v_24) [])) fun r2 =>
      bif (!r2) then
        rt []
      else
        bnd (law04_placesL1 n_1 v_24 v_22 v_23 v_24 (v_22.getD (Int.toNat v_24) []) ((v_22.getD (Int.toNat v_24) []).length : Int) (0, out_5)) fun oe3 =>
        lk oe3 (fun e3 =>
          ckB (inR .i64 (v_24 + 1)) <|
          nx ((v_24 + 1), e3)) (fun r => rt r)
  else
    dn out_5

def law04_placesL2 (n_1 : Int) (v_22 : (List (List Int))) (v_23 : Int) (s0 : (Int × (List Int))) : Option ((List Int) ⊕ (List Int)) :=
  loopM (fun a => law04_placesL2K n_1 v_22 v_23 a.1 a.2 (fun a' => some (.next a')) (fun e => some (.done e)) (fun r => some (.ret r))) s0

def law04_placesL2I : Shp := ⟨[(1, .d true (.int .i64)), (5, .own 0), (22, .d false (.slice (.slice (.int .i64)))), (23, .d true (.int .i64)), (24, .d true (.int .i64))], [.arr 3 (.fz true) [0] (.int .i64)]⟩
def law04_placesL2E : Shp := ⟨[(5, .own 0)], [.arr 3 (.fz true) [0] (.int .i64)]⟩

def law04_places (l_0 : (List (List Int))) (n_1 : Int) : Option (List Int) :=
  ckB (mkOk n_1 n_1 8) <|
  bnd (law04_placesL0 l_0 n_1 ((List.replicate (Int.toNat n_1) (0 : Int)).length : Int) (0, (List.replicate (Int.toNat n_1) (0 : Int)))) fun oe1 =>
  lk oe1 (fun e1 =>
    bnd (law04_placesL2 n_1 l_0 (l_0.length : Int) (0, e1)) fun oe4 =>
    lk oe4 (fun e4 =>
      bnd (slices_Contains_int_int e4 (-1)) fun r5 =>
      bif r5 then
        some []
      else
        some e4) (fun r => some r)) (fun r => some r)

/-! casebook/casebooklaw04.GraphPartition$1 -/

def law04_GraphPartition_1 (w_0 : Int) (p_1 : (List Int)) : Option Bool :=
  ckB (ix 0 1) <|
  bnd (slices_Contains_int_int p_1 w_0) fun r1 =>
  some (!r1)

/-! slices.IndexFunc[[]int,int] -/

def slices_IndexFunc_int_int_41L0K {R : Type} (s_0 : (List Int)) (f_1c0 : (List Int)) (v_7 : Int) (v_8 : Int) (nx : Int → Option R) (dn : Unit → Option R) (rt : Int → Option R) : Option R :=
  bif decide (v_8 < v_7) then
    ckB (ix v_8 s_0.length) <|
    ckB (ix v_8 s_0.length) <|
    bnd (law04_GraphPartition_1 (s_0.getD (Int.toNat v_8) 0) f_1c0) fun r1 =>
    bif r1 then
      rt v_8
    else
      ckB (inR .i64 (v_8 + 1)) <|
      nx (v_8 + 1)
  else
    dn ()

def slices_IndexFunc_int_int_41L0 (s_0 : (List Int)) (f_1c0 : (List Int)) (v_7 : Int) (s0 : Int) : Option (Unit ⊕ Int) :=
  loopM (fun a => slices_IndexFunc_int_int_41L0K s_0 f_1c0 v_7 a (fun a' => some (.next a')) (fun e => some (.done e)) (fun r => some (.ret r))) s0

def slices_IndexFunc_int_int_41L0I : Shp := ⟨[(0, .d false (.slice (.int .i64))), (1, .fn 41 (.cons (.rp false (.slice (.int .i64))) .nil)), (7, .d true (.int .i64)), (8, .d true (.int .i64))], []⟩
def slices_IndexFunc_int_int_41L0E : Shp := ⟨[], []⟩

def slices_IndexFunc_int_int_41 (s_0 : (List Int)) (f_1c0 : (List Int)) : Option Int :=
  bnd (slices_IndexFunc_int_int_41L0 s_0 f_1c0 (s_0.length : Int) 0) fun oe2 =>
  lk oe2 (fun e2 =>
    some (-1)) (fun r => some r)

/-! slices.ContainsFunc[[]int,int] -/

def slices_ContainsFunc_int_int_41 (s_0 : (List Int)) (f_1c0 : (List Int)) : Option Bool :=
  bnd (slices_IndexFunc_int_int_41 s_0 f_1c0) fun r1 =>
  some (decide ((0 : Int) ≤ r1))

/-! casebook/casebooklaw04.GraphPartition -/

def law04_GraphPartitionL0K {R : Type} (s_5 : (List (List Int))) (in_7 : (List Int)) (at_8 : (List Int)) (v_74 : (List St4)) (v_75 : Int) (g_10 : Int) (g_11 : (List St4)) (v_76 : Int) (nx : Int → Option R) (dn : Unit → Option R) (rt : Bool → Option R) : Option R :=
  bif decide (v_76 < v_75) then
    ckB (ix v_76 v_74.length) <|
    ckB (ix v_76 v_74.length) <|
    bif decide ((v_74.getD (Int.toNat v_76) St4.z).1 < 0) then
      rt false
    else
      bif decide (g_10 ≤ (v_74.getD (Int.toNat v_76) St4.z).1) then
        rt false
      else
        bif decide ((v_74.getD (Int.toNat v_76) St4.z).2.1 < 0) then
          rt false
        else
          bif decide (g_10 ≤ (v_74.getD (Int.toNat v_76) St4.z).2.1) then
            rt false
          else
            ckB (ix (v_74.getD (Int.toNat v_76) St4.z).1 in_7.length) <|
            ckB (ix (v_74.getD (Int.toNat v_76) St4.z).1 in_7.length) <|
            ckB (ix (v_74.getD (Int.toNat v_76) St4.z).2.1 in_7.length) <|
            ckB (ix (v_74.getD (Int.toNat v_76) St4.z).2.1 in_7.length) <|
            bif (!decide ((in_7.getD (Int.toNat (v_74.getD (Int.toNat v_76) St4.z).1) 0) = (in_7.getD (Int.toNat (v_74.getD (Int.toNat v_76) St4.z).2.1) 0))) then
              rt false
            else
              ckB (ix (v_74.getD (Int.toNat v_76) St4.z).1 at_8.length) <|
              ckB (ix (v_74.getD (Int.toNat v_76) St4.z).1 at_8.length) <|
              ckB (ix (v_74.getD (Int.toNat v_76) St4.z).2.1 at_8.length) <|
              ckB (ix (v_74.getD (Int.toNat v_76) St4.z).2.1 at_8.length) <|
              bif decide ((at_8.getD (Int.toNat (v_74.getD (Int.toNat v_76) St4.z).2.1) 0) < (at_8.getD (Int.toNat (v_74.getD (Int.toNat v_76) St4.z).1) 0)) then
                rt false
              else
                ckB (inR .i64 (v_76 + 1)) <|
                nx (v_76 + 1)
  else
    dn ()

def law04_GraphPartitionL0 (s_5 : (List (List Int))) (in_7 : (List Int)) (at_8 : (List Int)) (v_74 : (List St4)) (v_75 : Int) (g_10 : Int) (g_11 : (List St4)) (s0 : Int) : Option (Unit ⊕ Bool) :=
  loopM (fun a => law04_GraphPartitionL0K s_5 in_7 at_8 v_74 v_75 g_10 g_11 a (fun a' => some (.next a')) (fun e => some (.done e)) (fun r => some (.ret r))) s0

def law04_GraphPartitionL0I : Shp := ⟨[(1, .ptr 0), (5, .d true (.slice (.slice (.int .i64)))), (7, .d true (.slice (.int .i64))), (8, .d true (.slice (.int .i64))), (74, .d false (.slice St4.ty)), (75, .d true (.int .i64)), (76, .d true (.int .i64))], [.cs 24 2 1 (.cons (.d true (.int .i64)) (.cons (.d false (.slice St4.ty)) .nil))]⟩
def law04_GraphPartitionL0E : Shp := ⟨[(1, .ptr 0), (5, .d true (.slice (.slice (.int .i64))))], [.cs 24 2 1 (.cons (.d true (.int .i64)) (.cons (.d false (.slice St4.ty)) .nil))]⟩

def law04_GraphPartitionL1K {R : Type} (part_12 : (List Int)) (v_129 : (List (List Int))) (v_130 : Int) (v_131 : Int) (v_135 : (List Int)) (v_136 : Int) (g_10 : Int) (g_11 : (List St4)) (v_137 : Int) (nx : Int → Option R) (dn : Unit → Option R) (rt : Bool → Option R) : Option R :=
  bif decide (v_137 < v_136) then
    ckB (ix v_137 v_135.length) <|
    ckB (ix v_137 v_135.length) <|
    bnd (graph_Reach (g_10, g_11, ()) [(v_135.getD (Int.toNat v_137) 0)]) fun r13 =>
    bif (!decide (r13.1 = 0)) then
      rt false
    else
      bnd (slices_ContainsFunc_int_int_41 part_12 r13.2) fun r14 =>
      bif r14 then
        rt false
      else
        ckB (inR .i64 (v_137 + 1)) <|
        nx (v_137 + 1)
  else
    dn ()

def law04_GraphPartitionL1 (part_12 : (List Int)) (v_129 : (List (List Int))) (v_130 : Int) (v_131 : Int) (v_135 : (List Int)) (v_136 : Int) (g_10 : Int) (g_11 : (List St4)) (s0 : Int) : Option (Unit ⊕ Bool) :=
  loopM (fun a => law04_GraphPartitionL1K part_12 v_129 v_130 v_131 v_135 v_136 g_10 g_11 a (fun a' => some (.next a')) (fun e => some (.done e)) (fun r => some (.ret r))) s0

def law04_GraphPartitionL1I : Shp := ⟨[(1, .ptr 0), (12, .d true (.slice (.int .i64))), (129, .d true (.slice (.slice (.int .i64)))), (130, .d true (.int .i64)), (131, .d true (.int .i64)), (135, .d true (.slice (.int .i64))), (136, .d true (.int .i64)), (137, .d true (.int .i64))], [.cs 24 2 1 (.cons (.d true (.int .i64)) (.cons (.d false (.slice St4.ty)) .nil))]⟩
def law04_GraphPartitionL1E : Shp := ⟨[(1, .ptr 0), (129, .d true (.slice (.slice (.int .i64)))), (130, .d true (.int .i64)), (131, .d true (.int .i64))], [.cs 24 2 1 (.cons (.d true (.int .i64)) (.cons (.d false (.slice St4.ty)) .nil))]⟩

def law04_GraphPartitionL2K {R : Type} (v_129 : (List (List Int))) (v_130 : Int) (g_10 : Int) (g_11 : (List St4)) (v_131 : Int) (nx : Int → Option R) (dn : Unit → Option R) (rt : Bool → Option R) : Option R :=
  bif decide (v_131 < v_130) then
    ckB (ix v_131 v_129.length) <|
    ckB (ix v_131 v_129.length) <|
    bnd (law04_GraphPartitionL1 (v_129.getD (Int.toNat v_131) []) v_129 v_130 v_131 (v_129.getD (Int.toNat v_131) []) ((v_129.getD (Int.toNat v_131) []).length : Int) g_10 g_11 0) fun oe15 =>
    lk oe15 (fun e15 =>
      ckB (inR .i64 (v_131 + 1)) <|
      nx (v_131 + 1)) (fun r => rt r)
  else
    dn ()

def law04_GraphPartitionL2 (v_129 : (List (List Int))) (v_130 : Int) (g_10 : Int) (g_11 : (List St4)) (s0 : Int) : Option (Unit ⊕ Bool) :=
  loopM (fun a => law04_GraphPartitionL2K v_129 v_130 g_10 g_11 a (fun a' => some (.next a')) (fun e => some (.done e)) (fun r => some (.ret r))) s0

def law04_GraphPartitionL2I : Shp := ⟨[(1, .ptr 0), (129, .d true (.slice (.slice (.int .i64)))), (130, .d true (.int .i64)), (131, .d true (.int .i64))], [.cs 24 2 1 (.cons (.d true (.int .i64)) (.cons (.d false (.slice St4.ty)) .nil))]⟩
def law04_GraphPartitionL2E : Shp := ⟨[], []⟩

def law04_GraphPartition (g_0 : Graph) : Option Bool :=
  bnd (law04_awake) fun r1 =>
  bif (!r1) then
    bnd (law04_awake) fun r2 =>
    some r2
  else
    bif decide (g_0.1 < 1) then
      bnd (law04_awake) fun r3 =>
      some r3
    else
      bif decide ((30 : Int) < g_0.1) then
        bnd (law04_awake) fun r4 =>
        some r4
      else
        bif decide ((90 : Int) < (g_0.2.1.length : Int)) then
          bnd (law04_awake) fun r5 =>
          some r5
        else
          bnd (graph_Valid g_0) fun r6 =>
          bif (!r6) then
            bnd (law04_awake) fun r7 =>
            some r7
          else
            bnd (graph_Components g_0) fun r8 =>
            bnd (graph_Strong g_0) fun r9 =>
            bnd (law04_places r8.2 g_0.1) fun r10 =>
            bnd (law04_places r9.2 g_0.1) fun r11 =>
            bif (!decide (r8.1 = 0)) then
              some false
            else
              bif (!decide (r9.1 = 0)) then
                some false
              else
                ckB (Nat.blt 0 r10.length) <|
                ckB (Nat.blt 0 r11.length) <|
                bnd (law04_GraphPartitionL0 r9.2 r10 r11 g_0.2.1 (g_0.2.1.length : Int) g_0.1 g_0.2.1 0) fun oe12 =>
                lk oe12 (fun e12 =>
                  bnd (law04_GraphPartitionL2 r9.2 (r9.2.length : Int) g_0.1 g_0.2.1 0) fun oe16 =>
                  lk oe16 (fun e16 =>
                    some true) (fun r => some r)) (fun r => some r)

end Go.Proofs.Ytmcmlloigphbeaa
