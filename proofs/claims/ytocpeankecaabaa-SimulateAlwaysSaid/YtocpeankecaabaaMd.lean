/-
  What the functions compute, as plain functions of Lean. Made by program (mg.py) out of the translation.
-/
import Derived.Test.YtocpeankecaabaaT11
set_option linter.all false
set_option maxRecDepth 100000
namespace Go.Proofs.Ytocpeankecaabaa
open Go.Abs Go.T Go.M

abbrev Customer : Type := Int × Int × Int × Int × Unit
abbrev Customer.z : Customer := (0, 0, 0, 0, ())
def Customer.ty : Ty := .struct (.cons (.int .i64) (.cons (.int .i64) (.cons (.int .i64) (.cons (.int .i64) .nil))))
abbrev Span : Type := Int × Int × Unit
abbrev Span.z : Span := (0, 0, ())
def Span.ty : Ty := .struct (.cons (.int .i64) (.cons (.int .i64) .nil))
abbrev Calendar : Type := (List Span) × Unit
abbrev Calendar.z : Calendar := ([], ())
def Calendar.ty : Ty := .struct (.cons (.slice Span.ty) .nil)
abbrev Histogram : Type := (List Int) × (List Int) × Unit
abbrev Histogram.z : Histogram := ([], [], ())
def Histogram.ty : Ty := .struct (.cons (.slice (.int .i64)) (.cons (.slice (.int .i64)) .nil))
abbrev Casebooklaw53Replication : Type := (List Customer) × Histogram × Histogram × Int × Int × Int × (List Int) × Unit
abbrev Casebooklaw53Replication.z : Casebooklaw53Replication := ([], Histogram.z, Histogram.z, 0, 0, 0, [], ())
def Casebooklaw53Replication.ty : Ty := .struct (.cons (.slice Customer.ty) (.cons Histogram.ty (.cons Histogram.ty (.cons (.int .i64) (.cons (.int .i64) (.cons (.int .i64) (.cons (.slice (.int .i64)) .nil)))))))

/-! casebook/simulate.proper -/

def simulate_properL0K {R : Type} (l_0 : (List Customer)) (v_5 : (List Customer)) (v_6 : Int) (v_7 : Int) (nx : Int → Option R) (dn : Unit → Option R) (rt : Bool → Option R) : Option R :=
  bif decide (v_7 < v_6) then
    ckB (ix v_7 v_5.length) <|
    ckB (ix v_7 v_5.length) <|
    bif decide ((v_5.getD (Int.toNat v_7) Customer.z).1 < 0) then
      rt false
    else
      bif decide ((1099511627776 : Int) < (v_5.getD (Int.toNat v_7) Customer.z).1) then
        rt false
      else
        bif decide ((v_5.getD (Int.toNat v_7) Customer.z).2.1 < 0) then
          rt false
        else
          bif decide ((1099511627776 : Int) < (v_5.getD (Int.toNat v_7) Customer.z).2.1) then
            rt false
          else
            bif decide ((0 : Int) < v_7) then
              ckB (inR .i64 (v_7 - 1)) <|
              ckB (ix (v_7 - 1) l_0.length) <|
              ckB (ix (v_7 - 1) l_0.length) <|
              bif decide ((v_5.getD (Int.toNat v_7) Customer.z).1 < (l_0.getD (Int.toNat (v_7 - 1)) Customer.z).1) then
                rt false
              else
                ckB (inR .i64 (v_7 + 1)) <|
                nx (v_7 + 1)
            else
              ckB (inR .i64 (v_7 + 1)) <|
              nx (v_7 + 1)
  else
    dn ()

def simulate_properL0 (l_0 : (List Customer)) (v_5 : (List Customer)) (v_6 : Int) (s0 : Int) : Option (Unit ⊕ Bool) :=
  loopM (fun a => simulate_properL0K l_0 v_5 v_6 a (fun a' => some (.next a')) (fun e => some (.done e)) (fun r => some (.ret r))) s0

def simulate_properL0I : Shp := ⟨[(0, .sl false Customer.ty), (5, .sl false Customer.ty), (6, .int .i64), (7, .int .i64)], []⟩
def simulate_properL0E : Shp := ⟨[(0, .sl false Customer.ty)], []⟩

def simulate_proper (l_0 : (List Customer)) : Option Bool :=
  bnd (simulate_properL0 l_0 l_0 (l_0.length : Int) 0) fun oe1 =>
  lk oe1 (fun e1 =>
    some (decide ((l_0.length : Int) ≤ 1000))) (fun r => some r)

/-! casebook/simulate.given -/

def simulate_given (l_0 : (List Customer)) (servers_1 : Int) : Option Int :=
  bnd (simulate_proper l_0) fun r1 =>
  bif (!r1) then
    some 1
  else
    bif decide (servers_1 < 1) then
      some 2
    else
      bif decide ((20 : Int) < servers_1) then
        some 2
      else
        some 0

/-! slices.Min[[]int,int] -/

def slices_Min_int_intL0K {R : Type} (x_0 : (List Int)) (m_3 : Int) (i_4 : Int) (nx : (Int × Int) → Option R) (dn : Int → Option R) (rt : Int → Option R) : Option R :=
  bif decide (i_4 < (x_0.length : Int)) then
    ckB (ix i_4 x_0.length) <|
    ckB (ix i_4 x_0.length) <|
    ckB (inR .i64 (i_4 + 1)) <|
    nx ((min m_3 (x_0.getD (Int.toNat i_4) 0)), (i_4 + 1))
  else
    dn m_3

def slices_Min_int_intL0 (x_0 : (List Int)) (s0 : (Int × Int)) : Option (Int ⊕ Int) :=
  loopM (fun a => slices_Min_int_intL0K x_0 a.1 a.2 (fun a' => some (.next a')) (fun e => some (.done e)) (fun r => some (.ret r))) s0

def slices_Min_int_intL0I : Shp := ⟨[(0, .sl false (.int .i64)), (3, .int .i64), (4, .int .i64)], []⟩
def slices_Min_int_intL0E : Shp := ⟨[(3, .int .i64)], []⟩

def slices_Min_int_int (x_0 : (List Int)) : Option Int :=
  bif decide ((x_0.length : Int) < 1) then
    none
  else
    ckB (ix 0 x_0.length) <|
    ckB (ix 0 x_0.length) <|
    bnd (slices_Min_int_intL0 x_0 ((x_0.getD 0 0), 1)) fun oe1 =>
    lk oe1 (fun e1 =>
      some e1) (fun r => some r)

/-! slices.Index[[]int,int] -/

def slices_Index_int_intL0K {R : Type} (s_0 : (List Int)) (v_1 : Int) (v_7 : Int) (v_8 : Int) (nx : Int → Option R) (dn : Unit → Option R) (rt : Int → Option R) : Option R :=
  bif decide (v_8 < v_7) then
    ckB (ix v_8 s_0.length) <|
    ckB (ix v_8 s_0.length) <|
    bif decide (v_1 = (s_0.getD (Int.toNat v_8) 0)) then
      rt v_8
    else
      ckB (inR .i64 (v_8 + 1)) <|
      nx (v_8 + 1)
  else
    dn ()

def slices_Index_int_intL0 (s_0 : (List Int)) (v_1 : Int) (v_7 : Int) (s0 : Int) : Option (Unit ⊕ Int) :=
  loopM (fun a => slices_Index_int_intL0K s_0 v_1 v_7 a (fun a' => some (.next a')) (fun e => some (.done e)) (fun r => some (.ret r))) s0

def slices_Index_int_intL0I : Shp := ⟨[(0, .sl false (.int .i64)), (1, .int .i64), (7, .int .i64), (8, .int .i64)], []⟩
def slices_Index_int_intL0E : Shp := ⟨[], []⟩

def slices_Index_int_int (s_0 : (List Int)) (v_1 : Int) : Option Int :=
  bnd (slices_Index_int_intL0 s_0 v_1 (s_0.length : Int) 0) fun oe1 =>
  lk oe1 (fun e1 =>
    some (-1)) (fun r => some r)

/-! casebook/simulate.plain -/

def simulate_plain (start_0 : Int) (service_1 : Int) : Option (Int × Int) :=
  ckB (inR .i64 (start_0 + service_1)) <|
  some ((start_0 + service_1), 0)

/-! casebook/simulate.serve -/

def simulate_serve_38L0K {R : Type} (v_17 : (List Customer)) (v_18 : Int) (v_19 : Int) (free_8 : (List Int)) (out_9 : (List Customer)) (nx : (Int × (List Int) × (List Customer)) → Option R) (dn : (List Customer) → Option R) (rt : ((List Customer) × Int) → Option R) : Option R :=
  bif decide (v_19 < v_18) then
    ckB (ix v_19 v_17.length) <|
    ckB (ix v_19 v_17.length) <|
    bnd (slices_Min_int_int free_8) fun r1 =>
    bnd (slices_Index_int_int free_8 r1) fun r2 =>
    ckB (ix r2 free_8.length) <|
    ckB (ix r2 free_8.length) <|
    bnd (simulate_plain (max (v_17.getD (Int.toNat v_19) Customer.z).1 (free_8.getD (Int.toNat r2) 0)) (v_17.getD (Int.toNat v_19) Customer.z).2.1) fun r3 =>
    bif (!decide (r3.2 = 0)) then
      rt ([], r3.2)
    else
      ckB (ix r2 free_8.length) <|
      ckB (ix r2 free_8.length) <|
      ckB (room (out_9.length + 1) 32) <|
      ckB (inR .i64 (v_19 + 1)) <|
      nx ((v_19 + 1), (free_8.set (Int.toNat r2) r3.1), (out_9 ++ [((v_17.getD (Int.toNat v_19) Customer.z).1, (v_17.getD (Int.toNat v_19) Customer.z).2.1, (max (v_17.getD (Int.toNat v_19) Customer.z).1 (free_8.getD (Int.toNat r2) 0)), r3.1, ())]))
  else
    dn out_9

def simulate_serve_38L0 (v_17 : (List Customer)) (v_18 : Int) (s0 : (Int × (List Int) × (List Customer))) : Option ((List Customer) ⊕ ((List Customer) × Int)) :=
  loopM (fun a => simulate_serve_38L0K v_17 v_18 a.1 a.2.1 a.2.2 (fun a' => some (.next a')) (fun e => some (.done e)) (fun r => some (.ret r))) s0

def simulate_serve_38L0I : Shp := ⟨[(2, .fn 38 .nil), (8, .own 0), (9, .own 1), (17, .sl false Customer.ty), (18, .int .i64), (19, .int .i64)], [.arr 3 true (.int .i64), .arr 29 true Customer.ty]⟩
def simulate_serve_38L0E : Shp := ⟨[(9, .own 0)], [.arr 29 true Customer.ty]⟩

def simulate_serve_38 (l_0 : (List Customer)) (servers_1 : Int) : Option ((List Customer) × Int) :=
  ckB (mkOk servers_1 servers_1 8) <|
  bnd (simulate_serve_38L0 l_0 (l_0.length : Int) (0, (List.replicate (Int.toNat servers_1) 0), [])) fun oe4 =>
  lk oe4 (fun e4 =>
    some (e4, 0)) (fun r => some r)

/-! casebook/simulate.Serve -/

def simulate_Serve (l_0 : (List Customer)) (servers_1 : Int) : Option ((List Customer) × Int) :=
  bnd (simulate_given l_0 servers_1) fun r1 =>
  bif (!decide (r1 = 0)) then
    some ([], r1)
  else
    bnd (simulate_serve_38 l_0 servers_1) fun r2 =>
    some (r2.1, r2.2)

/-! casebook/casebooklaw53.awake -/

def law53_awake  : Option Bool :=
  bnd (simulate_Serve [(0, 5, 0, 0, ()), (1, 3, 0, 0, ()), (2, 1, 0, 0, ())] 1) fun r1 =>
  bnd (simulate_Serve [(0, 5, 0, 0, ()), (1, 3, 0, 0, ()), (2, 1, 0, 0, ())] 2) fun r2 =>
  bif decide (r1.2 = 0) then
    bif decide (r2.2 = 0) then
      bif decide ((r1.1.length : Int) = 3) then
        bif decide ((r2.1.length : Int) = 3) then
          ckB (ix 1 r1.1.length) <|
          ckB (ix 1 r1.1.length) <|
          bif decide ((r1.1.getD 1 Customer.z).2.2.1 = 5) then
            ckB (ix 2 r1.1.length) <|
            ckB (ix 2 r1.1.length) <|
            bif decide ((r1.1.getD 2 Customer.z).2.2.1 = 8) then
              ckB (ix 1 r2.1.length) <|
              ckB (ix 1 r2.1.length) <|
              bif decide ((r2.1.getD 1 Customer.z).2.2.1 = 1) then
                ckB (ix 2 r2.1.length) <|
                ckB (ix 2 r2.1.length) <|
                some (decide ((r2.1.getD 2 Customer.z).2.2.1 = 4))
              else
                some false
            else
              some false
          else
            some false
        else
          some false
      else
        some false
    else
      some false
  else
    some false

/-! casebook/casebooklaw53.many -/

def law53_many (l_0 : (List Customer)) : Option Bool :=
  bif decide ((60 : Int) < (l_0.length : Int)) then
    bif decide ((l_0.length : Int) ≤ 1000) then
      some true
    else
      some (decide ((1100 : Int) < (l_0.length : Int)))
  else
    some (decide ((1100 : Int) < (l_0.length : Int)))

/-! casebook/casebookref53.Proper -/

def ref53_ProperL0K {R : Type} (l_0 : (List Customer)) (i_3 : Int) (nx : Int → Option R) (dn : Unit → Option R) (rt : Bool → Option R) : Option R :=
  bif decide (i_3 < (l_0.length : Int)) then
    ckB (ix i_3 l_0.length) <|
    ckB (ix i_3 l_0.length) <|
    bif decide ((l_0.getD (Int.toNat i_3) Customer.z).1 < 0) then
      rt false
    else
      ckB (ix i_3 l_0.length) <|
      ckB (ix i_3 l_0.length) <|
      bif decide ((1099511627776 : Int) < (l_0.getD (Int.toNat i_3) Customer.z).1) then
        rt false
      else
        ckB (ix i_3 l_0.length) <|
        ckB (ix i_3 l_0.length) <|
        bif decide ((l_0.getD (Int.toNat i_3) Customer.z).2.1 < 0) then
          rt false
        else
          ckB (ix i_3 l_0.length) <|
          ckB (ix i_3 l_0.length) <|
          bif decide ((1099511627776 : Int) < (l_0.getD (Int.toNat i_3) Customer.z).2.1) then
            rt false
          else
            bif decide ((0 : Int) < i_3) then
              ckB (ix i_3 l_0.length) <|
              ckB (ix i_3 l_0.length) <|
              ckB (inR .i64 (i_3 - 1)) <|
              ckB (ix (i_3 - 1) l_0.length) <|
              ckB (ix (i_3 - 1) l_0.length) <|
              bif decide ((l_0.getD (Int.toNat i_3) Customer.z).1 < (l_0.getD (Int.toNat (i_3 - 1)) Customer.z).1) then
                rt false
              else
                ckB (inR .i64 (i_3 + 1)) <|
                nx (i_3 + 1)
            else
              ckB (inR .i64 (i_3 + 1)) <|
              nx (i_3 + 1)
  else
    dn ()

def ref53_ProperL0 (l_0 : (List Customer)) (s0 : Int) : Option (Unit ⊕ Bool) :=
  loopM (fun a => ref53_ProperL0K l_0 a (fun a' => some (.next a')) (fun e => some (.done e)) (fun r => some (.ret r))) s0

def ref53_ProperL0I : Shp := ⟨[(0, .sl false Customer.ty), (3, .int .i64)], []⟩
def ref53_ProperL0E : Shp := ⟨[], []⟩

def ref53_Proper (l_0 : (List Customer)) : Option Bool :=
  bif decide ((1000 : Int) < (l_0.length : Int)) then
    some false
  else
    bnd (ref53_ProperL0 l_0 0) fun oe1 =>
    lk oe1 (fun e1 =>
      some true) (fun r => some r)

/-! casebook/casebooklaw53.SimulateBusy -/

def law53_SimulateBusyL1K {R : Type} (Listappend_0 : (List Customer)) (v_5 : Int) (v_6 : (List Customer)) (v_43 : (List Customer)) (v_44 : Int) (v_45 : Int) (v_107 : (List Customer)) (v_108 : Int) (v_90 : Int) (v_91 : Int) (v_92 : Int) (v_93 : Int) (v_10 : Int) (v_11 : Int) (v_12 : Bool) (v_109 : Int) (nx : (Int × Int × Bool × Int) → Option R) (dn : (Int × Int × Bool) → Option R) (rt : Bool → Option R) : Option R :=
  bif decide (v_109 < v_108) then
    ckB (ix v_109 v_107.length) <|
    ckB (ix v_109 v_107.length) <|
    bif decide (v_92 < (v_107.getD (Int.toNat v_109) Customer.z).2.2.2.1) then
      ckB (inR .i64 (v_10 + 1)) <|
      bif decide (v_92 ≤ (v_107.getD (Int.toNat v_109) Customer.z).2.2.2.1) then
        ckB (inR .i64 (v_11 + 1)) <|
        bif v_12 then
          ckB (inR .i64 (v_109 + 1)) <|
          nx ((v_10 + 1), (v_11 + 1), true, (v_109 + 1))
        else
          ckB (inR .i64 (v_109 + 1)) <|
          nx ((v_10 + 1), (v_11 + 1), decide ((v_107.getD (Int.toNat v_109) Customer.z).2.2.2.1 = v_92), (v_109 + 1))
      else
        bif v_12 then
          ckB (inR .i64 (v_109 + 1)) <|
          nx ((v_10 + 1), v_11, true, (v_109 + 1))
        else
          ckB (inR .i64 (v_109 + 1)) <|
          nx ((v_10 + 1), v_11, decide ((v_107.getD (Int.toNat v_109) Customer.z).2.2.2.1 = v_92), (v_109 + 1))
    else
      bif decide (v_92 ≤ (v_107.getD (Int.toNat v_109) Customer.z).2.2.2.1) then
        ckB (inR .i64 (v_11 + 1)) <|
        bif v_12 then
          ckB (inR .i64 (v_109 + 1)) <|
          nx (v_10, (v_11 + 1), true, (v_109 + 1))
        else
          ckB (inR .i64 (v_109 + 1)) <|
          nx (v_10, (v_11 + 1), decide ((v_107.getD (Int.toNat v_109) Customer.z).2.2.2.1 = v_92), (v_109 + 1))
      else
        bif v_12 then
          ckB (inR .i64 (v_109 + 1)) <|
          nx (v_10, v_11, true, (v_109 + 1))
        else
          ckB (inR .i64 (v_109 + 1)) <|
          nx (v_10, v_11, decide ((v_107.getD (Int.toNat v_109) Customer.z).2.2.2.1 = v_92), (v_109 + 1))
  else
    dn (v_10, v_11, v_12)

def law53_SimulateBusyL1 (Listappend_0 : (List Customer)) (v_5 : Int) (v_6 : (List Customer)) (v_43 : (List Customer)) (v_44 : Int) (v_45 : Int) (v_107 : (List Customer)) (v_108 : Int) (v_90 : Int) (v_91 : Int) (v_92 : Int) (v_93 : Int) (s0 : (Int × Int × Bool × Int)) : Option ((Int × Int × Bool) ⊕ Bool) :=
  loopM (fun a => law53_SimulateBusyL1K Listappend_0 v_5 v_6 v_43 v_44 v_45 v_107 v_108 v_90 v_91 v_92 v_93 a.1 a.2.1 a.2.2.1 a.2.2.2 (fun a' => some (.next a')) (fun e => some (.done e)) (fun r => some (.ret r))) s0

def law53_SimulateBusyL1I : Shp := ⟨[(0, .sl false Customer.ty), (5, .int .i64), (6, .sl true Customer.ty), (9, .ptr 0), (10, .int .i64), (11, .int .i64), (12, .bool), (43, .sl true Customer.ty), (44, .int .i64), (45, .int .i64), (107, .sl true Customer.ty), (108, .int .i64), (109, .int .i64)], [.box 29 (.cons (.int .i64) (.cons (.int .i64) (.cons (.int .i64) (.cons (.int .i64) .nil))))]⟩
def law53_SimulateBusyL1E : Shp := ⟨[(0, .sl false Customer.ty), (5, .int .i64), (6, .sl true Customer.ty), (9, .ptr 0), (10, .int .i64), (11, .int .i64), (12, .bool), (43, .sl true Customer.ty), (44, .int .i64), (45, .int .i64)], [.box 29 (.cons (.int .i64) (.cons (.int .i64) (.cons (.int .i64) (.cons (.int .i64) .nil))))]⟩

def law53_SimulateBusyL2K {R : Type} (Listappend_0 : (List Customer)) (v_5 : Int) (v_6 : (List Customer)) (v_43 : (List Customer)) (v_44 : Int) (v_45 : Int) (v_107 : (List Customer)) (v_108 : Int) (v_90 : Int) (v_91 : Int) (v_92 : Int) (v_93 : Int) (v_10 : Int) (v_11 : Int) (v_12 : Bool) (v_109 : Int) (nx : (Int × Int × Bool × Int) → Option R) (dn : (Int × Int × Bool) → Option R) (rt : Bool → Option R) : Option R :=
  bif decide (v_109 < v_108) then
    ckB (ix v_109 v_107.length) <|
    ckB (ix v_109 v_107.length) <|
    bif decide (v_92 < (v_107.getD (Int.toNat v_109) Customer.z).2.2.2.1) then
      ckB (inR .i64 (v_10 + 1)) <|
      bif decide (v_92 ≤ (v_107.getD (Int.toNat v_109) Customer.z).2.2.2.1) then
        ckB (inR .i64 (v_11 + 1)) <|
        bif v_12 then
          ckB (inR .i64 (v_109 + 1)) <|
          nx ((v_10 + 1), (v_11 + 1), true, (v_109 + 1))
        else
          ckB (inR .i64 (v_109 + 1)) <|
          nx ((v_10 + 1), (v_11 + 1), decide ((v_107.getD (Int.toNat v_109) Customer.z).2.2.2.1 = v_92), (v_109 + 1))
      else
        bif v_12 then
          ckB (inR .i64 (v_109 + 1)) <|
          nx ((v_10 + 1), v_11, true, (v_109 + 1))
        else
          ckB (inR .i64 (v_109 + 1)) <|
          nx ((v_10 + 1), v_11, decide ((v_107.getD (Int.toNat v_109) Customer.z).2.2.2.1 = v_92), (v_109 + 1))
    else
      bif decide (v_92 ≤ (v_107.getD (Int.toNat v_109) Customer.z).2.2.2.1) then
        ckB (inR .i64 (v_11 + 1)) <|
        bif v_12 then
          ckB (inR .i64 (v_109 + 1)) <|
          nx (v_10, (v_11 + 1), true, (v_109 + 1))
        else
          ckB (inR .i64 (v_109 + 1)) <|
          nx (v_10, (v_11 + 1), decide ((v_107.getD (Int.toNat v_109) Customer.z).2.2.2.1 = v_92), (v_109 + 1))
      else
        bif v_12 then
          ckB (inR .i64 (v_109 + 1)) <|
          nx (v_10, v_11, true, (v_109 + 1))
        else
          ckB (inR .i64 (v_109 + 1)) <|
          nx (v_10, v_11, decide ((v_107.getD (Int.toNat v_109) Customer.z).2.2.2.1 = v_92), (v_109 + 1))
  else
    dn (v_10, v_11, v_12)

def law53_SimulateBusyL2 (Listappend_0 : (List Customer)) (v_5 : Int) (v_6 : (List Customer)) (v_43 : (List Customer)) (v_44 : Int) (v_45 : Int) (v_107 : (List Customer)) (v_108 : Int) (v_90 : Int) (v_91 : Int) (v_92 : Int) (v_93 : Int) (s0 : (Int × Int × Bool × Int)) : Option ((Int × Int × Bool) ⊕ Bool) :=
  loopM (fun a => law53_SimulateBusyL2K Listappend_0 v_5 v_6 v_43 v_44 v_45 v_107 v_108 v_90 v_91 v_92 v_93 a.1 a.2.1 a.2.2.1 a.2.2.2 (fun a' => some (.next a')) (fun e => some (.done e)) (fun r => some (.ret r))) s0

def law53_SimulateBusyL2I : Shp := ⟨[(0, .sl false Customer.ty), (5, .int .i64), (6, .sl true Customer.ty), (9, .ptr 0), (10, .int .i64), (11, .int .i64), (12, .bool), (43, .sl true Customer.ty), (44, .int .i64), (45, .int .i64), (107, .sl true Customer.ty), (108, .int .i64), (109, .int .i64)], [.box 29 (.cons (.int .i64) (.cons (.int .i64) (.cons (.int .i64) (.cons (.int .i64) .nil))))]⟩
def law53_SimulateBusyL2E : Shp := ⟨[(0, .sl false Customer.ty), (5, .int .i64), (6, .sl true Customer.ty), (9, .ptr 0), (10, .int .i64), (11, .int .i64), (12, .bool), (43, .sl true Customer.ty), (44, .int .i64), (45, .int .i64)], [.box 29 (.cons (.int .i64) (.cons (.int .i64) (.cons (.int .i64) (.cons (.int .i64) .nil))))]⟩

def law53_SimulateBusyL0K {R : Type} (Listappend_0 : (List Customer)) (v_5 : Int) (v_6 : (List Customer)) (v_43 : (List Customer)) (v_44 : Int) (v_45 : Int) (nx : Int → Option R) (dn : Unit → Option R) (rt : Bool → Option R) : Option R :=
  bif decide (v_45 < v_44) then
    ckB (ix v_45 v_43.length) <|
    ckB (ix v_45 v_43.length) <|
    ckB (ix v_45 Listappend_0.length) <|
    ckB (ix v_45 Listappend_0.length) <|
    bif (!decide ((v_43.getD (Int.toNat v_45) Customer.z).1 = (Listappend_0.getD (Int.toNat v_45) Customer.z).1)) then
      rt false
    else
      ckB (ix v_45 Listappend_0.length) <|
      ckB (ix v_45 Listappend_0.length) <|
      bif (!decide ((v_43.getD (Int.toNat v_45) Customer.z).2.1 = (Listappend_0.getD (Int.toNat v_45) Customer.z).2.1)) then
        rt false
      else
        bif decide ((v_43.getD (Int.toNat v_45) Customer.z).2.2.1 < (v_43.getD (Int.toNat v_45) Customer.z).1) then
          rt false
        else
          bif decide ((4503599627370496 : Int) < (v_43.getD (Int.toNat v_45) Customer.z).2.2.1) then
            rt false
          else
            ckB (inR .i64 ((v_43.getD (Int.toNat v_45) Customer.z).2.2.1 + (v_43.getD (Int.toNat v_45) Customer.z).2.1)) <|
            bif (!decide ((v_43.getD (Int.toNat v_45) Customer.z).2.2.2.1 = ((v_43.getD (Int.toNat v_45) Customer.z).2.2.1 + (v_43.getD (Int.toNat v_45) Customer.z).2.1))) then
              rt false
            else
              bif decide ((0 : Int) < v_45) then
                ckB (inR .i64 (v_45 - 1)) <|
                ckB (ix (v_45 - 1) v_6.length) <|
                ckB (ix (v_45 - 1) v_6.length) <|
                bif decide ((v_43.getD (Int.toNat v_45) Customer.z).2.2.1 < (v_6.getD (Int.toNat (v_45 - 1)) Customer.z).2.2.1) then
                  rt false
                else
                  ckB (cut 0 v_45 v_6.length) <|
                  bnd (law53_SimulateBusyL1 Listappend_0 v_5 v_6 v_43 v_44 v_45 (v_6.take (Int.toNat v_45)) ((v_6.take (Int.toNat v_45)).length : Int) (v_43.getD (Int.toNat v_45) Customer.z).1 (v_43.getD (Int.toNat v_45) Customer.z).2.1 (v_43.getD (Int.toNat v_45) Customer.z).2.2.1 (v_43.getD (Int.toNat v_45) Customer.z).2.2.2.1 (0, 0, false, 0)) fun oe5 =>
                  lk oe5 (fun e5 =>
                    bif decide (v_5 ≤ e5.1) then
                      rt false
                    else
                      bif decide ((v_43.getD (Int.toNat v_45) Customer.z).1 < (v_43.getD (Int.toNat v_45) Customer.z).2.2.1) then
                        bif (!e5.2.2) then
                          rt false
                        else
                          bif decide (e5.2.1 < v_5) then
                            rt false
                          else
                            ckB (inR .i64 (v_45 + 1)) <|
                            nx (v_45 + 1)
                      else
                        ckB (inR .i64 (v_45 + 1)) <|
                        nx (v_45 + 1)) (fun r => rt r)
              else
                ckB (cut 0 v_45 v_6.length) <|
                bnd (law53_SimulateBusyL2 Listappend_0 v_5 v_6 v_43 v_44 v_45 (v_6.take (Int.toNat v_45)) ((v_6.take (Int.toNat v_45)).length : Int) (v_43.getD (Int.toNat v_45) Customer.z).1 (v_43.getD (Int.toNat v_45) Customer.z).2.1 (v_43.getD (Int.toNat v_45) Customer.z).2.2.1 (v_43.getD (Int.toNat v_45) Customer.z).2.2.2.1 (0, 0, false, 0)) fun oe6 =>
                lk oe6 (fun e6 =>
                  bif decide (v_5 ≤ e6.1) then
                    rt false
                  else
                    bif decide ((v_43.getD (Int.toNat v_45) Customer.z).1 < (v_43.getD (Int.toNat v_45) Customer.z).2.2.1) then
                      bif (!e6.2.2) then
                        rt false
                      else
                        bif decide (e6.2.1 < v_5) then
                          rt false
                        else
                          ckB (inR .i64 (v_45 + 1)) <|
                          nx (v_45 + 1)
                    else
                      ckB (inR .i64 (v_45 + 1)) <|
                      nx (v_45 + 1)) (fun r => rt r)
  else
    dn ()

def law53_SimulateBusyL0 (Listappend_0 : (List Customer)) (v_5 : Int) (v_6 : (List Customer)) (v_43 : (List Customer)) (v_44 : Int) (s0 : Int) : Option (Unit ⊕ Bool) :=
  loopM (fun a => law53_SimulateBusyL0K Listappend_0 v_5 v_6 v_43 v_44 a (fun a' => some (.next a')) (fun e => some (.done e)) (fun r => some (.ret r))) s0

def law53_SimulateBusyL0I : Shp := ⟨[(0, .sl false Customer.ty), (5, .int .i64), (6, .sl true Customer.ty), (43, .sl true Customer.ty), (44, .int .i64), (45, .int .i64)], []⟩
def law53_SimulateBusyL0E : Shp := ⟨[], []⟩

def law53_SimulateBusy (Listappend_0 : (List Customer)) (p_1 : Int) : Option Bool :=
  bnd (law53_awake) fun r1 =>
  bif (!r1) then
    some false
  else
    ckB (inR .i64 p_1) <|
    ckB (!decide ((20 : Int) = 0)) <|
    ckB (inR .i64 (1 + (Int.tmod p_1 20))) <|
    bnd (law53_many Listappend_0) fun r2 =>
    bif r2 then
      some true
    else
      bnd (ref53_Proper Listappend_0) fun r3 =>
      bif (!r3) then
        some true
      else
        bnd (simulate_Serve Listappend_0 (1 + (Int.tmod p_1 20))) fun r4 =>
        bif (!decide (r4.2 = 0)) then
          some false
        else
          bif (!decide ((r4.1.length : Int) = (Listappend_0.length : Int))) then
            some false
          else
            bnd (law53_SimulateBusyL0 Listappend_0 (1 + (Int.tmod p_1 20)) r4.1 r4.1 (r4.1.length : Int) 0) fun oe7 =>
            lk oe7 (fun e7 =>
              some true) (fun r => some r)

/-! casebook/casebooklaw53.SimulateShorter -/

def law53_SimulateShorterL0K {R : Type} (Listappend_0 : (List Customer)) (v_1 : (List Int)) (v_2 : Int) (v_25 : (List Customer)) (v_26 : Int) (v_27 : Int) (v_7 : (List Customer)) (nx : (Int × (List Customer)) → Option R) (dn : (List Customer) → Option R) (rt : Bool → Option R) : Option R :=
  bif decide (v_27 < v_26) then
    ckB (ix v_27 v_25.length) <|
    ckB (ix v_27 v_25.length) <|
    bif decide ((0 : Int) < (v_1.length : Int)) then
      ckB (!decide ((v_1.length : Int) = 0)) <|
      ckB (ix (Int.tmod v_27 (v_1.length : Int)) v_1.length) <|
      ckB (ix (Int.tmod v_27 (v_1.length : Int)) v_1.length) <|
      ckB (inR .i64 (v_1.getD (Int.toNat (Int.tmod v_27 (v_1.length : Int))) 0)) <|
      ckB (inR .i64 ((v_25.getD (Int.toNat v_27) Customer.z).2.1 - (min (v_25.getD (Int.toNat v_27) Customer.z).2.1 (v_1.getD (Int.toNat (Int.tmod v_27 (v_1.length : Int))) 0)))) <|
      ckB (room (v_7.length + 1) 32) <|
      ckB (inR .i64 (v_27 + 1)) <|
      nx ((v_27 + 1), (v_7 ++ [((v_25.getD (Int.toNat v_27) Customer.z).1, ((v_25.getD (Int.toNat v_27) Customer.z).2.1 - (min (v_25.getD (Int.toNat v_27) Customer.z).2.1 (v_1.getD (Int.toNat (Int.tmod v_27 (v_1.length : Int))) 0))), (v_25.getD (Int.toNat v_27) Customer.z).2.2.1, (v_25.getD (Int.toNat v_27) Customer.z).2.2.2.1, ())]))
    else
      ckB (room (v_7.length + 1) 32) <|
      ckB (inR .i64 (v_27 + 1)) <|
      nx ((v_27 + 1), (v_7 ++ [(v_25.getD (Int.toNat v_27) Customer.z)]))
  else
    dn v_7

def law53_SimulateShorterL0 (Listappend_0 : (List Customer)) (v_1 : (List Int)) (v_2 : Int) (v_25 : (List Customer)) (v_26 : Int) (s0 : (Int × (List Customer))) : Option ((List Customer) ⊕ Bool) :=
  loopM (fun a => law53_SimulateShorterL0K Listappend_0 v_1 v_2 v_25 v_26 a.1 a.2 (fun a' => some (.next a')) (fun e => some (.done e)) (fun r => some (.ret r))) s0

def law53_SimulateShorterL0I : Shp := ⟨[(0, .sl false Customer.ty), (1, .sl false (.int .u16)), (2, .int .u8), (7, .own 0), (25, .sl false Customer.ty), (26, .int .i64), (27, .int .i64)], [.arr 29 true Customer.ty]⟩
def law53_SimulateShorterL0E : Shp := ⟨[(0, .sl false Customer.ty), (2, .int .u8), (7, .own 0)], [.arr 29 true Customer.ty]⟩

def law53_SimulateShorterL1K {R : Type} (v_11 : (List Customer)) (v_13 : (List Customer)) (v_92 : Int) (v_93 : Int) (nx : Int → Option R) (dn : Unit → Option R) (rt : Bool → Option R) : Option R :=
  bif decide (v_93 < v_92) then
    ckB (ix v_93 v_13.length) <|
    ckB (ix v_93 v_13.length) <|
    ckB (ix v_93 v_11.length) <|
    ckB (ix v_93 v_11.length) <|
    bif decide ((v_11.getD (Int.toNat v_93) Customer.z).2.2.1 < (v_13.getD (Int.toNat v_93) Customer.z).2.2.1) then
      rt false
    else
      ckB (ix v_93 v_13.length) <|
      ckB (ix v_93 v_13.length) <|
      ckB (ix v_93 v_11.length) <|
      ckB (ix v_93 v_11.length) <|
      bif decide ((v_11.getD (Int.toNat v_93) Customer.z).2.2.2.1 < (v_13.getD (Int.toNat v_93) Customer.z).2.2.2.1) then
        rt false
      else
        ckB (inR .i64 (v_93 + 1)) <|
        nx (v_93 + 1)
  else
    dn ()

def law53_SimulateShorterL1 (v_11 : (List Customer)) (v_13 : (List Customer)) (v_92 : Int) (s0 : Int) : Option (Unit ⊕ Bool) :=
  loopM (fun a => law53_SimulateShorterL1K v_11 v_13 v_92 a (fun a' => some (.next a')) (fun e => some (.done e)) (fun r => some (.ret r))) s0

def law53_SimulateShorterL1I : Shp := ⟨[(11, .sl true Customer.ty), (13, .sl true Customer.ty), (92, .int .i64), (93, .int .i64)], []⟩
def law53_SimulateShorterL1E : Shp := ⟨[], []⟩

def law53_SimulateShorter (Listappend_0 : (List Customer)) (p_1 : (List Int)) (p_2 : Int) : Option Bool :=
  bnd (law53_awake) fun r1 =>
  bif (!r1) then
    some false
  else
    bnd (law53_many Listappend_0) fun r2 =>
    bif r2 then
      some true
    else
      bnd (ref53_Proper Listappend_0) fun r3 =>
      bif (!r3) then
        some true
      else
        bnd (law53_SimulateShorterL0 Listappend_0 p_1 p_2 Listappend_0 (Listappend_0.length : Int) (0, [])) fun oe4 =>
        lk oe4 (fun e4 =>
          ckB (inR .i64 p_2) <|
          ckB (!decide ((20 : Int) = 0)) <|
          ckB (inR .i64 (1 + (Int.tmod p_2 20))) <|
          bnd (simulate_Serve Listappend_0 (1 + (Int.tmod p_2 20))) fun r5 =>
          bnd (simulate_Serve e4 (1 + (Int.tmod p_2 20))) fun r6 =>
          bif (!decide (r5.2 = 0)) then
            some false
          else
            bif (!decide (r6.2 = 0)) then
              some false
            else
              bif (!decide ((r5.1.length : Int) = (Listappend_0.length : Int))) then
                some false
              else
                bif (!decide ((r6.1.length : Int) = (Listappend_0.length : Int))) then
                  some false
                else
                  bnd (law53_SimulateShorterL1 r5.1 r6.1 (r5.1.length : Int) 0) fun oe7 =>
                  lk oe7 (fun e7 =>
                    some true) (fun r => some r)) (fun r => some r)

/-! casebook/casebookref53.Number -/

def ref53_Number (servers_0 : Int) : Option Bool :=
  bif decide ((1 : Int) ≤ servers_0) then
    some (decide (servers_0 ≤ 20))
  else
    some false

/-! casebook/casebookref53.first -/

def ref53_firstL0K {R : Type} (l_0 : (List Int)) (k_3 : Int) (i_4 : Int) (nx : (Int × Int) → Option R) (dn : Int → Option R) (rt : Int → Option R) : Option R :=
  bif decide (i_4 < (l_0.length : Int)) then
    ckB (ix i_4 l_0.length) <|
    ckB (ix i_4 l_0.length) <|
    ckB (ix k_3 l_0.length) <|
    ckB (ix k_3 l_0.length) <|
    bif decide ((l_0.getD (Int.toNat i_4) 0) < (l_0.getD (Int.toNat k_3) 0)) then
      ckB (inR .i64 (i_4 + 1)) <|
      nx (i_4, (i_4 + 1))
    else
      ckB (inR .i64 (i_4 + 1)) <|
      nx (k_3, (i_4 + 1))
  else
    dn k_3

def ref53_firstL0 (l_0 : (List Int)) (s0 : (Int × Int)) : Option (Int ⊕ Int) :=
  loopM (fun a => ref53_firstL0K l_0 a.1 a.2 (fun a' => some (.next a')) (fun e => some (.done e)) (fun r => some (.ret r))) s0

def ref53_firstL0I : Shp := ⟨[(0, .sl false (.int .i64)), (3, .int .i64), (4, .int .i64)], []⟩
def ref53_firstL0E : Shp := ⟨[(3, .int .i64)], []⟩

def ref53_first (l_0 : (List Int)) : Option Int :=
  bnd (ref53_firstL0 l_0 (0, 1)) fun oe1 =>
  lk oe1 (fun e1 =>
    some e1) (fun r => some r)

/-! casebook/casebookref53.Serve -/

def ref53_ServeL0K {R : Type} (l_0 : (List Customer)) (i_8 : Int) (free_6 : (List Int)) (out_7 : (List Customer)) (nx : (Int × (List Int) × (List Customer)) → Option R) (dn : (List Customer) → Option R) (rt : ((List Customer) × Int) → Option R) : Option R :=
  bif decide (i_8 < (l_0.length : Int)) then
    bnd (ref53_first free_6) fun r3 =>
    ckB (ix i_8 l_0.length) <|
    ckB (ix i_8 l_0.length) <|
    ckB (ix r3 free_6.length) <|
    ckB (ix r3 free_6.length) <|
    bif decide ((l_0.getD (Int.toNat i_8) Customer.z).1 < (free_6.getD (Int.toNat r3) 0)) then
      ckB (ix r3 free_6.length) <|
      ckB (ix r3 free_6.length) <|
      ckB (inR .i64 ((free_6.getD (Int.toNat r3) 0) + (l_0.getD (Int.toNat i_8) Customer.z).2.1)) <|
      ckB (ix r3 free_6.length) <|
      ckB (ix r3 free_6.length) <|
      ckB (room (out_7.length + 1) 32) <|
      ckB (inR .i64 (i_8 + 1)) <|
      nx ((i_8 + 1), (free_6.set (Int.toNat r3) ((free_6.getD (Int.toNat r3) 0) + (l_0.getD (Int.toNat i_8) Customer.z).2.1)), (out_7 ++ [((l_0.getD (Int.toNat i_8) Customer.z).1, (l_0.getD (Int.toNat i_8) Customer.z).2.1, (free_6.getD (Int.toNat r3) 0), ((free_6.getD (Int.toNat r3) 0) + (l_0.getD (Int.toNat i_8) Customer.z).2.1), ())]))
    else
      ckB (inR .i64 ((l_0.getD (Int.toNat i_8) Customer.z).1 + (l_0.getD (Int.toNat i_8) Customer.z).2.1)) <|
      ckB (ix r3 free_6.length) <|
      ckB (ix r3 free_6.length) <|
      ckB (room (out_7.length + 1) 32) <|
      ckB (inR .i64 (i_8 + 1)) <|
      nx ((i_8 + 1), (free_6.set (Int.toNat r3) ((l_0.getD (Int.toNat i_8) Customer.z).1 + (l_0.getD (Int.toNat i_8) Customer.z).2.1)), (out_7 ++ [((l_0.getD (Int.toNat i_8) Customer.z).1, (l_0.getD (Int.toNat i_8) Customer.z).2.1, (l_0.getD (Int.toNat i_8) Customer.z).1, ((l_0.getD (Int.toNat i_8) Customer.z).1 + (l_0.getD (Int.toNat i_8) Customer.z).2.1), ())]))
  else
    dn out_7

def ref53_ServeL0 (l_0 : (List Customer)) (s0 : (Int × (List Int) × (List Customer))) : Option ((List Customer) ⊕ ((List Customer) × Int)) :=
  loopM (fun a => ref53_ServeL0K l_0 a.1 a.2.1 a.2.2 (fun a' => some (.next a')) (fun e => some (.done e)) (fun r => some (.ret r))) s0

def ref53_ServeL0I : Shp := ⟨[(0, .sl false Customer.ty), (6, .own 0), (7, .own 1), (8, .int .i64)], [.arr 3 true (.int .i64), .arr 29 true Customer.ty]⟩
def ref53_ServeL0E : Shp := ⟨[(7, .own 0)], [.arr 29 true Customer.ty]⟩

def ref53_Serve (l_0 : (List Customer)) (servers_1 : Int) : Option ((List Customer) × Int) :=
  bnd (ref53_Proper l_0) fun r1 =>
  bif (!r1) then
    some ([], 1)
  else
    bnd (ref53_Number servers_1) fun r2 =>
    bif (!r2) then
      some ([], 2)
    else
      ckB (mkOk servers_1 servers_1 8) <|
      bnd (ref53_ServeL0 l_0 (0, (List.replicate (Int.toNat servers_1) 0), [])) fun oe4 =>
      lk oe4 (fun e4 =>
        some (e4, 0)) (fun r => some r)

/-! casebook/simulate.Waits$1 -/

def simulate_Waits_1 (c_0 : Customer) : Option Bool :=
  bif decide (c_0.2.2.1 < c_0.1) then
    some true
  else
    some (decide ((4503599627370496 : Int) < c_0.2.2.1))

/-! slices.IndexFunc[[]casebook/api.Customer,casebook/api.Customer] -/

def slices_IndexFunc_api_Customer_api_Customer_43L0K {R : Type} (s_0 : (List Customer)) (v_7 : Int) (v_8 : Int) (nx : Int → Option R) (dn : Unit → Option R) (rt : Int → Option R) : Option R :=
  bif decide (v_8 < v_7) then
    ckB (ix v_8 s_0.length) <|
    ckB (ix v_8 s_0.length) <|
    bnd (simulate_Waits_1 (s_0.getD (Int.toNat v_8) Customer.z)) fun r1 =>
    bif r1 then
      rt v_8
    else
      ckB (inR .i64 (v_8 + 1)) <|
      nx (v_8 + 1)
  else
    dn ()

def slices_IndexFunc_api_Customer_api_Customer_43L0 (s_0 : (List Customer)) (v_7 : Int) (s0 : Int) : Option (Unit ⊕ Int) :=
  loopM (fun a => slices_IndexFunc_api_Customer_api_Customer_43L0K s_0 v_7 a (fun a' => some (.next a')) (fun e => some (.done e)) (fun r => some (.ret r))) s0

def slices_IndexFunc_api_Customer_api_Customer_43L0I : Shp := ⟨[(0, .sl false Customer.ty), (1, .fn 43 .nil), (7, .int .i64), (8, .int .i64)], []⟩
def slices_IndexFunc_api_Customer_api_Customer_43L0E : Shp := ⟨[], []⟩

def slices_IndexFunc_api_Customer_api_Customer_43 (s_0 : (List Customer)) : Option Int :=
  bnd (slices_IndexFunc_api_Customer_api_Customer_43L0 s_0 (s_0.length : Int) 0) fun oe2 =>
  lk oe2 (fun e2 =>
    some (-1)) (fun r => some r)

/-! slices.ContainsFunc[[]casebook/api.Customer,casebook/api.Customer] -/

def slices_ContainsFunc_api_Customer_api_Customer_43 (s_0 : (List Customer)) : Option Bool :=
  bnd (slices_IndexFunc_api_Customer_api_Customer_43 s_0) fun r1 =>
  some (decide ((0 : Int) ≤ r1))

/-! casebook/simulate.Waits -/

def simulate_WaitsL0K {R : Type} (v_14 : (List Customer)) (v_15 : Int) (v_16 : Int) (out_4 : (List Int)) (nx : (Int × (List Int)) → Option R) (dn : (List Int) → Option R) (rt : ((List Int) × Int) → Option R) : Option R :=
  bif decide (v_16 < v_15) then
    ckB (ix v_16 v_14.length) <|
    ckB (ix v_16 v_14.length) <|
    ckB (inR .i64 ((v_14.getD (Int.toNat v_16) Customer.z).2.2.1 - (v_14.getD (Int.toNat v_16) Customer.z).1)) <|
    ckB (room (out_4.length + 1) 8) <|
    ckB (inR .i64 (v_16 + 1)) <|
    nx ((v_16 + 1), (out_4 ++ [((v_14.getD (Int.toNat v_16) Customer.z).2.2.1 - (v_14.getD (Int.toNat v_16) Customer.z).1)]))
  else
    dn out_4

def simulate_WaitsL0 (v_14 : (List Customer)) (v_15 : Int) (s0 : (Int × (List Int))) : Option ((List Int) ⊕ ((List Int) × Int)) :=
  loopM (fun a => simulate_WaitsL0K v_14 v_15 a.1 a.2 (fun a' => some (.next a')) (fun e => some (.done e)) (fun r => some (.ret r))) s0

def simulate_WaitsL0I : Shp := ⟨[(4, .own 0), (14, .sl false Customer.ty), (15, .int .i64), (16, .int .i64)], [.arr 3 true (.int .i64)]⟩
def simulate_WaitsL0E : Shp := ⟨[(4, .own 0)], [.arr 3 true (.int .i64)]⟩

def simulate_Waits (l_0 : (List Customer)) : Option ((List Int) × Int) :=
  bnd (simulate_proper l_0) fun r1 =>
  bif (!r1) then
    some ([], 1)
  else
    bnd (slices_ContainsFunc_api_Customer_api_Customer_43 l_0) fun r2 =>
    bif r2 then
      some ([], 1)
    else
      bnd (simulate_WaitsL0 l_0 (l_0.length : Int) (0, [])) fun oe3 =>
      lk oe3 (fun e3 =>
        some (e3, 0)) (fun r => some r)

/-! casebook/casebookref53.Waits -/

def ref53_WaitsL0K {R : Type} (l_0 : (List Customer)) (i_5 : Int) (out_4 : (List Int)) (nx : (Int × (List Int)) → Option R) (dn : (List Int) → Option R) (rt : ((List Int) × Int) → Option R) : Option R :=
  bif decide (i_5 < (l_0.length : Int)) then
    ckB (ix i_5 l_0.length) <|
    ckB (ix i_5 l_0.length) <|
    ckB (ix i_5 l_0.length) <|
    ckB (ix i_5 l_0.length) <|
    bif decide ((l_0.getD (Int.toNat i_5) Customer.z).2.2.1 < (l_0.getD (Int.toNat i_5) Customer.z).1) then
      rt ([], 1)
    else
      ckB (ix i_5 l_0.length) <|
      ckB (ix i_5 l_0.length) <|
      bif decide ((4503599627370496 : Int) < (l_0.getD (Int.toNat i_5) Customer.z).2.2.1) then
        rt ([], 1)
      else
        ckB (ix i_5 l_0.length) <|
        ckB (ix i_5 l_0.length) <|
        ckB (ix i_5 l_0.length) <|
        ckB (ix i_5 l_0.length) <|
        ckB (inR .i64 ((l_0.getD (Int.toNat i_5) Customer.z).2.2.1 - (l_0.getD (Int.toNat i_5) Customer.z).1)) <|
        ckB (room (out_4.length + 1) 8) <|
        ckB (inR .i64 (i_5 + 1)) <|
        nx ((i_5 + 1), (out_4 ++ [((l_0.getD (Int.toNat i_5) Customer.z).2.2.1 - (l_0.getD (Int.toNat i_5) Customer.z).1)]))
  else
    dn out_4

def ref53_WaitsL0 (l_0 : (List Customer)) (s0 : (Int × (List Int))) : Option ((List Int) ⊕ ((List Int) × Int)) :=
  loopM (fun a => ref53_WaitsL0K l_0 a.1 a.2 (fun a' => some (.next a')) (fun e => some (.done e)) (fun r => some (.ret r))) s0

def ref53_WaitsL0I : Shp := ⟨[(0, .sl false Customer.ty), (4, .own 0), (5, .int .i64)], [.arr 3 true (.int .i64)]⟩
def ref53_WaitsL0E : Shp := ⟨[(4, .own 0)], [.arr 3 true (.int .i64)]⟩

def ref53_Waits (l_0 : (List Customer)) : Option ((List Int) × Int) :=
  bnd (ref53_Proper l_0) fun r1 =>
  bif (!r1) then
    some ([], 1)
  else
    bnd (ref53_WaitsL0 l_0 (0, [])) fun oe2 =>
    lk oe2 (fun e2 =>
      some (e2, 0)) (fun r => some r)

/-! casebook/casebookref53.Same -/

def ref53_SameL0K {R : Type} (a_0 : (List Customer)) (b_1 : (List Customer)) (i_5 : Int) (nx : Int → Option R) (dn : Unit → Option R) (rt : Bool → Option R) : Option R :=
  bif decide (i_5 < (a_0.length : Int)) then
    ckB (ix i_5 a_0.length) <|
    ckB (ix i_5 a_0.length) <|
    ckB (ix i_5 b_1.length) <|
    ckB (ix i_5 b_1.length) <|
    bif (!(decide ((a_0.getD (Int.toNat i_5) Customer.z).1 = (b_1.getD (Int.toNat i_5) Customer.z).1) && (decide ((a_0.getD (Int.toNat i_5) Customer.z).2.1 = (b_1.getD (Int.toNat i_5) Customer.z).2.1) && (decide ((a_0.getD (Int.toNat i_5) Customer.z).2.2.1 = (b_1.getD (Int.toNat i_5) Customer.z).2.2.1) && (decide ((a_0.getD (Int.toNat i_5) Customer.z).2.2.2.1 = (b_1.getD (Int.toNat i_5) Customer.z).2.2.2.1) && true))))) then
      rt false
    else
      ckB (inR .i64 (i_5 + 1)) <|
      nx (i_5 + 1)
  else
    dn ()

def ref53_SameL0 (a_0 : (List Customer)) (b_1 : (List Customer)) (s0 : Int) : Option (Unit ⊕ Bool) :=
  loopM (fun a => ref53_SameL0K a_0 b_1 a (fun a' => some (.next a')) (fun e => some (.done e)) (fun r => some (.ret r))) s0

def ref53_SameL0I : Shp := ⟨[(0, .sl false Customer.ty), (1, .sl false Customer.ty), (5, .int .i64)], []⟩
def ref53_SameL0E : Shp := ⟨[], []⟩

def ref53_Same (a_0 : (List Customer)) (b_1 : (List Customer)) : Option Bool :=
  bif (!decide ((a_0.length : Int) = (b_1.length : Int))) then
    some false
  else
    bnd (ref53_SameL0 a_0 b_1 0) fun oe1 =>
    lk oe1 (fun e1 =>
      some true) (fun r => some r)

/-! slices.Equal[[]casebook/api.Customer,casebook/api.Customer] -/

def slices_Equal_api_Customer_api_CustomerL0K {R : Type} (s1_0 : (List Customer)) (s2_1 : (List Customer)) (v_12 : Int) (v_13 : Int) (nx : Int → Option R) (dn : Unit → Option R) (rt : Bool → Option R) : Option R :=
  bif decide (v_13 < v_12) then
    ckB (ix v_13 s1_0.length) <|
    ckB (ix v_13 s1_0.length) <|
    ckB (ix v_13 s2_1.length) <|
    ckB (ix v_13 s2_1.length) <|
    bif (!(decide ((s1_0.getD (Int.toNat v_13) Customer.z).1 = (s2_1.getD (Int.toNat v_13) Customer.z).1) && (decide ((s1_0.getD (Int.toNat v_13) Customer.z).2.1 = (s2_1.getD (Int.toNat v_13) Customer.z).2.1) && (decide ((s1_0.getD (Int.toNat v_13) Customer.z).2.2.1 = (s2_1.getD (Int.toNat v_13) Customer.z).2.2.1) && (decide ((s1_0.getD (Int.toNat v_13) Customer.z).2.2.2.1 = (s2_1.getD (Int.toNat v_13) Customer.z).2.2.2.1) && true))))) then
      rt false
    else
      ckB (inR .i64 (v_13 + 1)) <|
      nx (v_13 + 1)
  else
    dn ()

def slices_Equal_api_Customer_api_CustomerL0 (s1_0 : (List Customer)) (s2_1 : (List Customer)) (v_12 : Int) (s0 : Int) : Option (Unit ⊕ Bool) :=
  loopM (fun a => slices_Equal_api_Customer_api_CustomerL0K s1_0 s2_1 v_12 a (fun a' => some (.next a')) (fun e => some (.done e)) (fun r => some (.ret r))) s0

def slices_Equal_api_Customer_api_CustomerL0I : Shp := ⟨[(0, .sl false Customer.ty), (1, .sl false Customer.ty), (12, .int .i64), (13, .int .i64)], []⟩
def slices_Equal_api_Customer_api_CustomerL0E : Shp := ⟨[], []⟩

def slices_Equal_api_Customer_api_Customer (s1_0 : (List Customer)) (s2_1 : (List Customer)) : Option Bool :=
  bif (!decide ((s1_0.length : Int) = (s2_1.length : Int))) then
    some false
  else
    bnd (slices_Equal_api_Customer_api_CustomerL0 s1_0 s2_1 (s1_0.length : Int) 0) fun oe1 =>
    lk oe1 (fun e1 =>
      some true) (fun r => some r)

/-! casebook/simulate.Valid -/

def simulate_Valid (l_0 : (List Customer)) (servers_1 : Int) : Option Bool :=
  bnd (simulate_Serve l_0 servers_1) fun r1 =>
  bif decide (r1.2 = 0) then
    bnd (slices_Equal_api_Customer_api_Customer r1.1 l_0) fun r2 =>
    some r2
  else
    some false

/-! casebook/casebookref53.Valid -/

def ref53_Valid (l_0 : (List Customer)) (servers_1 : Int) : Option Bool :=
  bnd (ref53_Serve l_0 servers_1) fun r1 =>
  bif decide (r1.2 = 0) then
    bnd (ref53_Same r1.1 l_0) fun r2 =>
    some r2
  else
    some false

/-! slices.Equal[[]int,int] -/

def slices_Equal_int_intL0K {R : Type} (s1_0 : (List Int)) (s2_1 : (List Int)) (v_12 : Int) (v_13 : Int) (nx : Int → Option R) (dn : Unit → Option R) (rt : Bool → Option R) : Option R :=
  bif decide (v_13 < v_12) then
    ckB (ix v_13 s1_0.length) <|
    ckB (ix v_13 s1_0.length) <|
    ckB (ix v_13 s2_1.length) <|
    ckB (ix v_13 s2_1.length) <|
    bif (!decide ((s1_0.getD (Int.toNat v_13) 0) = (s2_1.getD (Int.toNat v_13) 0))) then
      rt false
    else
      ckB (inR .i64 (v_13 + 1)) <|
      nx (v_13 + 1)
  else
    dn ()

def slices_Equal_int_intL0 (s1_0 : (List Int)) (s2_1 : (List Int)) (v_12 : Int) (s0 : Int) : Option (Unit ⊕ Bool) :=
  loopM (fun a => slices_Equal_int_intL0K s1_0 s2_1 v_12 a (fun a' => some (.next a')) (fun e => some (.done e)) (fun r => some (.ret r))) s0

def slices_Equal_int_intL0I : Shp := ⟨[(0, .sl false (.int .i64)), (1, .sl false (.int .i64)), (12, .int .i64), (13, .int .i64)], []⟩
def slices_Equal_int_intL0E : Shp := ⟨[], []⟩

def slices_Equal_int_int (s1_0 : (List Int)) (s2_1 : (List Int)) : Option Bool :=
  bif (!decide ((s1_0.length : Int) = (s2_1.length : Int))) then
    some false
  else
    bnd (slices_Equal_int_intL0 s1_0 s2_1 (s1_0.length : Int) 0) fun oe1 =>
    lk oe1 (fun e1 =>
      some true) (fun r => some r)

/-! casebook/casebooklaw53.SimulateServes -/

def law53_SimulateServes (Listappend_0 : (List Customer)) (p_1 : Int) : Option Bool :=
  bnd (law53_awake) fun r1 =>
  bif (!r1) then
    some false
  else
    bnd (law53_many Listappend_0) fun r2 =>
    bif r2 then
      some true
    else
      bnd (simulate_Serve Listappend_0 p_1) fun r3 =>
      bnd (ref53_Serve Listappend_0 p_1) fun r4 =>
      bnd (simulate_Waits Listappend_0) fun r5 =>
      bnd (ref53_Waits Listappend_0) fun r6 =>
      bnd (ref53_Same r3.1 r4.1) fun r7 =>
      bif r7 then
        bif decide (r3.2 = r4.2) then
          bnd (simulate_Valid Listappend_0 p_1) fun r8 =>
          bnd (ref53_Valid Listappend_0 p_1) fun r9 =>
          bif (r8 == r9) then
            bnd (slices_Equal_int_int r5.1 r6.1) fun r10 =>
            bif r10 then
              bif decide (r5.2 = r6.2) then
                bif (!decide (r3.2 = 0)) then
                  some true
                else
                  bnd (simulate_Valid r3.1 p_1) fun r11 =>
                  some r11
              else
                some false
            else
              some false
          else
            some false
        else
          some false
      else
        some false

/-! casebook/clock.ValidSpan -/

def clock_ValidSpan (s_0 : Span) : Option Bool :=
  bif decide ((0 : Int) ≤ s_0.1) then
    bif decide (s_0.1 < s_0.2.1) then
      some (decide (s_0.2.1 ≤ 1099511627776))
    else
      some false
  else
    some false

/-! casebook/clock.ofWeek -/

def clock_ofWeek (s_0 : Span) : Option Bool :=
  bnd (clock_ValidSpan s_0) fun r1 =>
  bif r1 then
    some (decide (s_0.2.1 ≤ 10080))
  else
    some false

/-! casebook/clock.Valid -/

def clock_ValidL0K {R : Type} (v_10 : (List Span)) (v_11 : Int) (c_1 : (List Span)) (v_12 : Int) (nx : Int → Option R) (dn : Unit → Option R) (rt : Bool → Option R) : Option R :=
  bif decide (v_12 < v_11) then
    ckB (ix v_12 v_10.length) <|
    ckB (ix v_12 v_10.length) <|
    bnd (clock_ofWeek (v_10.getD (Int.toNat v_12) Span.z)) fun r1 =>
    bif (!r1) then
      rt false
    else
      bif decide ((0 : Int) < v_12) then
        ckB (inR .i64 (v_12 - 1)) <|
        ckB (ix (v_12 - 1) c_1.length) <|
        ckB (ix (v_12 - 1) c_1.length) <|
        bif decide ((v_10.getD (Int.toNat v_12) Span.z).1 ≤ (c_1.getD (Int.toNat (v_12 - 1)) Span.z).2.1) then
          rt false
        else
          ckB (inR .i64 (v_12 + 1)) <|
          nx (v_12 + 1)
      else
        ckB (inR .i64 (v_12 + 1)) <|
        nx (v_12 + 1)
  else
    dn ()

def clock_ValidL0 (v_10 : (List Span)) (v_11 : Int) (c_1 : (List Span)) (s0 : Int) : Option (Unit ⊕ Bool) :=
  loopM (fun a => clock_ValidL0K v_10 v_11 c_1 a (fun a' => some (.next a')) (fun e => some (.done e)) (fun r => some (.ret r))) s0

def clock_ValidL0I : Shp := ⟨[(1, .ptr 0), (10, .sl false Span.ty), (11, .int .i64), (12, .int .i64)], [.box 46 (.cons (.sl false Span.ty) .nil)]⟩
def clock_ValidL0E : Shp := ⟨[], []⟩

def clock_Valid (c_0 : Calendar) : Option Bool :=
  bif decide ((100 : Int) < (c_0.1.length : Int)) then
    some false
  else
    bnd (clock_ValidL0 c_0.1 (c_0.1.length : Int) c_0.1 0) fun oe2 =>
    lk oe2 (fun e2 =>
      some true) (fun r => some r)

/-! casebook/clock.instant -/

def clock_instant (t_0 : Int) : Option Bool :=
  bif decide ((0 : Int) ≤ t_0) then
    some (decide (t_0 ≤ 1099511627776))
  else
    some false

/-! casebook/clock.before -/

def clock_beforeL0K {R : Type} (w_1 : Int) (v_9 : (List Span)) (v_10 : Int) (n_5 : Int) (v_11 : Int) (nx : (Int × Int) → Option R) (dn : Int → Option R) (rt : Int → Option R) : Option R :=
  bif decide (v_11 < v_10) then
    ckB (ix v_11 v_9.length) <|
    ckB (ix v_11 v_9.length) <|
    ckB (inR .i64 ((min (v_9.getD (Int.toNat v_11) Span.z).2.1 w_1) - (v_9.getD (Int.toNat v_11) Span.z).1)) <|
    ckB (inR .i64 (n_5 + (max ((min (v_9.getD (Int.toNat v_11) Span.z).2.1 w_1) - (v_9.getD (Int.toNat v_11) Span.z).1) 0))) <|
    ckB (inR .i64 (v_11 + 1)) <|
    nx ((n_5 + (max ((min (v_9.getD (Int.toNat v_11) Span.z).2.1 w_1) - (v_9.getD (Int.toNat v_11) Span.z).1) 0)), (v_11 + 1))
  else
    dn n_5

def clock_beforeL0 (w_1 : Int) (v_9 : (List Span)) (v_10 : Int) (s0 : (Int × Int)) : Option (Int ⊕ Int) :=
  loopM (fun a => clock_beforeL0K w_1 v_9 v_10 a.1 a.2 (fun a' => some (.next a')) (fun e => some (.done e)) (fun r => some (.ret r))) s0

def clock_beforeL0I : Shp := ⟨[(1, .int .i64), (5, .int .i64), (9, .sl false Span.ty), (10, .int .i64), (11, .int .i64)], []⟩
def clock_beforeL0E : Shp := ⟨[(5, .int .i64)], []⟩

def clock_before (c_0 : Calendar) (w_1 : Int) : Option Int :=
  bnd (clock_beforeL0 w_1 c_0.1 (c_0.1.length : Int) (0, 0)) fun oe1 =>
  lk oe1 (fun e1 =>
    some e1) (fun r => some r)

/-! casebook/clock.until -/

def clock_until (c_0 : Calendar) (t_1 : Int) : Option Int :=
  ckB (!decide ((10080 : Int) = 0)) <|
  ckB (inR .i64 (Int.tdiv t_1 10080)) <|
  bnd (clock_before c_0 10080) fun r1 =>
  ckB (inR .i64 ((Int.tdiv t_1 10080) * r1)) <|
  ckB (!decide ((10080 : Int) = 0)) <|
  bnd (clock_before c_0 (Int.tmod t_1 10080)) fun r2 =>
  ckB (inR .i64 (((Int.tdiv t_1 10080) * r1) + r2)) <|
  some (((Int.tdiv t_1 10080) * r1) + r2)

/-! casebook/clock.After -/

def clock_AfterL0K {R : Type} (v_12 : Int) (v_57 : (List Span)) (v_58 : Int) (v_11 : Int) (v_59 : Int) (nx : (Int × Int) → Option R) (dn : Int → Option R) (rt : (Int × Int) → Option R) : Option R :=
  bif decide (v_59 < v_58) then
    ckB (ix v_59 v_57.length) <|
    ckB (ix v_59 v_57.length) <|
    ckB (inR .i64 ((v_57.getD (Int.toNat v_59) Span.z).2.1 - (v_57.getD (Int.toNat v_59) Span.z).1)) <|
    bif decide (v_11 < ((v_57.getD (Int.toNat v_59) Span.z).2.1 - (v_57.getD (Int.toNat v_59) Span.z).1)) then
      ckB (inR .i64 ((v_57.getD (Int.toNat v_59) Span.z).1 + v_11)) <|
      ckB (inR .i64 (((v_57.getD (Int.toNat v_59) Span.z).1 + v_11) + 1)) <|
      ckB (inR .i64 (v_12 + (((v_57.getD (Int.toNat v_59) Span.z).1 + v_11) + 1))) <|
      dn (v_12 + (((v_57.getD (Int.toNat v_59) Span.z).1 + v_11) + 1))
    else
      ckB (inR .i64 ((v_57.getD (Int.toNat v_59) Span.z).2.1 - (v_57.getD (Int.toNat v_59) Span.z).1)) <|
      ckB (inR .i64 (v_11 - ((v_57.getD (Int.toNat v_59) Span.z).2.1 - (v_57.getD (Int.toNat v_59) Span.z).1))) <|
      ckB (inR .i64 (v_59 + 1)) <|
      nx ((v_11 - ((v_57.getD (Int.toNat v_59) Span.z).2.1 - (v_57.getD (Int.toNat v_59) Span.z).1)), (v_59 + 1))
  else
    dn v_12

def clock_AfterL0 (v_12 : Int) (v_57 : (List Span)) (v_58 : Int) (s0 : (Int × Int)) : Option (Int ⊕ (Int × Int)) :=
  loopM (fun a => clock_AfterL0K v_12 v_57 v_58 a.1 a.2 (fun a' => some (.next a')) (fun e => some (.done e)) (fun r => some (.ret r))) s0

def clock_AfterL0I : Shp := ⟨[(11, .int .i64), (12, .int .i64), (57, .sl false Span.ty), (58, .int .i64), (59, .int .i64)], []⟩
def clock_AfterL0E : Shp := ⟨[(12, .int .i64)], []⟩

def clock_After (Listappend_0 : Calendar) (p_1 : Int) (p_2 : Int) : Option (Int × Int) :=
  bnd (clock_Valid Listappend_0) fun r1 =>
  bif (!r1) then
    some (0, 1)
  else
    bnd (clock_instant p_1) fun r2 =>
    bif (!r2) then
      some (0, 2)
    else
      bnd (clock_instant p_2) fun r3 =>
      bif (!r3) then
        some (0, 2)
      else
        bif decide (p_2 = 0) then
          some (p_1, 0)
        else
          bif decide ((Listappend_0.1.length : Int) = 0) then
            some (0, 10)
          else
            bnd (clock_before Listappend_0 10080) fun r4 =>
            bnd (clock_until Listappend_0 p_1) fun r5 =>
            ckB (inR .i64 (r5 + p_2)) <|
            ckB (inR .i64 ((r5 + p_2) - 1)) <|
            ckB (!decide (r4 = 0)) <|
            ckB (inR .i64 (Int.tdiv ((r5 + p_2) - 1) r4)) <|
            ckB (inR .i64 ((r5 + p_2) - 1)) <|
            ckB (!decide (r4 = 0)) <|
            bif decide ((109078534 : Int) < (Int.tdiv ((r5 + p_2) - 1) r4)) then
              some (0, 6)
            else
              ckB (inR .i64 ((Int.tdiv ((r5 + p_2) - 1) r4) * 10080)) <|
              bnd (clock_AfterL0 ((Int.tdiv ((r5 + p_2) - 1) r4) * 10080) Listappend_0.1 (Listappend_0.1.length : Int) ((Int.tmod ((r5 + p_2) - 1) r4), 0)) fun oe6 =>
              lk oe6 (fun e6 =>
                bif decide ((1099511627776 : Int) < e6) then
                  some (0, 6)
                else
                  some (e6, 0)) (fun r => some r)

/-! casebook/simulate.ServeIn$1 -/

def simulate_ServeIn_1 (start_0 : Int) (service_1 : Int) (p_2 : Calendar) : Option (Int × Int) :=
  ckB (ix 0 1) <|
  bnd (clock_After p_2 start_0 service_1) fun r1 =>
  some (r1.1, r1.2)

/-! casebook/simulate.serve -/

def simulate_serve_45L0K {R : Type} (end_2c0 : Calendar) (v_17 : (List Customer)) (v_18 : Int) (v_19 : Int) (free_8 : (List Int)) (out_9 : (List Customer)) (nx : (Int × (List Int) × (List Customer)) → Option R) (dn : (List Customer) → Option R) (rt : ((List Customer) × Int) → Option R) : Option R :=
  bif decide (v_19 < v_18) then
    ckB (ix v_19 v_17.length) <|
    ckB (ix v_19 v_17.length) <|
    bnd (slices_Min_int_int free_8) fun r1 =>
    bnd (slices_Index_int_int free_8 r1) fun r2 =>
    ckB (ix r2 free_8.length) <|
    ckB (ix r2 free_8.length) <|
    bnd (simulate_ServeIn_1 (max (v_17.getD (Int.toNat v_19) Customer.z).1 (free_8.getD (Int.toNat r2) 0)) (v_17.getD (Int.toNat v_19) Customer.z).2.1 end_2c0) fun r3 =>
    bif (!decide (r3.2 = 0)) then
      rt ([], r3.2)
    else
      ckB (ix r2 free_8.length) <|
      ckB (ix r2 free_8.length) <|
      ckB (room (out_9.length + 1) 32) <|
      ckB (inR .i64 (v_19 + 1)) <|
      nx ((v_19 + 1), (free_8.set (Int.toNat r2) r3.1), (out_9 ++ [((v_17.getD (Int.toNat v_19) Customer.z).1, (v_17.getD (Int.toNat v_19) Customer.z).2.1, (max (v_17.getD (Int.toNat v_19) Customer.z).1 (free_8.getD (Int.toNat r2) 0)), r3.1, ())]))
  else
    dn out_9

def simulate_serve_45L0 (end_2c0 : Calendar) (v_17 : (List Customer)) (v_18 : Int) (s0 : (Int × (List Int) × (List Customer))) : Option ((List Customer) ⊕ ((List Customer) × Int)) :=
  loopM (fun a => simulate_serve_45L0K end_2c0 v_17 v_18 a.1 a.2.1 a.2.2 (fun a' => some (.next a')) (fun e => some (.done e)) (fun r => some (.ret r))) s0

def simulate_serve_45L0I : Shp := ⟨[(2, .fn 45 (.cons (.rp false Calendar.ty) .nil)), (8, .own 0), (9, .own 1), (17, .sl false Customer.ty), (18, .int .i64), (19, .int .i64)], [.arr 3 true (.int .i64), .arr 29 true Customer.ty]⟩
def simulate_serve_45L0E : Shp := ⟨[(9, .own 0)], [.arr 29 true Customer.ty]⟩

def simulate_serve_45 (l_0 : (List Customer)) (servers_1 : Int) (end_2c0 : Calendar) : Option ((List Customer) × Int) :=
  ckB (mkOk servers_1 servers_1 8) <|
  bnd (simulate_serve_45L0 end_2c0 l_0 (l_0.length : Int) (0, (List.replicate (Int.toNat servers_1) 0), [])) fun oe4 =>
  lk oe4 (fun e4 =>
    some (e4, 0)) (fun r => some r)

/-! casebook/simulate.ServeIn -/

def simulate_ServeIn (l_0 : (List Customer)) (servers_1 : Int) (c_2 : Calendar) : Option ((List Customer) × Int) :=
  bnd (simulate_proper l_0) fun r1 =>
  bif (!r1) then
    some ([], 1)
  else
    bnd (clock_Valid c_2) fun r2 =>
    bif (!r2) then
      some ([], 1)
    else
      bnd (simulate_given l_0 servers_1) fun r3 =>
      bif (!decide (r3 = 0)) then
        some ([], r3)
      else
        bnd (simulate_serve_45 l_0 servers_1 c_2) fun r4 =>
        some (r4.1, r4.2)

/-! casebook/casebookref03.ValidSpan -/

def ref03_ValidSpan (s_0 : Span) : Option Bool :=
  bif decide ((0 : Int) ≤ s_0.1) then
    bif decide (s_0.1 < s_0.2.1) then
      some (decide (s_0.2.1 ≤ 1099511627776))
    else
      some false
  else
    some false

/-! casebook/casebookref03.week -/

def ref03_week (s_0 : Span) : Option Bool :=
  bnd (ref03_ValidSpan s_0) fun r1 =>
  bif r1 then
    some (decide (s_0.2.1 ≤ 10080))
  else
    some false

/-! casebook/casebookref03.Valid -/

def ref03_ValidL0K {R : Type} (c_1 : (List Span)) (i_3 : Int) (nx : Int → Option R) (dn : Unit → Option R) (rt : Bool → Option R) : Option R :=
  bif decide (i_3 < (c_1.length : Int)) then
    ckB (ix i_3 c_1.length) <|
    ckB (ix i_3 c_1.length) <|
    bnd (ref03_week (c_1.getD (Int.toNat i_3) Span.z)) fun r1 =>
    bif (!r1) then
      rt false
    else
      bif decide ((0 : Int) < i_3) then
        ckB (inR .i64 (i_3 - 1)) <|
        ckB (ix (i_3 - 1) c_1.length) <|
        ckB (ix (i_3 - 1) c_1.length) <|
        ckB (ix i_3 c_1.length) <|
        ckB (ix i_3 c_1.length) <|
        bif decide ((c_1.getD (Int.toNat i_3) Span.z).1 ≤ (c_1.getD (Int.toNat (i_3 - 1)) Span.z).2.1) then
          rt false
        else
          ckB (inR .i64 (i_3 + 1)) <|
          nx (i_3 + 1)
      else
        ckB (inR .i64 (i_3 + 1)) <|
        nx (i_3 + 1)
  else
    dn ()

def ref03_ValidL0 (c_1 : (List Span)) (s0 : Int) : Option (Unit ⊕ Bool) :=
  loopM (fun a => ref03_ValidL0K c_1 a (fun a' => some (.next a')) (fun e => some (.done e)) (fun r => some (.ret r))) s0

def ref03_ValidL0I : Shp := ⟨[(1, .ptr 0), (3, .int .i64)], [.box 46 (.cons (.sl false Span.ty) .nil)]⟩
def ref03_ValidL0E : Shp := ⟨[], []⟩

def ref03_Valid (c_0 : Calendar) : Option Bool :=
  bif decide ((100 : Int) < (c_0.1.length : Int)) then
    some false
  else
    bnd (ref03_ValidL0 c_0.1 0) fun oe2 =>
    lk oe2 (fun e2 =>
      some true) (fun r => some r)

/-! casebook/casebookref03.instant -/

def ref03_instant (t_0 : Int) : Option Bool :=
  bif decide ((0 : Int) ≤ t_0) then
    some (decide (t_0 ≤ 1099511627776))
  else
    some false

/-! casebook/casebookref03.before -/

def ref03_beforeL0K {R : Type} (m_1 : Int) (c_2 : (List Span)) (n_5 : Int) (i_6 : Int) (nx : (Int × Int) → Option R) (dn : Int → Option R) (rt : Int → Option R) : Option R :=
  bif decide (i_6 < (c_2.length : Int)) then
    ckB (ix i_6 c_2.length) <|
    ckB (ix i_6 c_2.length) <|
    bif decide ((c_2.getD (Int.toNat i_6) Span.z).2.1 ≤ m_1) then
      ckB (inR .i64 (n_5 + (c_2.getD (Int.toNat i_6) Span.z).2.1)) <|
      ckB (inR .i64 ((n_5 + (c_2.getD (Int.toNat i_6) Span.z).2.1) - (c_2.getD (Int.toNat i_6) Span.z).1)) <|
      ckB (inR .i64 (i_6 + 1)) <|
      nx (((n_5 + (c_2.getD (Int.toNat i_6) Span.z).2.1) - (c_2.getD (Int.toNat i_6) Span.z).1), (i_6 + 1))
    else
      bif decide ((c_2.getD (Int.toNat i_6) Span.z).1 < m_1) then
        ckB (inR .i64 (n_5 + m_1)) <|
        ckB (inR .i64 ((n_5 + m_1) - (c_2.getD (Int.toNat i_6) Span.z).1)) <|
        ckB (inR .i64 (i_6 + 1)) <|
        nx (((n_5 + m_1) - (c_2.getD (Int.toNat i_6) Span.z).1), (i_6 + 1))
      else
        ckB (inR .i64 (i_6 + 1)) <|
        nx (n_5, (i_6 + 1))
  else
    dn n_5

def ref03_beforeL0 (m_1 : Int) (c_2 : (List Span)) (s0 : (Int × Int)) : Option (Int ⊕ Int) :=
  loopM (fun a => ref03_beforeL0K m_1 c_2 a.1 a.2 (fun a' => some (.next a')) (fun e => some (.done e)) (fun r => some (.ret r))) s0

def ref03_beforeL0I : Shp := ⟨[(1, .int .i64), (2, .ptr 0), (5, .int .i64), (6, .int .i64)], [.box 46 (.cons (.sl false Span.ty) .nil)]⟩
def ref03_beforeL0E : Shp := ⟨[(5, .int .i64)], []⟩

def ref03_before (c_0 : Calendar) (m_1 : Int) : Option Int :=
  bnd (ref03_beforeL0 m_1 c_0.1 (0, 0)) fun oe1 =>
  lk oe1 (fun e1 =>
    some e1) (fun r => some r)

/-! casebook/casebookref03.Until -/

def ref03_Until (c_0 : Calendar) (t_1 : Int) : Option Int :=
  ckB (!decide ((10080 : Int) = 0)) <|
  ckB (inR .i64 (Int.tdiv t_1 10080)) <|
  bnd (ref03_before c_0 10080) fun r1 =>
  ckB (inR .i64 ((Int.tdiv t_1 10080) * r1)) <|
  ckB (!decide ((10080 : Int) = 0)) <|
  bnd (ref03_before c_0 (Int.tmod t_1 10080)) fun r2 =>
  ckB (inR .i64 (((Int.tdiv t_1 10080) * r1) + r2)) <|
  some (((Int.tdiv t_1 10080) * r1) + r2)

/-! casebook/casebookref03.After -/

def ref03_AfterL0K {R : Type} (v_10 : Int) (v_3 : (List Span)) (v_11 : Int) (v_12 : Int) (v_13 : Int) (nx : (Int × Int × Int) → Option R) (dn : Int → Option R) (rt : (Int × Int) → Option R) : Option R :=
  bif decide (v_13 < (v_3.length : Int)) then
    ckB (ix v_13 v_3.length) <|
    ckB (ix v_13 v_3.length) <|
    bif decide ((0 : Int) < v_11) then
      ckB (inR .i64 ((v_3.getD (Int.toNat v_13) Span.z).2.1 - (v_3.getD (Int.toNat v_13) Span.z).1)) <|
      bif decide (v_11 ≤ ((v_3.getD (Int.toNat v_13) Span.z).2.1 - (v_3.getD (Int.toNat v_13) Span.z).1)) then
        ckB (inR .i64 (v_10 * 10080)) <|
        ckB (inR .i64 ((v_10 * 10080) + (v_3.getD (Int.toNat v_13) Span.z).1)) <|
        ckB (inR .i64 (((v_10 * 10080) + (v_3.getD (Int.toNat v_13) Span.z).1) + v_11)) <|
        ckB (inR .i64 ((v_3.getD (Int.toNat v_13) Span.z).2.1 - (v_3.getD (Int.toNat v_13) Span.z).1)) <|
        ckB (inR .i64 (v_11 - ((v_3.getD (Int.toNat v_13) Span.z).2.1 - (v_3.getD (Int.toNat v_13) Span.z).1))) <|
        ckB (inR .i64 (v_13 + 1)) <|
        nx ((v_11 - ((v_3.getD (Int.toNat v_13) Span.z).2.1 - (v_3.getD (Int.toNat v_13) Span.z).1)), (((v_10 * 10080) + (v_3.getD (Int.toNat v_13) Span.z).1) + v_11), (v_13 + 1))
      else
        ckB (inR .i64 ((v_3.getD (Int.toNat v_13) Span.z).2.1 - (v_3.getD (Int.toNat v_13) Span.z).1)) <|
        ckB (inR .i64 (v_11 - ((v_3.getD (Int.toNat v_13) Span.z).2.1 - (v_3.getD (Int.toNat v_13) Span.z).1))) <|
        ckB (inR .i64 (v_13 + 1)) <|
        nx ((v_11 - ((v_3.getD (Int.toNat v_13) Span.z).2.1 - (v_3.getD (Int.toNat v_13) Span.z).1)), v_12, (v_13 + 1))
    else
      ckB (inR .i64 ((v_3.getD (Int.toNat v_13) Span.z).2.1 - (v_3.getD (Int.toNat v_13) Span.z).1)) <|
      ckB (inR .i64 (v_11 - ((v_3.getD (Int.toNat v_13) Span.z).2.1 - (v_3.getD (Int.toNat v_13) Span.z).1))) <|
      ckB (inR .i64 (v_13 + 1)) <|
      nx ((v_11 - ((v_3.getD (Int.toNat v_13) Span.z).2.1 - (v_3.getD (Int.toNat v_13) Span.z).1)), v_12, (v_13 + 1))
  else
    dn v_12

def ref03_AfterL0 (v_10 : Int) (v_3 : (List Span)) (s0 : (Int × Int × Int)) : Option (Int ⊕ (Int × Int)) :=
  loopM (fun a => ref03_AfterL0K v_10 v_3 a.1 a.2.1 a.2.2 (fun a' => some (.next a')) (fun e => some (.done e)) (fun r => some (.ret r))) s0

def ref03_AfterL0I : Shp := ⟨[(3, .ptr 0), (10, .int .i64), (11, .int .i64), (12, .int .i64), (13, .int .i64)], [.box 46 (.cons (.sl false Span.ty) .nil)]⟩
def ref03_AfterL0E : Shp := ⟨[(12, .int .i64)], []⟩

def ref03_After (Listappend_0 : Calendar) (p_1 : Int) (p_2 : Int) : Option (Int × Int) :=
  bnd (ref03_Valid Listappend_0) fun r1 =>
  bif (!r1) then
    some (0, 1)
  else
    bnd (ref03_instant p_1) fun r2 =>
    bif (!r2) then
      some (0, 2)
    else
      bnd (ref03_instant p_2) fun r3 =>
      bif (!r3) then
        some (0, 2)
      else
        bif decide (p_2 = 0) then
          some (p_1, 0)
        else
          bnd (ref03_before Listappend_0 10080) fun r4 =>
          bif decide (r4 = 0) then
            some (0, 10)
          else
            bnd (ref03_Until Listappend_0 p_1) fun r5 =>
            ckB (inR .i64 (r5 + p_2)) <|
            ckB (inR .i64 ((r5 + p_2) - 1)) <|
            ckB (!decide (r4 = 0)) <|
            ckB (inR .i64 (Int.tdiv ((r5 + p_2) - 1) r4)) <|
            ckB (inR .i64 ((Int.tdiv ((r5 + p_2) - 1) r4) * r4)) <|
            ckB (inR .i64 ((r5 + p_2) - ((Int.tdiv ((r5 + p_2) - 1) r4) * r4))) <|
            bnd (ref03_AfterL0 (Int.tdiv ((r5 + p_2) - 1) r4) Listappend_0.1 (((r5 + p_2) - ((Int.tdiv ((r5 + p_2) - 1) r4) * r4)), 0, 0)) fun oe6 =>
            lk oe6 (fun e6 =>
              bif decide ((1099511627776 : Int) < e6) then
                some (0, 6)
              else
                some (e6, 0)) (fun r => some r)

/-! casebook/casebookref53.ServeIn -/

def ref53_ServeInL0K {R : Type} (Listappend_0 : (List Customer)) (v_5 : (List Span)) (v_10 : Int) (v_8 : (List Int)) (v_9 : (List Customer)) (nx : (Int × (List Int) × (List Customer)) → Option R) (dn : (List Customer) → Option R) (rt : ((List Customer) × Int) → Option R) : Option R :=
  bif decide (v_10 < (Listappend_0.length : Int)) then
    bnd (ref53_first v_8) fun r4 =>
    ckB (ix v_10 Listappend_0.length) <|
    ckB (ix v_10 Listappend_0.length) <|
    ckB (ix r4 v_8.length) <|
    ckB (ix r4 v_8.length) <|
    bif decide ((Listappend_0.getD (Int.toNat v_10) Customer.z).1 < (v_8.getD (Int.toNat r4) 0)) then
      ckB (ix r4 v_8.length) <|
      ckB (ix r4 v_8.length) <|
      bnd (ref03_After (v_5, ()) (v_8.getD (Int.toNat r4) 0) (Listappend_0.getD (Int.toNat v_10) Customer.z).2.1) fun r5 =>
      bif (!decide (r5.2 = 0)) then
        rt ([], r5.2)
      else
        ckB (ix r4 v_8.length) <|
        ckB (ix r4 v_8.length) <|
        ckB (room (v_9.length + 1) 32) <|
        ckB (inR .i64 (v_10 + 1)) <|
        nx ((v_10 + 1), (v_8.set (Int.toNat r4) r5.1), (v_9 ++ [((Listappend_0.getD (Int.toNat v_10) Customer.z).1, (Listappend_0.getD (Int.toNat v_10) Customer.z).2.1, (v_8.getD (Int.toNat r4) 0), r5.1, ())]))
    else
      bnd (ref03_After (v_5, ()) (Listappend_0.getD (Int.toNat v_10) Customer.z).1 (Listappend_0.getD (Int.toNat v_10) Customer.z).2.1) fun r6 =>
      bif (!decide (r6.2 = 0)) then
        rt ([], r6.2)
      else
        ckB (ix r4 v_8.length) <|
        ckB (ix r4 v_8.length) <|
        ckB (room (v_9.length + 1) 32) <|
        ckB (inR .i64 (v_10 + 1)) <|
        nx ((v_10 + 1), (v_8.set (Int.toNat r4) r6.1), (v_9 ++ [((Listappend_0.getD (Int.toNat v_10) Customer.z).1, (Listappend_0.getD (Int.toNat v_10) Customer.z).2.1, (Listappend_0.getD (Int.toNat v_10) Customer.z).1, r6.1, ())]))
  else
    dn v_9

def ref53_ServeInL0 (Listappend_0 : (List Customer)) (v_5 : (List Span)) (s0 : (Int × (List Int) × (List Customer))) : Option ((List Customer) ⊕ ((List Customer) × Int)) :=
  loopM (fun a => ref53_ServeInL0K Listappend_0 v_5 a.1 a.2.1 a.2.2 (fun a' => some (.next a')) (fun e => some (.done e)) (fun r => some (.ret r))) s0

def ref53_ServeInL0I : Shp := ⟨[(0, .sl false Customer.ty), (5, .ptr 0), (8, .own 1), (9, .own 2), (10, .int .i64)], [.box 46 (.cons (.sl false Span.ty) .nil), .arr 3 true (.int .i64), .arr 29 true Customer.ty]⟩
def ref53_ServeInL0E : Shp := ⟨[(9, .own 0)], [.arr 29 true Customer.ty]⟩

def ref53_ServeIn (Listappend_0 : (List Customer)) (p_1 : Int) (p_2 : Calendar) : Option ((List Customer) × Int) :=
  bnd (ref53_Proper Listappend_0) fun r1 =>
  bif (!r1) then
    some ([], 1)
  else
    bnd (ref03_Valid p_2) fun r2 =>
    bif (!r2) then
      some ([], 1)
    else
      bnd (ref53_Number p_1) fun r3 =>
      bif (!r3) then
        some ([], 2)
      else
        ckB (mkOk p_1 p_1 8) <|
        bnd (ref53_ServeInL0 Listappend_0 p_2.1 (0, (List.replicate (Int.toNat p_1) 0), [])) fun oe7 =>
        lk oe7 (fun e7 =>
          some (e7, 0)) (fun r => some r)

/-! casebook/casebooklaw53.SimulateCalendars -/

def law53_SimulateCalendars (l_0 : (List Customer)) (servers_1 : Int) (c_2 : Calendar) : Option Bool :=
  bnd (law53_awake) fun r1 =>
  bif (!r1) then
    some false
  else
    bif decide ((30 : Int) < (l_0.length : Int)) then
      bif decide ((l_0.length : Int) ≤ 1000) then
        some true
      else
        bif decide ((1100 : Int) < (l_0.length : Int)) then
          some true
        else
          bif decide ((200 : Int) < (c_2.1.length : Int)) then
            some true
          else
            bnd (simulate_ServeIn l_0 servers_1 c_2) fun r2 =>
            bnd (ref53_ServeIn l_0 servers_1 c_2) fun r3 =>
            bnd (ref53_Same r2.1 r3.1) fun r4 =>
            bif r4 then
              some (decide (r2.2 = r3.2))
            else
              some false
    else
      bif decide ((1100 : Int) < (l_0.length : Int)) then
        some true
      else
        bif decide ((200 : Int) < (c_2.1.length : Int)) then
          some true
        else
          bnd (simulate_ServeIn l_0 servers_1 c_2) fun r5 =>
          bnd (ref53_ServeIn l_0 servers_1 c_2) fun r6 =>
          bnd (ref53_Same r5.1 r6.1) fun r7 =>
          bif r7 then
            some (decide (r5.2 = r6.2))
          else
            some false

/-! casebook/casebooklaw53.SimulateAlways -/

def law53_SimulateAlwaysL0K {R : Type} (v_8 : (List Customer)) (v_12 : (List Customer)) (v_88 : Int) (v_89 : Int) (nx : Int → Option R) (dn : Unit → Option R) (rt : Bool → Option R) : Option R :=
  bif decide (v_89 < v_88) then
    ckB (ix v_89 v_12.length) <|
    ckB (ix v_89 v_12.length) <|
    ckB (ix v_89 v_8.length) <|
    ckB (ix v_89 v_8.length) <|
    bif decide ((v_12.getD (Int.toNat v_89) Customer.z).2.2.1 < (v_8.getD (Int.toNat v_89) Customer.z).2.2.1) then
      rt false
    else
      ckB (ix v_89 v_12.length) <|
      ckB (ix v_89 v_12.length) <|
      ckB (ix v_89 v_8.length) <|
      ckB (ix v_89 v_8.length) <|
      bif decide ((v_12.getD (Int.toNat v_89) Customer.z).2.2.2.1 < (v_8.getD (Int.toNat v_89) Customer.z).2.2.2.1) then
        rt false
      else
        ckB (inR .i64 (v_89 + 1)) <|
        nx (v_89 + 1)
  else
    dn ()

def law53_SimulateAlwaysL0 (v_8 : (List Customer)) (v_12 : (List Customer)) (v_88 : Int) (s0 : Int) : Option (Unit ⊕ Bool) :=
  loopM (fun a => law53_SimulateAlwaysL0K v_8 v_12 v_88 a (fun a' => some (.next a')) (fun e => some (.done e)) (fun r => some (.ret r))) s0

def law53_SimulateAlwaysL0I : Shp := ⟨[(8, .sl true Customer.ty), (12, .sl true Customer.ty), (88, .int .i64), (89, .int .i64)], []⟩
def law53_SimulateAlwaysL0E : Shp := ⟨[], []⟩

def law53_SimulateAlwaysL1K {R : Type} (v_8 : (List Customer)) (v_12 : (List Customer)) (v_88 : Int) (v_89 : Int) (nx : Int → Option R) (dn : Unit → Option R) (rt : Bool → Option R) : Option R :=
  bif decide (v_89 < v_88) then
    ckB (ix v_89 v_12.length) <|
    ckB (ix v_89 v_12.length) <|
    ckB (ix v_89 v_8.length) <|
    ckB (ix v_89 v_8.length) <|
    bif decide ((v_12.getD (Int.toNat v_89) Customer.z).2.2.1 < (v_8.getD (Int.toNat v_89) Customer.z).2.2.1) then
      rt false
    else
      ckB (ix v_89 v_12.length) <|
      ckB (ix v_89 v_12.length) <|
      ckB (ix v_89 v_8.length) <|
      ckB (ix v_89 v_8.length) <|
      bif decide ((v_12.getD (Int.toNat v_89) Customer.z).2.2.2.1 < (v_8.getD (Int.toNat v_89) Customer.z).2.2.2.1) then
        rt false
      else
        ckB (inR .i64 (v_89 + 1)) <|
        nx (v_89 + 1)
  else
    dn ()

def law53_SimulateAlwaysL1 (v_8 : (List Customer)) (v_12 : (List Customer)) (v_88 : Int) (s0 : Int) : Option (Unit ⊕ Bool) :=
  loopM (fun a => law53_SimulateAlwaysL1K v_8 v_12 v_88 a (fun a' => some (.next a')) (fun e => some (.done e)) (fun r => some (.ret r))) s0

def law53_SimulateAlwaysL1I : Shp := ⟨[(8, .sl true Customer.ty), (12, .sl true Customer.ty), (88, .int .i64), (89, .int .i64)], []⟩
def law53_SimulateAlwaysL1E : Shp := ⟨[], []⟩

def law53_SimulateAlwaysL2K {R : Type} (v_8 : (List Customer)) (v_12 : (List Customer)) (v_88 : Int) (v_89 : Int) (nx : Int → Option R) (dn : Unit → Option R) (rt : Bool → Option R) : Option R :=
  bif decide (v_89 < v_88) then
    ckB (ix v_89 v_12.length) <|
    ckB (ix v_89 v_12.length) <|
    ckB (ix v_89 v_8.length) <|
    ckB (ix v_89 v_8.length) <|
    bif decide ((v_12.getD (Int.toNat v_89) Customer.z).2.2.1 < (v_8.getD (Int.toNat v_89) Customer.z).2.2.1) then
      rt false
    else
      ckB (ix v_89 v_12.length) <|
      ckB (ix v_89 v_12.length) <|
      ckB (ix v_89 v_8.length) <|
      ckB (ix v_89 v_8.length) <|
      bif decide ((v_12.getD (Int.toNat v_89) Customer.z).2.2.2.1 < (v_8.getD (Int.toNat v_89) Customer.z).2.2.2.1) then
        rt false
      else
        ckB (inR .i64 (v_89 + 1)) <|
        nx (v_89 + 1)
  else
    dn ()

def law53_SimulateAlwaysL2 (v_8 : (List Customer)) (v_12 : (List Customer)) (v_88 : Int) (s0 : Int) : Option (Unit ⊕ Bool) :=
  loopM (fun a => law53_SimulateAlwaysL2K v_8 v_12 v_88 a (fun a' => some (.next a')) (fun e => some (.done e)) (fun r => some (.ret r))) s0

def law53_SimulateAlwaysL2I : Shp := ⟨[(8, .sl true Customer.ty), (12, .sl true Customer.ty), (88, .int .i64), (89, .int .i64)], []⟩
def law53_SimulateAlwaysL2E : Shp := ⟨[], []⟩

def law53_SimulateAlwaysL3K {R : Type} (v_8 : (List Customer)) (v_12 : (List Customer)) (v_88 : Int) (v_89 : Int) (nx : Int → Option R) (dn : Unit → Option R) (rt : Bool → Option R) : Option R :=
  bif decide (v_89 < v_88) then
    ckB (ix v_89 v_12.length) <|
    ckB (ix v_89 v_12.length) <|
    ckB (ix v_89 v_8.length) <|
    ckB (ix v_89 v_8.length) <|
    bif decide ((v_12.getD (Int.toNat v_89) Customer.z).2.2.1 < (v_8.getD (Int.toNat v_89) Customer.z).2.2.1) then
      rt false
    else
      ckB (ix v_89 v_12.length) <|
      ckB (ix v_89 v_12.length) <|
      ckB (ix v_89 v_8.length) <|
      ckB (ix v_89 v_8.length) <|
      bif decide ((v_12.getD (Int.toNat v_89) Customer.z).2.2.2.1 < (v_8.getD (Int.toNat v_89) Customer.z).2.2.2.1) then
        rt false
      else
        ckB (inR .i64 (v_89 + 1)) <|
        nx (v_89 + 1)
  else
    dn ()

def law53_SimulateAlwaysL3 (v_8 : (List Customer)) (v_12 : (List Customer)) (v_88 : Int) (s0 : Int) : Option (Unit ⊕ Bool) :=
  loopM (fun a => law53_SimulateAlwaysL3K v_8 v_12 v_88 a (fun a' => some (.next a')) (fun e => some (.done e)) (fun r => some (.ret r))) s0

def law53_SimulateAlwaysL3I : Shp := ⟨[(8, .sl true Customer.ty), (12, .sl true Customer.ty), (88, .int .i64), (89, .int .i64)], []⟩
def law53_SimulateAlwaysL3E : Shp := ⟨[], []⟩

def law53_SimulateAlways (Listappend_0 : (List Customer)) (p_1 : Int) (p_2 : Calendar) : Option Bool :=
  bnd (law53_awake) fun r1 =>
  bif (!r1) then
    some false
  else
    bif decide ((30 : Int) < (Listappend_0.length : Int)) then
      some true
    else
      bnd (ref53_Proper Listappend_0) fun r2 =>
      bif (!r2) then
        some true
      else
        bif decide ((200 : Int) < (p_2.1.length : Int)) then
          some true
        else
          ckB (inR .i64 p_1) <|
          ckB (!decide ((20 : Int) = 0)) <|
          ckB (inR .i64 (1 + (Int.tmod p_1 20))) <|
          bnd (simulate_Serve Listappend_0 (1 + (Int.tmod p_1 20))) fun r3 =>
          bnd (simulate_ServeIn Listappend_0 (1 + (Int.tmod p_1 20)) ([(0, 10080, ())], ())) fun r4 =>
          bif (!decide (r3.2 = 0)) then
            some false
          else
            bif (!decide (r4.2 = 0)) then
              bif (!decide (r4.2 = 6)) then
                some false
              else
                bif decide (r4.2 = 0) then
                  bnd (slices_Equal_api_Customer_api_Customer r3.1 r4.1) fun r5 =>
                  bif (!r5) then
                    some false
                  else
                    bnd (simulate_ServeIn Listappend_0 (1 + (Int.tmod p_1 20)) p_2) fun r6 =>
                    bif (!decide (r6.2 = 0)) then
                      some (decide ((r6.1.length : Int) = 0))
                    else
                      bif (!decide ((r6.1.length : Int) = (r3.1.length : Int))) then
                        some false
                      else
                        bnd (law53_SimulateAlwaysL0 r3.1 r6.1 (r6.1.length : Int) 0) fun oe7 =>
                        lk oe7 (fun e7 =>
                          some true) (fun r => some r)
                else
                  bnd (simulate_ServeIn Listappend_0 (1 + (Int.tmod p_1 20)) p_2) fun r8 =>
                  bif (!decide (r8.2 = 0)) then
                    some (decide ((r8.1.length : Int) = 0))
                  else
                    bif (!decide ((r8.1.length : Int) = (r3.1.length : Int))) then
                      some false
                    else
                      bnd (law53_SimulateAlwaysL1 r3.1 r8.1 (r8.1.length : Int) 0) fun oe9 =>
                      lk oe9 (fun e9 =>
                        some true) (fun r => some r)
            else
              bif decide (r4.2 = 0) then
                bnd (slices_Equal_api_Customer_api_Customer r3.1 r4.1) fun r10 =>
                bif (!r10) then
                  some false
                else
                  bnd (simulate_ServeIn Listappend_0 (1 + (Int.tmod p_1 20)) p_2) fun r11 =>
                  bif (!decide (r11.2 = 0)) then
                    some (decide ((r11.1.length : Int) = 0))
                  else
                    bif (!decide ((r11.1.length : Int) = (r3.1.length : Int))) then
                      some false
                    else
                      bnd (law53_SimulateAlwaysL2 r3.1 r11.1 (r11.1.length : Int) 0) fun oe12 =>
                      lk oe12 (fun e12 =>
                        some true) (fun r => some r)
              else
                bnd (simulate_ServeIn Listappend_0 (1 + (Int.tmod p_1 20)) p_2) fun r13 =>
                bif (!decide (r13.2 = 0)) then
                  some (decide ((r13.1.length : Int) = 0))
                else
                  bif (!decide ((r13.1.length : Int) = (r3.1.length : Int))) then
                    some false
                  else
                    bnd (law53_SimulateAlwaysL3 r3.1 r13.1 (r13.1.length : Int) 0) fun oe14 =>
                    lk oe14 (fun e14 =>
                      some true) (fun r => some r)

/-! casebook/simulate.entry -/

def simulate_entry (n_0 : Int) : Option Bool :=
  bif decide ((0 : Int) ≤ n_0) then
    some (decide (n_0 ≤ 1048576))
  else
    some false

/-! casebook/simulate.random -/

def simulate_randomL0K {R : Type}  (r_5 : Int) (v_14 : Int) (nx : (Int × Int) → Option R) (dn : Int → Option R) (rt : Int → Option R) : Option R :=
  bif decide (v_14 < 3) then
    ckB (inR .i64 (16807 * r_5)) <|
    ckB (inR .i64 ((16807 * r_5) + 12345)) <|
    ckB (!decide ((2147483647 : Int) = 0)) <|
    ckB (inR .i64 (v_14 + 1)) <|
    nx ((Int.tmod ((16807 * r_5) + 12345) 2147483647), (v_14 + 1))
  else
    dn r_5

def simulate_randomL0  (s0 : (Int × Int)) : Option (Int ⊕ Int) :=
  loopM (fun a => simulate_randomL0K  a.1 a.2 (fun a' => some (.next a')) (fun e => some (.done e)) (fun r => some (.ret r))) s0

def simulate_randomL0I : Shp := ⟨[(5, .int .i64), (14, .int .i64)], []⟩
def simulate_randomL0E : Shp := ⟨[(5, .int .i64)], []⟩

def simulate_random (seed_0 : Int) (n_1 : Int) : Option Int :=
  ckB (inR .i64 (seed_0 + 1)) <|
  ckB (inR .i64 (48271 * (seed_0 + 1))) <|
  ckB (inR .i64 (n_1 + 1)) <|
  ckB (inR .i64 (69621 * (n_1 + 1))) <|
  ckB (inR .i64 ((48271 * (seed_0 + 1)) + (69621 * (n_1 + 1)))) <|
  ckB (!decide ((2147483647 : Int) = 0)) <|
  bnd (simulate_randomL0  ((Int.tmod ((48271 * (seed_0 + 1)) + (69621 * (n_1 + 1))) 2147483647), 0)) fun oe1 =>
  lk oe1 (fun e1 =>
    some e1) (fun r => some r)

/-! casebook/simulate.Random -/

def simulate_Random (seed_0 : Int) (n_1 : Int) : Option (Int × Int) :=
  bnd (simulate_entry seed_0) fun r1 =>
  bif (!r1) then
    some (0, 2)
  else
    bnd (simulate_entry n_1) fun r2 =>
    bif (!r2) then
      some (0, 2)
    else
      bnd (simulate_random seed_0 n_1) fun r3 =>
      some (r3, 0)

/-! casebook/casebookref53.seed -/

def ref53_seed (n_0 : Int) : Option Bool :=
  bif decide ((0 : Int) ≤ n_0) then
    some (decide (n_0 ≤ 1048576))
  else
    some false

/-! casebook/casebookref53.Random -/

def ref53_RandomL0K {R : Type} (m_5 : Int) (r_6 : Int) (i_7 : Int) (nx : (Int × Int) → Option R) (dn : Int → Option R) (rt : Int → Option R) : Option R :=
  bif decide (i_7 < 3) then
    ckB (inR .i64 (16807 * r_6)) <|
    ckB (inR .i64 ((16807 * r_6) + 12345)) <|
    ckB (!decide (m_5 = 0)) <|
    ckB (inR .i64 (i_7 + 1)) <|
    nx ((Int.tmod ((16807 * r_6) + 12345) m_5), (i_7 + 1))
  else
    dn r_6

def ref53_RandomL0 (m_5 : Int) (s0 : (Int × Int)) : Option (Int ⊕ Int) :=
  loopM (fun a => ref53_RandomL0K m_5 a.1 a.2 (fun a' => some (.next a')) (fun e => some (.done e)) (fun r => some (.ret r))) s0

def ref53_RandomL0I : Shp := ⟨[(5, .int .i64), (6, .int .i64), (7, .int .i64)], []⟩
def ref53_RandomL0E : Shp := ⟨[(6, .int .i64)], []⟩

def ref53_Random (seed_0 : Int) (n_1 : Int) : Option Int :=
  ckB (inR .i64 (seed_0 + 1)) <|
  ckB (inR .i64 (48271 * (seed_0 + 1))) <|
  ckB (inR .i64 (n_1 + 1)) <|
  ckB (inR .i64 (69621 * (n_1 + 1))) <|
  ckB (inR .i64 ((48271 * (seed_0 + 1)) + (69621 * (n_1 + 1)))) <|
  ckB (!decide ((2147483647 : Int) = 0)) <|
  bnd (ref53_RandomL0 2147483647 ((Int.tmod ((48271 * (seed_0 + 1)) + (69621 * (n_1 + 1))) 2147483647), 0)) fun oe1 =>
  lk oe1 (fun e1 =>
    some e1) (fun r => some r)

/-! casebook/casebookref53.SafeRandom -/

def ref53_SafeRandom (s_0 : Int) (n_1 : Int) : Option (Int × Int) :=
  bnd (ref53_seed s_0) fun r1 =>
  bif (!r1) then
    some (0, 2)
  else
    bnd (ref53_seed n_1) fun r2 =>
    bif (!r2) then
      some (0, 2)
    else
      bnd (ref53_Random s_0 n_1) fun r3 =>
      some (r3, 0)

/-! casebook/casebooklaw53.wide -/

def law53_wide (h_0 : Histogram) : Option Bool :=
  bif decide ((60 : Int) < (h_0.1.length : Int)) then
    some true
  else
    some (decide ((60 : Int) < (h_0.2.1.length : Int)))

/-! casebook/timing.proper -/

def timing_properL0K {R : Type} (edges_0 : (List Int)) (v_13 : (List Int)) (v_14 : Int) (v_15 : Int) (nx : Int → Option R) (dn : Unit → Option R) (rt : Bool → Option R) : Option R :=
  bif decide (v_15 < v_14) then
    ckB (ix v_15 v_13.length) <|
    ckB (ix v_15 v_13.length) <|
    bif decide ((v_13.getD (Int.toNat v_15) 0) < 0) then
      rt false
    else
      bif decide ((1073741824 : Int) < (v_13.getD (Int.toNat v_15) 0)) then
        rt false
      else
        bif decide ((0 : Int) < v_15) then
          ckB (inR .i64 (v_15 - 1)) <|
          ckB (ix (v_15 - 1) edges_0.length) <|
          ckB (ix (v_15 - 1) edges_0.length) <|
          bif decide ((v_13.getD (Int.toNat v_15) 0) ≤ (edges_0.getD (Int.toNat (v_15 - 1)) 0)) then
            rt false
          else
            ckB (inR .i64 (v_15 + 1)) <|
            nx (v_15 + 1)
        else
          ckB (inR .i64 (v_15 + 1)) <|
          nx (v_15 + 1)
  else
    dn ()

def timing_properL0 (edges_0 : (List Int)) (v_13 : (List Int)) (v_14 : Int) (s0 : Int) : Option (Unit ⊕ Bool) :=
  loopM (fun a => timing_properL0K edges_0 v_13 v_14 a (fun a' => some (.next a')) (fun e => some (.done e)) (fun r => some (.ret r))) s0

def timing_properL0I : Shp := ⟨[(0, .sl false (.int .i64)), (13, .sl false (.int .i64)), (14, .int .i64), (15, .int .i64)], []⟩
def timing_properL0E : Shp := ⟨[], []⟩

def timing_proper (edges_0 : (List Int)) : Option Bool :=
  bif decide ((edges_0.length : Int) < 2) then
    some false
  else
    bif decide ((20 : Int) < (edges_0.length : Int)) then
      some false
    else
      bnd (timing_properL0 edges_0 edges_0 (edges_0.length : Int) 0) fun oe1 =>
      lk oe1 (fun e1 =>
        some true) (fun r => some r)

/-! casebook/timing.Valid$1 -/

def timing_Valid_1 (n_0 : Int) : Option Bool :=
  bif decide (n_0 < 0) then
    some true
  else
    some (decide ((1048576 : Int) < n_0))

/-! slices.IndexFunc[[]int,int] -/

def slices_IndexFunc_int_int_76L0K {R : Type} (s_0 : (List Int)) (v_7 : Int) (v_8 : Int) (nx : Int → Option R) (dn : Unit → Option R) (rt : Int → Option R) : Option R :=
  bif decide (v_8 < v_7) then
    ckB (ix v_8 s_0.length) <|
    ckB (ix v_8 s_0.length) <|
    bnd (timing_Valid_1 (s_0.getD (Int.toNat v_8) 0)) fun r1 =>
    bif r1 then
      rt v_8
    else
      ckB (inR .i64 (v_8 + 1)) <|
      nx (v_8 + 1)
  else
    dn ()

def slices_IndexFunc_int_int_76L0 (s_0 : (List Int)) (v_7 : Int) (s0 : Int) : Option (Unit ⊕ Int) :=
  loopM (fun a => slices_IndexFunc_int_int_76L0K s_0 v_7 a (fun a' => some (.next a')) (fun e => some (.done e)) (fun r => some (.ret r))) s0

def slices_IndexFunc_int_int_76L0I : Shp := ⟨[(0, .sl false (.int .i64)), (1, .fn 76 .nil), (7, .int .i64), (8, .int .i64)], []⟩
def slices_IndexFunc_int_int_76L0E : Shp := ⟨[], []⟩

def slices_IndexFunc_int_int_76 (s_0 : (List Int)) : Option Int :=
  bnd (slices_IndexFunc_int_int_76L0 s_0 (s_0.length : Int) 0) fun oe2 =>
  lk oe2 (fun e2 =>
    some (-1)) (fun r => some r)

/-! slices.ContainsFunc[[]int,int] -/

def slices_ContainsFunc_int_int_76 (s_0 : (List Int)) : Option Bool :=
  bnd (slices_IndexFunc_int_int_76 s_0) fun r1 =>
  some (decide ((0 : Int) ≤ r1))

/-! casebook/timing.Valid -/

def timing_Valid (h_0 : Histogram) : Option Bool :=
  bnd (timing_proper h_0.1) fun r1 =>
  bif r1 then
    ckB (inR .i64 ((h_0.1.length : Int) - 1)) <|
    bif decide ((h_0.2.1.length : Int) = ((h_0.1.length : Int) - 1)) then
      bnd (slices_ContainsFunc_int_int_76 h_0.2.1) fun r2 =>
      some (!r2)
    else
      some false
  else
    some false

/-! casebook/timing.total -/

def timing_totalL0K {R : Type} (v_7 : (List Int)) (v_8 : Int) (n_3 : Int) (v_9 : Int) (nx : (Int × Int) → Option R) (dn : Int → Option R) (rt : Int → Option R) : Option R :=
  bif decide (v_9 < v_8) then
    ckB (ix v_9 v_7.length) <|
    ckB (ix v_9 v_7.length) <|
    ckB (inR .i64 (n_3 + (v_7.getD (Int.toNat v_9) 0))) <|
    ckB (inR .i64 (v_9 + 1)) <|
    nx ((n_3 + (v_7.getD (Int.toNat v_9) 0)), (v_9 + 1))
  else
    dn n_3

def timing_totalL0 (v_7 : (List Int)) (v_8 : Int) (s0 : (Int × Int)) : Option (Int ⊕ Int) :=
  loopM (fun a => timing_totalL0K v_7 v_8 a.1 a.2 (fun a' => some (.next a')) (fun e => some (.done e)) (fun r => some (.ret r))) s0

def timing_totalL0I : Shp := ⟨[(3, .int .i64), (7, .sl false (.int .i64)), (8, .int .i64), (9, .int .i64)], []⟩
def timing_totalL0E : Shp := ⟨[(3, .int .i64)], []⟩

def timing_total (h_0 : Histogram) : Option Int :=
  bnd (timing_totalL0 h_0.2.1 (h_0.2.1.length : Int) (0, 0)) fun oe1 =>
  lk oe1 (fun e1 =>
    some e1) (fun r => some r)

/-! casebook/timing.Total -/

def timing_Total (h_0 : Histogram) : Option (Int × Int) :=
  bnd (timing_Valid h_0) fun r1 =>
  bif (!r1) then
    some (0, 1)
  else
    bnd (timing_total h_0) fun r2 =>
    some (r2, 0)

/-! casebook/timing.Sample -/

def timing_SampleL0K {R : Type} (h_20 : (List Int)) (h_21 : (List Int)) (n_1 : Int) (i_6 : Int) (nx : (Int × Int) → Option R) (dn : (Int × Int) → Option R) (rt : (Int × Int) → Option R) : Option R :=
  ckB (ix i_6 h_21.length) <|
  ckB (ix i_6 h_21.length) <|
  bif decide ((h_21.getD (Int.toNat i_6) 0) ≤ n_1) then
    ckB (ix i_6 h_21.length) <|
    ckB (ix i_6 h_21.length) <|
    ckB (inR .i64 (n_1 - (h_21.getD (Int.toNat i_6) 0))) <|
    ckB (inR .i64 (i_6 + 1)) <|
    nx ((n_1 - (h_21.getD (Int.toNat i_6) 0)), (i_6 + 1))
  else
    dn (n_1, i_6)

def timing_SampleL0 (h_20 : (List Int)) (h_21 : (List Int)) (s0 : (Int × Int)) : Option ((Int × Int) ⊕ (Int × Int)) :=
  loopM (fun a => timing_SampleL0K h_20 h_21 a.1 a.2 (fun a' => some (.next a')) (fun e => some (.done e)) (fun r => some (.ret r))) s0

def timing_SampleL0I : Shp := ⟨[(1, .int .i64), (2, .ptr 0), (6, .int .i64)], [.box 54 (.cons (.sl false (.int .i64)) (.cons (.sl false (.int .i64)) .nil))]⟩
def timing_SampleL0E : Shp := ⟨[(1, .int .i64), (2, .ptr 0), (6, .int .i64)], [.box 54 (.cons (.sl false (.int .i64)) (.cons (.sl false (.int .i64)) .nil))]⟩

def timing_Sample (h_0 : Histogram) (n_1 : Int) : Option (Int × Int) :=
  bnd (timing_Valid h_0) fun r1 =>
  bif (!r1) then
    some (0, 1)
  else
    bif decide (n_1 < 0) then
      some (0, 2)
    else
      bnd (timing_total h_0) fun r2 =>
      bif decide (r2 ≤ n_1) then
        some (0, 2)
      else
        bnd (timing_SampleL0 h_0.1 h_0.2.1 (n_1, 0)) fun oe3 =>
        lk oe3 (fun e3 =>
          ckB (ix e3.2 h_0.1.length) <|
          ckB (ix e3.2 h_0.1.length) <|
          ckB (inR .i64 (e3.2 + 1)) <|
          ckB (ix (e3.2 + 1) h_0.1.length) <|
          ckB (ix (e3.2 + 1) h_0.1.length) <|
          ckB (ix e3.2 h_0.1.length) <|
          ckB (ix e3.2 h_0.1.length) <|
          ckB (inR .i64 ((h_0.1.getD (Int.toNat (e3.2 + 1)) 0) - (h_0.1.getD (Int.toNat e3.2) 0))) <|
          ckB (inR .i64 (e3.1 * ((h_0.1.getD (Int.toNat (e3.2 + 1)) 0) - (h_0.1.getD (Int.toNat e3.2) 0)))) <|
          ckB (ix e3.2 h_0.2.1.length) <|
          ckB (ix e3.2 h_0.2.1.length) <|
          ckB (!decide ((h_0.2.1.getD (Int.toNat e3.2) 0) = 0)) <|
          ckB (inR .i64 (Int.tdiv (e3.1 * ((h_0.1.getD (Int.toNat (e3.2 + 1)) 0) - (h_0.1.getD (Int.toNat e3.2) 0))) (h_0.2.1.getD (Int.toNat e3.2) 0))) <|
          ckB (inR .i64 ((h_0.1.getD (Int.toNat e3.2) 0) + (Int.tdiv (e3.1 * ((h_0.1.getD (Int.toNat (e3.2 + 1)) 0) - (h_0.1.getD (Int.toNat e3.2) 0))) (h_0.2.1.getD (Int.toNat e3.2) 0)))) <|
          some (((h_0.1.getD (Int.toNat e3.2) 0) + (Int.tdiv (e3.1 * ((h_0.1.getD (Int.toNat (e3.2 + 1)) 0) - (h_0.1.getD (Int.toNat e3.2) 0))) (h_0.2.1.getD (Int.toNat e3.2) 0))), 0)) (fun r => some r)

/-! casebook/simulate.Customers -/

def simulate_CustomersL0K {R : Type} (v_2 : Int) (v_10 : Int) (v_12 : Int) (v_57 : Int) (v_40 : (List Int)) (v_41 : (List Int)) (v_50 : (List Int)) (v_51 : (List Int)) (v_15 : Int) (v_58 : Int) (v_14 : (List Customer)) (nx : (Int × Int × (List Customer)) → Option R) (dn : (List Customer) → Option R) (rt : ((List Customer) × Int) → Option R) : Option R :=
  bif decide (v_58 < v_57) then
    ckB (inR .i64 (2 * v_58)) <|
    bnd (simulate_random v_2 (2 * v_58)) fun r4 =>
    ckB (!decide (v_10 = 0)) <|
    bnd (timing_Sample (v_40, v_41, ()) (Int.tmod r4 v_10)) fun r5 =>
    ckB (inR .i64 (2 * v_58)) <|
    ckB (inR .i64 ((2 * v_58) + 1)) <|
    bnd (simulate_random v_2 ((2 * v_58) + 1)) fun r6 =>
    ckB (!decide (v_12 = 0)) <|
    bnd (timing_Sample (v_50, v_51, ()) (Int.tmod r6 v_12)) fun r7 =>
    ckB (inR .i64 (v_15 + r5.1)) <|
    ckB (room (v_14.length + 1) 32) <|
    ckB (inR .i64 (v_58 + 1)) <|
    nx ((v_15 + r5.1), (v_58 + 1), (v_14 ++ [((v_15 + r5.1), r7.1, 0, 0, ())]))
  else
    dn v_14

def simulate_CustomersL0 (v_2 : Int) (v_10 : Int) (v_12 : Int) (v_57 : Int) (v_40 : (List Int)) (v_41 : (List Int)) (v_50 : (List Int)) (v_51 : (List Int)) (s0 : (Int × Int × (List Customer))) : Option ((List Customer) ⊕ ((List Customer) × Int)) :=
  loopM (fun a => simulate_CustomersL0K v_2 v_10 v_12 v_57 v_40 v_41 v_50 v_51 a.1 a.2.1 a.2.2 (fun a' => some (.next a')) (fun e => some (.done e)) (fun r => some (.ret r))) s0

def simulate_CustomersL0I : Shp := ⟨[(2, .int .i64), (4, .ptr 0), (5, .ptr 1), (10, .int .i64), (12, .int .i64), (14, .own 2), (15, .int .i64), (57, .int .i64), (58, .int .i64)], [.box 54 (.cons (.sl false (.int .i64)) (.cons (.sl false (.int .i64)) .nil)), .box 54 (.cons (.sl false (.int .i64)) (.cons (.sl false (.int .i64)) .nil)), .arr 29 true Customer.ty]⟩
def simulate_CustomersL0E : Shp := ⟨[(14, .own 0)], [.arr 29 true Customer.ty]⟩

def simulate_Customers (Listappend_0 : Histogram) (p_1 : Histogram) (p_2 : Int) (p_3 : Int) : Option ((List Customer) × Int) :=
  bnd (timing_Total Listappend_0) fun r1 =>
  bnd (timing_Total p_1) fun r2 =>
  bif (!decide (r1.2 = 0)) then
    some ([], 1)
  else
    bif (!decide (r2.2 = 0)) then
      some ([], 1)
    else
      bnd (simulate_entry p_2) fun r3 =>
      bif (!r3) then
        some ([], 2)
      else
        bif decide (p_3 < 0) then
          some ([], 2)
        else
          bif decide ((1000 : Int) < p_3) then
            some ([], 2)
          else
            bif decide (r1.1 = 0) then
              some ([], 10)
            else
              bif decide (r2.1 = 0) then
                some ([], 10)
              else
                bnd (simulate_CustomersL0 p_2 r1.1 r2.1 p_3 Listappend_0.1 Listappend_0.2.1 p_1.1 p_1.2.1 (0, 0, [])) fun oe8 =>
                lk oe8 (fun e8 =>
                  some (e8, 0)) (fun r => some r)

/-! casebook/casebookref40.Valid -/

def ref40_ValidL0K {R : Type} (v_10 : (List Int)) (v_11 : (List Int)) (v_3 : Int) (nx : Int → Option R) (dn : Unit → Option R) (rt : Bool → Option R) : Option R :=
  bif decide (v_3 < (v_10.length : Int)) then
    ckB (ix v_3 v_10.length) <|
    ckB (ix v_3 v_10.length) <|
    bif decide ((v_10.getD (Int.toNat v_3) 0) < 0) then
      rt false
    else
      ckB (ix v_3 v_10.length) <|
      ckB (ix v_3 v_10.length) <|
      bif decide ((1073741824 : Int) < (v_10.getD (Int.toNat v_3) 0)) then
        rt false
      else
        bif decide ((0 : Int) < v_3) then
          ckB (inR .i64 (v_3 - 1)) <|
          ckB (ix (v_3 - 1) v_10.length) <|
          ckB (ix (v_3 - 1) v_10.length) <|
          ckB (ix v_3 v_10.length) <|
          ckB (ix v_3 v_10.length) <|
          bif decide ((v_10.getD (Int.toNat v_3) 0) ≤ (v_10.getD (Int.toNat (v_3 - 1)) 0)) then
            rt false
          else
            ckB (inR .i64 (v_3 + 1)) <|
            nx (v_3 + 1)
        else
          ckB (inR .i64 (v_3 + 1)) <|
          nx (v_3 + 1)
  else
    dn ()

def ref40_ValidL0 (v_10 : (List Int)) (v_11 : (List Int)) (s0 : Int) : Option (Unit ⊕ Bool) :=
  loopM (fun a => ref40_ValidL0K v_10 v_11 a (fun a' => some (.next a')) (fun e => some (.done e)) (fun r => some (.ret r))) s0

def ref40_ValidL0I : Shp := ⟨[(1, .ptr 0), (3, .int .i64)], [.box 54 (.cons (.sl false (.int .i64)) (.cons (.sl false (.int .i64)) .nil))]⟩
def ref40_ValidL0E : Shp := ⟨[(1, .ptr 0)], [.box 54 (.cons (.sl false (.int .i64)) (.cons (.sl false (.int .i64)) .nil))]⟩

def ref40_ValidL1K {R : Type} (v_10 : (List Int)) (v_11 : (List Int)) (v_4 : Int) (nx : Int → Option R) (dn : Unit → Option R) (rt : Bool → Option R) : Option R :=
  bif decide (v_4 < (v_11.length : Int)) then
    ckB (ix v_4 v_11.length) <|
    ckB (ix v_4 v_11.length) <|
    bif decide ((v_11.getD (Int.toNat v_4) 0) < 0) then
      rt false
    else
      ckB (ix v_4 v_11.length) <|
      ckB (ix v_4 v_11.length) <|
      bif decide ((1048576 : Int) < (v_11.getD (Int.toNat v_4) 0)) then
        rt false
      else
        ckB (inR .i64 (v_4 + 1)) <|
        nx (v_4 + 1)
  else
    dn ()

def ref40_ValidL1 (v_10 : (List Int)) (v_11 : (List Int)) (s0 : Int) : Option (Unit ⊕ Bool) :=
  loopM (fun a => ref40_ValidL1K v_10 v_11 a (fun a' => some (.next a')) (fun e => some (.done e)) (fun r => some (.ret r))) s0

def ref40_ValidL1I : Shp := ⟨[(1, .ptr 0), (4, .int .i64)], [.box 54 (.cons (.sl false (.int .i64)) (.cons (.sl false (.int .i64)) .nil))]⟩
def ref40_ValidL1E : Shp := ⟨[], []⟩

def ref40_Valid (Listappend_0 : Histogram) : Option Bool :=
  bif decide ((Listappend_0.1.length : Int) < 2) then
    some false
  else
    bif decide ((20 : Int) < (Listappend_0.1.length : Int)) then
      some false
    else
      ckB (inR .i64 ((Listappend_0.1.length : Int) - 1)) <|
      bif (!decide ((Listappend_0.2.1.length : Int) = ((Listappend_0.1.length : Int) - 1))) then
        some false
      else
        bnd (ref40_ValidL0 Listappend_0.1 Listappend_0.2.1 0) fun oe1 =>
        lk oe1 (fun e1 =>
          bnd (ref40_ValidL1 Listappend_0.1 Listappend_0.2.1 0) fun oe2 =>
          lk oe2 (fun e2 =>
            some true) (fun r => some r)) (fun r => some r)

/-! casebook/casebookref40.Total -/

def ref40_TotalL0K {R : Type} (h_10 : (List Int)) (h_11 : (List Int)) (n_3 : Int) (i_4 : Int) (nx : (Int × Int) → Option R) (dn : Int → Option R) (rt : Int → Option R) : Option R :=
  bif decide (i_4 < (h_11.length : Int)) then
    ckB (ix i_4 h_11.length) <|
    ckB (ix i_4 h_11.length) <|
    ckB (inR .i64 (n_3 + (h_11.getD (Int.toNat i_4) 0))) <|
    ckB (inR .i64 (i_4 + 1)) <|
    nx ((n_3 + (h_11.getD (Int.toNat i_4) 0)), (i_4 + 1))
  else
    dn n_3

def ref40_TotalL0 (h_10 : (List Int)) (h_11 : (List Int)) (s0 : (Int × Int)) : Option (Int ⊕ Int) :=
  loopM (fun a => ref40_TotalL0K h_10 h_11 a.1 a.2 (fun a' => some (.next a')) (fun e => some (.done e)) (fun r => some (.ret r))) s0

def ref40_TotalL0I : Shp := ⟨[(1, .ptr 0), (3, .int .i64), (4, .int .i64)], [.box 54 (.cons (.sl false (.int .i64)) (.cons (.sl false (.int .i64)) .nil))]⟩
def ref40_TotalL0E : Shp := ⟨[(3, .int .i64)], []⟩

def ref40_Total (h_0 : Histogram) : Option Int :=
  bnd (ref40_TotalL0 h_0.1 h_0.2.1 (0, 0)) fun oe1 =>
  lk oe1 (fun e1 =>
    some e1) (fun r => some r)

/-! casebook/casebookref40.Sample -/

def ref40_SampleL0K {R : Type} (h_20 : (List Int)) (h_21 : (List Int)) (n_1 : Int) (i_5 : Int) (nx : (Int × Int) → Option R) (dn : (Int × Int) → Option R) (rt : Int → Option R) : Option R :=
  ckB (ix i_5 h_21.length) <|
  ckB (ix i_5 h_21.length) <|
  bif decide ((h_21.getD (Int.toNat i_5) 0) ≤ n_1) then
    ckB (ix i_5 h_21.length) <|
    ckB (ix i_5 h_21.length) <|
    ckB (inR .i64 (n_1 - (h_21.getD (Int.toNat i_5) 0))) <|
    ckB (inR .i64 (i_5 + 1)) <|
    nx ((n_1 - (h_21.getD (Int.toNat i_5) 0)), (i_5 + 1))
  else
    dn (n_1, i_5)

def ref40_SampleL0 (h_20 : (List Int)) (h_21 : (List Int)) (s0 : (Int × Int)) : Option ((Int × Int) ⊕ Int) :=
  loopM (fun a => ref40_SampleL0K h_20 h_21 a.1 a.2 (fun a' => some (.next a')) (fun e => some (.done e)) (fun r => some (.ret r))) s0

def ref40_SampleL0I : Shp := ⟨[(1, .int .i64), (2, .ptr 0), (5, .int .i64)], [.box 54 (.cons (.sl false (.int .i64)) (.cons (.sl false (.int .i64)) .nil))]⟩
def ref40_SampleL0E : Shp := ⟨[(1, .int .i64), (2, .ptr 0), (5, .int .i64)], [.box 54 (.cons (.sl false (.int .i64)) (.cons (.sl false (.int .i64)) .nil))]⟩

def ref40_Sample (h_0 : Histogram) (n_1 : Int) : Option Int :=
  bnd (ref40_SampleL0 h_0.1 h_0.2.1 (n_1, 0)) fun oe1 =>
  lk oe1 (fun e1 =>
    ckB (ix e1.2 h_0.1.length) <|
    ckB (ix e1.2 h_0.1.length) <|
    ckB (inR .i64 (e1.2 + 1)) <|
    ckB (ix (e1.2 + 1) h_0.1.length) <|
    ckB (ix (e1.2 + 1) h_0.1.length) <|
    ckB (ix e1.2 h_0.1.length) <|
    ckB (ix e1.2 h_0.1.length) <|
    ckB (inR .i64 ((h_0.1.getD (Int.toNat (e1.2 + 1)) 0) - (h_0.1.getD (Int.toNat e1.2) 0))) <|
    ckB (inR .i64 (e1.1 * ((h_0.1.getD (Int.toNat (e1.2 + 1)) 0) - (h_0.1.getD (Int.toNat e1.2) 0)))) <|
    ckB (ix e1.2 h_0.2.1.length) <|
    ckB (ix e1.2 h_0.2.1.length) <|
    ckB (!decide ((h_0.2.1.getD (Int.toNat e1.2) 0) = 0)) <|
    ckB (inR .i64 (Int.tdiv (e1.1 * ((h_0.1.getD (Int.toNat (e1.2 + 1)) 0) - (h_0.1.getD (Int.toNat e1.2) 0))) (h_0.2.1.getD (Int.toNat e1.2) 0))) <|
    ckB (inR .i64 ((h_0.1.getD (Int.toNat e1.2) 0) + (Int.tdiv (e1.1 * ((h_0.1.getD (Int.toNat (e1.2 + 1)) 0) - (h_0.1.getD (Int.toNat e1.2) 0))) (h_0.2.1.getD (Int.toNat e1.2) 0)))) <|
    some ((h_0.1.getD (Int.toNat e1.2) 0) + (Int.tdiv (e1.1 * ((h_0.1.getD (Int.toNat (e1.2 + 1)) 0) - (h_0.1.getD (Int.toNat e1.2) 0))) (h_0.2.1.getD (Int.toNat e1.2) 0)))) (fun r => some r)

/-! casebook/casebookref53.sample -/

def ref53_sample (h_0 : Histogram) (r_1 : Int) : Option Int :=
  bnd (ref40_Total h_0) fun r1 =>
  ckB (!decide (r1 = 0)) <|
  bnd (ref40_Sample h_0 (Int.tmod r_1 r1)) fun r2 =>
  some r2

/-! casebook/casebookref53.Customers -/

def ref53_CustomersL0K {R : Type} (v_2 : Int) (v_3 : Int) (v_40 : (List Int)) (v_41 : (List Int)) (v_50 : (List Int)) (v_51 : (List Int)) (v_11 : Int) (v_12 : Int) (v_10 : (List Customer)) (nx : (Int × Int × (List Customer)) → Option R) (dn : (List Customer) → Option R) (rt : ((List Customer) × Int) → Option R) : Option R :=
  bif decide (v_12 < v_3) then
    ckB (inR .i64 (2 * v_12)) <|
    bnd (ref53_Random v_2 (2 * v_12)) fun r6 =>
    bnd (ref53_sample (v_40, v_41, ()) r6) fun r7 =>
    ckB (inR .i64 (v_11 + r7)) <|
    ckB (inR .i64 (2 * v_12)) <|
    ckB (inR .i64 ((2 * v_12) + 1)) <|
    bnd (ref53_Random v_2 ((2 * v_12) + 1)) fun r8 =>
    bnd (ref53_sample (v_50, v_51, ()) r8) fun r9 =>
    ckB (room (v_10.length + 1) 32) <|
    ckB (inR .i64 (v_12 + 1)) <|
    nx ((v_11 + r7), (v_12 + 1), (v_10 ++ [((v_11 + r7), r9, 0, 0, ())]))
  else
    dn v_10

def ref53_CustomersL0 (v_2 : Int) (v_3 : Int) (v_40 : (List Int)) (v_41 : (List Int)) (v_50 : (List Int)) (v_51 : (List Int)) (s0 : (Int × Int × (List Customer))) : Option ((List Customer) ⊕ ((List Customer) × Int)) :=
  loopM (fun a => ref53_CustomersL0K v_2 v_3 v_40 v_41 v_50 v_51 a.1 a.2.1 a.2.2 (fun a' => some (.next a')) (fun e => some (.done e)) (fun r => some (.ret r))) s0

def ref53_CustomersL0I : Shp := ⟨[(2, .int .i64), (3, .int .i64), (4, .ptr 0), (5, .ptr 1), (10, .own 2), (11, .int .i64), (12, .int .i64)], [.box 54 (.cons (.sl false (.int .i64)) (.cons (.sl false (.int .i64)) .nil)), .box 54 (.cons (.sl false (.int .i64)) (.cons (.sl false (.int .i64)) .nil)), .arr 29 true Customer.ty]⟩
def ref53_CustomersL0E : Shp := ⟨[(10, .own 0)], [.arr 29 true Customer.ty]⟩

def ref53_Customers (Listappend_0 : Histogram) (p_1 : Histogram) (p_2 : Int) (p_3 : Int) : Option ((List Customer) × Int) :=
  bnd (ref40_Valid Listappend_0) fun r1 =>
  bif (!r1) then
    some ([], 1)
  else
    bnd (ref40_Valid p_1) fun r2 =>
    bif (!r2) then
      some ([], 1)
    else
      bnd (ref53_seed p_2) fun r3 =>
      bif (!r3) then
        some ([], 2)
      else
        bif decide (p_3 < 0) then
          some ([], 2)
        else
          bif decide ((1000 : Int) < p_3) then
            some ([], 2)
          else
            bnd (ref40_Total Listappend_0) fun r4 =>
            bif decide (r4 = 0) then
              some ([], 10)
            else
              bnd (ref40_Total p_1) fun r5 =>
              bif decide (r5 = 0) then
                some ([], 10)
              else
                bnd (ref53_CustomersL0 p_2 p_3 Listappend_0.1 Listappend_0.2.1 p_1.1 p_1.2.1 (0, 0, [])) fun oe10 =>
                lk oe10 (fun e10 =>
                  some (e10, 0)) (fun r => some r)

/-! casebook/casebooklaw53.SimulateCustomers -/

def law53_SimulateCustomers (Listappend_0 : Histogram) (p_1 : Histogram) (p_2 : Int) (p_3 : Int) : Option Bool :=
  bnd (law53_awake) fun r1 =>
  bif (!r1) then
    some false
  else
    bnd (simulate_Random p_2 p_3) fun r2 =>
    bnd (ref53_SafeRandom p_2 p_3) fun r3 =>
    bif (!decide (r2.1 = r3.1)) then
      some false
    else
      bif (!decide (r2.2 = r3.2)) then
        some false
      else
        bnd (law53_wide Listappend_0) fun r4 =>
        bif r4 then
          some true
        else
          bnd (law53_wide p_1) fun r5 =>
          bif r5 then
            some true
          else
            bif decide ((60 : Int) < p_3) then
              bif decide (p_3 ≤ 1000) then
                some true
              else
                bnd (simulate_Customers Listappend_0 p_1 p_2 p_3) fun r6 =>
                bnd (ref53_Customers Listappend_0 p_1 p_2 p_3) fun r7 =>
                bnd (ref53_Same r6.1 r7.1) fun r8 =>
                bif r8 then
                  some (decide (r6.2 = r7.2))
                else
                  some false
            else
              bnd (simulate_Customers Listappend_0 p_1 p_2 p_3) fun r9 =>
              bnd (ref53_Customers Listappend_0 p_1 p_2 p_3) fun r10 =>
              bnd (ref53_Same r9.1 r10.1) fun r11 =>
              bif r11 then
                some (decide (r9.2 = r10.2))
              else
                some false

/-! casebook/simulate.Compare -/

def simulate_CompareL0K {R : Type} (x_8 : (List Customer)) (y_10 : (List Customer)) (v_32 : Int) (v_33 : Int) (out_11 : (List Int)) (nx : (Int × (List Int)) → Option R) (dn : (List Int) → Option R) (rt : ((List Int) × Int) → Option R) : Option R :=
  bif decide (v_33 < v_32) then
    ckB (ix v_33 x_8.length) <|
    ckB (ix v_33 x_8.length) <|
    ckB (ix v_33 y_10.length) <|
    ckB (ix v_33 y_10.length) <|
    ckB (inR .i64 ((x_8.getD (Int.toNat v_33) Customer.z).2.2.1 - (y_10.getD (Int.toNat v_33) Customer.z).2.2.1)) <|
    ckB (room (out_11.length + 1) 8) <|
    ckB (inR .i64 (v_33 + 1)) <|
    nx ((v_33 + 1), (out_11 ++ [((x_8.getD (Int.toNat v_33) Customer.z).2.2.1 - (y_10.getD (Int.toNat v_33) Customer.z).2.2.1)]))
  else
    dn out_11

def simulate_CompareL0 (x_8 : (List Customer)) (y_10 : (List Customer)) (v_32 : Int) (s0 : (Int × (List Int))) : Option ((List Int) ⊕ ((List Int) × Int)) :=
  loopM (fun a => simulate_CompareL0K x_8 y_10 v_32 a.1 a.2 (fun a' => some (.next a')) (fun e => some (.done e)) (fun r => some (.ret r))) s0

def simulate_CompareL0I : Shp := ⟨[(8, .sl true Customer.ty), (10, .sl true Customer.ty), (11, .own 0), (32, .int .i64), (33, .int .i64)], [.arr 3 true (.int .i64)]⟩
def simulate_CompareL0E : Shp := ⟨[(11, .own 0)], [.arr 3 true (.int .i64)]⟩

def simulate_Compare (l_0 : (List Customer)) (a_1 : Int) (b_2 : Int) : Option ((List Int) × Int) :=
  bnd (simulate_Serve l_0 a_1) fun r1 =>
  bif (!decide (r1.2 = 0)) then
    some ([], r1.2)
  else
    bnd (simulate_Serve l_0 b_2) fun r2 =>
    bif (!decide (r2.2 = 0)) then
      some ([], r2.2)
    else
      bnd (simulate_CompareL0 r1.1 r2.1 (r1.1.length : Int) (0, [])) fun oe3 =>
      lk oe3 (fun e3 =>
        some (e3, 0)) (fun r => some r)

/-! casebook/casebooklaw53.SimulateMore$1 -/

def law53_SimulateMore_1 (x_0 : Int) : Option Bool :=
  some (decide (x_0 < 0))

/-! slices.IndexFunc[[]int,int] -/

def slices_IndexFunc_int_int_32L0K {R : Type} (s_0 : (List Int)) (v_7 : Int) (v_8 : Int) (nx : Int → Option R) (dn : Unit → Option R) (rt : Int → Option R) : Option R :=
  bif decide (v_8 < v_7) then
    ckB (ix v_8 s_0.length) <|
    ckB (ix v_8 s_0.length) <|
    bnd (law53_SimulateMore_1 (s_0.getD (Int.toNat v_8) 0)) fun r1 =>
    bif r1 then
      rt v_8
    else
      ckB (inR .i64 (v_8 + 1)) <|
      nx (v_8 + 1)
  else
    dn ()

def slices_IndexFunc_int_int_32L0 (s_0 : (List Int)) (v_7 : Int) (s0 : Int) : Option (Unit ⊕ Int) :=
  loopM (fun a => slices_IndexFunc_int_int_32L0K s_0 v_7 a (fun a' => some (.next a')) (fun e => some (.done e)) (fun r => some (.ret r))) s0

def slices_IndexFunc_int_int_32L0I : Shp := ⟨[(0, .sl false (.int .i64)), (1, .fn 32 .nil), (7, .int .i64), (8, .int .i64)], []⟩
def slices_IndexFunc_int_int_32L0E : Shp := ⟨[], []⟩

def slices_IndexFunc_int_int_32 (s_0 : (List Int)) : Option Int :=
  bnd (slices_IndexFunc_int_int_32L0 s_0 (s_0.length : Int) 0) fun oe2 =>
  lk oe2 (fun e2 =>
    some (-1)) (fun r => some r)

/-! slices.ContainsFunc[[]int,int] -/

def slices_ContainsFunc_int_int_32 (s_0 : (List Int)) : Option Bool :=
  bnd (slices_IndexFunc_int_int_32 s_0) fun r1 =>
  some (decide ((0 : Int) ≤ r1))

/-! casebook/casebooklaw53.SimulateMore -/

def law53_SimulateMore (Listappend_0 : Histogram) (p_1 : Histogram) (p_2 : Int) (p_3 : Int) (p_4 : Int) (p_5 : Int) (p_6 : Int) : Option Bool :=
  bnd (law53_awake) fun r1 =>
  bif (!r1) then
    some false
  else
    bnd (law53_wide Listappend_0) fun r2 =>
    bif r2 then
      some true
    else
      bnd (law53_wide p_1) fun r3 =>
      bif r3 then
        some true
      else
        ckB (inR .i64 p_3) <|
        ckB (!decide ((61 : Int) = 0)) <|
        bnd (simulate_Customers Listappend_0 p_1 p_2 (Int.tmod p_3 61)) fun r4 =>
        bif (!decide (r4.2 = 0)) then
          some (decide ((r4.1.length : Int) = 0))
        else
          ckB (inR .i64 p_4) <|
          ckB (inR .i64 ((Int.tmod p_3 61) + 1)) <|
          ckB (!decide (((Int.tmod p_3 61) + 1) = 0)) <|
          bnd (simulate_Customers Listappend_0 p_1 p_2 (Int.tmod p_4 ((Int.tmod p_3 61) + 1))) fun r5 =>
          bif (!decide (r5.2 = 0)) then
            some false
          else
            bif (!decide ((r4.1.length : Int) = (Int.tmod p_3 61))) then
              some false
            else
              ckB (inR .i64 p_4) <|
              ckB (inR .i64 ((Int.tmod p_3 61) + 1)) <|
              ckB (!decide (((Int.tmod p_3 61) + 1) = 0)) <|
              bif (!decide ((r5.1.length : Int) = (Int.tmod p_4 ((Int.tmod p_3 61) + 1)))) then
                some false
              else
                ckB (cut 0 (r5.1.length : Int) r4.1.length) <|
                bnd (slices_Equal_api_Customer_api_Customer r5.1 (r4.1.take (Int.toNat (r5.1.length : Int)))) fun r6 =>
                bif (!r6) then
                  some false
                else
                  ckB (inR .i64 p_5) <|
                  ckB (!decide ((20 : Int) = 0)) <|
                  ckB (inR .i64 (1 + (Int.tmod p_5 20))) <|
                  ckB (inR .i64 p_6) <|
                  ckB (inR .i64 (21 - (1 + (Int.tmod p_5 20)))) <|
                  ckB (!decide ((21 - (1 + (Int.tmod p_5 20))) = 0)) <|
                  ckB (inR .i64 ((1 + (Int.tmod p_5 20)) + (Int.tmod p_6 (21 - (1 + (Int.tmod p_5 20)))))) <|
                  bnd (simulate_Compare r4.1 (1 + (Int.tmod p_5 20)) ((1 + (Int.tmod p_5 20)) + (Int.tmod p_6 (21 - (1 + (Int.tmod p_5 20)))))) fun r7 =>
                  bif decide (r7.2 = 0) then
                    bif decide ((r7.1.length : Int) = (Int.tmod p_3 61)) then
                      bnd (slices_ContainsFunc_int_int_32 r7.1) fun r8 =>
                      some (!r8)
                    else
                      some false
                  else
                    some false

/-! casebook/casebookref53.Compare -/

def ref53_CompareL0K {R : Type} (l_0 : (List Customer)) (x_8 : (List Customer)) (y_10 : (List Customer)) (i_13 : Int) (out_12 : (List Int)) (nx : (Int × (List Int)) → Option R) (dn : (List Int) → Option R) (rt : ((List Int) × Int) → Option R) : Option R :=
  bif decide (i_13 < (l_0.length : Int)) then
    ckB (ix i_13 x_8.length) <|
    ckB (ix i_13 x_8.length) <|
    ckB (ix i_13 y_10.length) <|
    ckB (ix i_13 y_10.length) <|
    ckB (inR .i64 ((x_8.getD (Int.toNat i_13) Customer.z).2.2.1 - (y_10.getD (Int.toNat i_13) Customer.z).2.2.1)) <|
    ckB (room (out_12.length + 1) 8) <|
    ckB (inR .i64 (i_13 + 1)) <|
    nx ((i_13 + 1), (out_12 ++ [((x_8.getD (Int.toNat i_13) Customer.z).2.2.1 - (y_10.getD (Int.toNat i_13) Customer.z).2.2.1)]))
  else
    dn out_12

def ref53_CompareL0 (l_0 : (List Customer)) (x_8 : (List Customer)) (y_10 : (List Customer)) (s0 : (Int × (List Int))) : Option ((List Int) ⊕ ((List Int) × Int)) :=
  loopM (fun a => ref53_CompareL0K l_0 x_8 y_10 a.1 a.2 (fun a' => some (.next a')) (fun e => some (.done e)) (fun r => some (.ret r))) s0

def ref53_CompareL0I : Shp := ⟨[(0, .sl false Customer.ty), (8, .sl true Customer.ty), (10, .sl true Customer.ty), (12, .own 0), (13, .int .i64)], [.arr 3 true (.int .i64)]⟩
def ref53_CompareL0E : Shp := ⟨[(12, .own 0)], [.arr 3 true (.int .i64)]⟩

def ref53_Compare (l_0 : (List Customer)) (a_1 : Int) (b_2 : Int) : Option ((List Int) × Int) :=
  bnd (ref53_Serve l_0 a_1) fun r1 =>
  bif (!decide (r1.2 = 0)) then
    some ([], r1.2)
  else
    bnd (ref53_Serve l_0 b_2) fun r2 =>
    bif (!decide (r2.2 = 0)) then
      some ([], r2.2)
    else
      bnd (ref53_CompareL0 l_0 r1.1 r2.1 (0, [])) fun oe3 =>
      lk oe3 (fun e3 =>
        some (e3, 0)) (fun r => some r)

/-! casebook/simulate.Replicate -/

def simulate_ReplicateL0K {R : Type} (v_2 : Int) (v_3 : Int) (v_28 : (List Int)) (v_29 : Int) (v_50 : (List Int)) (v_51 : (List Int)) (v_60 : (List Int)) (v_61 : (List Int)) (v_30 : Int) (v_12 : (List (List Customer))) (nx : (Int × (List (List Customer))) → Option R) (dn : (List (List Customer)) → Option R) (rt : ((List Int) × Int) → Option R) : Option R :=
  bif decide (v_30 < v_29) then
    ckB (ix v_30 v_28.length) <|
    ckB (ix v_30 v_28.length) <|
    bnd (simulate_Customers (v_50, v_51, ()) (v_60, v_61, ()) (v_28.getD (Int.toNat v_30) 0) v_3) fun r1 =>
    bif (!decide (r1.2 = 0)) then
      rt ([], r1.2)
    else
      ckB (room (v_12.length + 1) 24) <|
      ckB (inR .i64 (v_30 + 1)) <|
      nx ((v_30 + 1), (v_12 ++ [r1.1]))
  else
    dn v_12

def simulate_ReplicateL0 (v_2 : Int) (v_3 : Int) (v_28 : (List Int)) (v_29 : Int) (v_50 : (List Int)) (v_51 : (List Int)) (v_60 : (List Int)) (v_61 : (List Int)) (s0 : (Int × (List (List Customer)))) : Option ((List (List Customer)) ⊕ ((List Int) × Int)) :=
  loopM (fun a => simulate_ReplicateL0K v_2 v_3 v_28 v_29 v_50 v_51 v_60 v_61 a.1 a.2 (fun a' => some (.next a')) (fun e => some (.done e)) (fun r => some (.ret r))) s0

def simulate_ReplicateL0I : Shp := ⟨[(2, .int .i64), (3, .int .i64), (5, .ptr 0), (6, .ptr 1), (12, .own 2), (28, .sl false (.int .i64)), (29, .int .i64), (30, .int .i64)], [.box 54 (.cons (.sl false (.int .i64)) (.cons (.sl false (.int .i64)) .nil)), .box 54 (.cons (.sl false (.int .i64)) (.cons (.sl false (.int .i64)) .nil)), .arr 22 true (.slice Customer.ty)]⟩
def simulate_ReplicateL0E : Shp := ⟨[(2, .int .i64), (12, .own 0)], [.arr 22 true (.slice Customer.ty)]⟩

def simulate_ReplicateL2K {R : Type} (v_2 : Int) (v_51 : Int) (v_52 : Int) (v_65 : (List Customer)) (v_66 : Int) (v_17 : (List Int)) (v_50 : (List (List Customer))) (v_22 : Int) (v_67 : Int) (nx : (Int × Int) → Option R) (dn : Int → Option R) (rt : ((List Int) × Int) → Option R) : Option R :=
  bif decide (v_67 < v_66) then
    ckB (ix v_67 v_65.length) <|
    ckB (ix v_67 v_65.length) <|
    ckB (inR .i64 ((v_65.getD (Int.toNat v_67) Customer.z).2.2.1 - (v_65.getD (Int.toNat v_67) Customer.z).1)) <|
    ckB (inR .i64 (v_22 + ((v_65.getD (Int.toNat v_67) Customer.z).2.2.1 - (v_65.getD (Int.toNat v_67) Customer.z).1))) <|
    ckB (inR .i64 (v_67 + 1)) <|
    nx ((v_22 + ((v_65.getD (Int.toNat v_67) Customer.z).2.2.1 - (v_65.getD (Int.toNat v_67) Customer.z).1)), (v_67 + 1))
  else
    dn v_22

def simulate_ReplicateL2 (v_2 : Int) (v_51 : Int) (v_52 : Int) (v_65 : (List Customer)) (v_66 : Int) (v_17 : (List Int)) (v_50 : (List (List Customer))) (s0 : (Int × Int)) : Option (Int ⊕ ((List Int) × Int)) :=
  loopM (fun a => simulate_ReplicateL2K v_2 v_51 v_52 v_65 v_66 v_17 v_50 a.1 a.2 (fun a' => some (.next a')) (fun e => some (.done e)) (fun r => some (.ret r))) s0

def simulate_ReplicateL2I : Shp := ⟨[(2, .int .i64), (17, .own 0), (22, .int .i64), (50, .own 1), (51, .int .i64), (52, .int .i64), (65, .sl true Customer.ty), (66, .int .i64), (67, .int .i64)], [.arr 3 true (.int .i64), .arr 22 true (.slice Customer.ty)]⟩
def simulate_ReplicateL2E : Shp := ⟨[(2, .int .i64), (17, .own 0), (22, .int .i64), (50, .own 1), (51, .int .i64), (52, .int .i64)], [.arr 3 true (.int .i64), .arr 22 true (.slice Customer.ty)]⟩

def simulate_ReplicateL1K {R : Type} (v_2 : Int) (v_51 : Int) (v_50 : (List (List Customer))) (v_52 : Int) (v_17 : (List Int)) (nx : (Int × (List Int)) → Option R) (dn : (List Int) → Option R) (rt : ((List Int) × Int) → Option R) : Option R :=
  bif decide (v_52 < v_51) then
    ckB (ix v_52 v_50.length) <|
    ckB (ix v_52 v_50.length) <|
    bnd (simulate_Serve (v_50.getD (Int.toNat v_52) []) v_2) fun r3 =>
    bif (!decide (r3.2 = 0)) then
      rt ([], r3.2)
    else
      bnd (simulate_ReplicateL2 v_2 v_51 v_52 r3.1 (r3.1.length : Int) v_17 v_50 (0, 0)) fun oe4 =>
      lk oe4 (fun e4 =>
        ckB (room (v_17.length + 1) 8) <|
        ckB (inR .i64 (v_52 + 1)) <|
        nx ((v_52 + 1), (v_17 ++ [e4]))) (fun r => rt r)
  else
    dn v_17

def simulate_ReplicateL1 (v_2 : Int) (v_51 : Int) (v_50 : (List (List Customer))) (s0 : (Int × (List Int))) : Option ((List Int) ⊕ ((List Int) × Int)) :=
  loopM (fun a => simulate_ReplicateL1K v_2 v_51 v_50 a.1 a.2 (fun a' => some (.next a')) (fun e => some (.done e)) (fun r => some (.ret r))) s0

def simulate_ReplicateL1I : Shp := ⟨[(2, .int .i64), (17, .own 0), (50, .own 1), (51, .int .i64), (52, .int .i64)], [.arr 3 true (.int .i64), .arr 22 true (.slice Customer.ty)]⟩
def simulate_ReplicateL1E : Shp := ⟨[(17, .own 0)], [.arr 3 true (.int .i64)]⟩

def simulate_Replicate (Listappend_0 : Histogram) (p_1 : Histogram) (p_2 : Int) (p_3 : Int) (p_4 : (List Int)) : Option ((List Int) × Int) :=
  bif decide ((100 : Int) < (p_4.length : Int)) then
    some ([], 5)
  else
    bnd (simulate_ReplicateL0 p_2 p_3 p_4 (p_4.length : Int) Listappend_0.1 Listappend_0.2.1 p_1.1 p_1.2.1 (0, [])) fun oe2 =>
    lk oe2 (fun e2 =>
      bnd (simulate_ReplicateL1 p_2 (e2.length : Int) e2 (0, [])) fun oe5 =>
      lk oe5 (fun e5 =>
        some (e5, 0)) (fun r => some r)) (fun r => some r)

/-! casebook/casebookref53.Replicate -/

def ref53_ReplicateL0K {R : Type} (v_2 : Int) (v_3 : Int) (v_4 : (List Int)) (v_50 : (List Int)) (v_51 : (List Int)) (v_60 : (List Int)) (v_61 : (List Int)) (v_13 : Int) (v_12 : (List (List Customer))) (nx : (Int × (List (List Customer))) → Option R) (dn : (List (List Customer)) → Option R) (rt : ((List Int) × Int) → Option R) : Option R :=
  bif decide (v_13 < (v_4.length : Int)) then
    ckB (ix v_13 v_4.length) <|
    ckB (ix v_13 v_4.length) <|
    bnd (ref53_Customers (v_50, v_51, ()) (v_60, v_61, ()) (v_4.getD (Int.toNat v_13) 0) v_3) fun r1 =>
    bif (!decide (r1.2 = 0)) then
      rt ([], r1.2)
    else
      ckB (room (v_12.length + 1) 24) <|
      ckB (inR .i64 (v_13 + 1)) <|
      nx ((v_13 + 1), (v_12 ++ [r1.1]))
  else
    dn v_12

def ref53_ReplicateL0 (v_2 : Int) (v_3 : Int) (v_4 : (List Int)) (v_50 : (List Int)) (v_51 : (List Int)) (v_60 : (List Int)) (v_61 : (List Int)) (s0 : (Int × (List (List Customer)))) : Option ((List (List Customer)) ⊕ ((List Int) × Int)) :=
  loopM (fun a => ref53_ReplicateL0K v_2 v_3 v_4 v_50 v_51 v_60 v_61 a.1 a.2 (fun a' => some (.next a')) (fun e => some (.done e)) (fun r => some (.ret r))) s0

def ref53_ReplicateL0I : Shp := ⟨[(2, .int .i64), (3, .int .i64), (4, .sl false (.int .i64)), (5, .ptr 0), (6, .ptr 1), (12, .own 2), (13, .int .i64)], [.box 54 (.cons (.sl false (.int .i64)) (.cons (.sl false (.int .i64)) .nil)), .box 54 (.cons (.sl false (.int .i64)) (.cons (.sl false (.int .i64)) .nil)), .arr 22 true (.slice Customer.ty)]⟩
def ref53_ReplicateL0E : Shp := ⟨[(2, .int .i64), (12, .own 0)], [.arr 22 true (.slice Customer.ty)]⟩

def ref53_ReplicateL2K {R : Type} (v_2 : Int) (v_17 : Int) (v_18 : (List Customer)) (v_12 : (List (List Customer))) (v_16 : (List Int)) (v_20 : Int) (v_21 : Int) (nx : (Int × Int) → Option R) (dn : Int → Option R) (rt : ((List Int) × Int) → Option R) : Option R :=
  bif decide (v_21 < (v_18.length : Int)) then
    ckB (ix v_21 v_18.length) <|
    ckB (ix v_21 v_18.length) <|
    ckB (inR .i64 (v_20 + (v_18.getD (Int.toNat v_21) Customer.z).2.2.1)) <|
    ckB (ix v_21 v_18.length) <|
    ckB (ix v_21 v_18.length) <|
    ckB (inR .i64 ((v_20 + (v_18.getD (Int.toNat v_21) Customer.z).2.2.1) - (v_18.getD (Int.toNat v_21) Customer.z).1)) <|
    ckB (inR .i64 (v_21 + 1)) <|
    nx (((v_20 + (v_18.getD (Int.toNat v_21) Customer.z).2.2.1) - (v_18.getD (Int.toNat v_21) Customer.z).1), (v_21 + 1))
  else
    dn v_20

def ref53_ReplicateL2 (v_2 : Int) (v_17 : Int) (v_18 : (List Customer)) (v_12 : (List (List Customer))) (v_16 : (List Int)) (s0 : (Int × Int)) : Option (Int ⊕ ((List Int) × Int)) :=
  loopM (fun a => ref53_ReplicateL2K v_2 v_17 v_18 v_12 v_16 a.1 a.2 (fun a' => some (.next a')) (fun e => some (.done e)) (fun r => some (.ret r))) s0

def ref53_ReplicateL2I : Shp := ⟨[(2, .int .i64), (12, .own 0), (16, .own 1), (17, .int .i64), (18, .sl true Customer.ty), (20, .int .i64), (21, .int .i64)], [.arr 22 true (.slice Customer.ty), .arr 3 true (.int .i64)]⟩
def ref53_ReplicateL2E : Shp := ⟨[(2, .int .i64), (12, .own 0), (16, .own 1), (17, .int .i64), (20, .int .i64)], [.arr 22 true (.slice Customer.ty), .arr 3 true (.int .i64)]⟩

def ref53_ReplicateL1K {R : Type} (v_2 : Int) (v_12 : (List (List Customer))) (v_17 : Int) (v_16 : (List Int)) (nx : (Int × (List Int)) → Option R) (dn : (List Int) → Option R) (rt : ((List Int) × Int) → Option R) : Option R :=
  bif decide (v_17 < (v_12.length : Int)) then
    ckB (ix v_17 v_12.length) <|
    ckB (ix v_17 v_12.length) <|
    bnd (ref53_Serve (v_12.getD (Int.toNat v_17) []) v_2) fun r3 =>
    bif (!decide (r3.2 = 0)) then
      rt ([], r3.2)
    else
      bnd (ref53_ReplicateL2 v_2 v_17 r3.1 v_12 v_16 (0, 0)) fun oe4 =>
      lk oe4 (fun e4 =>
        ckB (room (v_16.length + 1) 8) <|
        ckB (inR .i64 (v_17 + 1)) <|
        nx ((v_17 + 1), (v_16 ++ [e4]))) (fun r => rt r)
  else
    dn v_16

def ref53_ReplicateL1 (v_2 : Int) (v_12 : (List (List Customer))) (s0 : (Int × (List Int))) : Option ((List Int) ⊕ ((List Int) × Int)) :=
  loopM (fun a => ref53_ReplicateL1K v_2 v_12 a.1 a.2 (fun a' => some (.next a')) (fun e => some (.done e)) (fun r => some (.ret r))) s0

def ref53_ReplicateL1I : Shp := ⟨[(2, .int .i64), (12, .own 0), (16, .own 1), (17, .int .i64)], [.arr 22 true (.slice Customer.ty), .arr 3 true (.int .i64)]⟩
def ref53_ReplicateL1E : Shp := ⟨[(16, .own 0)], [.arr 3 true (.int .i64)]⟩

def ref53_Replicate (Listappend_0 : Histogram) (p_1 : Histogram) (p_2 : Int) (p_3 : Int) (p_4 : (List Int)) : Option ((List Int) × Int) :=
  bif decide ((100 : Int) < (p_4.length : Int)) then
    some ([], 5)
  else
    bnd (ref53_ReplicateL0 p_2 p_3 p_4 Listappend_0.1 Listappend_0.2.1 p_1.1 p_1.2.1 (0, [])) fun oe2 =>
    lk oe2 (fun e2 =>
      bnd (ref53_ReplicateL1 p_2 e2 (0, [])) fun oe5 =>
      lk oe5 (fun e5 =>
        some (e5, 0)) (fun r => some r)) (fun r => some r)

/-! casebook/casebooklaw53.SimulateReplicates -/

def law53_SimulateReplicates (Listappend_0 : Casebooklaw53Replication) : Option Bool :=
  bnd (law53_awake) fun r1 =>
  bif (!r1) then
    some false
  else
    bnd (law53_many Listappend_0.1) fun r2 =>
    bif r2 then
      some true
    else
      bnd (law53_wide Listappend_0.2.1) fun r3 =>
      bif r3 then
        some true
      else
        bnd (law53_wide Listappend_0.2.2.1) fun r4 =>
        bif r4 then
          some true
        else
          bif decide ((60 : Int) < Listappend_0.2.2.2.2.2.1) then
            bif decide (Listappend_0.2.2.2.2.2.1 ≤ 1000) then
              some true
            else
              bif decide ((12 : Int) < (Listappend_0.2.2.2.2.2.2.1.length : Int)) then
                bif decide ((Listappend_0.2.2.2.2.2.2.1.length : Int) ≤ 100) then
                  some true
                else
                  bif decide ((300 : Int) < (Listappend_0.2.2.2.2.2.2.1.length : Int)) then
                    some true
                  else
                    bnd (simulate_Compare Listappend_0.1 Listappend_0.2.2.2.1 Listappend_0.2.2.2.2.1) fun r5 =>
                    bnd (ref53_Compare Listappend_0.1 Listappend_0.2.2.2.1 Listappend_0.2.2.2.2.1) fun r6 =>
                    bnd (simulate_Replicate Listappend_0.2.1 Listappend_0.2.2.1 Listappend_0.2.2.2.1 Listappend_0.2.2.2.2.2.1 Listappend_0.2.2.2.2.2.2.1) fun r7 =>
                    bnd (ref53_Replicate Listappend_0.2.1 Listappend_0.2.2.1 Listappend_0.2.2.2.1 Listappend_0.2.2.2.2.2.1 Listappend_0.2.2.2.2.2.2.1) fun r8 =>
                    bnd (slices_Equal_int_int r5.1 r6.1) fun r9 =>
                    bif r9 then
                      bif decide (r5.2 = r6.2) then
                        bnd (slices_Equal_int_int r7.1 r8.1) fun r10 =>
                        bif r10 then
                          some (decide (r7.2 = r8.2))
                        else
                          some false
                      else
                        some false
                    else
                      some false
              else
                bif decide ((300 : Int) < (Listappend_0.2.2.2.2.2.2.1.length : Int)) then
                  some true
                else
                  bnd (simulate_Compare Listappend_0.1 Listappend_0.2.2.2.1 Listappend_0.2.2.2.2.1) fun r11 =>
                  bnd (ref53_Compare Listappend_0.1 Listappend_0.2.2.2.1 Listappend_0.2.2.2.2.1) fun r12 =>
                  bnd (simulate_Replicate Listappend_0.2.1 Listappend_0.2.2.1 Listappend_0.2.2.2.1 Listappend_0.2.2.2.2.2.1 Listappend_0.2.2.2.2.2.2.1) fun r13 =>
                  bnd (ref53_Replicate Listappend_0.2.1 Listappend_0.2.2.1 Listappend_0.2.2.2.1 Listappend_0.2.2.2.2.2.1 Listappend_0.2.2.2.2.2.2.1) fun r14 =>
                  bnd (slices_Equal_int_int r11.1 r12.1) fun r15 =>
                  bif r15 then
                    bif decide (r11.2 = r12.2) then
                      bnd (slices_Equal_int_int r13.1 r14.1) fun r16 =>
                      bif r16 then
                        some (decide (r13.2 = r14.2))
                      else
                        some false
                    else
                      some false
                  else
                    some false
          else
            bif decide ((12 : Int) < (Listappend_0.2.2.2.2.2.2.1.length : Int)) then
              bif decide ((Listappend_0.2.2.2.2.2.2.1.length : Int) ≤ 100) then
                some true
              else
                bif decide ((300 : Int) < (Listappend_0.2.2.2.2.2.2.1.length : Int)) then
                  some true
                else
                  bnd (simulate_Compare Listappend_0.1 Listappend_0.2.2.2.1 Listappend_0.2.2.2.2.1) fun r17 =>
                  bnd (ref53_Compare Listappend_0.1 Listappend_0.2.2.2.1 Listappend_0.2.2.2.2.1) fun r18 =>
                  bnd (simulate_Replicate Listappend_0.2.1 Listappend_0.2.2.1 Listappend_0.2.2.2.1 Listappend_0.2.2.2.2.2.1 Listappend_0.2.2.2.2.2.2.1) fun r19 =>
                  bnd (ref53_Replicate Listappend_0.2.1 Listappend_0.2.2.1 Listappend_0.2.2.2.1 Listappend_0.2.2.2.2.2.1 Listappend_0.2.2.2.2.2.2.1) fun r20 =>
                  bnd (slices_Equal_int_int r17.1 r18.1) fun r21 =>
                  bif r21 then
                    bif decide (r17.2 = r18.2) then
                      bnd (slices_Equal_int_int r19.1 r20.1) fun r22 =>
                      bif r22 then
                        some (decide (r19.2 = r20.2))
                      else
                        some false
                    else
                      some false
                  else
                    some false
            else
              bif decide ((300 : Int) < (Listappend_0.2.2.2.2.2.2.1.length : Int)) then
                some true
              else
                bnd (simulate_Compare Listappend_0.1 Listappend_0.2.2.2.1 Listappend_0.2.2.2.2.1) fun r23 =>
                bnd (ref53_Compare Listappend_0.1 Listappend_0.2.2.2.1 Listappend_0.2.2.2.2.1) fun r24 =>
                bnd (simulate_Replicate Listappend_0.2.1 Listappend_0.2.2.1 Listappend_0.2.2.2.1 Listappend_0.2.2.2.2.2.1 Listappend_0.2.2.2.2.2.2.1) fun r25 =>
                bnd (ref53_Replicate Listappend_0.2.1 Listappend_0.2.2.1 Listappend_0.2.2.2.1 Listappend_0.2.2.2.2.2.1 Listappend_0.2.2.2.2.2.2.1) fun r26 =>
                bnd (slices_Equal_int_int r23.1 r24.1) fun r27 =>
                bif r27 then
                  bif decide (r23.2 = r24.2) then
                    bnd (slices_Equal_int_int r25.1 r26.1) fun r28 =>
                    bif r28 then
                      some (decide (r25.2 = r26.2))
                    else
                      some false
                  else
                    some false
                else
                  some false

end Go.Proofs.Ytocpeankecaabaa
