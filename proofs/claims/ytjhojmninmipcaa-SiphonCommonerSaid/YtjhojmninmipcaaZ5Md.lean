/-
  What the functions compute, as plain functions of Lean. Made by program (mg3.py) out of the translation.
-/
import Derived.Test.YtjhojmninmipcaaZ5KE
set_option linter.all false
set_option maxRecDepth 100000
namespace Go.Proofs.Ytjhojmninmipcaa
open Go.K Go.M
abbrev Trans:Type:=ByteArray × (List Int) × (List Int) × Unit
abbrev Trans.z:Trans:=(⟨#[]⟩,[],[],())
def Trans.ty:Ty:=.struct (.cons .str (.cons (.slice (.int .i64)) (.cons (.slice (.int .i64)) .nil)))
abbrev Net:Type:=Int × (List Trans) × Int × Int × Unit
abbrev Net.z:Net:=(0,[],0,0,())
def Net.ty:Ty:=.struct (.cons (.int .i64) (.cons (.slice Trans.ty) (.cons (.int .i64) (.cons (.int .i64) .nil))))
abbrev qz:Type:=(List Int) × (List Int) × Unit
abbrev qz.z:qz:=([],[],())
def qz.ty:Ty:=.struct (.cons (.slice (.int .i64)) (.cons (.slice (.int .i64)) .nil))
abbrev bytes0:ByteArray:=⟨#[0,1,2,2,3,3,3,3,4,4,4,4,4,4,4,4,5,5,5,5,5,5,5,5,5,5,5,5,5,5,5,5,6,6,6,6,6,6,6,6,6,6,6,6,6,6,6,6,6,6,6,6,6,6,6,6,6,6,6,6,6,6,6,6,7,7,7,7,7,7,7,7,7,7,7,7,7,7,7,7,7,7,7,7,7,7,7,7,7,7,7,7,7,7,7,7,7,7,7,7,7,7,7,7,7,7,7,7,7,7,7,7,7,7,7,7,7,7,7,7,7,7,7,7,7,7,7,7,8,8,8,8,8,8,8,8,8,8,8,8,8,8,8,8,8,8,8,8,8,8,8,8,8,8,8,8,8,8,8,8,8,8,8,8,8,8,8,8,8,8,8,8,8,8,8,8,8,8,8,8,8,8,8,8,8,8,8,8,8,8,8,8,8,8,8,8,8,8,8,8,8,8,8,8,8,8,8,8,8,8,8,8,8,8,8,8,8,8,8,8,8,8,8,8,8,8,8,8,8,8,8,8,8,8,8,8,8,8,8,8,8,8,8,8,8,8,8,8,8,8,8,8,8,8,8,8]⟩
def qel (c_0:Int):Option Bool :=
  bif decide ((65:Int) ≤ c_0) then
    bif decide (c_0 ≤ 90) then
      some true
    else
      bif decide ((97:Int) ≤ c_0) then
        some (decide (c_0 ≤ 122))
      else
        some false
  else
    bif decide ((97:Int) ≤ c_0) then
      some (decide (c_0 ≤ 122))
    else
      some false
def qoo (c_0:Int):Option Bool :=
  bnd (qel c_0) fun r1 =>
  bif r1 then
    some true
  else
    bif decide ((48:Int) ≤ c_0) then
      bif decide (c_0 ≤ 57) then
        some true
      else
        bif decide (c_0=95) then
          some true
        else
          bif decide (c_0=45) then
            some true
          else
            some (decide (c_0=46))
    else
      bif decide (c_0=95) then
        some true
      else
        bif decide (c_0=45) then
          some true
        else
          some (decide (c_0=46))
def qay {R:Type} (s_0:ByteArray) (v_19:Int) (v_20:Int) (nx:Int → Option R) (dn:Unit → Option R) (rt:Bool → Option R):Option R :=
  bif decide (v_20 < v_19) then
    ckB (ix v_20 (ByteArray.size s_0)) <|
    bnd (qoo (((ByteArray.data s_0).getD (Int.toNat v_20) 0).toNat:Int)) fun r2 =>
    bif (!r2) then
      rt false
    else
      ckB (inR .i64 (v_20 + 1)) <|
      nx (v_20 + 1)
  else
    dn ()
def qrw (s_0:ByteArray) (v_19:Int) (s0:Int):Option (Unit ⊕ Bool) :=
  loopM (fun a=>qay s_0 v_19 a (fun a'=>some (.next a')) (fun e=>some (.done e)) (fun r=>some (.ret r))) s0
def qpz:Shp:=⟨[(0,.d true .str),(19,.d true (.int .i64)),(20,.d true (.int .i64))],[]⟩
def qpy:Shp:=⟨[],[]⟩
def qj6 (s_0:ByteArray):Option Bool :=
  bif decide ((ByteArray.size s_0:Int) < 1) then
    some false
  else
    bif decide ((40:Int) < (ByteArray.size s_0:Int)) then
      some false
    else
      ckB (ix 0 (ByteArray.size s_0)) <|
      bnd (qel (((ByteArray.data s_0).getD 0 0).toNat:Int)) fun r1 =>
      bif (!r1) then
        some false
      else
        bnd (qrw s_0 (ByteArray.size s_0:Int) 0) fun oe3 =>
        lk oe3 (fun e3 =>
          some true) (fun r=>some r)
def q7k {R:Type} (l_1:(List Int)) (v_7:(List Int)) (v_8:Int) (n_20:Int) (n_21:(List Trans)) (n_22:Int) (n_23:Int) (v_9:Int) (nx:Int → Option R) (dn:Unit → Option R) (rt:Bool → Option R):Option R :=
  bif decide (v_9 < v_8) then
    ckB (ix v_9 v_7.length) <|
    ckB (ix v_9 v_7.length) <|
    bif decide ((v_7.getD (Int.toNat v_9) 0) < 0) then
      rt false
    else
      bif decide (n_20 ≤ (v_7.getD (Int.toNat v_9) 0)) then
        rt false
      else
        bif decide ((0:Int) < v_9) then
          ckB (inR .i64 (v_9 - 1)) <|
          ckB (ix (v_9 - 1) l_1.length) <|
          ckB (ix (v_9 - 1) l_1.length) <|
          bif decide ((v_7.getD (Int.toNat v_9) 0) ≤ (l_1.getD (Int.toNat (v_9 - 1)) 0)) then
            rt false
          else
            ckB (inR .i64 (v_9 + 1)) <|
            nx (v_9 + 1)
        else
          ckB (inR .i64 (v_9 + 1)) <|
          nx (v_9 + 1)
  else
    dn ()
def qqj (l_1:(List Int)) (v_7:(List Int)) (v_8:Int) (n_20:Int) (n_21:(List Trans)) (n_22:Int) (n_23:Int) (s0:Int):Option (Unit ⊕ Bool) :=
  loopM (fun a=>q7k l_1 v_7 v_8 n_20 n_21 n_22 n_23 a (fun a'=>some (.next a')) (fun e=>some (.done e)) (fun r=>some (.ret r))) s0
def qo0:Shp:=⟨[(1,.d false (.slice (.int .i64))),(2,.ptr 0),(7,.d false (.slice (.int .i64))),(8,.d true (.int .i64)),(9,.d true (.int .i64))],[.cs 24 4 1 (.cons (.d true (.int .i64)) (.cons (.d false (.slice Trans.ty)) (.cons (.d true (.int .i64)) (.cons (.d true (.int .i64)) .nil))))]⟩
def qom:Shp:=⟨[],[]⟩
def q5g (n_0:Net) (l_1:(List Int)):Option Bool :=
  bnd (qqj l_1 l_1 (l_1.length:Int) n_0.1 n_0.2.1 n_0.2.2.1 n_0.2.2.2.1 0) fun oe1 =>
  lk oe1 (fun e1 =>
    some true) (fun r=>some r)
def qdn {R:Type} (v_20:(List Trans)) (v_21:Int) (n_10:Int) (n_11:(List Trans)) (n_12:Int) (n_13:Int) (v_22:Int) (nx:Int → Option R) (dn:Unit → Option R) (rt:Bool → Option R):Option R :=
  bif decide (v_22 < v_21) then
    ckB (ix v_22 v_20.length) <|
    ckB (ix v_22 v_20.length) <|
    bif (!(ByteArray.toList (v_20.getD (Int.toNat v_22) Trans.z).1 == ByteArray.toList ⟨#[]⟩)) then
      bnd (qj6 (v_20.getD (Int.toNat v_22) Trans.z).1) fun r1 =>
      bif (!r1) then
        rt false
      else
        bnd (q5g (n_10,n_11,n_12,n_13,()) (v_20.getD (Int.toNat v_22) Trans.z).2.1) fun r2 =>
        bif (!r2) then
          rt false
        else
          bnd (q5g (n_10,n_11,n_12,n_13,()) (v_20.getD (Int.toNat v_22) Trans.z).2.2.1) fun r3 =>
          bif (!r3) then
            rt false
          else
            ckB (inR .i64 (v_22 + 1)) <|
            nx (v_22 + 1)
    else
      bnd (q5g (n_10,n_11,n_12,n_13,()) (v_20.getD (Int.toNat v_22) Trans.z).2.1) fun r4 =>
      bif (!r4) then
        rt false
      else
        bnd (q5g (n_10,n_11,n_12,n_13,()) (v_20.getD (Int.toNat v_22) Trans.z).2.2.1) fun r5 =>
        bif (!r5) then
          rt false
        else
          ckB (inR .i64 (v_22 + 1)) <|
          nx (v_22 + 1)
  else
    dn ()
def qsi (v_20:(List Trans)) (v_21:Int) (n_10:Int) (n_11:(List Trans)) (n_12:Int) (n_13:Int) (s0:Int):Option (Unit ⊕ Bool) :=
  loopM (fun a=>qdn v_20 v_21 n_10 n_11 n_12 n_13 a (fun a'=>some (.next a')) (fun e=>some (.done e)) (fun r=>some (.ret r))) s0
def qq3:Shp:=⟨[(1,.ptr 0),(20,.d false (.slice Trans.ty)),(21,.d true (.int .i64)),(22,.d true (.int .i64))],[.cs 24 4 1 (.cons (.d true (.int .i64)) (.cons (.d false (.slice Trans.ty)) (.cons (.d true (.int .i64)) (.cons (.d true (.int .i64)) .nil))))]⟩
def qq9:Shp:=⟨[(1,.ptr 0)],[.cs 24 4 1 (.cons (.d true (.int .i64)) (.cons (.d false (.slice Trans.ty)) (.cons (.d true (.int .i64)) (.cons (.d true (.int .i64)) .nil))))]⟩
def qa4 (n_0:Net):Option Bool :=
  bif decide (n_0.1 < 1) then
    some false
  else
    bif decide ((40:Int) < n_0.1) then
      some false
    else
      bif decide ((60:Int) < (n_0.2.1.length:Int)) then
        some false
      else
        bnd (qsi n_0.2.1 (n_0.2.1.length:Int) n_0.1 n_0.2.1 n_0.2.2.1 n_0.2.2.2.1 0) fun oe6 =>
        lk oe6 (fun e6 =>
          bnd (q5g n_0 [n_0.2.2.1]) fun r7 =>
          bif r7 then
            bnd (q5g n_0 [n_0.2.2.2.1]) fun r8 =>
            some r8
          else
            some false) (fun r=>some r)
def qch {R:Type} (v_6:(List Int)) (v_7:Int) (m_3:Int) (v_8:Int) (nx:(Int × Int) → Option R) (dn:Int → Option R) (rt:Int → Option R):Option R :=
  bif decide (v_8 < v_7) then
    ckB (ix v_8 v_6.length) <|
    ckB (ix v_8 v_6.length) <|
    ckB (decide (0 ≤ (v_6.getD (Int.toNat v_8) 0))) <|
    ckB (inR .i64 (v_8 + 1)) <|
    nx ((bitI .or .u32 m_3 (shlI .u32 1 (v_6.getD (Int.toNat v_8) 0))),(v_8 + 1))
  else
    dn m_3
def qq2 (v_6:(List Int)) (v_7:Int) (s0:(Int × Int)):Option (Int ⊕ Int) :=
  loopM (fun a=>qch v_6 v_7 a.1 a.2 (fun a'=>some (.next a')) (fun e=>some (.done e)) (fun r=>some (.ret r))) s0
def qol:Shp:=⟨[(3,.d true (.int .u32)),(6,.d false (.slice (.int .i64))),(7,.d true (.int .i64)),(8,.d true (.int .i64))],[]⟩
def qnv:Shp:=⟨[(3,.d true (.int .u32))],[]⟩
def qd0 (l_0:(List Int)):Option Int :=
  bnd (qq2 l_0 (l_0.length:Int) (0,0)) fun oe1 =>
  lk oe1 (fun e1 =>
    some e1) (fun r=>some r)
def qar {R:Type} (v_15:(List Trans)) (v_16:Int) (n_10:Int) (n_11:(List Trans)) (n_12:Int) (n_13:Int) (v_17:Int) (in_3:(List Int)) (out_4:(List Int)) (nx:(Int × (List Int) × (List Int)) → Option R) (dn:((List Int) × (List Int)) → Option R) (rt:(List Int) → Option R):Option R :=
  bif decide (v_17 < v_16) then
    ckB (ix v_17 v_15.length) <|
    ckB (ix v_17 v_15.length) <|
    bnd (qd0 (v_15.getD (Int.toNat v_17) Trans.z).2.1) fun r1 =>
    bnd (qd0 (v_15.getD (Int.toNat v_17) Trans.z).2.2.1) fun r2 =>
    ckB (room (in_3.length + 1) 4) <|
    ckB (room (out_4.length + 1) 4) <|
    ckB (inR .i64 (v_17 + 1)) <|
    nx ((v_17 + 1),(in_3 ++ [r1]),(out_4 ++ [r2]))
  else
    dn (in_3,out_4)
def qmm (v_15:(List Trans)) (v_16:Int) (n_10:Int) (n_11:(List Trans)) (n_12:Int) (n_13:Int) (s0:(Int × (List Int) × (List Int))):Option (((List Int) × (List Int)) ⊕ (List Int)) :=
  loopM (fun a=>qar v_15 v_16 n_10 n_11 n_12 n_13 a.1 a.2.1 a.2.2 (fun a'=>some (.next a')) (fun e=>some (.done e)) (fun r=>some (.ret r))) s0
def ql6:Shp:=⟨[(1,.ptr 0),(3,.nl false (.own 1)),(4,.nl false (.own 2)),(15,.d false (.slice Trans.ty)),(16,.d true (.int .i64)),(17,.d true (.int .i64))],[.cs 24 4 1 (.cons (.d true (.int .i64)) (.cons (.d false (.slice Trans.ty)) (.cons (.d true (.int .i64)) (.cons (.d true (.int .i64)) .nil)))),.arr 67 (.fz true) [0] (.int .u32),.arr 67 (.fz true) [0] (.int .u32)]⟩
def ql1:Shp:=⟨[(1,.ptr 0),(3,.nl false (.own 1)),(4,.nl false (.own 2))],[.cs 24 4 1 (.cons (.d true (.int .i64)) (.cons (.d false (.slice Trans.ty)) (.cons (.d true (.int .i64)) (.cons (.d true (.int .i64)) .nil)))),.arr 67 (.fz true) [0] (.int .u32),.arr 67 (.fz true) [0] (.int .u32)]⟩
def q5r {R:Type} (in_3:(List Int)) (out_4:(List Int)) (s_9:Int) (v_46:Int) (n_10:Int) (n_11:(List Trans)) (n_12:Int) (n_13:Int) (found_8:(List Int)) (v_47:Int) (siphon_7:(List Bool)) (nx:(Int × (List Bool)) → Option R) (dn:(List Bool) → Option R) (rt:(List Int) → Option R):Option R :=
  bif decide (v_47 < v_46) then
    ckB (decide (0 ≤ v_47)) <|
    bif (!decide ((bitI .and .u32 s_9 (shlI .u32 1 v_47))=0)) then
      ckB (ix (bitI .andNot .u32 s_9 (shlI .u32 1 v_47)) siphon_7.length) <|
      ckB (ix (bitI .andNot .u32 s_9 (shlI .u32 1 v_47)) siphon_7.length) <|
      bif (siphon_7.getD (Int.toNat (bitI .andNot .u32 s_9 (shlI .u32 1 v_47))) false) then
        ckB (ix s_9 siphon_7.length) <|
        ckB (ix s_9 siphon_7.length) <|
        ckB (inR .i64 (v_47 + 1)) <|
        nx ((v_47 + 1),(siphon_7.set (Int.toNat s_9) true))
      else
        ckB (inR .i64 (v_47 + 1)) <|
        nx ((v_47 + 1),siphon_7)
    else
      ckB (inR .i64 (v_47 + 1)) <|
      nx ((v_47 + 1),siphon_7)
  else
    dn siphon_7
def qmg (in_3:(List Int)) (out_4:(List Int)) (s_9:Int) (v_46:Int) (n_10:Int) (n_11:(List Trans)) (n_12:Int) (n_13:Int) (found_8:(List Int)) (s0:(Int × (List Bool))):Option ((List Bool) ⊕ (List Int)) :=
  loopM (fun a=>q5r in_3 out_4 s_9 v_46 n_10 n_11 n_12 n_13 found_8 a.1 a.2 (fun a'=>some (.next a')) (fun e=>some (.done e)) (fun r=>some (.ret r))) s0
def ql9:Shp:=⟨[(1,.ptr 0),(3,.nl false (.d true (.slice (.int .u32)))),(4,.nl false (.d true (.slice (.int .u32)))),(7,.own 1),(8,.nl false (.own 2)),(9,.d true (.int .u32)),(46,.d true (.int .i64)),(47,.d true (.int .i64))],[.cs 24 4 1 (.cons (.d true (.int .i64)) (.cons (.d false (.slice Trans.ty)) (.cons (.d true (.int .i64)) (.cons (.d true (.int .i64)) .nil)))),.arr 4 (.fz true) [0] .bool,.arr 67 (.fz true) [0] (.int .u32)]⟩
def qkl:Shp:=⟨[(1,.ptr 0),(3,.nl false (.d true (.slice (.int .u32)))),(4,.nl false (.d true (.slice (.int .u32)))),(7,.own 1),(8,.nl false (.own 2)),(9,.d true (.int .u32))],[.cs 24 4 1 (.cons (.d true (.int .i64)) (.cons (.d false (.slice Trans.ty)) (.cons (.d true (.int .i64)) (.cons (.d true (.int .i64)) .nil)))),.arr 4 (.fz true) [0] .bool,.arr 67 (.fz true) [0] (.int .u32)]⟩
def qaq {R:Type} (in_3:(List Int)) (out_4:(List Int)) (s_9:Int) (v_73:Int) (n_10:Int) (n_11:(List Trans)) (n_12:Int) (n_13:Int) (siphon_7:(List Bool)) (found_8:(List Int)) (ok_12:Bool) (v_74:Int) (nx:(Bool × Int) → Option R) (dn:Bool → Option R) (rt:(List Int) → Option R):Option R :=
  bif decide (v_74 < v_73) then
    bif ok_12 then
      ckB (ix v_74 out_4.length) <|
      ckB (ix v_74 out_4.length) <|
      bif decide ((bitI .and .u32 (out_4.getD (Int.toNat v_74) 0) s_9)=0) then
        ckB (inR .i64 (v_74 + 1)) <|
        nx (true,(v_74 + 1))
      else
        ckB (ix v_74 in_3.length) <|
        ckB (ix v_74 in_3.length) <|
        ckB (inR .i64 (v_74 + 1)) <|
        nx ((!decide ((bitI .and .u32 (in_3.getD (Int.toNat v_74) 0) s_9)=0)),(v_74 + 1))
    else
      ckB (inR .i64 (v_74 + 1)) <|
      nx (false,(v_74 + 1))
  else
    dn ok_12
def qmj (in_3:(List Int)) (out_4:(List Int)) (s_9:Int) (v_73:Int) (n_10:Int) (n_11:(List Trans)) (n_12:Int) (n_13:Int) (siphon_7:(List Bool)) (found_8:(List Int)) (s0:(Bool × Int)):Option (Bool ⊕ (List Int)) :=
  loopM (fun a=>qaq in_3 out_4 s_9 v_73 n_10 n_11 n_12 n_13 siphon_7 found_8 a.1 a.2 (fun a'=>some (.next a')) (fun e=>some (.done e)) (fun r=>some (.ret r))) s0
def qkj:Shp:=⟨[(1,.ptr 0),(3,.nl false (.d true (.slice (.int .u32)))),(4,.nl false (.d true (.slice (.int .u32)))),(7,.own 1),(8,.nl false (.own 2)),(9,.d true (.int .u32)),(12,.d true .bool),(73,.d true (.int .i64)),(74,.d true (.int .i64))],[.cs 24 4 1 (.cons (.d true (.int .i64)) (.cons (.d false (.slice Trans.ty)) (.cons (.d true (.int .i64)) (.cons (.d true (.int .i64)) .nil)))),.arr 4 (.fz true) [0] .bool,.arr 67 (.fz true) [0] (.int .u32)]⟩
def qki:Shp:=⟨[(1,.ptr 0),(3,.nl false (.d true (.slice (.int .u32)))),(4,.nl false (.d true (.slice (.int .u32)))),(7,.own 1),(8,.nl false (.own 2)),(9,.d true (.int .u32)),(12,.d true .bool)],[.cs 24 4 1 (.cons (.d true (.int .i64)) (.cons (.d false (.slice Trans.ty)) (.cons (.d true (.int .i64)) (.cons (.d true (.int .i64)) .nil)))),.arr 4 (.fz true) [0] .bool,.arr 67 (.fz true) [0] (.int .u32)]⟩
def q5s {R:Type} (in_3:(List Int)) (out_4:(List Int)) (n_10:Int) (n_11:(List Trans)) (n_12:Int) (n_13:Int) (s_9:Int) (siphon_7:(List Bool)) (found_8:(List Int)) (nx:(Int × (List Bool) × (List Int)) → Option R) (dn:(List Int) → Option R) (rt:(List Int) → Option R):Option R :=
  ckB (decide (0 ≤ n_10)) <|
  bif decide (s_9 < (shlI .u32 1 n_10)) then
    bnd (qmg in_3 out_4 s_9 n_10 n_10 n_11 n_12 n_13 found_8 (0,siphon_7)) fun oe4 =>
    lk oe4 (fun e4 =>
      ckB (ix s_9 e4.length) <|
      ckB (ix s_9 e4.length) <|
      bif (e4.getD (Int.toNat s_9) false) then
        nx ((IntKind.wrap .u32 (s_9 + 1)),e4,found_8)
      else
        bnd (qmj in_3 out_4 s_9 (in_3.length:Int) n_10 n_11 n_12 n_13 e4 found_8 (true,0)) fun oe5 =>
        lk oe5 (fun e5 =>
          bif e5 then
            ckB (ix s_9 e4.length) <|
            ckB (ix s_9 e4.length) <|
            ckB (room (found_8.length + 1) 4) <|
            nx ((IntKind.wrap .u32 (s_9 + 1)),(e4.set (Int.toNat s_9) true),(found_8 ++ [s_9]))
          else
            nx ((IntKind.wrap .u32 (s_9 + 1)),e4,found_8)) (fun r=>rt r)) (fun r=>rt r)
  else
    dn found_8
def qf4 (in_3:(List Int)) (out_4:(List Int)) (n_10:Int) (n_11:(List Trans)) (n_12:Int) (n_13:Int) (s0:(Int × (List Bool) × (List Int))):Option ((List Int) ⊕ (List Int)) :=
  loopM (fun a=>q5s in_3 out_4 n_10 n_11 n_12 n_13 a.1 a.2.1 a.2.2 (fun a'=>some (.next a')) (fun e=>some (.done e)) (fun r=>some (.ret r))) s0
def qkq:Shp:=⟨[(1,.ptr 0),(3,.nl false (.d true (.slice (.int .u32)))),(4,.nl false (.d true (.slice (.int .u32)))),(7,.own 1),(8,.nl false (.own 2)),(9,.d true (.int .u32))],[.cs 24 4 1 (.cons (.d true (.int .i64)) (.cons (.d false (.slice Trans.ty)) (.cons (.d true (.int .i64)) (.cons (.d true (.int .i64)) .nil)))),.arr 4 (.fz true) [0] .bool,.arr 67 (.fz true) [0] (.int .u32)]⟩
def qkv:Shp:=⟨[(8,.nl false (.own 0))],[.arr 67 (.fz true) [0] (.int .u32)]⟩
def qbe (n_0:Net):Option (List Int) :=
  bnd (qmm n_0.2.1 (n_0.2.1.length:Int) n_0.1 n_0.2.1 n_0.2.2.1 n_0.2.2.2.1 (0,[],[])) fun oe3 =>
  lk oe3 (fun e3 =>
    ckB (decide (0 ≤ n_0.1)) <|
    ckB (mkOk (shlI .i64 1 n_0.1) (shlI .i64 1 n_0.1) 1) <|
    bnd (qf4 e3.1 e3.2 n_0.1 n_0.2.1 n_0.2.2.1 n_0.2.2.2.1 (1,(List.replicate (Int.toNat (shlI .i64 1 n_0.1)) (false:Bool)),[])) fun oe6 =>
    lk oe6 (fun e6 =>
      some e6) (fun r=>some r)) (fun r=>some r)
def qsl {R:Type} (x_0:Int) (n_2:Int) (dn:Unit → Option R) (rt:Int → Option R):Option R :=
  bif decide ((256:Int) ≤ x_0) then
    ckB (decide (0 ≤ (8:Int))) <|
    ckB (inR .i64 (n_2 + 8)) <|
    ckB (ix (IntKind.wrap .u8 (shrI .u64 x_0 8)) (ByteArray.size bytes0)) <|
    ckB (inR .i64 (((ByteArray.data bytes0).getD (Int.toNat (IntKind.wrap .u8 (shrI .u64 x_0 8))) 0).toNat:Int)) <|
    ckB (inR .i64 ((n_2 + 8) + (((ByteArray.data bytes0).getD (Int.toNat (IntKind.wrap .u8 (shrI .u64 x_0 8))) 0).toNat:Int))) <|
    rt ((n_2 + 8) + (((ByteArray.data bytes0).getD (Int.toNat (IntKind.wrap .u8 (shrI .u64 x_0 8))) 0).toNat:Int))
  else
    ckB (ix (IntKind.wrap .u8 x_0) (ByteArray.size bytes0)) <|
    ckB (inR .i64 (((ByteArray.data bytes0).getD (Int.toNat (IntKind.wrap .u8 x_0)) 0).toNat:Int)) <|
    ckB (inR .i64 (n_2 + (((ByteArray.data bytes0).getD (Int.toNat (IntKind.wrap .u8 x_0)) 0).toNat:Int))) <|
    rt (n_2 + (((ByteArray.data bytes0).getD (Int.toNat (IntKind.wrap .u8 x_0)) 0).toNat:Int))
def qgy (x_0:Int) (n_2:Int):Option (Unit ⊕ Int) :=
  qsl x_0 n_2 (fun e=>some (.inl e)) (fun r=>some (.inr r))
def qsj:Shp:=⟨[(0,.d true (.int .u64)),(2,.d true (.int .i64))],[]⟩
def qsh:Shp:=⟨[],[]⟩
def qxs (x_0:Int):Option Int :=
  bif decide ((4294967296:Int) ≤ x_0) then
    ckB (decide (0 ≤ (32:Int))) <|
    bif decide ((65536:Int) ≤ (shrI .u64 x_0 32)) then
      ckB (decide (0 ≤ (16:Int))) <|
      ckB (inR .i64 ((32:Int) + 16)) <|
      bnd (qgy (shrI .u64 (shrI .u64 x_0 32) 16) ((32:Int) + 16)) fun oe1 =>
      lk oe1 (fun e1 =>
        none) (fun r=>some r)
    else
      bnd (qgy (shrI .u64 x_0 32) 32) fun oe2 =>
      lk oe2 (fun e2 =>
        none) (fun r=>some r)
  else
    bif decide ((65536:Int) ≤ x_0) then
      ckB (decide (0 ≤ (16:Int))) <|
      ckB (inR .i64 ((0:Int) + 16)) <|
      bnd (qgy (shrI .u64 x_0 16) ((0:Int) + 16)) fun oe3 =>
      lk oe3 (fun e3 =>
        none) (fun r=>some r)
    else
      bnd (qgy x_0 0) fun oe4 =>
      lk oe4 (fun e4 =>
        none) (fun r=>some r)
def qnc (x_0:Int):Option Int :=
  bnd (qxs x_0) fun r1 =>
  some r1
def q7p (x_0:Int):Option Bool :=
  some (!decide (x_0=x_0))
def qcr (x_0:Int) (y_1:Int):Option Int :=
  bnd (q7p x_0) fun r1 =>
  bnd (q7p y_1) fun r2 =>
  bif r1 then
    bif r2 then
      some 0
    else
      some (-1)
  else
    bif r2 then
      some 1
    else
      bif decide (x_0 < y_1) then
        some (-1)
      else
        bif decide (y_1 < x_0) then
          some 1
        else
          some 0
def q1o {R:Type} (s1_0:(List Int)) (s2_1:(List Int)) (v_9:(List Int)) (v_10:Int) (v_11:Int) (nx:Int → Option R) (dn:Unit → Option R) (rt:Int → Option R):Option R :=
  bif decide (v_11 < v_10) then
    ckB (ix v_11 v_9.length) <|
    ckB (ix v_11 v_9.length) <|
    bif decide ((s2_1.length:Int) ≤ v_11) then
      rt 1
    else
      ckB (ix v_11 s2_1.length) <|
      ckB (ix v_11 s2_1.length) <|
      bnd (qcr (v_9.getD (Int.toNat v_11) 0) (s2_1.getD (Int.toNat v_11) 0)) fun r1 =>
      bif (!decide (r1=0)) then
        rt r1
      else
        ckB (inR .i64 (v_11 + 1)) <|
        nx (v_11 + 1)
  else
    dn ()
def qd3 (s1_0:(List Int)) (s2_1:(List Int)) (v_9:(List Int)) (v_10:Int) (s0:Int):Option (Unit ⊕ Int) :=
  loopM (fun a=>q1o s1_0 s2_1 v_9 v_10 a (fun a'=>some (.next a')) (fun e=>some (.done e)) (fun r=>some (.ret r))) s0
def qck:Shp:=⟨[(0,.d false (.slice (.int .i64))),(1,.d false (.slice (.int .i64))),(9,.d false (.slice (.int .i64))),(10,.d true (.int .i64)),(11,.d true (.int .i64))],[]⟩
def qcm:Shp:=⟨[(0,.d false (.slice (.int .i64))),(1,.d false (.slice (.int .i64)))],[]⟩
def q6z (s1_0:(List Int)) (s2_1:(List Int)):Option Int :=
  bnd (qd3 s1_0 s2_1 s1_0 (s1_0.length:Int) 0) fun oe2 =>
  lk oe2 (fun e2 =>
    bif decide ((s1_0.length:Int) < (s2_1.length:Int)) then
      some (-1)
    else
      some 0) (fun r=>some r)
def qk (a_0:(List Int)) (b_1:(List Int)):Option Int :=
  bnd (q6z a_0 b_1) fun r1 =>
  some r1
def q10 {R:Type} (a_1:Int) (b_2:Int) (i_8:Int) (j_9:Int) (data_0:(List (List Int))) (nx:(Int × (List (List Int))) → Option R) (dn:(List (List Int)) → Option R) (rt:(List (List Int)) → Option R):Option R :=
  bif decide (a_1 < j_9) then
    ckB (ix j_9 data_0.length) <|
    ckB (ix j_9 data_0.length) <|
    ckB (inR .i64 (j_9 - 1)) <|
    ckB (ix (j_9 - 1) data_0.length) <|
    ckB (ix (j_9 - 1) data_0.length) <|
    bnd (qk (data_0.getD (Int.toNat j_9) []) (data_0.getD (Int.toNat (j_9 - 1)) [])) fun r1 =>
    bif decide (r1 < 0) then
      ckB (inR .i64 (j_9 - 1)) <|
      ckB (inR .i64 (j_9 - 1)) <|
      ckB (ix (j_9 - 1) data_0.length) <|
      ckB (ix (j_9 - 1) data_0.length) <|
      ckB (ix j_9 data_0.length) <|
      ckB (ix j_9 data_0.length) <|
      ckB (ix j_9 data_0.length) <|
      ckB (ix j_9 data_0.length) <|
      ckB (ix (j_9 - 1) (data_0.set (Int.toNat j_9) (data_0.getD (Int.toNat (j_9 - 1)) [])).length) <|
      ckB (ix (j_9 - 1) (data_0.set (Int.toNat j_9) (data_0.getD (Int.toNat (j_9 - 1)) [])).length) <|
      ckB (inR .i64 (j_9 - 1)) <|
      nx ((j_9 - 1),((data_0.set (Int.toNat j_9) (data_0.getD (Int.toNat (j_9 - 1)) [])).set (Int.toNat (j_9 - 1)) (data_0.getD (Int.toNat j_9) [])))
    else
      dn data_0
  else
    dn data_0
def q3u (a_1:Int) (b_2:Int) (i_8:Int) (s0:(Int × (List (List Int)))):Option ((List (List Int)) ⊕ (List (List Int))) :=
  loopM (fun a=>q10 a_1 b_2 i_8 a.1 a.2 (fun a'=>some (.next a')) (fun e=>some (.done e)) (fun r=>some (.ret r))) s0
def q6u:Shp:=⟨[(0,.own 0),(1,.d true (.int .i64)),(2,.d true (.int .i64)),(3,.fn 49 .nil),(8,.d true (.int .i64)),(9,.d true (.int .i64))],[.arr 34 (.fz true) [3] (.slice (.int .i64))]⟩
def q6r:Shp:=⟨[(0,.own 0),(1,.d true (.int .i64)),(2,.d true (.int .i64)),(3,.fn 49 .nil),(8,.d true (.int .i64))],[.arr 34 (.fz true) [3] (.slice (.int .i64))]⟩
def q1v {R:Type} (a_1:Int) (b_2:Int) (i_8:Int) (data_0:(List (List Int))) (nx:(Int × (List (List Int))) → Option R) (dn:(List (List Int)) → Option R) (rt:(List (List Int)) → Option R):Option R :=
  bif decide (i_8 < b_2) then
    bnd (q3u a_1 b_2 i_8 (i_8,data_0)) fun oe2 =>
    lk oe2 (fun e2 =>
      ckB (inR .i64 (i_8 + 1)) <|
      nx ((i_8 + 1),e2)) (fun r=>rt r)
  else
    dn data_0
def q7a (a_1:Int) (b_2:Int) (s0:(Int × (List (List Int)))):Option ((List (List Int)) ⊕ (List (List Int))) :=
  loopM (fun a=>q1v a_1 b_2 a.1 a.2 (fun a'=>some (.next a')) (fun e=>some (.done e)) (fun r=>some (.ret r))) s0
def q6w:Shp:=⟨[(0,.own 0),(1,.d true (.int .i64)),(2,.d true (.int .i64)),(3,.fn 49 .nil),(8,.d true (.int .i64))],[.arr 34 (.fz true) [3] (.slice (.int .i64))]⟩
def q6y:Shp:=⟨[],[.arr 34 (.fz true) [3] (.slice (.int .i64))]⟩
def q1l (a_1:Int) (b_2:Int) (data_0:(List (List Int))):Option (List (List Int)) :=
  ckB (inR .i64 (a_1 + 1)) <|
  bnd (q7a a_1 b_2 ((a_1 + 1),data_0)) fun oe3 =>
  lk oe3 (fun e3 =>
    some e3) (fun r=>some r)
def q4v {R:Type} (hi_2:Int) (first_3:Int) (root_10:Int) (child_11:Int) (data_0:(List (List Int))) (dn:(List (List Int)) → Option R) (rt:(List (List Int)) → Option R):Option R :=
  ckB (inR .i64 (first_3 + root_10)) <|
  ckB (ix (first_3 + root_10) data_0.length) <|
  ckB (ix (first_3 + root_10) data_0.length) <|
  ckB (inR .i64 (first_3 + child_11)) <|
  ckB (ix (first_3 + child_11) data_0.length) <|
  ckB (ix (first_3 + child_11) data_0.length) <|
  bnd (qk (data_0.getD (Int.toNat (first_3 + root_10)) []) (data_0.getD (Int.toNat (first_3 + child_11)) [])) fun r2 =>
  bif (!(decide (r2 < 0))) then
    rt data_0
  else
    ckB (inR .i64 (first_3 + root_10)) <|
    ckB (inR .i64 (first_3 + child_11)) <|
    ckB (inR .i64 (first_3 + child_11)) <|
    ckB (ix (first_3 + child_11) data_0.length) <|
    ckB (ix (first_3 + child_11) data_0.length) <|
    ckB (inR .i64 (first_3 + root_10)) <|
    ckB (ix (first_3 + root_10) data_0.length) <|
    ckB (ix (first_3 + root_10) data_0.length) <|
    ckB (ix (first_3 + root_10) data_0.length) <|
    ckB (ix (first_3 + root_10) data_0.length) <|
    ckB (ix (first_3 + child_11) (data_0.set (Int.toNat (first_3 + root_10)) (data_0.getD (Int.toNat (first_3 + child_11)) [])).length) <|
    ckB (ix (first_3 + child_11) (data_0.set (Int.toNat (first_3 + root_10)) (data_0.getD (Int.toNat (first_3 + child_11)) [])).length) <|
    dn ((data_0.set (Int.toNat (first_3 + root_10)) (data_0.getD (Int.toNat (first_3 + child_11)) [])).set (Int.toNat (first_3 + child_11)) (data_0.getD (Int.toNat (first_3 + root_10)) []))
def q1u (hi_2:Int) (first_3:Int) (root_10:Int) (child_11:Int) (data_0:(List (List Int))):Option ((List (List Int)) ⊕ (List (List Int))) :=
  q4v hi_2 first_3 root_10 child_11 data_0 (fun e=>some (.inl e)) (fun r=>some (.inr r))
def q8g:Shp:=⟨[(0,.own 0),(2,.d true (.int .i64)),(3,.d true (.int .i64)),(4,.fn 49 .nil),(10,.d true (.int .i64)),(11,.d true (.int .i64))],[.arr 34 (.fz true) [3] (.slice (.int .i64))]⟩
def q8n:Shp:=⟨[(0,.own 0),(2,.d true (.int .i64)),(3,.d true (.int .i64)),(4,.fn 49 .nil),(10,.d true (.int .i64))],[.arr 34 (.fz true) [3] (.slice (.int .i64))]⟩
def qq {R:Type} (hi_2:Int) (first_3:Int) (root_10:Int) (data_0:(List (List Int))) (nx:(Int × (List (List Int))) → Option R) (dn:(List (List Int)) → Option R) (rt:(List (List Int)) → Option R):Option R :=
  ckB (inR .i64 ((2:Int) * root_10)) <|
  ckB (inR .i64 (((2:Int) * root_10) + 1)) <|
  bif decide (hi_2 ≤ (((2:Int) * root_10) + 1)) then
    dn data_0
  else
    ckB (inR .i64 ((((2:Int) * root_10) + 1) + 1)) <|
    bif decide (((((2:Int) * root_10) + 1) + 1) < hi_2) then
      ckB (inR .i64 (first_3 + (((2:Int) * root_10) + 1))) <|
      ckB (ix (first_3 + (((2:Int) * root_10) + 1)) data_0.length) <|
      ckB (ix (first_3 + (((2:Int) * root_10) + 1)) data_0.length) <|
      ckB (inR .i64 (first_3 + (((2:Int) * root_10) + 1))) <|
      ckB (inR .i64 ((first_3 + (((2:Int) * root_10) + 1)) + 1)) <|
      ckB (ix ((first_3 + (((2:Int) * root_10) + 1)) + 1) data_0.length) <|
      ckB (ix ((first_3 + (((2:Int) * root_10) + 1)) + 1) data_0.length) <|
      bnd (qk (data_0.getD (Int.toNat (first_3 + (((2:Int) * root_10) + 1))) []) (data_0.getD (Int.toNat ((first_3 + (((2:Int) * root_10) + 1)) + 1)) [])) fun r1 =>
      bif decide (r1 < 0) then
        ckB (inR .i64 ((((2:Int) * root_10) + 1) + 1)) <|
        bnd (q1u hi_2 first_3 root_10 ((((2:Int) * root_10) + 1) + 1) data_0) fun oe3 =>
        lk oe3 (fun e3 =>
          nx (((((2:Int) * root_10) + 1) + 1),e3)) (fun r=>rt r)
      else
        bnd (q1u hi_2 first_3 root_10 (((2:Int) * root_10) + 1) data_0) fun oe4 =>
        lk oe4 (fun e4 =>
          nx ((((2:Int) * root_10) + 1),e4)) (fun r=>rt r)
    else
      bnd (q1u hi_2 first_3 root_10 (((2:Int) * root_10) + 1) data_0) fun oe5 =>
      lk oe5 (fun e5 =>
        nx ((((2:Int) * root_10) + 1),e5)) (fun r=>rt r)
def q91 (hi_2:Int) (first_3:Int) (s0:(Int × (List (List Int)))):Option ((List (List Int)) ⊕ (List (List Int))) :=
  loopM (fun a=>qq hi_2 first_3 a.1 a.2 (fun a'=>some (.next a')) (fun e=>some (.done e)) (fun r=>some (.ret r))) s0
def q8o:Shp:=⟨[(0,.own 0),(2,.d true (.int .i64)),(3,.d true (.int .i64)),(4,.fn 49 .nil),(10,.d true (.int .i64))],[.arr 34 (.fz true) [3] (.slice (.int .i64))]⟩
def q8p:Shp:=⟨[],[.arr 34 (.fz true) [3] (.slice (.int .i64))]⟩
def q24 (lo_1:Int) (hi_2:Int) (first_3:Int) (data_0:(List (List Int))):Option (List (List Int)) :=
  bnd (q91 hi_2 first_3 (lo_1,data_0)) fun oe6 =>
  lk oe6 (fun e6 =>
    some e6) (fun r=>some r)
def q1p {R:Type} (first_8:Int) (lo_9:Int) (hi_10:Int) (i_11:Int) (data_0:(List (List Int))) (nx:(Int × (List (List Int))) → Option R) (dn:(List (List Int)) → Option R) (rt:(List (List Int)) → Option R):Option R :=
  bif decide ((0:Int) ≤ i_11) then
    bnd (q24 i_11 hi_10 first_8 data_0) fun r1 =>
    ckB (decide (r1.length=data_0.length)) <|
    ckB (inR .i64 (i_11 - 1)) <|
    nx ((i_11 - 1),r1)
  else
    dn data_0
def qgf (first_8:Int) (lo_9:Int) (hi_10:Int) (s0:(Int × (List (List Int)))):Option ((List (List Int)) ⊕ (List (List Int))) :=
  loopM (fun a=>q1p first_8 lo_9 hi_10 a.1 a.2 (fun a'=>some (.next a')) (fun e=>some (.done e)) (fun r=>some (.ret r))) s0
def q8m:Shp:=⟨[(0,.own 0),(3,.fn 49 .nil),(8,.d true (.int .i64)),(9,.d true (.int .i64)),(10,.d true (.int .i64)),(11,.d true (.int .i64))],[.arr 34 (.fz true) [3] (.slice (.int .i64))]⟩
def q8d:Shp:=⟨[(0,.own 0),(3,.fn 49 .nil),(8,.d true (.int .i64)),(9,.d true (.int .i64)),(10,.d true (.int .i64))],[.arr 34 (.fz true) [3] (.slice (.int .i64))]⟩
def q19 {R:Type} (first_8:Int) (lo_9:Int) (i_12:Int) (data_0:(List (List Int))) (nx:(Int × (List (List Int))) → Option R) (dn:(List (List Int)) → Option R) (rt:(List (List Int)) → Option R):Option R :=
  bif decide ((0:Int) ≤ i_12) then
    ckB (inR .i64 (first_8 + i_12)) <|
    ckB (inR .i64 (first_8 + i_12)) <|
    ckB (ix (first_8 + i_12) data_0.length) <|
    ckB (ix (first_8 + i_12) data_0.length) <|
    ckB (ix first_8 data_0.length) <|
    ckB (ix first_8 data_0.length) <|
    ckB (ix first_8 data_0.length) <|
    ckB (ix first_8 data_0.length) <|
    ckB (ix (first_8 + i_12) (data_0.set (Int.toNat first_8) (data_0.getD (Int.toNat (first_8 + i_12)) [])).length) <|
    ckB (ix (first_8 + i_12) (data_0.set (Int.toNat first_8) (data_0.getD (Int.toNat (first_8 + i_12)) [])).length) <|
    bnd (q24 lo_9 i_12 first_8 ((data_0.set (Int.toNat first_8) (data_0.getD (Int.toNat (first_8 + i_12)) [])).set (Int.toNat (first_8 + i_12)) (data_0.getD (Int.toNat first_8) []))) fun r3 =>
    ckB (decide (r3.length=((data_0.set (Int.toNat first_8) (data_0.getD (Int.toNat (first_8 + i_12)) [])).set (Int.toNat (first_8 + i_12)) (data_0.getD (Int.toNat first_8) [])).length)) <|
    ckB (inR .i64 (i_12 - 1)) <|
    nx ((i_12 - 1),r3)
  else
    dn data_0
def qgm (first_8:Int) (lo_9:Int) (s0:(Int × (List (List Int)))):Option ((List (List Int)) ⊕ (List (List Int))) :=
  loopM (fun a=>q19 first_8 lo_9 a.1 a.2 (fun a'=>some (.next a')) (fun e=>some (.done e)) (fun r=>some (.ret r))) s0
def q8l:Shp:=⟨[(0,.own 0),(3,.fn 49 .nil),(8,.d true (.int .i64)),(9,.d true (.int .i64)),(12,.d true (.int .i64))],[.arr 34 (.fz true) [3] (.slice (.int .i64))]⟩
def q8c:Shp:=⟨[],[.arr 34 (.fz true) [3] (.slice (.int .i64))]⟩
def q26 (a_1:Int) (b_2:Int) (data_0:(List (List Int))):Option (List (List Int)) :=
  ckB (inR .i64 (b_2 - a_1)) <|
  ckB (inR .i64 ((b_2 - a_1) - 1)) <|
  ckB (!decide ((2:Int)=0)) <|
  ckB (inR .i64 (Int.tdiv ((b_2 - a_1) - 1) 2)) <|
  bnd (qgf a_1 0 (b_2 - a_1) ((Int.tdiv ((b_2 - a_1) - 1) 2),data_0)) fun oe2 =>
  lk oe2 (fun e2 =>
    ckB (inR .i64 ((b_2 - a_1) - 1)) <|
    bnd (qgm a_1 0 (((b_2 - a_1) - 1),e2)) fun oe4 =>
    lk oe4 (fun e4 =>
      some e4) (fun r=>some r)) (fun r=>some r)
def q7h (length_0:Int):Option Int :=
  bnd (qnc (IntKind.wrap .u64 length_0)) fun r1 =>
  ckB (decide (0 ≤ r1)) <|
  some (shlI .u64 1 r1)
def qbs (r_0:Int):Option (Int × Int) :=
  ckB (decide (0 ≤ (13:Int))) <|
  ckB (decide (0 ≤ (7:Int))) <|
  ckB (decide (0 ≤ (17:Int))) <|
  some ((bitI .xor .u64 (bitI .xor .u64 (bitI .xor .u64 r_0 (shlI .u64 r_0 13)) (shrI .u64 (bitI .xor .u64 r_0 (shlI .u64 r_0 13)) 7)) (shlI .u64 (bitI .xor .u64 (bitI .xor .u64 r_0 (shlI .u64 r_0 13)) (shrI .u64 (bitI .xor .u64 r_0 (shlI .u64 r_0 13)) 7)) 17)),(bitI .xor .u64 (bitI .xor .u64 (bitI .xor .u64 r_0 (shlI .u64 r_0 13)) (shrI .u64 (bitI .xor .u64 r_0 (shlI .u64 r_0 13)) 7)) (shlI .u64 (bitI .xor .u64 (bitI .xor .u64 r_0 (shlI .u64 r_0 13)) (shrI .u64 (bitI .xor .u64 r_0 (shlI .u64 r_0 13)) 7)) 17)))
def q1a {R:Type} (a_1:Int) (length_8:Int) (modulus_10:Int) (idx_11:Int) (data_0:(List (List Int))) (random_9:Int) (nx:(Int × (List (List Int)) × Int) → Option R) (dn:(List (List Int)) → Option R) (rt:(List (List Int)) → Option R):Option R :=
  ckB (!decide ((4:Int)=0)) <|
  ckB (inR .i64 (Int.tdiv length_8 4)) <|
  ckB (inR .i64 ((Int.tdiv length_8 4) * 2)) <|
  ckB (inR .i64 (a_1 + ((Int.tdiv length_8 4) * 2))) <|
  ckB (inR .i64 ((a_1 + ((Int.tdiv length_8 4) * 2)) + 1)) <|
  bif decide (idx_11 ≤ ((a_1 + ((Int.tdiv length_8 4) * 2)) + 1)) then
    bnd (qbs random_9) fun r2 =>
    ckB (inR .i64 (bitI .and .u64 r2.1 (IntKind.wrap .u64 (modulus_10 - 1)))) <|
    bif decide (length_8 ≤ (bitI .and .u64 r2.1 (IntKind.wrap .u64 (modulus_10 - 1)))) then
      ckB (inR .i64 ((bitI .and .u64 r2.1 (IntKind.wrap .u64 (modulus_10 - 1))) - length_8)) <|
      ckB (inR .i64 (a_1 + ((bitI .and .u64 r2.1 (IntKind.wrap .u64 (modulus_10 - 1))) - length_8))) <|
      ckB (inR .i64 (a_1 + ((bitI .and .u64 r2.1 (IntKind.wrap .u64 (modulus_10 - 1))) - length_8))) <|
      ckB (ix (a_1 + ((bitI .and .u64 r2.1 (IntKind.wrap .u64 (modulus_10 - 1))) - length_8)) data_0.length) <|
      ckB (ix (a_1 + ((bitI .and .u64 r2.1 (IntKind.wrap .u64 (modulus_10 - 1))) - length_8)) data_0.length) <|
      ckB (ix idx_11 data_0.length) <|
      ckB (ix idx_11 data_0.length) <|
      ckB (ix idx_11 data_0.length) <|
      ckB (ix idx_11 data_0.length) <|
      ckB (ix (a_1 + ((bitI .and .u64 r2.1 (IntKind.wrap .u64 (modulus_10 - 1))) - length_8)) (data_0.set (Int.toNat idx_11) (data_0.getD (Int.toNat (a_1 + ((bitI .and .u64 r2.1 (IntKind.wrap .u64 (modulus_10 - 1))) - length_8))) [])).length) <|
      ckB (ix (a_1 + ((bitI .and .u64 r2.1 (IntKind.wrap .u64 (modulus_10 - 1))) - length_8)) (data_0.set (Int.toNat idx_11) (data_0.getD (Int.toNat (a_1 + ((bitI .and .u64 r2.1 (IntKind.wrap .u64 (modulus_10 - 1))) - length_8))) [])).length) <|
      ckB (inR .i64 (idx_11 + 1)) <|
      nx ((idx_11 + 1),((data_0.set (Int.toNat idx_11) (data_0.getD (Int.toNat (a_1 + ((bitI .and .u64 r2.1 (IntKind.wrap .u64 (modulus_10 - 1))) - length_8))) [])).set (Int.toNat (a_1 + ((bitI .and .u64 r2.1 (IntKind.wrap .u64 (modulus_10 - 1))) - length_8))) (data_0.getD (Int.toNat idx_11) [])),r2.2)
    else
      ckB (inR .i64 (a_1 + (bitI .and .u64 r2.1 (IntKind.wrap .u64 (modulus_10 - 1))))) <|
      ckB (inR .i64 (a_1 + (bitI .and .u64 r2.1 (IntKind.wrap .u64 (modulus_10 - 1))))) <|
      ckB (ix (a_1 + (bitI .and .u64 r2.1 (IntKind.wrap .u64 (modulus_10 - 1)))) data_0.length) <|
      ckB (ix (a_1 + (bitI .and .u64 r2.1 (IntKind.wrap .u64 (modulus_10 - 1)))) data_0.length) <|
      ckB (ix idx_11 data_0.length) <|
      ckB (ix idx_11 data_0.length) <|
      ckB (ix idx_11 data_0.length) <|
      ckB (ix idx_11 data_0.length) <|
      ckB (ix (a_1 + (bitI .and .u64 r2.1 (IntKind.wrap .u64 (modulus_10 - 1)))) (data_0.set (Int.toNat idx_11) (data_0.getD (Int.toNat (a_1 + (bitI .and .u64 r2.1 (IntKind.wrap .u64 (modulus_10 - 1))))) [])).length) <|
      ckB (ix (a_1 + (bitI .and .u64 r2.1 (IntKind.wrap .u64 (modulus_10 - 1)))) (data_0.set (Int.toNat idx_11) (data_0.getD (Int.toNat (a_1 + (bitI .and .u64 r2.1 (IntKind.wrap .u64 (modulus_10 - 1))))) [])).length) <|
      ckB (inR .i64 (idx_11 + 1)) <|
      nx ((idx_11 + 1),((data_0.set (Int.toNat idx_11) (data_0.getD (Int.toNat (a_1 + (bitI .and .u64 r2.1 (IntKind.wrap .u64 (modulus_10 - 1))))) [])).set (Int.toNat (a_1 + (bitI .and .u64 r2.1 (IntKind.wrap .u64 (modulus_10 - 1))))) (data_0.getD (Int.toNat idx_11) [])),r2.2)
  else
    dn data_0
def q75 (a_1:Int) (length_8:Int) (modulus_10:Int) (s0:(Int × (List (List Int)) × Int)):Option ((List (List Int)) ⊕ (List (List Int))) :=
  loopM (fun a=>q1a a_1 length_8 modulus_10 a.1 a.2.1 a.2.2 (fun a'=>some (.next a')) (fun e=>some (.done e)) (fun r=>some (.ret r))) s0
def q6v:Shp:=⟨[(0,.own 0),(1,.d true (.int .i64)),(8,.d true (.int .i64)),(9,.ptr 1),(10,.d true (.int .u64)),(11,.d true (.int .i64))],[.arr 34 (.fz true) [3] (.slice (.int .i64)),.cs 116 1 1 (.cons (.d true (.int .u64)) .nil)]⟩
def q6t:Shp:=⟨[],[.arr 34 (.fz true) [3] (.slice (.int .i64))]⟩
def q1k (a_1:Int) (b_2:Int) (data_0:(List (List Int))):Option (List (List Int)) :=
  ckB (inR .i64 (b_2 - a_1)) <|
  bif decide ((8:Int) ≤ (b_2 - a_1)) then
    bnd (q7h (b_2 - a_1)) fun r1 =>
    ckB (!decide ((4:Int)=0)) <|
    ckB (inR .i64 (Int.tdiv (b_2 - a_1) 4)) <|
    ckB (inR .i64 ((Int.tdiv (b_2 - a_1) 4) * 2)) <|
    ckB (inR .i64 (a_1 + ((Int.tdiv (b_2 - a_1) 4) * 2))) <|
    ckB (inR .i64 ((a_1 + ((Int.tdiv (b_2 - a_1) 4) * 2)) - 1)) <|
    bnd (q75 a_1 (b_2 - a_1) r1 (((a_1 + ((Int.tdiv (b_2 - a_1) 4) * 2)) - 1),data_0,(IntKind.wrap .u64 (b_2 - a_1)))) fun oe3 =>
    lk oe3 (fun e3 =>
      some e3) (fun r=>some r)
  else
    some data_0
def q1e (data_0:(List (List Int))) (a_1:Int) (b_2:Int) (swaps_3:Int):Option (Int × Int × Int) :=
  ckB (ix b_2 data_0.length) <|
  ckB (ix b_2 data_0.length) <|
  ckB (ix a_1 data_0.length) <|
  ckB (ix a_1 data_0.length) <|
  bnd (qk (data_0.getD (Int.toNat b_2) []) (data_0.getD (Int.toNat a_1) [])) fun r1 =>
  bif decide (r1 < 0) then
    ckB (inR .i64 (swaps_3 + 1)) <|
    some (b_2,a_1,(swaps_3 + 1))
  else
    some (a_1,b_2,swaps_3)
def q1f (data_0:(List (List Int))) (a_1:Int) (b_2:Int) (c_3:Int) (swaps_4:Int):Option (Int × Int) :=
  bnd (q1e data_0 a_1 b_2 swaps_4) fun r1 =>
  bnd (q1e data_0 r1.2.1 c_3 r1.2.2) fun r2 =>
  bnd (q1e data_0 r1.1 r2.1 r2.2.2) fun r3 =>
  some (r3.2.1,r3.2.2)
def qt (data_0:(List (List Int))) (a_1:Int) (swaps_2:Int):Option (Int × Int) :=
  ckB (inR .i64 (a_1 - 1)) <|
  ckB (inR .i64 (a_1 + 1)) <|
  bnd (q1f data_0 (a_1 - 1) a_1 (a_1 + 1) swaps_2) fun r1 =>
  some (r1.1,r1.2)
def q3y {R:Type} (j_13:Int) (swaps_11:Int) (dn:Unit → Option R) (rt:(Int × Int) → Option R):Option R :=
  bif decide (swaps_11=0) then
    rt (j_13,1)
  else
    bif decide (swaps_11=12) then
      rt (j_13,2)
    else
      rt (j_13,0)
def q1m (j_13:Int) (swaps_11:Int):Option (Unit ⊕ (Int × Int)) :=
  q3y j_13 swaps_11 (fun e=>some (.inl e)) (fun r=>some (.inr r))
def q7n:Shp:=⟨[(11,.ptr 0),(13,.d true (.int .i64))],[.cs 3 1 1 (.cons (.d true (.int .i64)) .nil)]⟩
def q7f:Shp:=⟨[],[]⟩
def q18 (data_0:(List (List Int))) (a_1:Int) (b_2:Int):Option (Int × Int) :=
  ckB (inR .i64 (b_2 - a_1)) <|
  ckB (!decide ((4:Int)=0)) <|
  ckB (inR .i64 (Int.tdiv (b_2 - a_1) 4)) <|
  ckB (inR .i64 ((Int.tdiv (b_2 - a_1) 4) * 1)) <|
  ckB (inR .i64 (a_1 + ((Int.tdiv (b_2 - a_1) 4) * 1))) <|
  ckB (!decide ((4:Int)=0)) <|
  ckB (inR .i64 (Int.tdiv (b_2 - a_1) 4)) <|
  ckB (inR .i64 ((Int.tdiv (b_2 - a_1) 4) * 2)) <|
  ckB (inR .i64 (a_1 + ((Int.tdiv (b_2 - a_1) 4) * 2))) <|
  ckB (!decide ((4:Int)=0)) <|
  ckB (inR .i64 (Int.tdiv (b_2 - a_1) 4)) <|
  ckB (inR .i64 ((Int.tdiv (b_2 - a_1) 4) * 3)) <|
  ckB (inR .i64 (a_1 + ((Int.tdiv (b_2 - a_1) 4) * 3))) <|
  bif decide ((8:Int) ≤ (b_2 - a_1)) then
    bif decide ((50:Int) ≤ (b_2 - a_1)) then
      bnd (qt data_0 (a_1 + ((Int.tdiv (b_2 - a_1) 4) * 1)) 0) fun r1 =>
      bnd (qt data_0 (a_1 + ((Int.tdiv (b_2 - a_1) 4) * 2)) r1.2) fun r2 =>
      bnd (qt data_0 (a_1 + ((Int.tdiv (b_2 - a_1) 4) * 3)) r2.2) fun r3 =>
      bnd (q1f data_0 r1.1 r2.1 r3.1 r3.2) fun r4 =>
      bnd (q1m r4.1 r4.2) fun oe5 =>
      lk oe5 (fun e5 =>
        none) (fun r=>some r)
    else
      bnd (q1f data_0 (a_1 + ((Int.tdiv (b_2 - a_1) 4) * 1)) (a_1 + ((Int.tdiv (b_2 - a_1) 4) * 2)) (a_1 + ((Int.tdiv (b_2 - a_1) 4) * 3)) 0) fun r6 =>
      bnd (q1m r6.1 r6.2) fun oe7 =>
      lk oe7 (fun e7 =>
        none) (fun r=>some r)
  else
    bnd (q1m (a_1 + ((Int.tdiv (b_2 - a_1) 4) * 2)) 0) fun oe8 =>
    lk oe8 (fun e8 =>
      none) (fun r=>some r)
def q1y {R:Type}  (i_8:Int) (j_9:Int) (data_0:(List (List Int))) (nx:(Int × Int × (List (List Int))) → Option R) (dn:(List (List Int)) → Option R) (rt:(List (List Int)) → Option R):Option R :=
  bif decide (i_8 < j_9) then
    ckB (ix j_9 data_0.length) <|
    ckB (ix j_9 data_0.length) <|
    ckB (ix i_8 data_0.length) <|
    ckB (ix i_8 data_0.length) <|
    ckB (ix i_8 data_0.length) <|
    ckB (ix i_8 data_0.length) <|
    ckB (ix j_9 (data_0.set (Int.toNat i_8) (data_0.getD (Int.toNat j_9) [])).length) <|
    ckB (ix j_9 (data_0.set (Int.toNat i_8) (data_0.getD (Int.toNat j_9) [])).length) <|
    ckB (inR .i64 (i_8 + 1)) <|
    ckB (inR .i64 (j_9 - 1)) <|
    nx ((i_8 + 1),(j_9 - 1),((data_0.set (Int.toNat i_8) (data_0.getD (Int.toNat j_9) [])).set (Int.toNat j_9) (data_0.getD (Int.toNat i_8) [])))
  else
    dn data_0
def q7j  (s0:(Int × Int × (List (List Int)))):Option ((List (List Int)) ⊕ (List (List Int))) :=
  loopM (fun a=>q1y  a.1 a.2.1 a.2.2 (fun a'=>some (.next a')) (fun e=>some (.done e)) (fun r=>some (.ret r))) s0
def q79:Shp:=⟨[(0,.own 0),(8,.d true (.int .i64)),(9,.d true (.int .i64))],[.arr 34 (.fz true) [3] (.slice (.int .i64))]⟩
def q72:Shp:=⟨[],[.arr 34 (.fz true) [3] (.slice (.int .i64))]⟩
def q17 (a_1:Int) (b_2:Int) (data_0:(List (List Int))):Option (List (List Int)) :=
  ckB (inR .i64 (b_2 - 1)) <|
  bnd (q7j  (a_1,(b_2 - 1),data_0)) fun oe1 =>
  lk oe1 (fun e1 =>
    some e1) (fun r=>some r)
def qx {R:Type} (a_1:Int) (b_2:Int) (j_10:Int) (data_0:(List (List Int))) (i_9:Int) (nx:Int → Option R) (dn:Int → Option R) (rt:(Bool × (List (List Int))) → Option R):Option R :=
  bif decide (i_9 < b_2) then
    ckB (ix i_9 data_0.length) <|
    ckB (ix i_9 data_0.length) <|
    ckB (inR .i64 (i_9 - 1)) <|
    ckB (ix (i_9 - 1) data_0.length) <|
    ckB (ix (i_9 - 1) data_0.length) <|
    bnd (qk (data_0.getD (Int.toNat i_9) []) (data_0.getD (Int.toNat (i_9 - 1)) [])) fun r1 =>
    bif (!(decide (r1 < 0))) then
      ckB (inR .i64 (i_9 + 1)) <|
      nx (i_9 + 1)
    else
      dn i_9
  else
    dn i_9
def q2a (a_1:Int) (b_2:Int) (j_10:Int) (data_0:(List (List Int))) (s0:Int):Option (Int ⊕ (Bool × (List (List Int)))) :=
  loopM (fun a=>qx a_1 b_2 j_10 data_0 a (fun a'=>some (.next a')) (fun e=>some (.done e)) (fun r=>some (.ret r))) s0
def q4h:Shp:=⟨[(0,.own 0),(1,.d true (.int .i64)),(2,.d true (.int .i64)),(3,.fn 49 .nil),(9,.d true (.int .i64)),(10,.d true (.int .i64))],[.arr 34 (.fz true) [3] (.slice (.int .i64))]⟩
def q4g:Shp:=⟨[(0,.own 0),(1,.d true (.int .i64)),(2,.d true (.int .i64)),(3,.fn 49 .nil),(9,.d true (.int .i64)),(10,.d true (.int .i64))],[.arr 34 (.fz true) [3] (.slice (.int .i64))]⟩
def qy {R:Type} (a_1:Int) (b_2:Int) (i_9:Int) (j_10:Int) (j_11:Int) (data_0:(List (List Int))) (nx:(Int × (List (List Int))) → Option R) (dn:(List (List Int)) → Option R) (rt:(Bool × (List (List Int))) → Option R):Option R :=
  bif decide ((1:Int) ≤ j_11) then
    ckB (ix j_11 data_0.length) <|
    ckB (ix j_11 data_0.length) <|
    ckB (inR .i64 (j_11 - 1)) <|
    ckB (ix (j_11 - 1) data_0.length) <|
    ckB (ix (j_11 - 1) data_0.length) <|
    bnd (qk (data_0.getD (Int.toNat j_11) []) (data_0.getD (Int.toNat (j_11 - 1)) [])) fun r3 =>
    bif (!(decide (r3 < 0))) then
      dn data_0
    else
      ckB (inR .i64 (j_11 - 1)) <|
      ckB (inR .i64 (j_11 - 1)) <|
      ckB (ix (j_11 - 1) data_0.length) <|
      ckB (ix (j_11 - 1) data_0.length) <|
      ckB (ix j_11 data_0.length) <|
      ckB (ix j_11 data_0.length) <|
      ckB (ix j_11 data_0.length) <|
      ckB (ix j_11 data_0.length) <|
      ckB (ix (j_11 - 1) (data_0.set (Int.toNat j_11) (data_0.getD (Int.toNat (j_11 - 1)) [])).length) <|
      ckB (ix (j_11 - 1) (data_0.set (Int.toNat j_11) (data_0.getD (Int.toNat (j_11 - 1)) [])).length) <|
      ckB (inR .i64 (j_11 - 1)) <|
      nx ((j_11 - 1),((data_0.set (Int.toNat j_11) (data_0.getD (Int.toNat (j_11 - 1)) [])).set (Int.toNat (j_11 - 1)) (data_0.getD (Int.toNat j_11) [])))
  else
    dn data_0
def q27 (a_1:Int) (b_2:Int) (i_9:Int) (j_10:Int) (s0:(Int × (List (List Int)))):Option ((List (List Int)) ⊕ (Bool × (List (List Int)))) :=
  loopM (fun a=>qy a_1 b_2 i_9 j_10 a.1 a.2 (fun a'=>some (.next a')) (fun e=>some (.done e)) (fun r=>some (.ret r))) s0
def q4d:Shp:=⟨[(0,.own 0),(1,.d true (.int .i64)),(2,.d true (.int .i64)),(3,.fn 49 .nil),(9,.d true (.int .i64)),(10,.d true (.int .i64)),(11,.d true (.int .i64))],[.arr 34 (.fz true) [3] (.slice (.int .i64))]⟩
def q4j:Shp:=⟨[(0,.own 0),(1,.d true (.int .i64)),(2,.d true (.int .i64)),(3,.fn 49 .nil),(9,.d true (.int .i64)),(10,.d true (.int .i64))],[.arr 34 (.fz true) [3] (.slice (.int .i64))]⟩
def qw {R:Type} (a_1:Int) (b_2:Int) (i_9:Int) (j_10:Int) (j_12:Int) (data_0:(List (List Int))) (nx:(Int × (List (List Int))) → Option R) (dn:(List (List Int)) → Option R) (rt:(Bool × (List (List Int))) → Option R):Option R :=
  bif decide (j_12 < b_2) then
    ckB (ix j_12 data_0.length) <|
    ckB (ix j_12 data_0.length) <|
    ckB (inR .i64 (j_12 - 1)) <|
    ckB (ix (j_12 - 1) data_0.length) <|
    ckB (ix (j_12 - 1) data_0.length) <|
    bnd (qk (data_0.getD (Int.toNat j_12) []) (data_0.getD (Int.toNat (j_12 - 1)) [])) fun r5 =>
    bif (!(decide (r5 < 0))) then
      dn data_0
    else
      ckB (inR .i64 (j_12 - 1)) <|
      ckB (inR .i64 (j_12 - 1)) <|
      ckB (ix (j_12 - 1) data_0.length) <|
      ckB (ix (j_12 - 1) data_0.length) <|
      ckB (ix j_12 data_0.length) <|
      ckB (ix j_12 data_0.length) <|
      ckB (ix j_12 data_0.length) <|
      ckB (ix j_12 data_0.length) <|
      ckB (ix (j_12 - 1) (data_0.set (Int.toNat j_12) (data_0.getD (Int.toNat (j_12 - 1)) [])).length) <|
      ckB (ix (j_12 - 1) (data_0.set (Int.toNat j_12) (data_0.getD (Int.toNat (j_12 - 1)) [])).length) <|
      ckB (inR .i64 (j_12 + 1)) <|
      nx ((j_12 + 1),((data_0.set (Int.toNat j_12) (data_0.getD (Int.toNat (j_12 - 1)) [])).set (Int.toNat (j_12 - 1)) (data_0.getD (Int.toNat j_12) [])))
  else
    dn data_0
def q2c (a_1:Int) (b_2:Int) (i_9:Int) (j_10:Int) (s0:(Int × (List (List Int)))):Option ((List (List Int)) ⊕ (Bool × (List (List Int)))) :=
  loopM (fun a=>qw a_1 b_2 i_9 j_10 a.1 a.2 (fun a'=>some (.next a')) (fun e=>some (.done e)) (fun r=>some (.ret r))) s0
def q4b:Shp:=⟨[(0,.own 0),(1,.d true (.int .i64)),(2,.d true (.int .i64)),(3,.fn 49 .nil),(9,.d true (.int .i64)),(10,.d true (.int .i64)),(12,.d true (.int .i64))],[.arr 34 (.fz true) [3] (.slice (.int .i64))]⟩
def q4k:Shp:=⟨[(0,.own 0),(1,.d true (.int .i64)),(2,.d true (.int .i64)),(3,.fn 49 .nil),(9,.d true (.int .i64)),(10,.d true (.int .i64))],[.arr 34 (.fz true) [3] (.slice (.int .i64))]⟩
def q1b {R:Type} (a_1:Int) (b_2:Int) (i_9:Int) (j_10:Int) (data_0:(List (List Int))) (dn:(List (List Int)) → Option R) (rt:(Bool × (List (List Int))) → Option R):Option R :=
  ckB (inR .i64 (b_2 - i_9)) <|
  bif decide ((2:Int) ≤ (b_2 - i_9)) then
    ckB (inR .i64 (i_9 + 1)) <|
    bnd (q2c a_1 b_2 i_9 j_10 ((i_9 + 1),data_0)) fun oe6 =>
    lk oe6 (fun e6 =>
      dn e6) (fun r=>rt r)
  else
    dn data_0
def q1g (a_1:Int) (b_2:Int) (i_9:Int) (j_10:Int) (data_0:(List (List Int))):Option ((List (List Int)) ⊕ (Bool × (List (List Int)))) :=
  q1b a_1 b_2 i_9 j_10 data_0 (fun e=>some (.inl e)) (fun r=>some (.inr r))
def q4i:Shp:=⟨[(0,.own 0),(1,.d true (.int .i64)),(2,.d true (.int .i64)),(3,.fn 49 .nil),(9,.d true (.int .i64)),(10,.d true (.int .i64))],[.arr 34 (.fz true) [3] (.slice (.int .i64))]⟩
def q4c:Shp:=⟨[(0,.own 0),(1,.d true (.int .i64)),(2,.d true (.int .i64)),(3,.fn 49 .nil),(9,.d true (.int .i64)),(10,.d true (.int .i64))],[.arr 34 (.fz true) [3] (.slice (.int .i64))]⟩
def qn {R:Type} (a_1:Int) (b_2:Int) (i_9:Int) (j_10:Int) (data_0:(List (List Int))) (nx:(Int × Int × (List (List Int))) → Option R) (dn:(List (List Int)) → Option R) (rt:(Bool × (List (List Int))) → Option R):Option R :=
  bif decide (j_10 < 5) then
    bnd (q2a a_1 b_2 j_10 data_0 i_9) fun oe2 =>
    lk oe2 (fun e2 =>
      bif decide (e2=b_2) then
        rt (true,data_0)
      else
        ckB (inR .i64 (b_2 - a_1)) <|
        bif decide ((b_2 - a_1) < 50) then
          rt (false,data_0)
        else
          ckB (inR .i64 (e2 - 1)) <|
          ckB (inR .i64 (e2 - 1)) <|
          ckB (ix (e2 - 1) data_0.length) <|
          ckB (ix (e2 - 1) data_0.length) <|
          ckB (ix e2 data_0.length) <|
          ckB (ix e2 data_0.length) <|
          ckB (ix e2 data_0.length) <|
          ckB (ix e2 data_0.length) <|
          ckB (ix (e2 - 1) (data_0.set (Int.toNat e2) (data_0.getD (Int.toNat (e2 - 1)) [])).length) <|
          ckB (ix (e2 - 1) (data_0.set (Int.toNat e2) (data_0.getD (Int.toNat (e2 - 1)) [])).length) <|
          ckB (inR .i64 (e2 - a_1)) <|
          bif decide ((2:Int) ≤ (e2 - a_1)) then
            ckB (inR .i64 (e2 - 1)) <|
            bnd (q27 a_1 b_2 e2 j_10 ((e2 - 1),((data_0.set (Int.toNat e2) (data_0.getD (Int.toNat (e2 - 1)) [])).set (Int.toNat (e2 - 1)) (data_0.getD (Int.toNat e2) [])))) fun oe4 =>
            lk oe4 (fun e4 =>
              bnd (q1g a_1 b_2 e2 j_10 e4) fun oe7 =>
              lk oe7 (fun e7 =>
                ckB (inR .i64 (j_10 + 1)) <|
                nx (e2,(j_10 + 1),e7)) (fun r=>rt r)) (fun r=>rt r)
          else
            bnd (q1g a_1 b_2 e2 j_10 ((data_0.set (Int.toNat e2) (data_0.getD (Int.toNat (e2 - 1)) [])).set (Int.toNat (e2 - 1)) (data_0.getD (Int.toNat e2) []))) fun oe8 =>
            lk oe8 (fun e8 =>
              ckB (inR .i64 (j_10 + 1)) <|
              nx (e2,(j_10 + 1),e8)) (fun r=>rt r)) (fun r=>rt r)
  else
    dn data_0
def q4n (a_1:Int) (b_2:Int) (s0:(Int × Int × (List (List Int)))):Option ((List (List Int)) ⊕ (Bool × (List (List Int)))) :=
  loopM (fun a=>qn a_1 b_2 a.1 a.2.1 a.2.2 (fun a'=>some (.next a')) (fun e=>some (.done e)) (fun r=>some (.ret r))) s0
def q49:Shp:=⟨[(0,.own 0),(1,.d true (.int .i64)),(2,.d true (.int .i64)),(3,.fn 49 .nil),(9,.d true (.int .i64)),(10,.d true (.int .i64))],[.arr 34 (.fz true) [3] (.slice (.int .i64))]⟩
def q4e:Shp:=⟨[],[.arr 34 (.fz true) [3] (.slice (.int .i64))]⟩
def q1j (a_1:Int) (b_2:Int) (data_0:(List (List Int))):Option (Bool × (List (List Int))) :=
  ckB (inR .i64 (a_1 + 1)) <|
  bnd (q4n a_1 b_2 ((a_1 + 1),0,data_0)) fun oe9 =>
  lk oe9 (fun e9 =>
    some (false,e9)) (fun r=>some r)
def q1s {R:Type} (a_1:Int) (j_12:Int) (data_0:(List (List Int))) (i_11:Int) (nx:Int → Option R) (dn:Int → Option R) (rt:(Int × (List (List Int))) → Option R):Option R :=
  bif decide (i_11 ≤ j_12) then
    ckB (ix a_1 data_0.length) <|
    ckB (ix a_1 data_0.length) <|
    ckB (ix i_11 data_0.length) <|
    ckB (ix i_11 data_0.length) <|
    bnd (qk (data_0.getD (Int.toNat a_1) []) (data_0.getD (Int.toNat i_11) [])) fun r1 =>
    bif (!(decide (r1 < 0))) then
      ckB (inR .i64 (i_11 + 1)) <|
      nx (i_11 + 1)
    else
      dn i_11
  else
    dn i_11
def q6x (a_1:Int) (j_12:Int) (data_0:(List (List Int))) (s0:Int):Option (Int ⊕ (Int × (List (List Int)))) :=
  loopM (fun a=>q1s a_1 j_12 data_0 a (fun a'=>some (.next a')) (fun e=>some (.done e)) (fun r=>some (.ret r))) s0
def q6b:Shp:=⟨[(0,.own 0),(1,.d true (.int .i64)),(4,.fn 49 .nil),(11,.d true (.int .i64)),(12,.d true (.int .i64))],[.arr 34 (.fz true) [3] (.slice (.int .i64))]⟩
def q67:Shp:=⟨[(0,.own 0),(1,.d true (.int .i64)),(4,.fn 49 .nil),(11,.d true (.int .i64)),(12,.d true (.int .i64))],[.arr 34 (.fz true) [3] (.slice (.int .i64))]⟩
def q1r {R:Type} (a_1:Int) (i_11:Int) (data_0:(List (List Int))) (j_12:Int) (nx:Int → Option R) (dn:Int → Option R) (rt:(Int × (List (List Int))) → Option R):Option R :=
  bif decide (i_11 ≤ j_12) then
    ckB (ix a_1 data_0.length) <|
    ckB (ix a_1 data_0.length) <|
    ckB (ix j_12 data_0.length) <|
    ckB (ix j_12 data_0.length) <|
    bnd (qk (data_0.getD (Int.toNat a_1) []) (data_0.getD (Int.toNat j_12) [])) fun r3 =>
    bif decide (r3 < 0) then
      ckB (inR .i64 (j_12 - 1)) <|
      nx (j_12 - 1)
    else
      dn j_12
  else
    dn j_12
def q6s (a_1:Int) (i_11:Int) (data_0:(List (List Int))) (s0:Int):Option (Int ⊕ (Int × (List (List Int)))) :=
  loopM (fun a=>q1r a_1 i_11 data_0 a (fun a'=>some (.next a')) (fun e=>some (.done e)) (fun r=>some (.ret r))) s0
def q6c:Shp:=⟨[(0,.own 0),(1,.d true (.int .i64)),(4,.fn 49 .nil),(11,.d true (.int .i64)),(12,.d true (.int .i64))],[.arr 34 (.fz true) [3] (.slice (.int .i64))]⟩
def q68:Shp:=⟨[(0,.own 0),(1,.d true (.int .i64)),(4,.fn 49 .nil),(11,.d true (.int .i64)),(12,.d true (.int .i64))],[.arr 34 (.fz true) [3] (.slice (.int .i64))]⟩
def q1q {R:Type} (a_1:Int) (i_11:Int) (j_12:Int) (data_0:(List (List Int))) (nx:(Int × Int × (List (List Int))) → Option R) (dn:(Int × (List (List Int))) → Option R) (rt:(Int × (List (List Int))) → Option R):Option R :=
  bnd (q6x a_1 j_12 data_0 i_11) fun oe2 =>
  lk oe2 (fun e2 =>
    bnd (q6s a_1 e2 data_0 j_12) fun oe4 =>
    lk oe4 (fun e4 =>
      bif decide (e4 < e2) then
        dn (e2,data_0)
      else
        ckB (ix e4 data_0.length) <|
        ckB (ix e4 data_0.length) <|
        ckB (ix e2 data_0.length) <|
        ckB (ix e2 data_0.length) <|
        ckB (ix e2 data_0.length) <|
        ckB (ix e2 data_0.length) <|
        ckB (ix e4 (data_0.set (Int.toNat e2) (data_0.getD (Int.toNat e4) [])).length) <|
        ckB (ix e4 (data_0.set (Int.toNat e2) (data_0.getD (Int.toNat e4) [])).length) <|
        ckB (inR .i64 (e2 + 1)) <|
        ckB (inR .i64 (e4 - 1)) <|
        nx ((e2 + 1),(e4 - 1),((data_0.set (Int.toNat e2) (data_0.getD (Int.toNat e4) [])).set (Int.toNat e4) (data_0.getD (Int.toNat e2) [])))) (fun r=>rt r)) (fun r=>rt r)
def q3i (a_1:Int) (s0:(Int × Int × (List (List Int)))):Option ((Int × (List (List Int))) ⊕ (Int × (List (List Int)))) :=
  loopM (fun a=>q1q a_1 a.1 a.2.1 a.2.2 (fun a'=>some (.next a')) (fun e=>some (.done e)) (fun r=>some (.ret r))) s0
def q6a:Shp:=⟨[(0,.own 0),(1,.d true (.int .i64)),(4,.fn 49 .nil),(11,.d true (.int .i64)),(12,.d true (.int .i64))],[.arr 34 (.fz true) [3] (.slice (.int .i64))]⟩
def q69:Shp:=⟨[(11,.d true (.int .i64))],[.arr 34 (.fz true) [3] (.slice (.int .i64))]⟩
def qi (a_1:Int) (b_2:Int) (pivot_3:Int) (data_0:(List (List Int))):Option (Int × (List (List Int))) :=
  ckB (ix pivot_3 data_0.length) <|
  ckB (ix pivot_3 data_0.length) <|
  ckB (ix a_1 data_0.length) <|
  ckB (ix a_1 data_0.length) <|
  ckB (ix a_1 data_0.length) <|
  ckB (ix a_1 data_0.length) <|
  ckB (ix pivot_3 (data_0.set (Int.toNat a_1) (data_0.getD (Int.toNat pivot_3) [])).length) <|
  ckB (ix pivot_3 (data_0.set (Int.toNat a_1) (data_0.getD (Int.toNat pivot_3) [])).length) <|
  ckB (inR .i64 (a_1 + 1)) <|
  ckB (inR .i64 (b_2 - 1)) <|
  bnd (q3i a_1 ((a_1 + 1),(b_2 - 1),((data_0.set (Int.toNat a_1) (data_0.getD (Int.toNat pivot_3) [])).set (Int.toNat pivot_3) (data_0.getD (Int.toNat a_1) [])))) fun oe5 =>
  lk oe5 (fun e5 =>
    some (e5.1,e5.2)) (fun r=>some r)
def q2k {R:Type} (a_1:Int) (j_13:Int) (data_0:(List (List Int))) (i_12:Int) (nx:Int → Option R) (dn:Int → Option R) (rt:(Int × Bool × (List (List Int))) → Option R):Option R :=
  bif decide (i_12 ≤ j_13) then
    ckB (ix i_12 data_0.length) <|
    ckB (ix i_12 data_0.length) <|
    ckB (ix a_1 data_0.length) <|
    ckB (ix a_1 data_0.length) <|
    bnd (qk (data_0.getD (Int.toNat i_12) []) (data_0.getD (Int.toNat a_1) [])) fun r1 =>
    bif decide (r1 < 0) then
      ckB (inR .i64 (i_12 + 1)) <|
      nx (i_12 + 1)
    else
      dn i_12
  else
    dn i_12
def q8q (a_1:Int) (j_13:Int) (data_0:(List (List Int))) (s0:Int):Option (Int ⊕ (Int × Bool × (List (List Int)))) :=
  loopM (fun a=>q2k a_1 j_13 data_0 a (fun a'=>some (.next a')) (fun e=>some (.done e)) (fun r=>some (.ret r))) s0
def q83:Shp:=⟨[(0,.own 0),(1,.d true (.int .i64)),(4,.fn 49 .nil),(12,.d true (.int .i64)),(13,.d true (.int .i64))],[.arr 34 (.fz true) [3] (.slice (.int .i64))]⟩
def q7z:Shp:=⟨[(0,.own 0),(1,.d true (.int .i64)),(4,.fn 49 .nil),(12,.d true (.int .i64)),(13,.d true (.int .i64))],[.arr 34 (.fz true) [3] (.slice (.int .i64))]⟩
def q2i {R:Type} (a_1:Int) (i_12:Int) (data_0:(List (List Int))) (j_13:Int) (nx:Int → Option R) (dn:Int → Option R) (rt:(Int × Bool × (List (List Int))) → Option R):Option R :=
  bif decide (i_12 ≤ j_13) then
    ckB (ix j_13 data_0.length) <|
    ckB (ix j_13 data_0.length) <|
    ckB (ix a_1 data_0.length) <|
    ckB (ix a_1 data_0.length) <|
    bnd (qk (data_0.getD (Int.toNat j_13) []) (data_0.getD (Int.toNat a_1) [])) fun r3 =>
    bif (!(decide (r3 < 0))) then
      ckB (inR .i64 (j_13 - 1)) <|
      nx (j_13 - 1)
    else
      dn j_13
  else
    dn j_13
def q8b (a_1:Int) (i_12:Int) (data_0:(List (List Int))) (s0:Int):Option (Int ⊕ (Int × Bool × (List (List Int)))) :=
  loopM (fun a=>q2i a_1 i_12 data_0 a (fun a'=>some (.next a')) (fun e=>some (.done e)) (fun r=>some (.ret r))) s0
def q82:Shp:=⟨[(0,.own 0),(1,.d true (.int .i64)),(4,.fn 49 .nil),(12,.d true (.int .i64)),(13,.d true (.int .i64))],[.arr 34 (.fz true) [3] (.slice (.int .i64))]⟩
def q85:Shp:=⟨[(0,.own 0),(1,.d true (.int .i64)),(4,.fn 49 .nil),(12,.d true (.int .i64)),(13,.d true (.int .i64))],[.arr 34 (.fz true) [3] (.slice (.int .i64))]⟩
def q2l {R:Type} (a_1:Int) (j_13:Int) (data_0:(List (List Int))) (i_12:Int) (nx:Int → Option R) (dn:Int → Option R) (rt:(Int × Bool × (List (List Int))) → Option R):Option R :=
  bif decide (i_12 ≤ j_13) then
    ckB (ix i_12 data_0.length) <|
    ckB (ix i_12 data_0.length) <|
    ckB (ix a_1 data_0.length) <|
    ckB (ix a_1 data_0.length) <|
    bnd (qk (data_0.getD (Int.toNat i_12) []) (data_0.getD (Int.toNat a_1) [])) fun r5 =>
    bif decide (r5 < 0) then
      ckB (inR .i64 (i_12 + 1)) <|
      nx (i_12 + 1)
    else
      dn i_12
  else
    dn i_12
def q8f (a_1:Int) (j_13:Int) (data_0:(List (List Int))) (s0:Int):Option (Int ⊕ (Int × Bool × (List (List Int)))) :=
  loopM (fun a=>q2l a_1 j_13 data_0 a (fun a'=>some (.next a')) (fun e=>some (.done e)) (fun r=>some (.ret r))) s0
def q80:Shp:=⟨[(0,.own 0),(1,.d true (.int .i64)),(4,.fn 49 .nil),(12,.d true (.int .i64)),(13,.d true (.int .i64))],[.arr 34 (.fz true) [3] (.slice (.int .i64))]⟩
def q7y:Shp:=⟨[(0,.own 0),(1,.d true (.int .i64)),(4,.fn 49 .nil),(12,.d true (.int .i64)),(13,.d true (.int .i64))],[.arr 34 (.fz true) [3] (.slice (.int .i64))]⟩
def q2m {R:Type} (a_1:Int) (i_12:Int) (data_0:(List (List Int))) (j_13:Int) (nx:Int → Option R) (dn:Int → Option R) (rt:(Int × Bool × (List (List Int))) → Option R):Option R :=
  bif decide (i_12 ≤ j_13) then
    ckB (ix j_13 data_0.length) <|
    ckB (ix j_13 data_0.length) <|
    ckB (ix a_1 data_0.length) <|
    ckB (ix a_1 data_0.length) <|
    bnd (qk (data_0.getD (Int.toNat j_13) []) (data_0.getD (Int.toNat a_1) [])) fun r7 =>
    bif (!(decide (r7 < 0))) then
      ckB (inR .i64 (j_13 - 1)) <|
      nx (j_13 - 1)
    else
      dn j_13
  else
    dn j_13
def q8e (a_1:Int) (i_12:Int) (data_0:(List (List Int))) (s0:Int):Option (Int ⊕ (Int × Bool × (List (List Int)))) :=
  loopM (fun a=>q2m a_1 i_12 data_0 a (fun a'=>some (.next a')) (fun e=>some (.done e)) (fun r=>some (.ret r))) s0
def q7w:Shp:=⟨[(0,.own 0),(1,.d true (.int .i64)),(4,.fn 49 .nil),(12,.d true (.int .i64)),(13,.d true (.int .i64))],[.arr 34 (.fz true) [3] (.slice (.int .i64))]⟩
def q86:Shp:=⟨[(0,.own 0),(1,.d true (.int .i64)),(4,.fn 49 .nil),(12,.d true (.int .i64)),(13,.d true (.int .i64))],[.arr 34 (.fz true) [3] (.slice (.int .i64))]⟩
def q2n {R:Type} (a_1:Int) (i_12:Int) (j_13:Int) (data_0:(List (List Int))) (nx:(Int × Int × (List (List Int))) → Option R) (dn:(Int × (List (List Int))) → Option R) (rt:(Int × Bool × (List (List Int))) → Option R):Option R :=
  bnd (q8f a_1 j_13 data_0 i_12) fun oe6 =>
  lk oe6 (fun e6 =>
    bnd (q8e a_1 e6 data_0 j_13) fun oe8 =>
    lk oe8 (fun e8 =>
      bif decide (e8 < e6) then
        dn (e8,data_0)
      else
        ckB (ix e8 data_0.length) <|
        ckB (ix e8 data_0.length) <|
        ckB (ix e6 data_0.length) <|
        ckB (ix e6 data_0.length) <|
        ckB (ix e6 data_0.length) <|
        ckB (ix e6 data_0.length) <|
        ckB (ix e8 (data_0.set (Int.toNat e6) (data_0.getD (Int.toNat e8) [])).length) <|
        ckB (ix e8 (data_0.set (Int.toNat e6) (data_0.getD (Int.toNat e8) [])).length) <|
        ckB (inR .i64 (e6 + 1)) <|
        ckB (inR .i64 (e8 - 1)) <|
        nx ((e6 + 1),(e8 - 1),((data_0.set (Int.toNat e6) (data_0.getD (Int.toNat e8) [])).set (Int.toNat e8) (data_0.getD (Int.toNat e6) [])))) (fun r=>rt r)) (fun r=>rt r)
def q4p (a_1:Int) (s0:(Int × Int × (List (List Int)))):Option ((Int × (List (List Int))) ⊕ (Int × Bool × (List (List Int)))) :=
  loopM (fun a=>q2n a_1 a.1 a.2.1 a.2.2 (fun a'=>some (.next a')) (fun e=>some (.done e)) (fun r=>some (.ret r))) s0
def q7x:Shp:=⟨[(0,.own 0),(1,.d true (.int .i64)),(4,.fn 49 .nil),(12,.d true (.int .i64)),(13,.d true (.int .i64))],[.arr 34 (.fz true) [3] (.slice (.int .i64))]⟩
def q84:Shp:=⟨[(0,.own 0),(1,.d true (.int .i64)),(13,.d true (.int .i64))],[.arr 34 (.fz true) [3] (.slice (.int .i64))]⟩
def q38 (a_1:Int) (b_2:Int) (pivot_3:Int) (data_0:(List (List Int))):Option (Int × Bool × (List (List Int))) :=
  ckB (ix pivot_3 data_0.length) <|
  ckB (ix pivot_3 data_0.length) <|
  ckB (ix a_1 data_0.length) <|
  ckB (ix a_1 data_0.length) <|
  ckB (ix a_1 data_0.length) <|
  ckB (ix a_1 data_0.length) <|
  ckB (ix pivot_3 (data_0.set (Int.toNat a_1) (data_0.getD (Int.toNat pivot_3) [])).length) <|
  ckB (ix pivot_3 (data_0.set (Int.toNat a_1) (data_0.getD (Int.toNat pivot_3) [])).length) <|
  ckB (inR .i64 (a_1 + 1)) <|
  ckB (inR .i64 (b_2 - 1)) <|
  bnd (q8q a_1 (b_2 - 1) ((data_0.set (Int.toNat a_1) (data_0.getD (Int.toNat pivot_3) [])).set (Int.toNat pivot_3) (data_0.getD (Int.toNat a_1) [])) (a_1 + 1)) fun oe2 =>
  lk oe2 (fun e2 =>
    bnd (q8b a_1 e2 ((data_0.set (Int.toNat a_1) (data_0.getD (Int.toNat pivot_3) [])).set (Int.toNat pivot_3) (data_0.getD (Int.toNat a_1) [])) (b_2 - 1)) fun oe4 =>
    lk oe4 (fun e4 =>
      bif decide (e4 < e2) then
        ckB (ix a_1 ((data_0.set (Int.toNat a_1) (data_0.getD (Int.toNat pivot_3) [])).set (Int.toNat pivot_3) (data_0.getD (Int.toNat a_1) [])).length) <|
        ckB (ix a_1 ((data_0.set (Int.toNat a_1) (data_0.getD (Int.toNat pivot_3) [])).set (Int.toNat pivot_3) (data_0.getD (Int.toNat a_1) [])).length) <|
        ckB (ix e4 ((data_0.set (Int.toNat a_1) (data_0.getD (Int.toNat pivot_3) [])).set (Int.toNat pivot_3) (data_0.getD (Int.toNat a_1) [])).length) <|
        ckB (ix e4 ((data_0.set (Int.toNat a_1) (data_0.getD (Int.toNat pivot_3) [])).set (Int.toNat pivot_3) (data_0.getD (Int.toNat a_1) [])).length) <|
        ckB (ix e4 ((data_0.set (Int.toNat a_1) (data_0.getD (Int.toNat pivot_3) [])).set (Int.toNat pivot_3) (data_0.getD (Int.toNat a_1) [])).length) <|
        ckB (ix e4 ((data_0.set (Int.toNat a_1) (data_0.getD (Int.toNat pivot_3) [])).set (Int.toNat pivot_3) (data_0.getD (Int.toNat a_1) [])).length) <|
        ckB (ix a_1 (((data_0.set (Int.toNat a_1) (data_0.getD (Int.toNat pivot_3) [])).set (Int.toNat pivot_3) (data_0.getD (Int.toNat a_1) [])).set (Int.toNat e4) (((data_0.set (Int.toNat a_1) (data_0.getD (Int.toNat pivot_3) [])).set (Int.toNat pivot_3) (data_0.getD (Int.toNat a_1) [])).getD (Int.toNat a_1) [])).length) <|
        ckB (ix a_1 (((data_0.set (Int.toNat a_1) (data_0.getD (Int.toNat pivot_3) [])).set (Int.toNat pivot_3) (data_0.getD (Int.toNat a_1) [])).set (Int.toNat e4) (((data_0.set (Int.toNat a_1) (data_0.getD (Int.toNat pivot_3) [])).set (Int.toNat pivot_3) (data_0.getD (Int.toNat a_1) [])).getD (Int.toNat a_1) [])).length) <|
        some (e4,true,((((data_0.set (Int.toNat a_1) (data_0.getD (Int.toNat pivot_3) [])).set (Int.toNat pivot_3) (data_0.getD (Int.toNat a_1) [])).set (Int.toNat e4) (((data_0.set (Int.toNat a_1) (data_0.getD (Int.toNat pivot_3) [])).set (Int.toNat pivot_3) (data_0.getD (Int.toNat a_1) [])).getD (Int.toNat a_1) [])).set (Int.toNat a_1) (((data_0.set (Int.toNat a_1) (data_0.getD (Int.toNat pivot_3) [])).set (Int.toNat pivot_3) (data_0.getD (Int.toNat a_1) [])).getD (Int.toNat e4) [])))
      else
        ckB (ix e4 ((data_0.set (Int.toNat a_1) (data_0.getD (Int.toNat pivot_3) [])).set (Int.toNat pivot_3) (data_0.getD (Int.toNat a_1) [])).length) <|
        ckB (ix e4 ((data_0.set (Int.toNat a_1) (data_0.getD (Int.toNat pivot_3) [])).set (Int.toNat pivot_3) (data_0.getD (Int.toNat a_1) [])).length) <|
        ckB (ix e2 ((data_0.set (Int.toNat a_1) (data_0.getD (Int.toNat pivot_3) [])).set (Int.toNat pivot_3) (data_0.getD (Int.toNat a_1) [])).length) <|
        ckB (ix e2 ((data_0.set (Int.toNat a_1) (data_0.getD (Int.toNat pivot_3) [])).set (Int.toNat pivot_3) (data_0.getD (Int.toNat a_1) [])).length) <|
        ckB (ix e2 ((data_0.set (Int.toNat a_1) (data_0.getD (Int.toNat pivot_3) [])).set (Int.toNat pivot_3) (data_0.getD (Int.toNat a_1) [])).length) <|
        ckB (ix e2 ((data_0.set (Int.toNat a_1) (data_0.getD (Int.toNat pivot_3) [])).set (Int.toNat pivot_3) (data_0.getD (Int.toNat a_1) [])).length) <|
        ckB (ix e4 (((data_0.set (Int.toNat a_1) (data_0.getD (Int.toNat pivot_3) [])).set (Int.toNat pivot_3) (data_0.getD (Int.toNat a_1) [])).set (Int.toNat e2) (((data_0.set (Int.toNat a_1) (data_0.getD (Int.toNat pivot_3) [])).set (Int.toNat pivot_3) (data_0.getD (Int.toNat a_1) [])).getD (Int.toNat e4) [])).length) <|
        ckB (ix e4 (((data_0.set (Int.toNat a_1) (data_0.getD (Int.toNat pivot_3) [])).set (Int.toNat pivot_3) (data_0.getD (Int.toNat a_1) [])).set (Int.toNat e2) (((data_0.set (Int.toNat a_1) (data_0.getD (Int.toNat pivot_3) [])).set (Int.toNat pivot_3) (data_0.getD (Int.toNat a_1) [])).getD (Int.toNat e4) [])).length) <|
        ckB (inR .i64 (e2 + 1)) <|
        ckB (inR .i64 (e4 - 1)) <|
        bnd (q4p a_1 ((e2 + 1),(e4 - 1),((((data_0.set (Int.toNat a_1) (data_0.getD (Int.toNat pivot_3) [])).set (Int.toNat pivot_3) (data_0.getD (Int.toNat a_1) [])).set (Int.toNat e2) (((data_0.set (Int.toNat a_1) (data_0.getD (Int.toNat pivot_3) [])).set (Int.toNat pivot_3) (data_0.getD (Int.toNat a_1) [])).getD (Int.toNat e4) [])).set (Int.toNat e4) (((data_0.set (Int.toNat a_1) (data_0.getD (Int.toNat pivot_3) [])).set (Int.toNat pivot_3) (data_0.getD (Int.toNat a_1) [])).getD (Int.toNat e2) [])))) fun oe9 =>
        lk oe9 (fun e9 =>
          ckB (ix a_1 e9.2.length) <|
          ckB (ix a_1 e9.2.length) <|
          ckB (ix e9.1 e9.2.length) <|
          ckB (ix e9.1 e9.2.length) <|
          ckB (ix e9.1 e9.2.length) <|
          ckB (ix e9.1 e9.2.length) <|
          ckB (ix a_1 (e9.2.set (Int.toNat e9.1) (e9.2.getD (Int.toNat a_1) [])).length) <|
          ckB (ix a_1 (e9.2.set (Int.toNat e9.1) (e9.2.getD (Int.toNat a_1) [])).length) <|
          some (e9.1,false,((e9.2.set (Int.toNat e9.1) (e9.2.getD (Int.toNat a_1) [])).set (Int.toNat a_1) (e9.2.getD (Int.toNat e9.1) [])))) (fun r=>some r)) (fun r=>some r)) (fun r=>some r)
def q54 {R:Type} (rec:((Unit × Int × Int × Int × (Unit) × Unit) × ((List (List Int)) × Unit)) → Option (List (List Int))) (a_1:Int) (b_2:Int) (limit_3:Int) (wasBalanced_10:Bool) (wasPartitioned_11:Bool) (length_12:Int) (pivot_13:Int) (v_75:Bool) (data_0:(List (List Int))) (dn:(List (List Int)) → Option R) (rt:(List (List Int)) → Option R):Option R :=
  bif v_75 then
    bnd (q1j a_1 b_2 data_0) fun r6 =>
    ckB (decide (r6.2.length=data_0.length)) <|
    bif r6.1 then
      rt r6.2
    else
      dn r6.2
  else
    dn data_0
def ql (rec:((Unit × Int × Int × Int × (Unit) × Unit) × ((List (List Int)) × Unit)) → Option (List (List Int))) (a_1:Int) (b_2:Int) (limit_3:Int) (wasBalanced_10:Bool) (wasPartitioned_11:Bool) (length_12:Int) (pivot_13:Int) (v_75:Bool) (data_0:(List (List Int))):Option ((List (List Int)) ⊕ (List (List Int))) :=
  q54 rec a_1 b_2 limit_3 wasBalanced_10 wasPartitioned_11 length_12 pivot_13 v_75 data_0 (fun e=>some (.inl e)) (fun r=>some (.inr r))
def q96:Shp:=⟨[(0,.own 0),(1,.d true (.int .i64)),(2,.d true (.int .i64)),(3,.d true (.int .i64)),(4,.fn 49 .nil),(10,.d true .bool),(11,.d true .bool),(12,.d true (.int .i64)),(13,.d true (.int .i64)),(75,.d true .bool)],[.arr 34 (.fz true) [3] (.slice (.int .i64))]⟩
def q90:Shp:=⟨[(0,.own 0),(1,.d true (.int .i64)),(2,.d true (.int .i64)),(3,.d true (.int .i64)),(4,.fn 49 .nil),(10,.d true .bool),(11,.d true .bool),(12,.d true (.int .i64)),(13,.d true (.int .i64))],[.arr 34 (.fz true) [3] (.slice (.int .i64))]⟩
def q34 {R:Type} (rec:((Unit × Int × Int × Int × (Unit) × Unit) × ((List (List Int)) × Unit)) → Option (List (List Int))) (a_1:Int) (b_2:Int) (limit_3:Int) (length_12:Int) (pivot_13:Int) (data_0:(List (List Int))) (dn:(Int × Int × Bool × Bool × (List (List Int))) → Option R) (rt:(List (List Int)) → Option R):Option R :=
  bnd (q38 a_1 b_2 pivot_13 data_0) fun r10 =>
  ckB (decide (r10.2.2.length=data_0.length)) <|
  ckB (inR .i64 (r10.1 - a_1)) <|
  ckB (inR .i64 (b_2 - r10.1)) <|
  ckB (!decide ((8:Int)=0)) <|
  ckB (inR .i64 (Int.tdiv length_12 8)) <|
  bif decide ((r10.1 - a_1) < (b_2 - r10.1)) then
    bnd (rec (((),a_1,r10.1,limit_3,(()),()),(r10.2.2,()))) fun r11 =>
    ckB (decide (r11.length=r10.2.2.length)) <|
    ckB (inR .i64 (r10.1 + 1)) <|
    dn ((r10.1 + 1),b_2,decide ((Int.tdiv length_12 8) ≤ (r10.1 - a_1)),r10.2.1,r11)
  else
    ckB (inR .i64 (r10.1 + 1)) <|
    bnd (rec (((),(r10.1 + 1),b_2,limit_3,(()),()),(r10.2.2,()))) fun r12 =>
    ckB (decide (r12.length=r10.2.2.length)) <|
    dn (a_1,r10.1,decide ((Int.tdiv length_12 8) ≤ (b_2 - r10.1)),r10.2.1,r12)
def qe (rec:((Unit × Int × Int × Int × (Unit) × Unit) × ((List (List Int)) × Unit)) → Option (List (List Int))) (a_1:Int) (b_2:Int) (limit_3:Int) (length_12:Int) (pivot_13:Int) (data_0:(List (List Int))):Option ((Int × Int × Bool × Bool × (List (List Int))) ⊕ (List (List Int))) :=
  q34 rec a_1 b_2 limit_3 length_12 pivot_13 data_0 (fun e=>some (.inl e)) (fun r=>some (.inr r))
def q8x:Shp:=⟨[(0,.own 0),(1,.d true (.int .i64)),(2,.d true (.int .i64)),(3,.d true (.int .i64)),(4,.fn 49 .nil),(12,.d true (.int .i64)),(13,.d true (.int .i64))],[.arr 34 (.fz true) [3] (.slice (.int .i64))]⟩
def q8w:Shp:=⟨[(0,.own 0),(1,.d true (.int .i64)),(2,.d true (.int .i64)),(3,.d true (.int .i64)),(4,.fn 49 .nil),(10,.d true .bool),(11,.d true .bool)],[.arr 34 (.fz true) [3] (.slice (.int .i64))]⟩
def q32 {R:Type} (rec:((Unit × Int × Int × Int × (Unit) × Unit) × ((List (List Int)) × Unit)) → Option (List (List Int)))  (a_1:Int) (b_2:Int) (limit_3:Int) (wasBalanced_10:Bool) (wasPartitioned_11:Bool) (data_0:(List (List Int))) (nx:(Int × Int × Int × Bool × Bool × (List (List Int))) → Option R) (dn:Unit → Option R) (rt:(List (List Int)) → Option R):Option R :=
  ckB (inR .i64 (b_2 - a_1)) <|
  bif decide ((b_2 - a_1) ≤ 12) then
    bnd (q1l a_1 b_2 data_0) fun r1 =>
    ckB (decide (r1.length=data_0.length)) <|
    rt r1
  else
    bif decide (limit_3=0) then
      bnd (q26 a_1 b_2 data_0) fun r2 =>
      ckB (decide (r2.length=data_0.length)) <|
      rt r2
    else
      bif (!wasBalanced_10) then
        bnd (q1k a_1 b_2 data_0) fun r3 =>
        ckB (decide (r3.length=data_0.length)) <|
        ckB (inR .i64 (limit_3 - 1)) <|
        bnd (q18 r3 a_1 b_2) fun r4 =>
        bif decide (r4.2=2) then
          bnd (q17 a_1 b_2 r3) fun r5 =>
          ckB (decide (r5.length=r3.length)) <|
          ckB (inR .i64 (b_2 - 1)) <|
          ckB (inR .i64 (r4.1 - a_1)) <|
          ckB (inR .i64 ((b_2 - 1) - (r4.1 - a_1))) <|
          bif wasBalanced_10 then
            bif wasPartitioned_11 then
              bnd (ql rec a_1 b_2 (limit_3 - 1) wasBalanced_10 wasPartitioned_11 (b_2 - a_1) ((b_2 - 1) - (r4.1 - a_1)) (decide ((1:Int)=1)) r5) fun oe7 =>
              lk oe7 (fun e7 =>
                bif decide ((0:Int) < a_1) then
                  ckB (inR .i64 (a_1 - 1)) <|
                  ckB (ix (a_1 - 1) e7.length) <|
                  ckB (ix (a_1 - 1) e7.length) <|
                  ckB (ix ((b_2 - 1) - (r4.1 - a_1)) e7.length) <|
                  ckB (ix ((b_2 - 1) - (r4.1 - a_1)) e7.length) <|
                  bnd (qk (e7.getD (Int.toNat (a_1 - 1)) []) (e7.getD (Int.toNat ((b_2 - 1) - (r4.1 - a_1))) [])) fun r8 =>
                  bif (!(decide (r8 < 0))) then
                    bnd (qi a_1 b_2 ((b_2 - 1) - (r4.1 - a_1)) e7) fun r9 =>
                    ckB (decide (r9.2.length=e7.length)) <|
                    nx (r9.1,b_2,(limit_3 - 1),wasBalanced_10,wasPartitioned_11,r9.2)
                  else
                    bnd (qe rec a_1 b_2 (limit_3 - 1) (b_2 - a_1) ((b_2 - 1) - (r4.1 - a_1)) e7) fun oe13 =>
                    lk oe13 (fun e13 =>
                      nx (e13.1,e13.2.1,(limit_3 - 1),e13.2.2.1,e13.2.2.2.1,e13.2.2.2.2)) (fun r=>rt r)
                else
                  bnd (qe rec a_1 b_2 (limit_3 - 1) (b_2 - a_1) ((b_2 - 1) - (r4.1 - a_1)) e7) fun oe14 =>
                  lk oe14 (fun e14 =>
                    nx (e14.1,e14.2.1,(limit_3 - 1),e14.2.2.1,e14.2.2.2.1,e14.2.2.2.2)) (fun r=>rt r)) (fun r=>rt r)
            else
              bnd (ql rec a_1 b_2 (limit_3 - 1) wasBalanced_10 wasPartitioned_11 (b_2 - a_1) ((b_2 - 1) - (r4.1 - a_1)) false r5) fun oe15 =>
              lk oe15 (fun e15 =>
                bif decide ((0:Int) < a_1) then
                  ckB (inR .i64 (a_1 - 1)) <|
                  ckB (ix (a_1 - 1) e15.length) <|
                  ckB (ix (a_1 - 1) e15.length) <|
                  ckB (ix ((b_2 - 1) - (r4.1 - a_1)) e15.length) <|
                  ckB (ix ((b_2 - 1) - (r4.1 - a_1)) e15.length) <|
                  bnd (qk (e15.getD (Int.toNat (a_1 - 1)) []) (e15.getD (Int.toNat ((b_2 - 1) - (r4.1 - a_1))) [])) fun r16 =>
                  bif (!(decide (r16 < 0))) then
                    bnd (qi a_1 b_2 ((b_2 - 1) - (r4.1 - a_1)) e15) fun r17 =>
                    ckB (decide (r17.2.length=e15.length)) <|
                    nx (r17.1,b_2,(limit_3 - 1),wasBalanced_10,wasPartitioned_11,r17.2)
                  else
                    bnd (qe rec a_1 b_2 (limit_3 - 1) (b_2 - a_1) ((b_2 - 1) - (r4.1 - a_1)) e15) fun oe18 =>
                    lk oe18 (fun e18 =>
                      nx (e18.1,e18.2.1,(limit_3 - 1),e18.2.2.1,e18.2.2.2.1,e18.2.2.2.2)) (fun r=>rt r)
                else
                  bnd (qe rec a_1 b_2 (limit_3 - 1) (b_2 - a_1) ((b_2 - 1) - (r4.1 - a_1)) e15) fun oe19 =>
                  lk oe19 (fun e19 =>
                    nx (e19.1,e19.2.1,(limit_3 - 1),e19.2.2.1,e19.2.2.2.1,e19.2.2.2.2)) (fun r=>rt r)) (fun r=>rt r)
          else
            bnd (ql rec a_1 b_2 (limit_3 - 1) wasBalanced_10 wasPartitioned_11 (b_2 - a_1) ((b_2 - 1) - (r4.1 - a_1)) false r5) fun oe20 =>
            lk oe20 (fun e20 =>
              bif decide ((0:Int) < a_1) then
                ckB (inR .i64 (a_1 - 1)) <|
                ckB (ix (a_1 - 1) e20.length) <|
                ckB (ix (a_1 - 1) e20.length) <|
                ckB (ix ((b_2 - 1) - (r4.1 - a_1)) e20.length) <|
                ckB (ix ((b_2 - 1) - (r4.1 - a_1)) e20.length) <|
                bnd (qk (e20.getD (Int.toNat (a_1 - 1)) []) (e20.getD (Int.toNat ((b_2 - 1) - (r4.1 - a_1))) [])) fun r21 =>
                bif (!(decide (r21 < 0))) then
                  bnd (qi a_1 b_2 ((b_2 - 1) - (r4.1 - a_1)) e20) fun r22 =>
                  ckB (decide (r22.2.length=e20.length)) <|
                  nx (r22.1,b_2,(limit_3 - 1),wasBalanced_10,wasPartitioned_11,r22.2)
                else
                  bnd (qe rec a_1 b_2 (limit_3 - 1) (b_2 - a_1) ((b_2 - 1) - (r4.1 - a_1)) e20) fun oe23 =>
                  lk oe23 (fun e23 =>
                    nx (e23.1,e23.2.1,(limit_3 - 1),e23.2.2.1,e23.2.2.2.1,e23.2.2.2.2)) (fun r=>rt r)
              else
                bnd (qe rec a_1 b_2 (limit_3 - 1) (b_2 - a_1) ((b_2 - 1) - (r4.1 - a_1)) e20) fun oe24 =>
                lk oe24 (fun e24 =>
                  nx (e24.1,e24.2.1,(limit_3 - 1),e24.2.2.1,e24.2.2.2.1,e24.2.2.2.2)) (fun r=>rt r)) (fun r=>rt r)
        else
          bif wasBalanced_10 then
            bif wasPartitioned_11 then
              bnd (ql rec a_1 b_2 (limit_3 - 1) wasBalanced_10 wasPartitioned_11 (b_2 - a_1) r4.1 (decide (r4.2=1)) r3) fun oe25 =>
              lk oe25 (fun e25 =>
                bif decide ((0:Int) < a_1) then
                  ckB (inR .i64 (a_1 - 1)) <|
                  ckB (ix (a_1 - 1) e25.length) <|
                  ckB (ix (a_1 - 1) e25.length) <|
                  ckB (ix r4.1 e25.length) <|
                  ckB (ix r4.1 e25.length) <|
                  bnd (qk (e25.getD (Int.toNat (a_1 - 1)) []) (e25.getD (Int.toNat r4.1) [])) fun r26 =>
                  bif (!(decide (r26 < 0))) then
                    bnd (qi a_1 b_2 r4.1 e25) fun r27 =>
                    ckB (decide (r27.2.length=e25.length)) <|
                    nx (r27.1,b_2,(limit_3 - 1),wasBalanced_10,wasPartitioned_11,r27.2)
                  else
                    bnd (qe rec a_1 b_2 (limit_3 - 1) (b_2 - a_1) r4.1 e25) fun oe28 =>
                    lk oe28 (fun e28 =>
                      nx (e28.1,e28.2.1,(limit_3 - 1),e28.2.2.1,e28.2.2.2.1,e28.2.2.2.2)) (fun r=>rt r)
                else
                  bnd (qe rec a_1 b_2 (limit_3 - 1) (b_2 - a_1) r4.1 e25) fun oe29 =>
                  lk oe29 (fun e29 =>
                    nx (e29.1,e29.2.1,(limit_3 - 1),e29.2.2.1,e29.2.2.2.1,e29.2.2.2.2)) (fun r=>rt r)) (fun r=>rt r)
            else
              bnd (ql rec a_1 b_2 (limit_3 - 1) wasBalanced_10 wasPartitioned_11 (b_2 - a_1) r4.1 false r3) fun oe30 =>
              lk oe30 (fun e30 =>
                bif decide ((0:Int) < a_1) then
                  ckB (inR .i64 (a_1 - 1)) <|
                  ckB (ix (a_1 - 1) e30.length) <|
                  ckB (ix (a_1 - 1) e30.length) <|
                  ckB (ix r4.1 e30.length) <|
                  ckB (ix r4.1 e30.length) <|
                  bnd (qk (e30.getD (Int.toNat (a_1 - 1)) []) (e30.getD (Int.toNat r4.1) [])) fun r31 =>
                  bif (!(decide (r31 < 0))) then
                    bnd (qi a_1 b_2 r4.1 e30) fun r32 =>
                    ckB (decide (r32.2.length=e30.length)) <|
                    nx (r32.1,b_2,(limit_3 - 1),wasBalanced_10,wasPartitioned_11,r32.2)
                  else
                    bnd (qe rec a_1 b_2 (limit_3 - 1) (b_2 - a_1) r4.1 e30) fun oe33 =>
                    lk oe33 (fun e33 =>
                      nx (e33.1,e33.2.1,(limit_3 - 1),e33.2.2.1,e33.2.2.2.1,e33.2.2.2.2)) (fun r=>rt r)
                else
                  bnd (qe rec a_1 b_2 (limit_3 - 1) (b_2 - a_1) r4.1 e30) fun oe34 =>
                  lk oe34 (fun e34 =>
                    nx (e34.1,e34.2.1,(limit_3 - 1),e34.2.2.1,e34.2.2.2.1,e34.2.2.2.2)) (fun r=>rt r)) (fun r=>rt r)
          else
            bnd (ql rec a_1 b_2 (limit_3 - 1) wasBalanced_10 wasPartitioned_11 (b_2 - a_1) r4.1 false r3) fun oe35 =>
            lk oe35 (fun e35 =>
              bif decide ((0:Int) < a_1) then
                ckB (inR .i64 (a_1 - 1)) <|
                ckB (ix (a_1 - 1) e35.length) <|
                ckB (ix (a_1 - 1) e35.length) <|
                ckB (ix r4.1 e35.length) <|
                ckB (ix r4.1 e35.length) <|
                bnd (qk (e35.getD (Int.toNat (a_1 - 1)) []) (e35.getD (Int.toNat r4.1) [])) fun r36 =>
                bif (!(decide (r36 < 0))) then
                  bnd (qi a_1 b_2 r4.1 e35) fun r37 =>
                  ckB (decide (r37.2.length=e35.length)) <|
                  nx (r37.1,b_2,(limit_3 - 1),wasBalanced_10,wasPartitioned_11,r37.2)
                else
                  bnd (qe rec a_1 b_2 (limit_3 - 1) (b_2 - a_1) r4.1 e35) fun oe38 =>
                  lk oe38 (fun e38 =>
                    nx (e38.1,e38.2.1,(limit_3 - 1),e38.2.2.1,e38.2.2.2.1,e38.2.2.2.2)) (fun r=>rt r)
              else
                bnd (qe rec a_1 b_2 (limit_3 - 1) (b_2 - a_1) r4.1 e35) fun oe39 =>
                lk oe39 (fun e39 =>
                  nx (e39.1,e39.2.1,(limit_3 - 1),e39.2.2.1,e39.2.2.2.1,e39.2.2.2.2)) (fun r=>rt r)) (fun r=>rt r)
      else
        bnd (q18 data_0 a_1 b_2) fun r40 =>
        bif decide (r40.2=2) then
          bnd (q17 a_1 b_2 data_0) fun r41 =>
          ckB (decide (r41.length=data_0.length)) <|
          ckB (inR .i64 (b_2 - 1)) <|
          ckB (inR .i64 (r40.1 - a_1)) <|
          ckB (inR .i64 ((b_2 - 1) - (r40.1 - a_1))) <|
          bif wasBalanced_10 then
            bif wasPartitioned_11 then
              bnd (ql rec a_1 b_2 limit_3 wasBalanced_10 wasPartitioned_11 (b_2 - a_1) ((b_2 - 1) - (r40.1 - a_1)) (decide ((1:Int)=1)) r41) fun oe42 =>
              lk oe42 (fun e42 =>
                bif decide ((0:Int) < a_1) then
                  ckB (inR .i64 (a_1 - 1)) <|
                  ckB (ix (a_1 - 1) e42.length) <|
                  ckB (ix (a_1 - 1) e42.length) <|
                  ckB (ix ((b_2 - 1) - (r40.1 - a_1)) e42.length) <|
                  ckB (ix ((b_2 - 1) - (r40.1 - a_1)) e42.length) <|
                  bnd (qk (e42.getD (Int.toNat (a_1 - 1)) []) (e42.getD (Int.toNat ((b_2 - 1) - (r40.1 - a_1))) [])) fun r43 =>
                  bif (!(decide (r43 < 0))) then
                    bnd (qi a_1 b_2 ((b_2 - 1) - (r40.1 - a_1)) e42) fun r44 =>
                    ckB (decide (r44.2.length=e42.length)) <|
                    nx (r44.1,b_2,limit_3,wasBalanced_10,wasPartitioned_11,r44.2)
                  else
                    bnd (qe rec a_1 b_2 limit_3 (b_2 - a_1) ((b_2 - 1) - (r40.1 - a_1)) e42) fun oe45 =>
                    lk oe45 (fun e45 =>
                      nx (e45.1,e45.2.1,limit_3,e45.2.2.1,e45.2.2.2.1,e45.2.2.2.2)) (fun r=>rt r)
                else
                  bnd (qe rec a_1 b_2 limit_3 (b_2 - a_1) ((b_2 - 1) - (r40.1 - a_1)) e42) fun oe46 =>
                  lk oe46 (fun e46 =>
                    nx (e46.1,e46.2.1,limit_3,e46.2.2.1,e46.2.2.2.1,e46.2.2.2.2)) (fun r=>rt r)) (fun r=>rt r)
            else
              bnd (ql rec a_1 b_2 limit_3 wasBalanced_10 wasPartitioned_11 (b_2 - a_1) ((b_2 - 1) - (r40.1 - a_1)) false r41) fun oe47 =>
              lk oe47 (fun e47 =>
                bif decide ((0:Int) < a_1) then
                  ckB (inR .i64 (a_1 - 1)) <|
                  ckB (ix (a_1 - 1) e47.length) <|
                  ckB (ix (a_1 - 1) e47.length) <|
                  ckB (ix ((b_2 - 1) - (r40.1 - a_1)) e47.length) <|
                  ckB (ix ((b_2 - 1) - (r40.1 - a_1)) e47.length) <|
                  bnd (qk (e47.getD (Int.toNat (a_1 - 1)) []) (e47.getD (Int.toNat ((b_2 - 1) - (r40.1 - a_1))) [])) fun r48 =>
                  bif (!(decide (r48 < 0))) then
                    bnd (qi a_1 b_2 ((b_2 - 1) - (r40.1 - a_1)) e47) fun r49 =>
                    ckB (decide (r49.2.length=e47.length)) <|
                    nx (r49.1,b_2,limit_3,wasBalanced_10,wasPartitioned_11,r49.2)
                  else
                    bnd (qe rec a_1 b_2 limit_3 (b_2 - a_1) ((b_2 - 1) - (r40.1 - a_1)) e47) fun oe50 =>
                    lk oe50 (fun e50 =>
                      nx (e50.1,e50.2.1,limit_3,e50.2.2.1,e50.2.2.2.1,e50.2.2.2.2)) (fun r=>rt r)
                else
                  bnd (qe rec a_1 b_2 limit_3 (b_2 - a_1) ((b_2 - 1) - (r40.1 - a_1)) e47) fun oe51 =>
                  lk oe51 (fun e51 =>
                    nx (e51.1,e51.2.1,limit_3,e51.2.2.1,e51.2.2.2.1,e51.2.2.2.2)) (fun r=>rt r)) (fun r=>rt r)
          else
            bnd (ql rec a_1 b_2 limit_3 wasBalanced_10 wasPartitioned_11 (b_2 - a_1) ((b_2 - 1) - (r40.1 - a_1)) false r41) fun oe52 =>
            lk oe52 (fun e52 =>
              bif decide ((0:Int) < a_1) then
                ckB (inR .i64 (a_1 - 1)) <|
                ckB (ix (a_1 - 1) e52.length) <|
                ckB (ix (a_1 - 1) e52.length) <|
                ckB (ix ((b_2 - 1) - (r40.1 - a_1)) e52.length) <|
                ckB (ix ((b_2 - 1) - (r40.1 - a_1)) e52.length) <|
                bnd (qk (e52.getD (Int.toNat (a_1 - 1)) []) (e52.getD (Int.toNat ((b_2 - 1) - (r40.1 - a_1))) [])) fun r53 =>
                bif (!(decide (r53 < 0))) then
                  bnd (qi a_1 b_2 ((b_2 - 1) - (r40.1 - a_1)) e52) fun r54 =>
                  ckB (decide (r54.2.length=e52.length)) <|
                  nx (r54.1,b_2,limit_3,wasBalanced_10,wasPartitioned_11,r54.2)
                else
                  bnd (qe rec a_1 b_2 limit_3 (b_2 - a_1) ((b_2 - 1) - (r40.1 - a_1)) e52) fun oe55 =>
                  lk oe55 (fun e55 =>
                    nx (e55.1,e55.2.1,limit_3,e55.2.2.1,e55.2.2.2.1,e55.2.2.2.2)) (fun r=>rt r)
              else
                bnd (qe rec a_1 b_2 limit_3 (b_2 - a_1) ((b_2 - 1) - (r40.1 - a_1)) e52) fun oe56 =>
                lk oe56 (fun e56 =>
                  nx (e56.1,e56.2.1,limit_3,e56.2.2.1,e56.2.2.2.1,e56.2.2.2.2)) (fun r=>rt r)) (fun r=>rt r)
        else
          bif wasBalanced_10 then
            bif wasPartitioned_11 then
              bnd (ql rec a_1 b_2 limit_3 wasBalanced_10 wasPartitioned_11 (b_2 - a_1) r40.1 (decide (r40.2=1)) data_0) fun oe57 =>
              lk oe57 (fun e57 =>
                bif decide ((0:Int) < a_1) then
                  ckB (inR .i64 (a_1 - 1)) <|
                  ckB (ix (a_1 - 1) e57.length) <|
                  ckB (ix (a_1 - 1) e57.length) <|
                  ckB (ix r40.1 e57.length) <|
                  ckB (ix r40.1 e57.length) <|
                  bnd (qk (e57.getD (Int.toNat (a_1 - 1)) []) (e57.getD (Int.toNat r40.1) [])) fun r58 =>
                  bif (!(decide (r58 < 0))) then
                    bnd (qi a_1 b_2 r40.1 e57) fun r59 =>
                    ckB (decide (r59.2.length=e57.length)) <|
                    nx (r59.1,b_2,limit_3,wasBalanced_10,wasPartitioned_11,r59.2)
                  else
                    bnd (qe rec a_1 b_2 limit_3 (b_2 - a_1) r40.1 e57) fun oe60 =>
                    lk oe60 (fun e60 =>
                      nx (e60.1,e60.2.1,limit_3,e60.2.2.1,e60.2.2.2.1,e60.2.2.2.2)) (fun r=>rt r)
                else
                  bnd (qe rec a_1 b_2 limit_3 (b_2 - a_1) r40.1 e57) fun oe61 =>
                  lk oe61 (fun e61 =>
                    nx (e61.1,e61.2.1,limit_3,e61.2.2.1,e61.2.2.2.1,e61.2.2.2.2)) (fun r=>rt r)) (fun r=>rt r)
            else
              bnd (ql rec a_1 b_2 limit_3 wasBalanced_10 wasPartitioned_11 (b_2 - a_1) r40.1 false data_0) fun oe62 =>
              lk oe62 (fun e62 =>
                bif decide ((0:Int) < a_1) then
                  ckB (inR .i64 (a_1 - 1)) <|
                  ckB (ix (a_1 - 1) e62.length) <|
                  ckB (ix (a_1 - 1) e62.length) <|
                  ckB (ix r40.1 e62.length) <|
                  ckB (ix r40.1 e62.length) <|
                  bnd (qk (e62.getD (Int.toNat (a_1 - 1)) []) (e62.getD (Int.toNat r40.1) [])) fun r63 =>
                  bif (!(decide (r63 < 0))) then
                    bnd (qi a_1 b_2 r40.1 e62) fun r64 =>
                    ckB (decide (r64.2.length=e62.length)) <|
                    nx (r64.1,b_2,limit_3,wasBalanced_10,wasPartitioned_11,r64.2)
                  else
                    bnd (qe rec a_1 b_2 limit_3 (b_2 - a_1) r40.1 e62) fun oe65 =>
                    lk oe65 (fun e65 =>
                      nx (e65.1,e65.2.1,limit_3,e65.2.2.1,e65.2.2.2.1,e65.2.2.2.2)) (fun r=>rt r)
                else
                  bnd (qe rec a_1 b_2 limit_3 (b_2 - a_1) r40.1 e62) fun oe66 =>
                  lk oe66 (fun e66 =>
                    nx (e66.1,e66.2.1,limit_3,e66.2.2.1,e66.2.2.2.1,e66.2.2.2.2)) (fun r=>rt r)) (fun r=>rt r)
          else
            bnd (ql rec a_1 b_2 limit_3 wasBalanced_10 wasPartitioned_11 (b_2 - a_1) r40.1 false data_0) fun oe67 =>
            lk oe67 (fun e67 =>
              bif decide ((0:Int) < a_1) then
                ckB (inR .i64 (a_1 - 1)) <|
                ckB (ix (a_1 - 1) e67.length) <|
                ckB (ix (a_1 - 1) e67.length) <|
                ckB (ix r40.1 e67.length) <|
                ckB (ix r40.1 e67.length) <|
                bnd (qk (e67.getD (Int.toNat (a_1 - 1)) []) (e67.getD (Int.toNat r40.1) [])) fun r68 =>
                bif (!(decide (r68 < 0))) then
                  bnd (qi a_1 b_2 r40.1 e67) fun r69 =>
                  ckB (decide (r69.2.length=e67.length)) <|
                  nx (r69.1,b_2,limit_3,wasBalanced_10,wasPartitioned_11,r69.2)
                else
                  bnd (qe rec a_1 b_2 limit_3 (b_2 - a_1) r40.1 e67) fun oe70 =>
                  lk oe70 (fun e70 =>
                    nx (e70.1,e70.2.1,limit_3,e70.2.2.1,e70.2.2.2.1,e70.2.2.2.2)) (fun r=>rt r)
              else
                bnd (qe rec a_1 b_2 limit_3 (b_2 - a_1) r40.1 e67) fun oe71 =>
                lk oe71 (fun e71 =>
                  nx (e71.1,e71.2.1,limit_3,e71.2.2.1,e71.2.2.2.1,e71.2.2.2.2)) (fun r=>rt r)) (fun r=>rt r)
def q9r (rec:((Unit × Int × Int × Int × (Unit) × Unit) × ((List (List Int)) × Unit)) → Option (List (List Int)))  (s0:(Int × Int × Int × Bool × Bool × (List (List Int)))):Option (Unit ⊕ (List (List Int))) :=
  loopM (fun a=>q32 rec  a.1 a.2.1 a.2.2.1 a.2.2.2.1 a.2.2.2.2.1 a.2.2.2.2.2 (fun a'=>some (.next a')) (fun e=>some (.done e)) (fun r=>some (.ret r))) s0
def q94:Shp:=⟨[(0,.own 0),(1,.d true (.int .i64)),(2,.d true (.int .i64)),(3,.d true (.int .i64)),(4,.fn 49 .nil),(10,.d true .bool),(11,.d true .bool)],[.arr 34 (.fz true) [3] (.slice (.int .i64))]⟩
def q95:Shp:=⟨[],[]⟩
def q1n (rec:((Unit × Int × Int × Int × (Unit) × Unit) × ((List (List Int)) × Unit)) → Option (List (List Int))) (a_1:Int) (b_2:Int) (limit_3:Int) (data_0:(List (List Int))):Option (List (List Int)) :=
  bnd (q9r rec  (a_1,b_2,limit_3,true,true,data_0)) fun oe72 =>
  lk oe72 (fun e72 =>
    none) (fun r=>some r)
def qad (a:((Unit × Int × Int × Int × (Unit) × Unit) × ((List (List Int)) × Unit))):Option (List (List Int)) :=
  recM (fun (rec:((Unit × Int × Int × Int × (Unit) × Unit) × ((List (List Int)) × Unit)) → Option (List (List Int))) (a:((Unit × Int × Int × Int × (Unit) × Unit) × ((List (List Int)) × Unit)))=>q1n rec a.1.2.1 a.1.2.2.1 a.1.2.2.2.1 a.2.1) many a
def q6m (a_1:Int) (b_2:Int) (limit_3:Int) (data_0:(List (List Int))):Option (List (List Int)) :=
  qad (((),a_1,b_2,limit_3,(()),()),(data_0,()))
def q30 (x_0:(List (List Int))):Option (List (List Int)) :=
  bnd (qnc (IntKind.wrap .u64 (x_0.length:Int))) fun r1 =>
  bnd (q6m 0 (x_0.length:Int) r1 x_0) fun r2 =>
  ckB (decide (r2.length=x_0.length)) <|
  some r2
def qkf {R:Type} (s_6:Int) (v_18:(List Int)) (v_19:Int) (v_20:Int) (v_25:Int) (n_10:Int) (n_11:(List Trans)) (n_12:Int) (n_13:Int) (out_4:(List (List Int))) (v_26:Int) (l_7:(List Int)) (nx:(Int × (List Int)) → Option R) (dn:(List Int) → Option R) (rt:(Int × (List (List Int))) → Option R):Option R :=
  bif decide (v_26 < v_25) then
    ckB (decide (0 ≤ v_26)) <|
    bif decide ((bitI .and .u32 (shrI .u32 s_6 v_26) 1)=1) then
      ckB (room (l_7.length + 1) 8) <|
      ckB (inR .i64 (v_26 + 1)) <|
      nx ((v_26 + 1),(l_7 ++ [v_26]))
    else
      ckB (inR .i64 (v_26 + 1)) <|
      nx ((v_26 + 1),l_7)
  else
    dn l_7
def qwg (s_6:Int) (v_18:(List Int)) (v_19:Int) (v_20:Int) (v_25:Int) (n_10:Int) (n_11:(List Trans)) (n_12:Int) (n_13:Int) (out_4:(List (List Int))) (s0:(Int × (List Int))):Option ((List Int) ⊕ (Int × (List (List Int)))) :=
  loopM (fun a=>qkf s_6 v_18 v_19 v_20 v_25 n_10 n_11 n_12 n_13 out_4 a.1 a.2 (fun a'=>some (.next a')) (fun e=>some (.done e)) (fun r=>some (.ret r))) s0
def qks:Shp:=⟨[(1,.ptr 0),(4,.nl false (.own 1)),(6,.d true (.int .u32)),(7,.nl false (.own 2)),(18,.nl false (.d true (.slice (.int .u32)))),(19,.d true (.int .i64)),(20,.d true (.int .i64)),(25,.d true (.int .i64)),(26,.d true (.int .i64))],[.cs 24 4 1 (.cons (.d true (.int .i64)) (.cons (.d false (.slice Trans.ty)) (.cons (.d true (.int .i64)) (.cons (.d true (.int .i64)) .nil)))),.arr 34 (.fz true) [3] (.slice (.int .i64)),.arr 3 (.fz true) [0] (.int .i64)]⟩
def ql2:Shp:=⟨[(1,.ptr 0),(4,.nl false (.own 1)),(7,.nl false (.own 2)),(18,.nl false (.d true (.slice (.int .u32)))),(19,.d true (.int .i64)),(20,.d true (.int .i64))],[.cs 24 4 1 (.cons (.d true (.int .i64)) (.cons (.d false (.slice Trans.ty)) (.cons (.d true (.int .i64)) (.cons (.d true (.int .i64)) .nil)))),.arr 34 (.fz true) [3] (.slice (.int .i64)),.arr 3 (.fz true) [0] (.int .i64)]⟩
def qkt {R:Type} (v_18:(List Int)) (v_19:Int) (n_10:Int) (n_11:(List Trans)) (n_12:Int) (n_13:Int) (v_20:Int) (out_4:(List (List Int))) (nx:(Int × (List (List Int))) → Option R) (dn:(List (List Int)) → Option R) (rt:(Int × (List (List Int))) → Option R):Option R :=
  bif decide (v_20 < v_19) then
    ckB (ix v_20 v_18.length) <|
    ckB (ix v_20 v_18.length) <|
    bnd (qwg (v_18.getD (Int.toNat v_20) 0) v_18 v_19 v_20 n_10 n_10 n_11 n_12 n_13 out_4 (0,[])) fun oe3 =>
    lk oe3 (fun e3 =>
      ckB (room (out_4.length + 1) 24) <|
      ckB (inR .i64 (v_20 + 1)) <|
      nx ((v_20 + 1),(out_4 ++ [e3]))) (fun r=>rt r)
  else
    dn out_4
def qvl (v_18:(List Int)) (v_19:Int) (n_10:Int) (n_11:(List Trans)) (n_12:Int) (n_13:Int) (s0:(Int × (List (List Int)))):Option ((List (List Int)) ⊕ (Int × (List (List Int)))) :=
  loopM (fun a=>qkt v_18 v_19 n_10 n_11 n_12 n_13 a.1 a.2 (fun a'=>some (.next a')) (fun e=>some (.done e)) (fun r=>some (.ret r))) s0
def qkm:Shp:=⟨[(1,.ptr 0),(4,.nl false (.own 1)),(18,.nl false (.d true (.slice (.int .u32)))),(19,.d true (.int .i64)),(20,.d true (.int .i64))],[.cs 24 4 1 (.cons (.d true (.int .i64)) (.cons (.d false (.slice Trans.ty)) (.cons (.d true (.int .i64)) (.cons (.d true (.int .i64)) .nil)))),.arr 34 (.fz true) [3] (.slice (.int .i64))]⟩
def qkr:Shp:=⟨[(4,.nl false (.own 0))],[.arr 34 (.fz true) [3] (.slice (.int .i64))]⟩
def qpt (n_00:Int) (n_01:(List Trans)) (n_02:Int) (n_03:Int):Option (Int × (List (List Int))) :=
  bnd (qa4 (n_00,n_01,n_02,n_03,())) fun r1 =>
  bif (!r1) then
    some (1,[])
  else
    bif decide ((16:Int) < n_00) then
      some (13,[])
    else
      bnd (qbe (n_00,n_01,n_02,n_03,())) fun r2 =>
      bnd (qvl r2 (r2.length:Int) n_00 n_01 n_02 n_03 (0,[])) fun oe4 =>
      lk oe4 (fun e4 =>
        bnd (q30 e4) fun r5 =>
        ckB (decide (r5.length=e4.length)) <|
        some (0,r5)) (fun r=>some r)
def qs1 {R:Type} (l_1:(List Int)) (v_7:(List Int)) (v_8:Int) (n_20:Int) (n_21:(List Trans)) (n_22:Int) (n_23:Int) (v_9:Int) (nx:Int → Option R) (dn:Unit → Option R) (rt:Bool → Option R):Option R :=
  bif decide (v_9 < v_8) then
    ckB (ix v_9 v_7.length) <|
    ckB (ix v_9 v_7.length) <|
    bif decide ((v_7.getD (Int.toNat v_9) 0) < 0) then
      rt false
    else
      bif decide (n_20 ≤ (v_7.getD (Int.toNat v_9) 0)) then
        rt false
      else
        bif decide ((0:Int) < v_9) then
          ckB (inR .i64 (v_9 - 1)) <|
          ckB (ix (v_9 - 1) l_1.length) <|
          ckB (ix (v_9 - 1) l_1.length) <|
          bif decide ((v_7.getD (Int.toNat v_9) 0) ≤ (l_1.getD (Int.toNat (v_9 - 1)) 0)) then
            rt false
          else
            ckB (inR .i64 (v_9 + 1)) <|
            nx (v_9 + 1)
        else
          ckB (inR .i64 (v_9 + 1)) <|
          nx (v_9 + 1)
  else
    dn ()
def q10y (l_1:(List Int)) (v_7:(List Int)) (v_8:Int) (n_20:Int) (n_21:(List Trans)) (n_22:Int) (n_23:Int) (s0:Int):Option (Unit ⊕ Bool) :=
  loopM (fun a=>qs1 l_1 v_7 v_8 n_20 n_21 n_22 n_23 a (fun a'=>some (.next a')) (fun e=>some (.done e)) (fun r=>some (.ret r))) s0
def qsa:Shp:=⟨[(1,.d false (.slice (.int .i64))),(2,.ptr 0),(7,.d false (.slice (.int .i64))),(8,.d true (.int .i64)),(9,.d true (.int .i64))],[.cs 24 4 1 (.cons (.d true (.int .i64)) (.cons (.d false (.slice Trans.ty)) (.cons (.d true (.int .i64)) (.cons (.d true (.int .i64)) .nil))))]⟩
def qs9:Shp:=⟨[],[]⟩
def qr0 (n_0:Net) (l_1:(List Int)):Option Bool :=
  bnd (q10y l_1 l_1 (l_1.length:Int) n_0.1 n_0.2.1 n_0.2.2.1 n_0.2.2.2.1 0) fun oe1 =>
  lk oe1 (fun e1 =>
    some true) (fun r=>some r)
def qsz (n_0:Net) (l_1:(List Int)):Option Int :=
  bnd (qa4 n_0) fun r1 =>
  bif (!r1) then
    some 1
  else
    bnd (qr0 n_0 l_1) fun r2 =>
    bif (!r2) then
      some 2
    else
      some 0
def qek (t_0:Trans) (trap_1:Bool):Option ((List Int) × (List Int)) :=
  bif trap_1 then
    some (t_0.2.1,t_0.2.2.1)
  else
    some (t_0.2.2.1,t_0.2.1)
def q65 {R:Type} (s_0:(List Int)) (v_1:Int) (v_7:Int) (v_8:Int) (nx:Int → Option R) (dn:Unit → Option R) (rt:Int → Option R):Option R :=
  bif decide (v_8 < v_7) then
    ckB (ix v_8 s_0.length) <|
    ckB (ix v_8 s_0.length) <|
    bif decide (v_1=(s_0.getD (Int.toNat v_8) 0)) then
      rt v_8
    else
      ckB (inR .i64 (v_8 + 1)) <|
      nx (v_8 + 1)
  else
    dn ()
def qem (s_0:(List Int)) (v_1:Int) (v_7:Int) (s0:Int):Option (Unit ⊕ Int) :=
  loopM (fun a=>q65 s_0 v_1 v_7 a (fun a'=>some (.next a')) (fun e=>some (.done e)) (fun r=>some (.ret r))) s0
def qdx:Shp:=⟨[(0,.d false (.slice (.int .i64))),(1,.d true (.int .i64)),(7,.d true (.int .i64)),(8,.d true (.int .i64))],[]⟩
def qe1:Shp:=⟨[],[]⟩
def qbw (s_0:(List Int)) (v_1:Int):Option Int :=
  bnd (qem s_0 v_1 (s_0.length:Int) 0) fun oe1 =>
  lk oe1 (fun e1 =>
    some (-1)) (fun r=>some r)
def q43 (s_0:(List Int)) (v_1:Int):Option Bool :=
  bnd (qbw s_0 v_1) fun r1 =>
  some (decide ((0:Int) ≤ r1))
def qil (p_0:Int) (p_1:(List Int)):Option Bool :=
  ckB (ix 0 1) <|
  bnd (q43 p_1 p_0) fun r1 =>
  some r1
def q33 {R:Type} (s_0:(List Int)) (f_1c0:(List Int)) (v_7:Int) (v_8:Int) (nx:Int → Option R) (dn:Unit → Option R) (rt:Int → Option R):Option R :=
  bif decide (v_8 < v_7) then
    ckB (ix v_8 s_0.length) <|
    ckB (ix v_8 s_0.length) <|
    bnd (qil (s_0.getD (Int.toNat v_8) 0) f_1c0) fun r1 =>
    bif r1 then
      rt v_8
    else
      ckB (inR .i64 (v_8 + 1)) <|
      nx (v_8 + 1)
  else
    dn ()
def q9e (s_0:(List Int)) (f_1c0:(List Int)) (v_7:Int) (s0:Int):Option (Unit ⊕ Int) :=
  loopM (fun a=>q33 s_0 f_1c0 v_7 a (fun a'=>some (.next a')) (fun e=>some (.done e)) (fun r=>some (.ret r))) s0
def q8v:Shp:=⟨[(0,.d false (.slice (.int .i64))),(1,.fn 109 (.cons (.rp false (.slice (.int .i64))) .nil)),(7,.d true (.int .i64)),(8,.d true (.int .i64))],[]⟩
def q93:Shp:=⟨[],[]⟩
def q6f (s_0:(List Int)) (f_1c0:(List Int)):Option Int :=
  bnd (q9e s_0 f_1c0 (s_0.length:Int) 0) fun oe2 =>
  lk oe2 (fun e2 =>
    some (-1)) (fun r=>some r)
def q55 (s_0:(List Int)) (f_1c0:(List Int)):Option Bool :=
  bnd (q6f s_0 f_1c0) fun r1 =>
  some (decide ((0:Int) ≤ r1))
def qb8 (a_0:(List Int)) (b_1:(List Int)):Option Bool :=
  bnd (q55 a_0 b_1) fun r1 =>
  some r1
def qco (t_0:Trans) (p_1:Bool) (p_2:(List Int)):Option Bool :=
  ckB (ix 0 1) <|
  bnd (qek t_0 p_1) fun r1 =>
  ckB (ix 0 1) <|
  bnd (qb8 r1.1 p_2) fun r2 =>
  bif r2 then
    ckB (ix 0 1) <|
    bnd (qb8 r1.2 p_2) fun r3 =>
    some (!r3)
  else
    some false
def q1h {R:Type} (s_0:(List Trans)) (f_1c0:Bool) (f_1c1:(List Int)) (v_7:Int) (v_8:Int) (nx:Int → Option R) (dn:Unit → Option R) (rt:Int → Option R):Option R :=
  bif decide (v_8 < v_7) then
    ckB (ix v_8 s_0.length) <|
    ckB (ix v_8 s_0.length) <|
    bnd (qco (s_0.getD (Int.toNat v_8) Trans.z) f_1c0 f_1c1) fun r1 =>
    bif r1 then
      rt v_8
    else
      ckB (inR .i64 (v_8 + 1)) <|
      nx (v_8 + 1)
  else
    dn ()
def q5b (s_0:(List Trans)) (f_1c0:Bool) (f_1c1:(List Int)) (v_7:Int) (s0:Int):Option (Unit ⊕ Int) :=
  loopM (fun a=>q1h s_0 f_1c0 f_1c1 v_7 a (fun a'=>some (.next a')) (fun e=>some (.done e)) (fun r=>some (.ret r))) s0
def q4w:Shp:=⟨[(0,.d false (.slice Trans.ty)),(1,.fn 92 (.cons (.rp false .bool) (.cons (.rp false (.slice (.int .i64))) .nil))),(7,.d true (.int .i64)),(8,.d true (.int .i64))],[]⟩
def q51:Shp:=⟨[],[]⟩
def q2z (s_0:(List Trans)) (f_1c0:Bool) (f_1c1:(List Int)):Option Int :=
  bnd (q5b s_0 f_1c0 f_1c1 (s_0.length:Int) 0) fun oe2 =>
  lk oe2 (fun e2 =>
    some (-1)) (fun r=>some r)
def q2g (s_0:(List Trans)) (f_1c0:Bool) (f_1c1:(List Int)):Option Bool :=
  bnd (q2z s_0 f_1c0 f_1c1) fun r1 =>
  some (decide ((0:Int) ≤ r1))
def qc6 (n_0:Net) (l_1:(List Int)) (trap_2:Bool):Option Bool :=
  bnd (q2g n_0.2.1 trap_2 l_1) fun r1 =>
  some (!r1)
def qoq (n_00:Int) (n_01:(List Trans)) (n_02:Int) (n_03:Int) (l_1:(List Int)):Option (Bool × Int) :=
  bnd (qsz (n_00,n_01,n_02,n_03,()) l_1) fun r1 =>
  bif (!decide (r1=0)) then
    some (false,r1)
  else
    bnd (qc6 (n_00,n_01,n_02,n_03,()) l_1 false) fun r2 =>
    some (r2,0)
def qh4 (k_0:Int):Option Bool :=
  bif decide (k_0 < 0) then
    some true
  else
    some (decide ((100:Int) < k_0))
def q3b {R:Type} (s_0:(List Int)) (v_7:Int) (v_8:Int) (nx:Int → Option R) (dn:Unit → Option R) (rt:Int → Option R):Option R :=
  bif decide (v_8 < v_7) then
    ckB (ix v_8 s_0.length) <|
    ckB (ix v_8 s_0.length) <|
    bnd (qh4 (s_0.getD (Int.toNat v_8) 0)) fun r1 =>
    bif r1 then
      rt v_8
    else
      ckB (inR .i64 (v_8 + 1)) <|
      nx (v_8 + 1)
  else
    dn ()
def qae (s_0:(List Int)) (v_7:Int) (s0:Int):Option (Unit ⊕ Int) :=
  loopM (fun a=>q3b s_0 v_7 a (fun a'=>some (.next a')) (fun e=>some (.done e)) (fun r=>some (.ret r))) s0
def q9k:Shp:=⟨[(0,.d false (.slice (.int .i64))),(1,.fn 93 .nil),(7,.d true (.int .i64)),(8,.d true (.int .i64))],[]⟩
def q9q:Shp:=⟨[],[]⟩
def q77 (s_0:(List Int)):Option Int :=
  bnd (qae s_0 (s_0.length:Int) 0) fun oe2 =>
  lk oe2 (fun e2 =>
    some (-1)) (fun r=>some r)
def q3a (s_0:(List Int)):Option Bool :=
  bnd (q77 s_0) fun r1 =>
  some (decide ((0:Int) ≤ r1))
def qc4 (n_0:Net) (m_1:(List Int)):Option Bool :=
  bnd (qa4 n_0) fun r1 =>
  bif r1 then
    bif decide ((m_1.length:Int)=n_0.1) then
      bnd (q3a m_1) fun r2 =>
      some (!r2)
    else
      some false
  else
    some false
def qhl (p_0:Int) (p_1:(List Int)):Option Bool :=
  ckB (ix 0 1) <|
  ckB (ix p_0 p_1.length) <|
  ckB (ix p_0 p_1.length) <|
  some (decide ((p_1.getD (Int.toNat p_0) 0)=0))
def q3e {R:Type} (s_0:(List Int)) (f_1c0:(List Int)) (v_7:Int) (v_8:Int) (nx:Int → Option R) (dn:Unit → Option R) (rt:Int → Option R):Option R :=
  bif decide (v_8 < v_7) then
    ckB (ix v_8 s_0.length) <|
    ckB (ix v_8 s_0.length) <|
    bnd (qhl (s_0.getD (Int.toNat v_8) 0) f_1c0) fun r1 =>
    bif r1 then
      rt v_8
    else
      ckB (inR .i64 (v_8 + 1)) <|
      nx (v_8 + 1)
  else
    dn ()
def qaf (s_0:(List Int)) (f_1c0:(List Int)) (v_7:Int) (s0:Int):Option (Unit ⊕ Int) :=
  loopM (fun a=>q3e s_0 f_1c0 v_7 a (fun a'=>some (.next a')) (fun e=>some (.done e)) (fun r=>some (.ret r))) s0
def q9j:Shp:=⟨[(0,.d false (.slice (.int .i64))),(1,.fn 95 (.cons (.rp false (.slice (.int .i64))) .nil)),(7,.d true (.int .i64)),(8,.d true (.int .i64))],[]⟩
def q9v:Shp:=⟨[],[]⟩
def q7c (s_0:(List Int)) (f_1c0:(List Int)):Option Int :=
  bnd (qaf s_0 f_1c0 (s_0.length:Int) 0) fun oe2 =>
  lk oe2 (fun e2 =>
    some (-1)) (fun r=>some r)
def q5l (s_0:(List Int)) (f_1c0:(List Int)):Option Bool :=
  bnd (q7c s_0 f_1c0) fun r1 =>
  some (decide ((0:Int) ≤ r1))
def qc5 (t_0:Trans) (m_1:(List Int)):Option Bool :=
  bnd (q5l t_0.2.1 m_1) fun r1 =>
  some (!r1)
def q8a {R:Type} (m_1:(List Int)) (v_14:(List Trans)) (v_15:Int) (v_16:Int) (out_6:(List Int)) (nx:(Int × (List Int)) → Option R) (dn:(List Int) → Option R) (rt:(Int × (List Int)) → Option R):Option R :=
  bif decide (v_16 < v_15) then
    ckB (ix v_16 v_14.length) <|
    ckB (ix v_16 v_14.length) <|
    bnd (qc5 (v_14.getD (Int.toNat v_16) Trans.z) m_1) fun r2 =>
    bif r2 then
      ckB (room (out_6.length + 1) 8) <|
      ckB (inR .i64 (v_16 + 1)) <|
      nx ((v_16 + 1),(out_6 ++ [v_16]))
    else
      ckB (inR .i64 (v_16 + 1)) <|
      nx ((v_16 + 1),out_6)
  else
    dn out_6
def qnw (m_1:(List Int)) (v_14:(List Trans)) (v_15:Int) (s0:(Int × (List Int))):Option ((List Int) ⊕ (Int × (List Int))) :=
  loopM (fun a=>q8a m_1 v_14 v_15 a.1 a.2 (fun a'=>some (.next a')) (fun e=>some (.done e)) (fun r=>some (.ret r))) s0
def qmf:Shp:=⟨[(1,.d false (.slice (.int .i64))),(6,.nl false (.own 0)),(14,.d false (.slice Trans.ty)),(15,.d true (.int .i64)),(16,.d true (.int .i64))],[.arr 3 (.fz true) [0] (.int .i64)]⟩
def qmr:Shp:=⟨[(6,.nl false (.own 0))],[.arr 3 (.fz true) [0] (.int .i64)]⟩
def qev (n_0:Net) (m_1:(List Int)):Option (Int × (List Int)) :=
  bnd (qc4 n_0 m_1) fun r1 =>
  bif (!r1) then
    some (1,[])
  else
    bnd (qnw m_1 n_0.2.1 (n_0.2.1.length:Int) (0,[])) fun oe3 =>
    lk oe3 (fun e3 =>
      some (0,e3)) (fun r=>some r)
def qdd (n_0:Net) (m_1:(List Int)):Option Bool :=
  bnd (qev n_0 m_1) fun r1 =>
  some (decide (r1.1=0))
def qh5 (p_0:Int) (p_1:(List Int)):Option Bool :=
  ckB (ix 0 1) <|
  ckB (ix p_0 p_1.length) <|
  ckB (ix p_0 p_1.length) <|
  some (decide ((0:Int) < (p_1.getD (Int.toNat p_0) 0)))
def q3c {R:Type} (s_0:(List Int)) (f_1c0:(List Int)) (v_7:Int) (v_8:Int) (nx:Int → Option R) (dn:Unit → Option R) (rt:Int → Option R):Option R :=
  bif decide (v_8 < v_7) then
    ckB (ix v_8 s_0.length) <|
    ckB (ix v_8 s_0.length) <|
    bnd (qh5 (s_0.getD (Int.toNat v_8) 0) f_1c0) fun r1 =>
    bif r1 then
      rt v_8
    else
      ckB (inR .i64 (v_8 + 1)) <|
      nx (v_8 + 1)
  else
    dn ()
def qa9 (s_0:(List Int)) (f_1c0:(List Int)) (v_7:Int) (s0:Int):Option (Unit ⊕ Int) :=
  loopM (fun a=>q3c s_0 f_1c0 v_7 a (fun a'=>some (.next a')) (fun e=>some (.done e)) (fun r=>some (.ret r))) s0
def q9x:Shp:=⟨[(0,.d false (.slice (.int .i64))),(1,.fn 86 (.cons (.rp false (.slice (.int .i64))) .nil)),(7,.d true (.int .i64)),(8,.d true (.int .i64))],[]⟩
def q9s:Shp:=⟨[],[]⟩
def q78 (s_0:(List Int)) (f_1c0:(List Int)):Option Int :=
  bnd (qa9 s_0 f_1c0 (s_0.length:Int) 0) fun oe2 =>
  lk oe2 (fun e2 =>
    some (-1)) (fun r=>some r)
def q5c (s_0:(List Int)) (f_1c0:(List Int)):Option Bool :=
  bnd (q78 s_0 f_1c0) fun r1 =>
  some (decide ((0:Int) ≤ r1))
def q9b (l_0:(List Int)) (m_1:(List Int)):Option Bool :=
  bnd (q5c l_0 m_1) fun r1 =>
  some r1
def qrp {R:Type} (v_6:(List Int)) (v_7:Int) (v_8:Int) (b_3:(List Int)) (nx:(Int × (List Int)) → Option R) (dn:(List Int) → Option R) (rt:ByteArray → Option R):Option R :=
  bif decide (v_8 < v_7) then
    ckB (ix v_8 v_6.length) <|
    ckB (ix v_8 v_6.length) <|
    ckB (room (b_3.length + 1) 1) <|
    ckB (inR .i64 (v_8 + 1)) <|
    nx ((v_8 + 1),(b_3 ++ [(IntKind.wrap .u8 (v_6.getD (Int.toNat v_8) 0))]))
  else
    dn b_3
def q10r (v_6:(List Int)) (v_7:Int) (s0:(Int × (List Int))):Option ((List Int) ⊕ ByteArray) :=
  loopM (fun a=>qrp v_6 v_7 a.1 a.2 (fun a'=>some (.next a')) (fun e=>some (.done e)) (fun r=>some (.ret r))) s0
def qry:Shp:=⟨[(3,.nl false (.own 0)),(6,.d false (.slice (.int .i64))),(7,.d true (.int .i64)),(8,.d true (.int .i64))],[.arr 5 (.fz true) [0] (.int .u8)]⟩
def qsb:Shp:=⟨[(3,.nl false (.own 0))],[.arr 5 (.fz true) [0] (.int .u8)]⟩
def qlq (m_0:(List Int)):Option ByteArray :=
  bnd (q10r m_0 (m_0.length:Int) (0,[])) fun oe1 =>
  lk oe1 (fun e1 =>
    some (strOfNums e1)) (fun r=>some r)
def qei (s_0:(List Int)):Option (List Int) :=
  bif decide ((s_0.length:Int)=0) then
    some []
  else
    ckB (room (0 + s_0.length) 8) <|
    some ([] ++ s_0)
def q70 (s_0:(List Int)):Option (List Int) :=
  ckB (room (0 + s_0.length) 8) <|
  some ([] ++ s_0)
def q2t (s_0:(List Int)):Option (List Int):=q70 s_0
def qg6 {R:Type} (x_0:(List Int)) (m_3:Int) (i_4:Int) (nx:(Int × Int) → Option R) (dn:Int → Option R) (rt:Int → Option R):Option R :=
  bif decide (i_4 < (x_0.length:Int)) then
    ckB (ix i_4 x_0.length) <|
    ckB (ix i_4 x_0.length) <|
    ckB (inR .i64 (i_4 + 1)) <|
    nx ((max m_3 (x_0.getD (Int.toNat i_4) 0)),(i_4 + 1))
  else
    dn m_3
def qr8 (x_0:(List Int)) (s0:(Int × Int)):Option (Int ⊕ Int) :=
  loopM (fun a=>qg6 x_0 a.1 a.2 (fun a'=>some (.next a')) (fun e=>some (.done e)) (fun r=>some (.ret r))) s0
def qg0:Shp:=⟨[(0,.d false (.slice (.int .i64))),(3,.d true (.int .i64)),(4,.d true (.int .i64))],[]⟩
def qfz:Shp:=⟨[(3,.d true (.int .i64))],[]⟩
def qjk (x_0:(List Int)):Option Int :=
  bif decide ((x_0.length:Int) < 1) then
    none
  else
    ckB (ix 0 x_0.length) <|
    ckB (ix 0 x_0.length) <|
    bnd (qr8 x_0 ((x_0.getD 0 0),1)) fun oe1 =>
    lk oe1 (fun e1 =>
      some e1) (fun r=>some r)
def qsd {R:Type} (v_35:(List Int)) (v_36:Int) (x_80:ByteArray) (x_81:(List Int)) (x_82:(List Int)) (v_37:Int) (out_9:(List Int)) (nx:(Int × (List Int)) → Option R) (dn:(List Int) → Option R) (rt:(Int × (List Int)) → Option R):Option R :=
  bif decide (v_37 < v_36) then
    ckB (ix v_37 v_35.length) <|
    ckB (ix v_37 v_35.length) <|
    ckB (ix (v_35.getD (Int.toNat v_37) 0) out_9.length) <|
    ckB (ix (v_35.getD (Int.toNat v_37) 0) out_9.length) <|
    ckB (inR .i64 ((out_9.getD (Int.toNat (v_35.getD (Int.toNat v_37) 0)) 0) - 1)) <|
    ckB (ix (v_35.getD (Int.toNat v_37) 0) out_9.length) <|
    ckB (ix (v_35.getD (Int.toNat v_37) 0) out_9.length) <|
    ckB (inR .i64 (v_37 + 1)) <|
    nx ((v_37 + 1),(out_9.set (Int.toNat (v_35.getD (Int.toNat v_37) 0)) ((out_9.getD (Int.toNat (v_35.getD (Int.toNat v_37) 0)) 0) - 1)))
  else
    dn out_9
def q10q (v_35:(List Int)) (v_36:Int) (x_80:ByteArray) (x_81:(List Int)) (x_82:(List Int)) (s0:(Int × (List Int))):Option ((List Int) ⊕ (Int × (List Int))) :=
  loopM (fun a=>qsd v_35 v_36 x_80 x_81 x_82 a.1 a.2 (fun a'=>some (.next a')) (fun e=>some (.done e)) (fun r=>some (.ret r))) s0
def qrq:Shp:=⟨[(8,.ptr 0),(9,.own 1),(35,.d false (.slice (.int .i64))),(36,.d true (.int .i64)),(37,.d true (.int .i64))],[.cs 61 3 1 (.cons (.d true .str) (.cons (.d false (.slice (.int .i64))) (.cons (.d false (.slice (.int .i64))) .nil))),.arr 3 (.fz true) [0] (.int .i64)]⟩
def qrs:Shp:=⟨[(8,.ptr 0),(9,.own 1)],[.cs 61 3 1 (.cons (.d true .str) (.cons (.d false (.slice (.int .i64))) (.cons (.d false (.slice (.int .i64))) .nil))),.arr 3 (.fz true) [0] (.int .i64)]⟩
def qrx {R:Type} (v_49:(List Int)) (v_50:Int) (v_51:Int) (out_9:(List Int)) (nx:(Int × (List Int)) → Option R) (dn:(List Int) → Option R) (rt:(Int × (List Int)) → Option R):Option R :=
  bif decide (v_51 < v_50) then
    ckB (ix v_51 v_49.length) <|
    ckB (ix v_51 v_49.length) <|
    ckB (ix (v_49.getD (Int.toNat v_51) 0) out_9.length) <|
    ckB (ix (v_49.getD (Int.toNat v_51) 0) out_9.length) <|
    ckB (inR .i64 ((out_9.getD (Int.toNat (v_49.getD (Int.toNat v_51) 0)) 0) + 1)) <|
    ckB (ix (v_49.getD (Int.toNat v_51) 0) out_9.length) <|
    ckB (ix (v_49.getD (Int.toNat v_51) 0) out_9.length) <|
    ckB (inR .i64 (v_51 + 1)) <|
    nx ((v_51 + 1),(out_9.set (Int.toNat (v_49.getD (Int.toNat v_51) 0)) ((out_9.getD (Int.toNat (v_49.getD (Int.toNat v_51) 0)) 0) + 1)))
  else
    dn out_9
def q117 (v_49:(List Int)) (v_50:Int) (s0:(Int × (List Int))):Option ((List Int) ⊕ (Int × (List Int))) :=
  loopM (fun a=>qrx v_49 v_50 a.1 a.2 (fun a'=>some (.next a')) (fun e=>some (.done e)) (fun r=>some (.ret r))) s0
def qs2:Shp:=⟨[(9,.own 0),(49,.d false (.slice (.int .i64))),(50,.d true (.int .i64)),(51,.d true (.int .i64))],[.arr 3 (.fz true) [0] (.int .i64)]⟩
def qru:Shp:=⟨[(9,.own 0)],[.arr 3 (.fz true) [0] (.int .i64)]⟩
def qy0 (n_0:Net) (m_1:(List Int)) (t_2:Int):Option (Int × (List Int)) :=
  bif decide (t_2 < 0) then
    some (2,[])
  else
    bif decide ((n_0.2.1.length:Int) ≤ t_2) then
      some (2,[])
    else
      ckB (ix t_2 n_0.2.1.length) <|
      ckB (ix t_2 n_0.2.1.length) <|
      bnd (qc5 (n_0.2.1.getD (Int.toNat t_2) Trans.z) m_1) fun r1 =>
      bif (!r1) then
        some (12,[])
      else
        bnd (q2t m_1) fun r2 =>
        bnd (q10q (n_0.2.1.getD (Int.toNat t_2) Trans.z).2.1 ((n_0.2.1.getD (Int.toNat t_2) Trans.z).2.1.length:Int) (n_0.2.1.getD (Int.toNat t_2) Trans.z).1 (n_0.2.1.getD (Int.toNat t_2) Trans.z).2.1 (n_0.2.1.getD (Int.toNat t_2) Trans.z).2.2.1 (0,r2)) fun oe3 =>
        lk oe3 (fun e3 =>
          bnd (q117 (n_0.2.1.getD (Int.toNat t_2) Trans.z).2.2.1 ((n_0.2.1.getD (Int.toNat t_2) Trans.z).2.2.1.length:Int) (0,e3)) fun oe4 =>
          lk oe4 (fun e4 =>
            bnd (qjk e4) fun r5 =>
            bif decide ((100:Int) < r5) then
              some (5,[])
            else
              some (0,e4)) (fun r=>some r)) (fun r=>some r)
def qxd (n_0:Net) (m_1:(List Int)) (t_2:Int):Option (Int × (List Int)) :=
  bnd (qc4 n_0 m_1) fun r1 =>
  bif (!r1) then
    some (1,[])
  else
    bnd (qy0 n_0 m_1 t_2) fun r2 =>
    some (r2.1,r2.2)
def qkn {R:Type} (l_2:(List Int)) (limit_3:Int) (i_12:Int) (v_52:Int) (n_40:Int) (n_41:(List Trans)) (n_42:Int) (n_43:Int) (v_53:Int) (seen_10:(List (ByteArray × Bool))) (queue_11:(List qz)) (nx:(Int × (List (ByteArray × Bool)) × (List qz)) → Option R) (dn:((List (ByteArray × Bool)) × (List qz)) → Option R) (rt:(Int × (List Int)) → Option R):Option R :=
  bif decide (v_53 < v_52) then
    ckB (ix i_12 queue_11.length) <|
    ckB (ix i_12 queue_11.length) <|
    bnd (qxd (n_40,n_41,n_42,n_43,()) (queue_11.getD (Int.toNat i_12) qz.z).1 v_53) fun r5 =>
    bif (!decide (r5.1=0)) then
      ckB (inR .i64 (v_53 + 1)) <|
      nx ((v_53 + 1),seen_10,queue_11)
    else
      bnd (qlq r5.2) fun r6 =>
      bif ((mfind .str r6 seen_10).getD false) then
        ckB (inR .i64 (v_53 + 1)) <|
        nx ((v_53 + 1),seen_10,queue_11)
      else
        bif decide ((queue_11.length:Int)=limit_3) then
          rt (13,[])
        else
          bnd (qlq r5.2) fun r7 =>
          ckB (ix i_12 queue_11.length) <|
          ckB (ix i_12 queue_11.length) <|
          bnd (q2t (queue_11.getD (Int.toNat i_12) qz.z).2.1) fun r8 =>
          ckB (room (r8.length + 1) 8) <|
          bnd (q9b l_2 r5.2) fun r9 =>
          bif (!r9) then
            rt (0,(r8 ++ [v_53]))
          else
            ckB (room (queue_11.length + 1) 48) <|
            ckB (inR .i64 (v_53 + 1)) <|
            nx ((v_53 + 1),(mput .str r7 true seen_10),(queue_11 ++ [(r5.2,(r8 ++ [v_53]),())]))
  else
    dn (seen_10,queue_11)
def qw4 (l_2:(List Int)) (limit_3:Int) (i_12:Int) (v_52:Int) (n_40:Int) (n_41:(List Trans)) (n_42:Int) (n_43:Int) (s0:(Int × (List (ByteArray × Bool)) × (List qz))):Option (((List (ByteArray × Bool)) × (List qz)) ⊕ (Int × (List Int))) :=
  loopM (fun a=>qkn l_2 limit_3 i_12 v_52 n_40 n_41 n_42 n_43 a.1 a.2.1 a.2.2 (fun a'=>some (.next a')) (fun e=>some (.done e)) (fun r=>some (.ret r))) s0
def ql5:Shp:=⟨[(2,.d false (.slice (.int .i64))),(3,.d true (.int .i64)),(4,.ptr 0),(10,.mp 1),(11,.own 2),(12,.d true (.int .i64)),(52,.d true (.int .i64)),(53,.d true (.int .i64))],[.cs 24 4 1 (.cons (.d true (.int .i64)) (.cons (.d false (.slice Trans.ty)) (.cons (.d true (.int .i64)) (.cons (.d true (.int .i64)) .nil)))),.mp .str .bool,.arr 76 (.fz false) [3,3] qz.ty]⟩
def qku:Shp:=⟨[(2,.d false (.slice (.int .i64))),(3,.d true (.int .i64)),(4,.ptr 0),(10,.mp 1),(11,.own 2),(12,.d true (.int .i64))],[.cs 24 4 1 (.cons (.d true (.int .i64)) (.cons (.d false (.slice Trans.ty)) (.cons (.d true (.int .i64)) (.cons (.d true (.int .i64)) .nil)))),.mp .str .bool,.arr 76 (.fz false) [3,3] qz.ty]⟩
def qkx {R:Type} (l_2:(List Int)) (limit_3:Int) (n_40:Int) (n_41:(List Trans)) (n_42:Int) (n_43:Int) (i_12:Int) (seen_10:(List (ByteArray × Bool))) (queue_11:(List qz)) (nx:(Int × (List (ByteArray × Bool)) × (List qz)) → Option R) (dn:Unit → Option R) (rt:(Int × (List Int)) → Option R):Option R :=
  bif decide (i_12 < (queue_11.length:Int)) then
    bnd (qw4 l_2 limit_3 i_12 (n_41.length:Int) n_40 n_41 n_42 n_43 (0,seen_10,queue_11)) fun oe10 =>
    lk oe10 (fun e10 =>
      ckB (inR .i64 (i_12 + 1)) <|
      nx ((i_12 + 1),e10.1,e10.2)) (fun r=>rt r)
  else
    dn ()
def qvy (l_2:(List Int)) (limit_3:Int) (n_40:Int) (n_41:(List Trans)) (n_42:Int) (n_43:Int) (s0:(Int × (List (ByteArray × Bool)) × (List qz))):Option (Unit ⊕ (Int × (List Int))) :=
  loopM (fun a=>qkx l_2 limit_3 n_40 n_41 n_42 n_43 a.1 a.2.1 a.2.2 (fun a'=>some (.next a')) (fun e=>some (.done e)) (fun r=>some (.ret r))) s0
def qkz:Shp:=⟨[(2,.d false (.slice (.int .i64))),(3,.d true (.int .i64)),(4,.ptr 0),(10,.mp 1),(11,.own 2),(12,.d true (.int .i64))],[.cs 24 4 1 (.cons (.d true (.int .i64)) (.cons (.d false (.slice Trans.ty)) (.cons (.d true (.int .i64)) (.cons (.d true (.int .i64)) .nil)))),.mp .str .bool,.arr 76 (.fz false) [3,3] qz.ty]⟩
def ql3:Shp:=⟨[],[]⟩
def qpn (n_00:Int) (n_01:(List Trans)) (n_02:Int) (n_03:Int) (m_1:(List Int)) (l_2:(List Int)) (limit_3:Int):Option (Int × (List Int)) :=
  bnd (qdd (n_00,n_01,n_02,n_03,()) m_1) fun r1 =>
  bif (!r1) then
    some (1,[])
  else
    bnd (qr0 (n_00,n_01,n_02,n_03,()) l_2) fun r2 =>
    bif (!r2) then
      some (2,[])
    else
      bif decide (limit_3 < 1) then
        some (2,[])
      else
        bif decide ((2000:Int) < limit_3) then
          some (2,[])
        else
          bnd (q9b l_2 m_1) fun r3 =>
          bif (!r3) then
            some (0,[])
          else
            bnd (qlq m_1) fun r4 =>
            bnd (qvy l_2 limit_3 n_00 n_01 n_02 n_03 (0,(mput .str r4 true ([]:(List (ByteArray × Bool)))),[(m_1,[],())])) fun oe11 =>
            lk oe11 (fun e11 =>
              some (10,[])) (fun r=>some r)
def qmv {R:Type} (a_0:(List Int)) (b_1:(List Int)) (i_5:Int) (nx:Int → Option R) (dn:Unit → Option R) (rt:Bool → Option R):Option R :=
  bif decide (i_5 < (a_0.length:Int)) then
    ckB (ix i_5 a_0.length) <|
    ckB (ix i_5 a_0.length) <|
    ckB (ix i_5 b_1.length) <|
    ckB (ix i_5 b_1.length) <|
    bif (!decide ((a_0.getD (Int.toNat i_5) 0)=(b_1.getD (Int.toNat i_5) 0))) then
      rt false
    else
      ckB (inR .i64 (i_5 + 1)) <|
      nx (i_5 + 1)
  else
    dn ()
def qxl (a_0:(List Int)) (b_1:(List Int)) (s0:Int):Option (Unit ⊕ Bool) :=
  loopM (fun a=>qmv a_0 b_1 a (fun a'=>some (.next a')) (fun e=>some (.done e)) (fun r=>some (.ret r))) s0
def qni:Shp:=⟨[(0,.d false (.slice (.int .i64))),(1,.d false (.slice (.int .i64))),(5,.d true (.int .i64))],[]⟩
def qmp:Shp:=⟨[],[]⟩
def qsg (a_0:(List Int)) (b_1:(List Int)):Option Bool :=
  bif (!decide ((a_0.length:Int)=(b_1.length:Int))) then
    some false
  else
    bnd (qxl a_0 b_1 0) fun oe1 =>
    lk oe1 (fun e1 =>
      some true) (fun r=>some r)
def qsk {R:Type} (a_0:(List (List Int))) (b_1:(List (List Int))) (i_5:Int) (nx:Int → Option R) (dn:Unit → Option R) (rt:Bool → Option R):Option R :=
  bif decide (i_5 < (a_0.length:Int)) then
    ckB (ix i_5 a_0.length) <|
    ckB (ix i_5 a_0.length) <|
    ckB (ix i_5 b_1.length) <|
    ckB (ix i_5 b_1.length) <|
    bnd (qsg (a_0.getD (Int.toNat i_5) []) (b_1.getD (Int.toNat i_5) [])) fun r1 =>
    bif (!r1) then
      rt false
    else
      ckB (inR .i64 (i_5 + 1)) <|
      nx (i_5 + 1)
  else
    dn ()
def q11e (a_0:(List (List Int))) (b_1:(List (List Int))) (s0:Int):Option (Unit ⊕ Bool) :=
  loopM (fun a=>qsk a_0 b_1 a (fun a'=>some (.next a')) (fun e=>some (.done e)) (fun r=>some (.ret r))) s0
def qsn:Shp:=⟨[(0,.d false (.slice (.slice (.int .i64)))),(1,.d false (.slice (.slice (.int .i64)))),(5,.d true (.int .i64))],[]⟩
def qrt:Shp:=⟨[],[]⟩
def qwz (a_0:(List (List Int))) (b_1:(List (List Int))):Option Bool :=
  bif (!decide ((a_0.length:Int)=(b_1.length:Int))) then
    some false
  else
    bnd (q11e a_0 b_1 0) fun oe2 =>
    lk oe2 (fun e2 =>
      some true) (fun r=>some r)
def q66 {R:Type} (s1_0:(List Int)) (s2_1:(List Int)) (v_12:Int) (v_13:Int) (nx:Int → Option R) (dn:Unit → Option R) (rt:Bool → Option R):Option R :=
  bif decide (v_13 < v_12) then
    ckB (ix v_13 s1_0.length) <|
    ckB (ix v_13 s1_0.length) <|
    ckB (ix v_13 s2_1.length) <|
    ckB (ix v_13 s2_1.length) <|
    bif (!decide ((s1_0.getD (Int.toNat v_13) 0)=(s2_1.getD (Int.toNat v_13) 0))) then
      rt false
    else
      ckB (inR .i64 (v_13 + 1)) <|
      nx (v_13 + 1)
  else
    dn ()
def qeo (s1_0:(List Int)) (s2_1:(List Int)) (v_12:Int) (s0:Int):Option (Unit ⊕ Bool) :=
  loopM (fun a=>q66 s1_0 s2_1 v_12 a (fun a'=>some (.next a')) (fun e=>some (.done e)) (fun r=>some (.ret r))) s0
def qdz:Shp:=⟨[(0,.d false (.slice (.int .i64))),(1,.d false (.slice (.int .i64))),(12,.d true (.int .i64)),(13,.d true (.int .i64))],[]⟩
def qe3:Shp:=⟨[],[]⟩
def q2u (s1_0:(List Int)) (s2_1:(List Int)):Option Bool :=
  bif (!decide ((s1_0.length:Int)=(s2_1.length:Int))) then
    some false
  else
    bnd (qeo s1_0 s2_1 (s1_0.length:Int) 0) fun oe1 =>
    lk oe1 (fun e1 =>
      some true) (fun r=>some r)
def qp6  : Option Bool :=
  bnd (qpt 2 [(⟨#[97]⟩,[0],[1],()),(⟨#[98]⟩,[1],[0],())] 0 1) fun r1 =>
  ckB (ix 1 2) <|
  bnd (qoq 2 [(⟨#[97]⟩,[0],[1],()),(⟨#[98]⟩,[1],[],())] 0 1 [0]) fun r2 =>
  bnd (qpn 2 [(⟨#[97]⟩,[0],[1],()),(⟨#[98]⟩,[1],[],())] 0 1 [1,0] [0] 10) fun r3 =>
  bif decide (r1.1=0) then
    bnd (qwz r1.2 [[0,1]]) fun r4 =>
    bif r4 then
      bif decide (r2.2=0) then
        bif r2.1 then
          bif decide (r3.1=0) then
            bnd (q2u r3.2 [0]) fun r5 =>
            some r5
          else
            some false
        else
          some false
      else
        some false
    else
      some false
  else
    some false
def qet (t_0:Trans):Option Bool :=
  bif decide ((50:Int) < (t_0.2.1.length:Int)) then
    some true
  else
    bif decide ((50:Int) < (t_0.2.2.1.length:Int)) then
      some true
    else
      some (decide ((200:Int) < (ByteArray.size t_0.1:Int)))
def q1i {R:Type} (s_0:(List Trans)) (v_7:Int) (v_8:Int) (nx:Int → Option R) (dn:Unit → Option R) (rt:Int → Option R):Option R :=
  bif decide (v_8 < v_7) then
    ckB (ix v_8 s_0.length) <|
    ckB (ix v_8 s_0.length) <|
    bnd (qet (s_0.getD (Int.toNat v_8) Trans.z)) fun r1 =>
    bif r1 then
      rt v_8
    else
      ckB (inR .i64 (v_8 + 1)) <|
      nx (v_8 + 1)
  else
    dn ()
def q5a (s_0:(List Trans)) (v_7:Int) (s0:Int):Option (Unit ⊕ Int) :=
  loopM (fun a=>q1i s_0 v_7 a (fun a'=>some (.next a')) (fun e=>some (.done e)) (fun r=>some (.ret r))) s0
def q50:Shp:=⟨[(0,.d false (.slice Trans.ty)),(1,.fn 45 .nil),(7,.d true (.int .i64)),(8,.d true (.int .i64))],[]⟩
def q4x:Shp:=⟨[],[]⟩
def q31 (s_0:(List Trans)):Option Int :=
  bnd (q5a s_0 (s_0.length:Int) 0) fun oe2 =>
  lk oe2 (fun e2 =>
    some (-1)) (fun r=>some r)
def qp (s_0:(List Trans)):Option Bool :=
  bnd (q31 s_0) fun r1 =>
  some (decide ((0:Int) ≤ r1))
def qj4 (n_0:Net):Option Bool :=
  bif decide ((12:Int) < (n_0.2.1.length:Int)) then
    bif decide ((n_0.2.1.length:Int) ≤ 60) then
      some true
    else
      bif decide ((100:Int) < (n_0.2.1.length:Int)) then
        some true
      else
        bif decide ((10:Int) < n_0.1) then
          bif decide (n_0.1 ≤ 16) then
            some true
          else
            bnd (qp n_0.2.1) fun r1 =>
            some r1
        else
          bnd (qp n_0.2.1) fun r2 =>
          some r2
  else
    bif decide ((100:Int) < (n_0.2.1.length:Int)) then
      some true
    else
      bif decide ((10:Int) < n_0.1) then
        bif decide (n_0.1 ≤ 16) then
          some true
        else
          bnd (qp n_0.2.1) fun r3 =>
          some r3
      else
        bnd (qp n_0.2.1) fun r4 =>
        some r4
def q76 {R:Type} (s_6:Int) (v_18:(List Int)) (v_19:Int) (v_20:Int) (v_25:Int) (n_10:Int) (n_11:(List Trans)) (n_12:Int) (n_13:Int) (out_4:(List (List Int))) (v_26:Int) (l_7:(List Int)) (nx:(Int × (List Int)) → Option R) (dn:(List Int) → Option R) (rt:(Int × (List (List Int))) → Option R):Option R :=
  bif decide (v_26 < v_25) then
    ckB (decide (0 ≤ v_26)) <|
    bif decide ((bitI .and .u32 (shrI .u32 s_6 v_26) 1)=1) then
      ckB (room (l_7.length + 1) 8) <|
      ckB (inR .i64 (v_26 + 1)) <|
      nx ((v_26 + 1),(l_7 ++ [v_26]))
    else
      ckB (inR .i64 (v_26 + 1)) <|
      nx ((v_26 + 1),l_7)
  else
    dn l_7
def ql7 (s_6:Int) (v_18:(List Int)) (v_19:Int) (v_20:Int) (v_25:Int) (n_10:Int) (n_11:(List Trans)) (n_12:Int) (n_13:Int) (out_4:(List (List Int))) (s0:(Int × (List Int))):Option ((List Int) ⊕ (Int × (List (List Int)))) :=
  loopM (fun a=>q76 s_6 v_18 v_19 v_20 v_25 n_10 n_11 n_12 n_13 out_4 a.1 a.2 (fun a'=>some (.next a')) (fun e=>some (.done e)) (fun r=>some (.ret r))) s0
def qjn:Shp:=⟨[(1,.ptr 0),(4,.nl false (.own 1)),(6,.d true (.int .u32)),(7,.nl false (.own 2)),(18,.nl false (.d true (.slice (.int .u32)))),(19,.d true (.int .i64)),(20,.d true (.int .i64)),(25,.d true (.int .i64)),(26,.d true (.int .i64))],[.cs 24 4 1 (.cons (.d true (.int .i64)) (.cons (.d false (.slice Trans.ty)) (.cons (.d true (.int .i64)) (.cons (.d true (.int .i64)) .nil)))),.arr 34 (.fz true) [3] (.slice (.int .i64)),.arr 3 (.fz true) [0] (.int .i64)]⟩
def qjg:Shp:=⟨[(1,.ptr 0),(4,.nl false (.own 1)),(7,.nl false (.own 2)),(18,.nl false (.d true (.slice (.int .u32)))),(19,.d true (.int .i64)),(20,.d true (.int .i64))],[.cs 24 4 1 (.cons (.d true (.int .i64)) (.cons (.d false (.slice Trans.ty)) (.cons (.d true (.int .i64)) (.cons (.d true (.int .i64)) .nil)))),.arr 34 (.fz true) [3] (.slice (.int .i64)),.arr 3 (.fz true) [0] (.int .i64)]⟩
def q9h {R:Type} (v_18:(List Int)) (v_19:Int) (n_10:Int) (n_11:(List Trans)) (n_12:Int) (n_13:Int) (v_20:Int) (out_4:(List (List Int))) (nx:(Int × (List (List Int))) → Option R) (dn:(List (List Int)) → Option R) (rt:(Int × (List (List Int))) → Option R):Option R :=
  bif decide (v_20 < v_19) then
    ckB (ix v_20 v_18.length) <|
    ckB (ix v_20 v_18.length) <|
    bnd (ql7 (v_18.getD (Int.toNat v_20) 0) v_18 v_19 v_20 n_10 n_10 n_11 n_12 n_13 out_4 (0,[])) fun oe3 =>
    lk oe3 (fun e3 =>
      ckB (room (out_4.length + 1) 24) <|
      ckB (inR .i64 (v_20 + 1)) <|
      nx ((v_20 + 1),(out_4 ++ [e3]))) (fun r=>rt r)
  else
    dn out_4
def qkp (v_18:(List Int)) (v_19:Int) (n_10:Int) (n_11:(List Trans)) (n_12:Int) (n_13:Int) (s0:(Int × (List (List Int)))):Option ((List (List Int)) ⊕ (Int × (List (List Int)))) :=
  loopM (fun a=>q9h v_18 v_19 n_10 n_11 n_12 n_13 a.1 a.2 (fun a'=>some (.next a')) (fun e=>some (.done e)) (fun r=>some (.ret r))) s0
def qjq:Shp:=⟨[(1,.ptr 0),(4,.nl false (.own 1)),(18,.nl false (.d true (.slice (.int .u32)))),(19,.d true (.int .i64)),(20,.d true (.int .i64))],[.cs 24 4 1 (.cons (.d true (.int .i64)) (.cons (.d false (.slice Trans.ty)) (.cons (.d true (.int .i64)) (.cons (.d true (.int .i64)) .nil)))),.arr 34 (.fz true) [3] (.slice (.int .i64))]⟩
def qjr:Shp:=⟨[(4,.nl false (.own 0))],[.arr 34 (.fz true) [3] (.slice (.int .i64))]⟩
def q7d (n_0:Net):Option (Int × (List (List Int))) :=
  bnd (qa4 n_0) fun r1 =>
  bif (!r1) then
    some (1,[])
  else
    bif decide ((16:Int) < n_0.1) then
      some (13,[])
    else
      bnd (qbe n_0) fun r2 =>
      bnd (qkp r2 (r2.length:Int) n_0.1 n_0.2.1 n_0.2.2.1 n_0.2.2.2.1 (0,[])) fun oe4 =>
      lk oe4 (fun e4 =>
        bnd (q30 e4) fun r5 =>
        ckB (decide (r5.length=e4.length)) <|
        some (0,r5)) (fun r=>some r)
def qdc (c_0:Int):Option Bool :=
  bif decide ((97:Int) ≤ c_0) then
    bif decide (c_0 ≤ 122) then
      some true
    else
      bif decide ((65:Int) ≤ c_0) then
        some (decide (c_0 ≤ 90))
      else
        some false
  else
    bif decide ((65:Int) ≤ c_0) then
      some (decide (c_0 ≤ 90))
    else
      some false
def q9p {R:Type} (s_0:ByteArray) (i_3:Int) (nx:Int → Option R) (dn:Unit → Option R) (rt:Bool → Option R):Option R :=
  bif decide (i_3 < (ByteArray.size s_0:Int)) then
    ckB (ix i_3 (ByteArray.size s_0)) <|
    bnd (qdc (((ByteArray.data s_0).getD (Int.toNat i_3) 0).toNat:Int)) fun r2 =>
    bif (!r2) then
      bif decide ((48:Int) ≤ (((ByteArray.data s_0).getD (Int.toNat i_3) 0).toNat:Int)) then
        bif (!(decide ((((ByteArray.data s_0).getD (Int.toNat i_3) 0).toNat:Int) ≤ 57))) then
          bif (!decide ((((ByteArray.data s_0).getD (Int.toNat i_3) 0).toNat:Int)=95)) then
            bif (!decide ((((ByteArray.data s_0).getD (Int.toNat i_3) 0).toNat:Int)=45)) then
              bif (!decide ((((ByteArray.data s_0).getD (Int.toNat i_3) 0).toNat:Int)=46)) then
                rt false
              else
                ckB (inR .i64 (i_3 + 1)) <|
                nx (i_3 + 1)
            else
              ckB (inR .i64 (i_3 + 1)) <|
              nx (i_3 + 1)
          else
            ckB (inR .i64 (i_3 + 1)) <|
            nx (i_3 + 1)
        else
          ckB (inR .i64 (i_3 + 1)) <|
          nx (i_3 + 1)
      else
        bif (!decide ((((ByteArray.data s_0).getD (Int.toNat i_3) 0).toNat:Int)=95)) then
          bif (!decide ((((ByteArray.data s_0).getD (Int.toNat i_3) 0).toNat:Int)=45)) then
            bif (!decide ((((ByteArray.data s_0).getD (Int.toNat i_3) 0).toNat:Int)=46)) then
              rt false
            else
              ckB (inR .i64 (i_3 + 1)) <|
              nx (i_3 + 1)
          else
            ckB (inR .i64 (i_3 + 1)) <|
            nx (i_3 + 1)
        else
          ckB (inR .i64 (i_3 + 1)) <|
          nx (i_3 + 1)
    else
      ckB (inR .i64 (i_3 + 1)) <|
      nx (i_3 + 1)
  else
    dn ()
def qpv (s_0:ByteArray) (s0:Int):Option (Unit ⊕ Bool) :=
  loopM (fun a=>q9p s_0 a (fun a'=>some (.next a')) (fun e=>some (.done e)) (fun r=>some (.ret r))) s0
def qoa:Shp:=⟨[(0,.d true .str),(3,.d true (.int .i64))],[]⟩
def qor:Shp:=⟨[],[]⟩
def qhe (s_0:ByteArray):Option Bool :=
  bif decide ((ByteArray.size s_0:Int) < 1) then
    some false
  else
    bif decide ((40:Int) < (ByteArray.size s_0:Int)) then
      some false
    else
      ckB (ix 0 (ByteArray.size s_0)) <|
      bnd (qdc (((ByteArray.data s_0).getD 0 0).toNat:Int)) fun r1 =>
      bif (!r1) then
        some false
      else
        bnd (qpv s_0 1) fun oe3 =>
        lk oe3 (fun e3 =>
          some true) (fun r=>some r)
def q7m {R:Type} (n_0:Int) (l_1:(List Int)) (i_5:Int) (nx:Int → Option R) (dn:Unit → Option R) (rt:Bool → Option R):Option R :=
  bif decide (i_5 < (l_1.length:Int)) then
    ckB (ix i_5 l_1.length) <|
    ckB (ix i_5 l_1.length) <|
    bif decide ((l_1.getD (Int.toNat i_5) 0) < 0) then
      rt false
    else
      ckB (ix i_5 l_1.length) <|
      ckB (ix i_5 l_1.length) <|
      bif decide (n_0 ≤ (l_1.getD (Int.toNat i_5) 0)) then
        rt false
      else
        bif decide ((0:Int) < i_5) then
          ckB (inR .i64 (i_5 - 1)) <|
          ckB (ix (i_5 - 1) l_1.length) <|
          ckB (ix (i_5 - 1) l_1.length) <|
          ckB (ix i_5 l_1.length) <|
          ckB (ix i_5 l_1.length) <|
          bif decide ((l_1.getD (Int.toNat i_5) 0) ≤ (l_1.getD (Int.toNat (i_5 - 1)) 0)) then
            rt false
          else
            ckB (inR .i64 (i_5 + 1)) <|
            nx (i_5 + 1)
        else
          ckB (inR .i64 (i_5 + 1)) <|
          nx (i_5 + 1)
  else
    dn ()
def qqd (n_0:Int) (l_1:(List Int)) (s0:Int):Option (Unit ⊕ Bool) :=
  loopM (fun a=>q7m n_0 l_1 a (fun a'=>some (.next a')) (fun e=>some (.done e)) (fun r=>some (.ret r))) s0
def qnz:Shp:=⟨[(0,.d true (.int .i64)),(1,.d false (.slice (.int .i64))),(5,.d true (.int .i64))],[]⟩
def qot:Shp:=⟨[],[]⟩
def q89 (n_0:Int) (l_1:(List Int)):Option Bool :=
  bnd (qqd n_0 l_1 0) fun oe1 =>
  lk oe1 (fun e1 =>
    some true) (fun r=>some r)
def qdq {R:Type} (n_10:Int) (n_11:(List Trans)) (n_12:Int) (n_13:Int) (i_3:Int) (nx:Int → Option R) (dn:Unit → Option R) (rt:Bool → Option R):Option R :=
  bif decide (i_3 < (n_11.length:Int)) then
    ckB (ix i_3 n_11.length) <|
    ckB (ix i_3 n_11.length) <|
    bif (!(ByteArray.toList (n_11.getD (Int.toNat i_3) Trans.z).1 == ByteArray.toList ⟨#[]⟩)) then
      bnd (qhe (n_11.getD (Int.toNat i_3) Trans.z).1) fun r1 =>
      bif (!r1) then
        rt false
      else
        bnd (q89 n_10 (n_11.getD (Int.toNat i_3) Trans.z).2.1) fun r2 =>
        bif (!r2) then
          rt false
        else
          bnd (q89 n_10 (n_11.getD (Int.toNat i_3) Trans.z).2.2.1) fun r3 =>
          bif (!r3) then
            rt false
          else
            ckB (inR .i64 (i_3 + 1)) <|
            nx (i_3 + 1)
    else
      bnd (q89 n_10 (n_11.getD (Int.toNat i_3) Trans.z).2.1) fun r4 =>
      bif (!r4) then
        rt false
      else
        bnd (q89 n_10 (n_11.getD (Int.toNat i_3) Trans.z).2.2.1) fun r5 =>
        bif (!r5) then
          rt false
        else
          ckB (inR .i64 (i_3 + 1)) <|
          nx (i_3 + 1)
  else
    dn ()
def qrn (n_10:Int) (n_11:(List Trans)) (n_12:Int) (n_13:Int) (s0:Int):Option (Unit ⊕ Bool) :=
  loopM (fun a=>qdq n_10 n_11 n_12 n_13 a (fun a'=>some (.next a')) (fun e=>some (.done e)) (fun r=>some (.ret r))) s0
def qqv:Shp:=⟨[(1,.ptr 0),(3,.d true (.int .i64))],[.cs 24 4 1 (.cons (.d true (.int .i64)) (.cons (.d false (.slice Trans.ty)) (.cons (.d true (.int .i64)) (.cons (.d true (.int .i64)) .nil))))]⟩
def qqt:Shp:=⟨[],[]⟩
def qj9 (n_0:Net):Option Bool :=
  bif decide (n_0.1 < 1) then
    some false
  else
    bif decide ((40:Int) < n_0.1) then
      some false
    else
      bif decide ((60:Int) < (n_0.2.1.length:Int)) then
        some false
      else
        bif decide (n_0.2.2.1 < 0) then
          some false
        else
          bif decide (n_0.1 ≤ n_0.2.2.1) then
            some false
          else
            bif decide (n_0.2.2.2.1 < 0) then
              some false
            else
              bif decide (n_0.1 ≤ n_0.2.2.2.1) then
                some false
              else
                bnd (qrn n_0.1 n_0.2.1 n_0.2.2.1 n_0.2.2.2.1 0) fun oe6 =>
                lk oe6 (fun e6 =>
                  some true) (fun r=>some r)
def qey {R:Type}  (n_0:Int) (p_4:Int) (out_3:(List Int)) (nx:(Int × Int × (List Int)) → Option R) (dn:(List Int) → Option R) (rt:(List Int) → Option R):Option R :=
  bif decide ((0:Int) < n_0) then
    ckB (!decide ((2:Int)=0)) <|
    bif decide ((Int.tmod n_0 2)=1) then
      ckB (room (out_3.length + 1) 8) <|
      ckB (!decide ((2:Int)=0)) <|
      ckB (inR .i64 (Int.tdiv n_0 2)) <|
      ckB (inR .i64 (p_4 + 1)) <|
      nx ((Int.tdiv n_0 2),(p_4 + 1),(out_3 ++ [p_4]))
    else
      ckB (!decide ((2:Int)=0)) <|
      ckB (inR .i64 (Int.tdiv n_0 2)) <|
      ckB (inR .i64 (p_4 + 1)) <|
      nx ((Int.tdiv n_0 2),(p_4 + 1),out_3)
  else
    dn out_3
def qty  (s0:(Int × Int × (List Int))):Option ((List Int) ⊕ (List Int)) :=
  loopM (fun a=>qey  a.1 a.2.1 a.2.2 (fun a'=>some (.next a')) (fun e=>some (.done e)) (fun r=>some (.ret r))) s0
def qsf:Shp:=⟨[(0,.d true (.int .i64)),(3,.nl false (.own 0)),(4,.d true (.int .i64))],[.arr 3 (.fz true) [0] (.int .i64)]⟩
def qrz:Shp:=⟨[(3,.nl false (.own 0))],[.arr 3 (.fz true) [0] (.int .i64)]⟩
def qlp (n_0:Int):Option (List Int) :=
  bnd (qty  (n_0,0,[])) fun oe1 =>
  lk oe1 (fun e1 =>
    some e1) (fun r=>some r)
def qgs {R:Type} (l_0:(List Int)) (x_1:Int) (i_5:Int) (nx:Int → Option R) (dn:Unit → Option R) (rt:Bool → Option R):Option R :=
  bif decide (i_5 < (l_0.length:Int)) then
    ckB (ix i_5 l_0.length) <|
    ckB (ix i_5 l_0.length) <|
    bif decide ((l_0.getD (Int.toNat i_5) 0)=x_1) then
      rt true
    else
      ckB (inR .i64 (i_5 + 1)) <|
      nx (i_5 + 1)
  else
    dn ()
def quy (l_0:(List Int)) (x_1:Int) (s0:Int):Option (Unit ⊕ Bool) :=
  loopM (fun a=>qgs l_0 x_1 a (fun a'=>some (.next a')) (fun e=>some (.done e)) (fun r=>some (.ret r))) s0
def qt7:Shp:=⟨[(0,.d false (.slice (.int .i64))),(1,.d true (.int .i64)),(5,.d true (.int .i64))],[]⟩
def qu0:Shp:=⟨[],[]⟩
def qja (l_0:(List Int)) (x_1:Int):Option Bool :=
  bnd (quy l_0 x_1 0) fun oe1 =>
  lk oe1 (fun e1 =>
    some false) (fun r=>some r)
def qci {R:Type} (a_0:(List Int)) (b_1:(List Int)) (i_5:Int) (nx:Int → Option R) (dn:Unit → Option R) (rt:Bool → Option R):Option R :=
  bif decide (i_5 < (a_0.length:Int)) then
    ckB (ix i_5 a_0.length) <|
    ckB (ix i_5 a_0.length) <|
    bnd (qja b_1 (a_0.getD (Int.toNat i_5) 0)) fun r1 =>
    bif r1 then
      rt true
    else
      ckB (inR .i64 (i_5 + 1)) <|
      nx (i_5 + 1)
  else
    dn ()
def qq0 (a_0:(List Int)) (b_1:(List Int)) (s0:Int):Option (Unit ⊕ Bool) :=
  loopM (fun a=>qci a_0 b_1 a (fun a'=>some (.next a')) (fun e=>some (.done e)) (fun r=>some (.ret r))) s0
def qoh:Shp:=⟨[(0,.d false (.slice (.int .i64))),(1,.d false (.slice (.int .i64))),(5,.d true (.int .i64))],[]⟩
def qnx:Shp:=⟨[],[]⟩
def qb2 (a_0:(List Int)) (b_1:(List Int)):Option Bool :=
  bnd (qq0 a_0 b_1 0) fun oe2 =>
  lk oe2 (fun e2 =>
    some false) (fun r=>some r)
def qao {R:Type} (l_1:(List Int)) (n_20:Int) (n_21:(List Trans)) (n_22:Int) (n_23:Int) (i_5:Int) (nx:Int → Option R) (dn:Unit → Option R) (rt:Bool → Option R):Option R :=
  bif decide (i_5 < (n_21.length:Int)) then
    ckB (ix i_5 n_21.length) <|
    ckB (ix i_5 n_21.length) <|
    bnd (qb2 (n_21.getD (Int.toNat i_5) Trans.z).2.2.1 l_1) fun r1 =>
    bif r1 then
      ckB (ix i_5 n_21.length) <|
      ckB (ix i_5 n_21.length) <|
      bnd (qb2 (n_21.getD (Int.toNat i_5) Trans.z).2.1 l_1) fun r2 =>
      bif (!r2) then
        rt false
      else
        ckB (inR .i64 (i_5 + 1)) <|
        nx (i_5 + 1)
    else
      ckB (inR .i64 (i_5 + 1)) <|
      nx (i_5 + 1)
  else
    dn ()
def qmi (l_1:(List Int)) (n_20:Int) (n_21:(List Trans)) (n_22:Int) (n_23:Int) (s0:Int):Option (Unit ⊕ Bool) :=
  loopM (fun a=>qao l_1 n_20 n_21 n_22 n_23 a (fun a'=>some (.next a')) (fun e=>some (.done e)) (fun r=>some (.ret r))) s0
def ql4:Shp:=⟨[(1,.d false (.slice (.int .i64))),(2,.ptr 0),(5,.d true (.int .i64))],[.cs 24 4 1 (.cons (.d true (.int .i64)) (.cons (.d false (.slice Trans.ty)) (.cons (.d true (.int .i64)) (.cons (.d true (.int .i64)) .nil))))]⟩
def qkk:Shp:=⟨[],[]⟩
def q87 (n_0:Net) (l_1:(List Int)):Option Bool :=
  bnd (qmi l_1 n_0.1 n_0.2.1 n_0.2.2.1 n_0.2.2.2.1 0) fun oe3 =>
  lk oe3 (fun e3 =>
    some true) (fun r=>some r)
def qes (l_0:(List Int)) (i_1:Int):Option (List Int) :=
  ckB (cut 0 i_1 l_0.length) <|
  ckB (inR .i64 (i_1 + 1)) <|
  ckB (cut (i_1 + 1) l_0.length l_0.length) <|
  ckB (room (0 + (l_0.take (Int.toNat i_1)).length) 8) <|
  ckB (room (([] ++ (l_0.take (Int.toNat i_1))).length + (l_0.drop (Int.toNat (i_1 + 1))).length) 8) <|
  some (([] ++ (l_0.take (Int.toNat i_1))) ++ (l_0.drop (Int.toNat (i_1 + 1))))
def qcn {R:Type} (out_5:(List Int)) (i_7:Int) (n_20:Int) (n_21:(List Trans)) (n_22:Int) (n_23:Int) (kept_6:(List Int)) (ok_8:Bool) (t_9:Int) (nx:(Bool × Int) → Option R) (dn:Bool → Option R) (rt:(List Int) → Option R):Option R :=
  bif decide (t_9 < (n_21.length:Int)) then
    bif ok_8 then
      ckB (ix t_9 n_21.length) <|
      ckB (ix t_9 n_21.length) <|
      ckB (ix i_7 out_5.length) <|
      ckB (ix i_7 out_5.length) <|
      bnd (qja (n_21.getD (Int.toNat t_9) Trans.z).2.2.1 (out_5.getD (Int.toNat i_7) 0)) fun r1 =>
      bif (!r1) then
        ckB (inR .i64 (t_9 + 1)) <|
        nx (true,(t_9 + 1))
      else
        ckB (ix t_9 n_21.length) <|
        ckB (ix t_9 n_21.length) <|
        bnd (qb2 (n_21.getD (Int.toNat t_9) Trans.z).2.1 out_5) fun r2 =>
        ckB (inR .i64 (t_9 + 1)) <|
        nx (r2,(t_9 + 1))
    else
      ckB (inR .i64 (t_9 + 1)) <|
      nx (false,(t_9 + 1))
  else
    dn ok_8
def qqp (out_5:(List Int)) (i_7:Int) (n_20:Int) (n_21:(List Trans)) (n_22:Int) (n_23:Int) (kept_6:(List Int)) (s0:(Bool × Int)):Option (Bool ⊕ (List Int)) :=
  loopM (fun a=>qcn out_5 i_7 n_20 n_21 n_22 n_23 kept_6 a.1 a.2 (fun a'=>some (.next a')) (fun e=>some (.done e)) (fun r=>some (.ret r))) s0
def qo8:Shp:=⟨[(2,.ptr 0),(5,.d false (.slice (.int .i64))),(6,.nl false (.own 1)),(7,.d true (.int .i64)),(8,.d true .bool),(9,.d true (.int .i64))],[.cs 24 4 1 (.cons (.d true (.int .i64)) (.cons (.d false (.slice Trans.ty)) (.cons (.d true (.int .i64)) (.cons (.d true (.int .i64)) .nil)))),.arr 3 (.fz true) [0] (.int .i64)]⟩
def qo2:Shp:=⟨[(2,.ptr 0),(5,.d false (.slice (.int .i64))),(6,.nl false (.own 1)),(7,.d true (.int .i64)),(8,.d true .bool)],[.cs 24 4 1 (.cons (.d true (.int .i64)) (.cons (.d false (.slice Trans.ty)) (.cons (.d true (.int .i64)) (.cons (.d true (.int .i64)) .nil)))),.arr 3 (.fz true) [0] (.int .i64)]⟩
def qcs {R:Type} (out_5:(List Int)) (n_20:Int) (n_21:(List Trans)) (n_22:Int) (n_23:Int) (i_7:Int) (kept_6:(List Int)) (nx:(Int × (List Int)) → Option R) (dn:(List Int) → Option R) (rt:(List Int) → Option R):Option R :=
  bif decide (i_7 < (out_5.length:Int)) then
    bnd (qqp out_5 i_7 n_20 n_21 n_22 n_23 kept_6 (true,0)) fun oe3 =>
    lk oe3 (fun e3 =>
      bif e3 then
        ckB (ix i_7 out_5.length) <|
        ckB (ix i_7 out_5.length) <|
        ckB (room (kept_6.length + 1) 8) <|
        ckB (inR .i64 (i_7 + 1)) <|
        nx ((i_7 + 1),(kept_6 ++ [(out_5.getD (Int.toNat i_7) 0)]))
      else
        ckB (inR .i64 (i_7 + 1)) <|
        nx ((i_7 + 1),kept_6)) (fun r=>rt r)
  else
    dn kept_6
def qqr (out_5:(List Int)) (n_20:Int) (n_21:(List Trans)) (n_22:Int) (n_23:Int) (s0:(Int × (List Int))):Option ((List Int) ⊕ (List Int)) :=
  loopM (fun a=>qcs out_5 n_20 n_21 n_22 n_23 a.1 a.2 (fun a'=>some (.next a')) (fun e=>some (.done e)) (fun r=>some (.ret r))) s0
def qny:Shp:=⟨[(2,.ptr 0),(5,.d false (.slice (.int .i64))),(6,.nl false (.own 1)),(7,.d true (.int .i64))],[.cs 24 4 1 (.cons (.d true (.int .i64)) (.cons (.d false (.slice Trans.ty)) (.cons (.d true (.int .i64)) (.cons (.d true (.int .i64)) .nil)))),.arr 3 (.fz true) [0] (.int .i64)]⟩
def qog:Shp:=⟨[(2,.ptr 0),(5,.d false (.slice (.int .i64))),(6,.nl false (.own 1))],[.cs 24 4 1 (.cons (.d true (.int .i64)) (.cons (.d false (.slice Trans.ty)) (.cons (.d true (.int .i64)) (.cons (.d true (.int .i64)) .nil)))),.arr 3 (.fz true) [0] (.int .i64)]⟩
def qcp {R:Type} (n_20:Int) (n_21:(List Trans)) (n_22:Int) (n_23:Int) (out_5:(List Int)) (nx:(List Int) → Option R) (dn:Unit → Option R) (rt:(List Int) → Option R):Option R :=
  bnd (qqr out_5 n_20 n_21 n_22 n_23 (0,[])) fun oe4 =>
  lk oe4 (fun e4 =>
    bif decide ((e4.length:Int)=(out_5.length:Int)) then
      rt e4
    else
      nx e4) (fun r=>rt r)
def qqq (n_20:Int) (n_21:(List Trans)) (n_22:Int) (n_23:Int) (s0:(List Int)):Option (Unit ⊕ (List Int)) :=
  loopM (fun a=>qcp n_20 n_21 n_22 n_23 a (fun a'=>some (.next a')) (fun e=>some (.done e)) (fun r=>some (.ret r))) s0
def qns:Shp:=⟨[(2,.ptr 0),(5,.d false (.slice (.int .i64)))],[.cs 24 4 1 (.cons (.d true (.int .i64)) (.cons (.d false (.slice Trans.ty)) (.cons (.d true (.int .i64)) (.cons (.d true (.int .i64)) .nil))))]⟩
def qnt:Shp:=⟨[],[]⟩
def qbf (n_0:Net) (l_1:(List Int)):Option (List Int) :=
  bnd (qqq n_0.1 n_0.2.1 n_0.2.2.1 n_0.2.2.2.1 l_1) fun oe5 =>
  lk oe5 (fun e5 =>
    none) (fun r=>some r)
def q8j {R:Type} (l_1:(List Int)) (n_20:Int) (n_21:(List Trans)) (n_22:Int) (n_23:Int) (i_5:Int) (nx:Int → Option R) (dn:Unit → Option R) (rt:Bool → Option R):Option R :=
  bif decide (i_5 < (l_1.length:Int)) then
    bnd (qes l_1 i_5) fun r2 =>
    bnd (qbf (n_20,n_21,n_22,n_23,()) r2) fun r3 =>
    bif decide ((0:Int) < (r3.length:Int)) then
      rt false
    else
      ckB (inR .i64 (i_5 + 1)) <|
      nx (i_5 + 1)
  else
    dn ()
def qgw (l_1:(List Int)) (n_20:Int) (n_21:(List Trans)) (n_22:Int) (n_23:Int) (s0:Int):Option (Unit ⊕ Bool) :=
  loopM (fun a=>q8j l_1 n_20 n_21 n_22 n_23 a (fun a'=>some (.next a')) (fun e=>some (.done e)) (fun r=>some (.ret r))) s0
def qly:Shp:=⟨[(1,.d false (.slice (.int .i64))),(2,.ptr 0),(5,.d true (.int .i64))],[.cs 24 4 1 (.cons (.d true (.int .i64)) (.cons (.d false (.slice Trans.ty)) (.cons (.d true (.int .i64)) (.cons (.d true (.int .i64)) .nil))))]⟩
def qmz:Shp:=⟨[],[]⟩
def qc3 (n_0:Net) (l_1:(List Int)):Option Bool :=
  bif decide ((l_1.length:Int)=0) then
    some false
  else
    bnd (q87 n_0 l_1) fun r1 =>
    bif (!r1) then
      some false
    else
      bnd (qgw l_1 n_0.1 n_0.2.1 n_0.2.2.1 n_0.2.2.2.1 0) fun oe4 =>
      lk oe4 (fun e4 =>
        some true) (fun r=>some r)
def q9c {R:Type} (a_0:(List Int)) (b_1:(List Int)) (i_5:Int) (nx:Int → Option R) (dn:Unit → Option R) (rt:Bool → Option R):Option R :=
  bif decide (i_5 < (a_0.length:Int)) then
    bif decide (i_5 < (b_1.length:Int)) then
      ckB (ix i_5 a_0.length) <|
      ckB (ix i_5 a_0.length) <|
      ckB (ix i_5 b_1.length) <|
      ckB (ix i_5 b_1.length) <|
      bif (!decide ((a_0.getD (Int.toNat i_5) 0)=(b_1.getD (Int.toNat i_5) 0))) then
        ckB (ix i_5 a_0.length) <|
        ckB (ix i_5 a_0.length) <|
        ckB (ix i_5 b_1.length) <|
        ckB (ix i_5 b_1.length) <|
        rt (decide ((a_0.getD (Int.toNat i_5) 0) < (b_1.getD (Int.toNat i_5) 0)))
      else
        ckB (inR .i64 (i_5 + 1)) <|
        nx (i_5 + 1)
    else
      dn ()
  else
    dn ()
def qtt (a_0:(List Int)) (b_1:(List Int)) (s0:Int):Option (Unit ⊕ Bool) :=
  loopM (fun a=>q9c a_0 b_1 a (fun a'=>some (.next a')) (fun e=>some (.done e)) (fun r=>some (.ret r))) s0
def qrl:Shp:=⟨[(0,.d false (.slice (.int .i64))),(1,.d false (.slice (.int .i64))),(5,.d true (.int .i64))],[]⟩
def qsc:Shp:=⟨[(0,.d false (.slice (.int .i64))),(1,.d false (.slice (.int .i64)))],[]⟩
def qle (a_0:(List Int)) (b_1:(List Int)):Option Bool :=
  bnd (qtt a_0 b_1 0) fun oe1 =>
  lk oe1 (fun e1 =>
    some (decide ((a_0.length:Int) < (b_1.length:Int)))) (fun r=>some r)
def qbm {R:Type} (n_10:Int) (n_11:(List Trans)) (n_12:Int) (n_13:Int) (most_4:Int) (i_5:Int) (nx:(Int × Int) → Option R) (dn:Int → Option R) (rt:((List (List Int)) × Int) → Option R):Option R :=
  bif decide (i_5 < n_10) then
    ckB (inR .i64 ((2:Int) * most_4)) <|
    ckB (inR .i64 (i_5 + 1)) <|
    nx (((2:Int) * most_4),(i_5 + 1))
  else
    dn most_4
def qoc (n_10:Int) (n_11:(List Trans)) (n_12:Int) (n_13:Int) (s0:(Int × Int)):Option (Int ⊕ ((List (List Int)) × Int)) :=
  loopM (fun a=>qbm n_10 n_11 n_12 n_13 a.1 a.2 (fun a'=>some (.next a')) (fun e=>some (.done e)) (fun r=>some (.ret r))) s0
def qn2:Shp:=⟨[(1,.ptr 0),(4,.d true (.int .i64)),(5,.d true (.int .i64))],[.cs 24 4 1 (.cons (.d true (.int .i64)) (.cons (.d false (.slice Trans.ty)) (.cons (.d true (.int .i64)) (.cons (.d true (.int .i64)) .nil))))]⟩
def qnh:Shp:=⟨[(1,.ptr 0),(4,.d true (.int .i64))],[.cs 24 4 1 (.cons (.d true (.int .i64)) (.cons (.d false (.slice Trans.ty)) (.cons (.d true (.int .i64)) (.cons (.d true (.int .i64)) .nil))))]⟩
def q8r {R:Type} (most_4:Int) (out_6:(List (List Int))) (k_7:Int) (l_8:(List Int)) (n_10:Int) (n_11:(List Trans)) (n_12:Int) (n_13:Int) (i_9:Int) (nx:Int → Option R) (dn:Int → Option R) (rt:((List (List Int)) × Int) → Option R):Option R :=
  bif decide (i_9 < (out_6.length:Int)) then
    ckB (ix i_9 out_6.length) <|
    ckB (ix i_9 out_6.length) <|
    bnd (qle (out_6.getD (Int.toNat i_9) []) l_8) fun r5 =>
    bif r5 then
      ckB (inR .i64 (i_9 + 1)) <|
      nx (i_9 + 1)
    else
      dn i_9
  else
    dn i_9
def qh9 (most_4:Int) (out_6:(List (List Int))) (k_7:Int) (l_8:(List Int)) (n_10:Int) (n_11:(List Trans)) (n_12:Int) (n_13:Int) (s0:Int):Option (Int ⊕ ((List (List Int)) × Int)) :=
  loopM (fun a=>q8r most_4 out_6 k_7 l_8 n_10 n_11 n_12 n_13 a (fun a'=>some (.next a')) (fun e=>some (.done e)) (fun r=>some (.ret r))) s0
def qm8:Shp:=⟨[(1,.ptr 0),(4,.d true (.int .i64)),(6,.d true (.slice (.slice (.int .i64)))),(7,.d true (.int .i64)),(8,.nl false (.d true (.slice (.int .i64)))),(9,.d true (.int .i64))],[.cs 24 4 1 (.cons (.d true (.int .i64)) (.cons (.d false (.slice Trans.ty)) (.cons (.d true (.int .i64)) (.cons (.d true (.int .i64)) .nil))))]⟩
def qma:Shp:=⟨[(1,.ptr 0),(4,.d true (.int .i64)),(6,.d true (.slice (.slice (.int .i64)))),(7,.d true (.int .i64)),(8,.nl false (.d true (.slice (.int .i64)))),(9,.d true (.int .i64))],[.cs 24 4 1 (.cons (.d true (.int .i64)) (.cons (.d false (.slice Trans.ty)) (.cons (.d true (.int .i64)) (.cons (.d true (.int .i64)) .nil))))]⟩
def q6o {R:Type} (most_4:Int) (n_10:Int) (n_11:(List Trans)) (n_12:Int) (n_13:Int) (out_6:(List (List Int))) (k_7:Int) (nx:((List (List Int)) × Int) → Option R) (dn:(List (List Int)) → Option R) (rt:((List (List Int)) × Int) → Option R):Option R :=
  bif decide (k_7 < most_4) then
    bnd (qlp k_7) fun r2 =>
    bnd (q87 (n_10,n_11,n_12,n_13,()) r2) fun r3 =>
    bif (!r3) then
      ckB (inR .i64 (k_7 + 1)) <|
      nx (out_6,(k_7 + 1))
    else
      bnd (qc3 (n_10,n_11,n_12,n_13,()) r2) fun r4 =>
      bif (!r4) then
        ckB (inR .i64 (k_7 + 1)) <|
        nx (out_6,(k_7 + 1))
      else
        bnd (qh9 most_4 out_6 k_7 r2 n_10 n_11 n_12 n_13 0) fun oe6 =>
        lk oe6 (fun e6 =>
          ckB (cut e6 out_6.length out_6.length) <|
          ckB (room (0 + (out_6.drop (Int.toNat e6)).length) 24) <|
          ckB (cut 0 e6 out_6.length) <|
          ckB (room (0 + (out_6.take (Int.toNat e6)).length) 24) <|
          ckB (room (([] ++ (out_6.take (Int.toNat e6))).length + 1) 24) <|
          ckB (room ((([] ++ (out_6.take (Int.toNat e6))) ++ [r2]).length + ([] ++ (out_6.drop (Int.toNat e6))).length) 24) <|
          ckB (inR .i64 (k_7 + 1)) <|
          nx (((([] ++ (out_6.take (Int.toNat e6))) ++ [r2]) ++ ([] ++ (out_6.drop (Int.toNat e6)))),(k_7 + 1))) (fun r=>rt r)
  else
    dn out_6
def qht (most_4:Int) (n_10:Int) (n_11:(List Trans)) (n_12:Int) (n_13:Int) (s0:((List (List Int)) × Int)):Option ((List (List Int)) ⊕ ((List (List Int)) × Int)) :=
  loopM (fun a=>q6o most_4 n_10 n_11 n_12 n_13 a.1 a.2 (fun a'=>some (.next a')) (fun e=>some (.done e)) (fun r=>some (.ret r))) s0
def qme:Shp:=⟨[(1,.ptr 0),(4,.d true (.int .i64)),(6,.d true (.slice (.slice (.int .i64)))),(7,.d true (.int .i64))],[.cs 24 4 1 (.cons (.d true (.int .i64)) (.cons (.d false (.slice Trans.ty)) (.cons (.d true (.int .i64)) (.cons (.d true (.int .i64)) .nil))))]⟩
def qm4:Shp:=⟨[(6,.d true (.slice (.slice (.int .i64))))],[]⟩
def q9d (n_0:Net):Option ((List (List Int)) × Int) :=
  bif decide ((16:Int) < n_0.1) then
    some ([],13)
  else
    bnd (qoc n_0.1 n_0.2.1 n_0.2.2.1 n_0.2.2.2.1 (1,0)) fun oe1 =>
    lk oe1 (fun e1 =>
      bnd (qht e1 n_0.1 n_0.2.1 n_0.2.2.1 n_0.2.2.2.1 ([],1)) fun oe7 =>
      lk oe7 (fun e7 =>
        some (e7,0)) (fun r=>some r)) (fun r=>some r)
def qbn {R:Type} (m_1:(List Int)) (i_5:Int) (nx:Int → Option R) (dn:Unit → Option R) (rt:Bool → Option R):Option R :=
  bif decide (i_5 < (m_1.length:Int)) then
    ckB (ix i_5 m_1.length) <|
    ckB (ix i_5 m_1.length) <|
    bif decide ((m_1.getD (Int.toNat i_5) 0) < 0) then
      rt false
    else
      ckB (ix i_5 m_1.length) <|
      ckB (ix i_5 m_1.length) <|
      bif decide ((100:Int) < (m_1.getD (Int.toNat i_5) 0)) then
        rt false
      else
        ckB (inR .i64 (i_5 + 1)) <|
        nx (i_5 + 1)
  else
    dn ()
def qo7 (m_1:(List Int)) (s0:Int):Option (Unit ⊕ Bool) :=
  loopM (fun a=>qbn m_1 a (fun a'=>some (.next a')) (fun e=>some (.done e)) (fun r=>some (.ret r))) s0
def qm2:Shp:=⟨[(1,.d false (.slice (.int .i64))),(5,.d true (.int .i64))],[]⟩
def qmd:Shp:=⟨[],[]⟩
def qez (n_0:Net) (m_1:(List Int)):Option Bool :=
  bif (!decide ((m_1.length:Int)=n_0.1)) then
    some false
  else
    bnd (qo7 m_1 0) fun oe1 =>
    lk oe1 (fun e1 =>
      some true) (fun r=>some r)
def qcq {R:Type} (m_0:(List Int)) (l_1:(List Int)) (i_5:Int) (nx:Int → Option R) (dn:Unit → Option R) (rt:Bool → Option R):Option R :=
  bif decide (i_5 < (l_1.length:Int)) then
    ckB (ix i_5 l_1.length) <|
    ckB (ix i_5 l_1.length) <|
    ckB (ix (l_1.getD (Int.toNat i_5) 0) m_0.length) <|
    ckB (ix (l_1.getD (Int.toNat i_5) 0) m_0.length) <|
    bif decide ((0:Int) < (m_0.getD (Int.toNat (l_1.getD (Int.toNat i_5) 0)) 0)) then
      rt true
    else
      ckB (inR .i64 (i_5 + 1)) <|
      nx (i_5 + 1)
  else
    dn ()
def qqb (m_0:(List Int)) (l_1:(List Int)) (s0:Int):Option (Unit ⊕ Bool) :=
  loopM (fun a=>qcq m_0 l_1 a (fun a'=>some (.next a')) (fun e=>some (.done e)) (fun r=>some (.ret r))) s0
def qoj:Shp:=⟨[(0,.d false (.slice (.int .i64))),(1,.d false (.slice (.int .i64))),(5,.d true (.int .i64))],[]⟩
def qod:Shp:=⟨[],[]⟩
def qha (m_0:(List Int)) (l_1:(List Int)):Option Bool :=
  bnd (qqb m_0 l_1 0) fun oe1 =>
  lk oe1 (fun e1 =>
    some false) (fun r=>some r)
def q7u (p_0:Int) (p_1:(List Int)):Option Bool :=
  ckB (ix 0 1) <|
  bnd (q43 p_1 p_0) fun r1 =>
  some r1
def q3d {R:Type} (s_0:(List Int)) (f_1c0:(List Int)) (v_7:Int) (v_8:Int) (nx:Int → Option R) (dn:Unit → Option R) (rt:Int → Option R):Option R :=
  bif decide (v_8 < v_7) then
    ckB (ix v_8 s_0.length) <|
    ckB (ix v_8 s_0.length) <|
    bnd (q7u (s_0.getD (Int.toNat v_8) 0) f_1c0) fun r1 =>
    bif r1 then
      rt v_8
    else
      ckB (inR .i64 (v_8 + 1)) <|
      nx (v_8 + 1)
  else
    dn ()
def qac (s_0:(List Int)) (f_1c0:(List Int)) (v_7:Int) (s0:Int):Option (Unit ⊕ Int) :=
  loopM (fun a=>q3d s_0 f_1c0 v_7 a (fun a'=>some (.next a')) (fun e=>some (.done e)) (fun r=>some (.ret r))) s0
def qa0:Shp:=⟨[(0,.d false (.slice (.int .i64))),(1,.fn 91 (.cons (.rp false (.slice (.int .i64))) .nil)),(7,.d true (.int .i64)),(8,.d true (.int .i64))],[]⟩
def q9y:Shp:=⟨[],[]⟩
def q48 (s_0:(List Int)) (f_1c0:(List Int)):Option Int :=
  bnd (qac s_0 f_1c0 (s_0.length:Int) 0) fun oe2 =>
  lk oe2 (fun e2 =>
    some (-1)) (fun r=>some r)
def q1t {R:Type} (del_1c0:(List Int)) (i_5:Int) (j_6:Int) (s_0:(List Int)) (nx:(Int × Int × (List Int)) → Option R) (dn:(Int × (List Int)) → Option R) (rt:(List Int) → Option R):Option R :=
  bif decide (j_6 < (s_0.length:Int)) then
    ckB (ix j_6 s_0.length) <|
    ckB (ix j_6 s_0.length) <|
    bnd (q7u (s_0.getD (Int.toNat j_6) 0) del_1c0) fun r2 =>
    bif (!r2) then
      ckB (ix i_5 s_0.length) <|
      ckB (ix i_5 s_0.length) <|
      ckB (inR .i64 (i_5 + 1)) <|
      ckB (inR .i64 (j_6 + 1)) <|
      nx ((i_5 + 1),(j_6 + 1),(s_0.set (Int.toNat i_5) (s_0.getD (Int.toNat j_6) 0)))
    else
      ckB (inR .i64 (j_6 + 1)) <|
      nx (i_5,(j_6 + 1),s_0)
  else
    dn (i_5,s_0)
def q9f (del_1c0:(List Int)) (s0:(Int × Int × (List Int))):Option ((Int × (List Int)) ⊕ (List Int)) :=
  loopM (fun a=>q1t del_1c0 a.1 a.2.1 a.2.2 (fun a'=>some (.next a')) (fun e=>some (.done e)) (fun r=>some (.ret r))) s0
def q8y:Shp:=⟨[(0,.own 0),(1,.fn 91 (.cons (.rp false (.slice (.int .i64))) .nil)),(5,.d true (.int .i64)),(6,.d true (.int .i64))],[.arr 3 (.fz true) [0] (.int .i64)]⟩
def q8z:Shp:=⟨[(0,.own 0),(5,.d true (.int .i64))],[.arr 3 (.fz true) [0] (.int .i64)]⟩
def q40 (del_1c0:(List Int)) (s_0:(List Int)):Option (List Int) :=
  bnd (q48 s_0 del_1c0) fun r1 =>
  bif decide (r1=(-1)) then
    some s_0
  else
    ckB (inR .i64 (r1 + 1)) <|
    bnd (q9f del_1c0 (r1,(r1 + 1),s_0)) fun oe3 =>
    lk oe3 (fun e3 =>
      ckB (cut e3.1 (e3.2.length:Int) e3.2.length) <|
      ckB (cut 0 e3.1 (copyL e3.2 (Int.toNat e3.1) ((Int.toNat (e3.2.length:Int)) - (Int.toNat e3.1)) (List.replicate ((Int.toNat (e3.2.length:Int)) - (Int.toNat e3.1)) (0:Int))).length) <|
      some (((copyL e3.2 (Int.toNat e3.1) ((Int.toNat (e3.2.length:Int)) - (Int.toNat e3.1)) (List.replicate ((Int.toNat (e3.2.length:Int)) - (Int.toNat e3.1)) (0:Int))).drop 0).take ((Int.toNat e3.1) - 0))) (fun r=>some r)
def q9o {R:Type} (trap_2:Bool) (v_20:(List Trans)) (v_21:Int) (n_30:Int) (n_31:(List Trans)) (n_32:Int) (n_33:Int) (v_22:Int) (out_7:(List Int)) (nx:(Int × (List Int)) → Option R) (dn:(List Int) → Option R) (rt:(List Int) → Option R):Option R :=
  bif decide (v_22 < v_21) then
    ckB (ix v_22 v_20.length) <|
    ckB (ix v_22 v_20.length) <|
    bnd (qek (v_20.getD (Int.toNat v_22) Trans.z) trap_2) fun r3 =>
    bnd (qb8 r3.2 out_7) fun r4 =>
    bif (!r4) then
      bnd (q40 r3.1 out_7) fun r5 =>
      ckB (inR .i64 (v_22 + 1)) <|
      nx ((v_22 + 1),r5)
    else
      ckB (inR .i64 (v_22 + 1)) <|
      nx ((v_22 + 1),out_7)
  else
    dn out_7
def qkh (trap_2:Bool) (v_20:(List Trans)) (v_21:Int) (n_30:Int) (n_31:(List Trans)) (n_32:Int) (n_33:Int) (s0:(Int × (List Int))):Option ((List Int) ⊕ (List Int)) :=
  loopM (fun a=>q9o trap_2 v_20 v_21 n_30 n_31 n_32 n_33 a.1 a.2 (fun a'=>some (.next a')) (fun e=>some (.done e)) (fun r=>some (.ret r))) s0
def qjl:Shp:=⟨[(2,.d true .bool),(3,.ptr 0),(7,.own 1),(20,.d false (.slice Trans.ty)),(21,.d true (.int .i64)),(22,.d true (.int .i64))],[.cs 24 4 1 (.cons (.d true (.int .i64)) (.cons (.d false (.slice Trans.ty)) (.cons (.d true (.int .i64)) (.cons (.d true (.int .i64)) .nil)))),.arr 3 (.fz true) [0] (.int .i64)]⟩
def qjc:Shp:=⟨[(2,.d true .bool),(3,.ptr 0),(7,.own 1)],[.cs 24 4 1 (.cons (.d true (.int .i64)) (.cons (.d false (.slice Trans.ty)) (.cons (.d true (.int .i64)) (.cons (.d true (.int .i64)) .nil)))),.arr 3 (.fz true) [0] (.int .i64)]⟩
def q9w {R:Type} (trap_2:Bool) (n_30:Int) (n_31:(List Trans)) (n_32:Int) (n_33:Int) (out_7:(List Int)) (nx:(List Int) → Option R) (dn:(List Int) → Option R) (rt:(List Int) → Option R):Option R :=
  bnd (qc6 (n_30,n_31,n_32,n_33,()) out_7 trap_2) fun r2 =>
  bif (!r2) then
    bnd (qkh trap_2 n_31 (n_31.length:Int) n_30 n_31 n_32 n_33 (0,out_7)) fun oe6 =>
    lk oe6 (fun e6 =>
      nx e6) (fun r=>rt r)
  else
    dn out_7
def ql8 (trap_2:Bool) (n_30:Int) (n_31:(List Trans)) (n_32:Int) (n_33:Int) (s0:(List Int)):Option ((List Int) ⊕ (List Int)) :=
  loopM (fun a=>q9w trap_2 n_30 n_31 n_32 n_33 a (fun a'=>some (.next a')) (fun e=>some (.done e)) (fun r=>some (.ret r))) s0
def qjb:Shp:=⟨[(2,.d true .bool),(3,.ptr 0),(7,.own 1)],[.cs 24 4 1 (.cons (.d true (.int .i64)) (.cons (.d false (.slice Trans.ty)) (.cons (.d true (.int .i64)) (.cons (.d true (.int .i64)) .nil)))),.arr 3 (.fz true) [0] (.int .i64)]⟩
def qjp:Shp:=⟨[(7,.own 0)],[.arr 3 (.fz true) [0] (.int .i64)]⟩
def q7e (n_0:Net) (l_1:(List Int)) (trap_2:Bool):Option (List Int) :=
  bnd (q2t l_1) fun r1 =>
  bnd (ql8 trap_2 n_0.1 n_0.2.1 n_0.2.2.1 n_0.2.2.2.1 r1) fun oe7 =>
  lk oe7 (fun e7 =>
    bif decide ((e7.length:Int)=0) then
      some []
    else
      some e7) (fun r=>some r)
def q9n {R:Type} (m_1:(List Int)) (v_23:(List (List Int))) (v_24:Int) (n_20:Int) (n_21:(List Trans)) (n_22:Int) (n_23:Int) (v_25:Int) (nx:Int → Option R) (dn:Unit → Option R) (rt:(Bool × (List Int) × Int) → Option R):Option R :=
  bif decide (v_25 < v_24) then
    ckB (ix v_25 v_23.length) <|
    ckB (ix v_25 v_23.length) <|
    bnd (q7e (n_20,n_21,n_22,n_23,()) (v_23.getD (Int.toNat v_25) []) true) fun r3 =>
    bnd (q9b r3 m_1) fun r4 =>
    bif (!r4) then
      rt (false,(v_23.getD (Int.toNat v_25) []),0)
    else
      ckB (inR .i64 (v_25 + 1)) <|
      nx (v_25 + 1)
  else
    dn ()
def qky (m_1:(List Int)) (v_23:(List (List Int))) (v_24:Int) (n_20:Int) (n_21:(List Trans)) (n_22:Int) (n_23:Int) (s0:Int):Option (Unit ⊕ (Bool × (List Int) × Int)) :=
  loopM (fun a=>q9n m_1 v_23 v_24 n_20 n_21 n_22 n_23 a (fun a'=>some (.next a')) (fun e=>some (.done e)) (fun r=>some (.ret r))) s0
def qjm:Shp:=⟨[(1,.d false (.slice (.int .i64))),(2,.ptr 0),(23,.nl false (.d true (.slice (.slice (.int .i64))))),(24,.d true (.int .i64)),(25,.d true (.int .i64))],[.cs 24 4 1 (.cons (.d true (.int .i64)) (.cons (.d false (.slice Trans.ty)) (.cons (.d true (.int .i64)) (.cons (.d true (.int .i64)) .nil))))]⟩
def qjd:Shp:=⟨[],[]⟩
def q2j (n_0:Net) (m_1:(List Int)):Option (Bool × (List Int) × Int) :=
  bnd (qdd n_0 m_1) fun r1 =>
  bif (!r1) then
    some (false,[],1)
  else
    bnd (q7d n_0) fun r2 =>
    bif (!decide (r2.1=0)) then
      some (false,[],r2.1)
    else
      bnd (qky m_1 r2.2 (r2.2.length:Int) n_0.1 n_0.2.1 n_0.2.2.1 n_0.2.2.2.1 0) fun oe5 =>
      lk oe5 (fun e5 =>
        some (true,[],0)) (fun r=>some r)
def qbr {R:Type} (n_10:Int) (n_11:(List Trans)) (n_12:Int) (n_13:Int) (v_20:Int) (v_21:(List Trans)) (v_22:Int) (v_23:Int) (out_30:Int) (out_32:Int) (out_33:Int) (i_4:Int) (out_31:(List Trans)) (nx:(Int × (List Trans)) → Option R) (dn:(List Trans) → Option R) (rt:Net → Option R):Option R :=
  bif decide (i_4 < (n_11.length:Int)) then
    ckB (ix i_4 n_11.length) <|
    ckB (ix i_4 n_11.length) <|
    ckB (room (0 + (n_11.getD (Int.toNat i_4) Trans.z).2.2.1.length) 8) <|
    ckB (room (0 + (n_11.getD (Int.toNat i_4) Trans.z).2.1.length) 8) <|
    ckB (room (out_31.length + 1) 64) <|
    ckB (inR .i64 (i_4 + 1)) <|
    nx ((i_4 + 1),(out_31 ++ [((n_11.getD (Int.toNat i_4) Trans.z).1,([] ++ (n_11.getD (Int.toNat i_4) Trans.z).2.2.1),([] ++ (n_11.getD (Int.toNat i_4) Trans.z).2.1),())]))
  else
    dn out_31
def qoi (n_10:Int) (n_11:(List Trans)) (n_12:Int) (n_13:Int) (v_20:Int) (v_21:(List Trans)) (v_22:Int) (v_23:Int) (out_30:Int) (out_32:Int) (out_33:Int) (s0:(Int × (List Trans))):Option ((List Trans) ⊕ Net) :=
  loopM (fun a=>qbr n_10 n_11 n_12 n_13 v_20 v_21 v_22 v_23 out_30 out_32 out_33 a.1 a.2 (fun a'=>some (.next a')) (fun e=>some (.done e)) (fun r=>some (.ret r))) s0
def qn6:Shp:=⟨[(1,.ptr 0),(2,.ptr 1),(3,.ptr 2),(4,.d true (.int .i64))],[.cs 24 4 1 (.cons (.d true (.int .i64)) (.cons (.d false (.slice Trans.ty)) (.cons (.d true (.int .i64)) (.cons (.d true (.int .i64)) .nil)))),.cs 24 4 1 (.cons (.d true (.int .i64)) (.cons (.d true (.slice Trans.ty)) (.cons (.d true (.int .i64)) (.cons (.d true (.int .i64)) .nil)))),.cs 24 4 1 (.cons (.d true (.int .i64)) (.cons (.own 3) (.cons (.d true (.int .i64)) (.cons (.d true (.int .i64)) .nil)))),.arr 61 (.fz true) [0,3,3] Trans.ty]⟩
def qmc:Shp:=⟨[(2,.ptr 0),(3,.ptr 1)],[.cs 24 4 1 (.cons (.d true (.int .i64)) (.cons (.d true (.slice Trans.ty)) (.cons (.d true (.int .i64)) (.cons (.d true (.int .i64)) .nil)))),.cs 24 4 1 (.cons (.d true (.int .i64)) (.cons (.own 2) (.cons (.d true (.int .i64)) (.cons (.d true (.int .i64)) .nil)))),.arr 61 (.fz true) [0,3,3] Trans.ty]⟩
def qew (n_0:Net):Option Net :=
  bnd (qoi n_0.1 n_0.2.1 n_0.2.2.1 n_0.2.2.2.1 0 [] 0 0 n_0.1 n_0.2.2.2.1 n_0.2.2.1 (0,[])) fun oe1 =>
  lk oe1 (fun e1 =>
    some (n_0.1,e1,n_0.2.2.2.1,n_0.2.2.1,())) (fun r=>some r)
def qdp (n_0:Net) (l_1:(List Int)):Option (List Int) :=
  bnd (qew n_0) fun r1 =>
  bnd (qbf r1 l_1) fun r2 =>
  some r2
def qap {R:Type} (m_1:(List Int)) (l_7:(List (List Int))) (n_20:Int) (n_21:(List Trans)) (n_22:Int) (n_23:Int) (i_9:Int) (nx:Int → Option R) (dn:Unit → Option R) (rt:(Bool × (List Int) × Int) → Option R):Option R :=
  bif decide (i_9 < (l_7.length:Int)) then
    ckB (ix i_9 l_7.length) <|
    ckB (ix i_9 l_7.length) <|
    bnd (qdp (n_20,n_21,n_22,n_23,()) (l_7.getD (Int.toNat i_9) [])) fun r2 =>
    bnd (qha m_1 r2) fun r3 =>
    bif (!r3) then
      ckB (ix i_9 l_7.length) <|
      ckB (ix i_9 l_7.length) <|
      rt (false,(l_7.getD (Int.toNat i_9) []),0)
    else
      ckB (inR .i64 (i_9 + 1)) <|
      nx (i_9 + 1)
  else
    dn ()
def qn4 (m_1:(List Int)) (l_7:(List (List Int))) (n_20:Int) (n_21:(List Trans)) (n_22:Int) (n_23:Int) (s0:Int):Option (Unit ⊕ (Bool × (List Int) × Int)) :=
  loopM (fun a=>qap m_1 l_7 n_20 n_21 n_22 n_23 a (fun a'=>some (.next a')) (fun e=>some (.done e)) (fun r=>some (.ret r))) s0
def qla:Shp:=⟨[(1,.d false (.slice (.int .i64))),(2,.ptr 0),(7,.d true (.slice (.slice (.int .i64)))),(9,.d true (.int .i64))],[.cs 24 4 1 (.cons (.d true (.int .i64)) (.cons (.d false (.slice Trans.ty)) (.cons (.d true (.int .i64)) (.cons (.d true (.int .i64)) .nil))))]⟩
def qko:Shp:=⟨[],[]⟩
def q88 (n_0:Net) (m_1:(List Int)):Option (Bool × (List Int) × Int) :=
  bnd (q9d n_0) fun r1 =>
  bif (!decide (r1.2=0)) then
    some (false,[],r1.2)
  else
    bnd (qn4 m_1 r1.1 n_0.1 n_0.2.1 n_0.2.2.1 n_0.2.2.2.1 0) fun oe4 =>
    lk oe4 (fun e4 =>
      some (true,[],0)) (fun r=>some r)
def qbv (n_0:Net) (m_1:(List Int)):Option Bool :=
  bnd (qp6) fun r1 =>
  bif (!r1) then
    some false
  else
    bnd (qj4 n_0) fun r2 =>
    bif r2 then
      some true
    else
      bif decide ((60:Int) < (m_1.length:Int)) then
        some true
      else
        bnd (q2j n_0 m_1) fun r3 =>
        bnd (qj9 n_0) fun r4 =>
        bif (!r4) then
          bif (!r3.1) then
            bif decide ((r3.2.1.length:Int)=0) then
              some (decide (r3.2.2=1))
            else
              some false
          else
            some false
        else
          bnd (qez n_0 m_1) fun r5 =>
          bif (!r5) then
            bif (!r3.1) then
              bif decide ((r3.2.1.length:Int)=0) then
                some (decide (r3.2.2=1))
              else
                some false
            else
              some false
          else
            bnd (q88 n_0 m_1) fun r6 =>
            bif (r3.1 == r6.1) then
              bnd (q2u r3.2.1 r6.2.1) fun r7 =>
              bif r7 then
                some (decide (r3.2.2=r6.2.2))
              else
                some false
            else
              some false
end Go.Proofs.Ytjhojmninmipcaa
