/-
  What the functions compute, as plain functions of Lean. Made by program (mg3.py) out of the translation.
-/
import Derived.Test.YtjhojmninmipcaaZ9KE
set_option linter.all false
set_option maxRecDepth 100000
namespace Go.Proofs.Ytjhojmninmipcaa
open Go.K Go.M
abbrev Trans:Type:=ByteArray × (List Int) × (List Int) × Unit
abbrev Trans.z:Trans:=(⟨#[]⟩,[],[],())
def Trans.ty:Ty:=.struct (.cons .str (.cons (.slice (.int .i64)) (.cons (.slice (.int .i64)) .nil)))
abbrev Net:Type:=Int × (List Trans) × Int × Int × Unit
abbrev Net.z:Net:=(0,[],0,0,())
def Net.ty:Ty:=.struct (.cons (.int .i64) (.cons (.slice Trans.ty) (.cons (.int .i64) (.cons (.int .i64) .nil))))
abbrev qz:Type:=(List Int) × (List Int) × Unit
abbrev qz.z:qz:=([],[],())
def qz.ty:Ty:=.struct (.cons (.slice (.int .i64)) (.cons (.slice (.int .i64)) .nil))
abbrev bytes0:ByteArray:=⟨#[0,1,2,2,3,3,3,3,4,4,4,4,4,4,4,4,5,5,5,5,5,5,5,5,5,5,5,5,5,5,5,5,6,6,6,6,6,6,6,6,6,6,6,6,6,6,6,6,6,6,6,6,6,6,6,6,6,6,6,6,6,6,6,6,7,7,7,7,7,7,7,7,7,7,7,7,7,7,7,7,7,7,7,7,7,7,7,7,7,7,7,7,7,7,7,7,7,7,7,7,7,7,7,7,7,7,7,7,7,7,7,7,7,7,7,7,7,7,7,7,7,7,7,7,7,7,7,7,8,8,8,8,8,8,8,8,8,8,8,8,8,8,8,8,8,8,8,8,8,8,8,8,8,8,8,8,8,8,8,8,8,8,8,8,8,8,8,8,8,8,8,8,8,8,8,8,8,8,8,8,8,8,8,8,8,8,8,8,8,8,8,8,8,8,8,8,8,8,8,8,8,8,8,8,8,8,8,8,8,8,8,8,8,8,8,8,8,8,8,8,8,8,8,8,8,8,8,8,8,8,8,8,8,8,8,8,8,8,8,8,8,8,8,8,8,8,8,8,8,8,8,8,8,8,8,8]⟩
def qfr (c_0:Int):Option Bool :=
  bif decide ((65:Int) ≤ c_0) then
    bif decide (c_0 ≤ 90) then
      some true
    else
      bif decide ((97:Int) ≤ c_0) then
        some (decide (c_0 ≤ 122))
      else
        some false
  else
    bif decide ((97:Int) ≤ c_0) then
      some (decide (c_0 ≤ 122))
    else
      some false
def qnu (c_0:Int):Option Bool :=
  bnd (qfr c_0) fun r1 =>
  bif r1 then
    some true
  else
    bif decide ((48:Int) ≤ c_0) then
      bif decide (c_0 ≤ 57) then
        some true
      else
        bif decide (c_0=95) then
          some true
        else
          bif decide (c_0=45) then
            some true
          else
            some (decide (c_0=46))
    else
      bif decide (c_0=95) then
        some true
      else
        bif decide (c_0=45) then
          some true
        else
          some (decide (c_0=46))
def qbu {R:Type} (s_0:ByteArray) (v_19:Int) (v_20:Int) (nx:Int → Option R) (dn:Unit → Option R) (rt:Bool → Option R):Option R :=
  bif decide (v_20 < v_19) then
    ckB (ix v_20 (ByteArray.size s_0)) <|
    bnd (qnu (((ByteArray.data s_0).getD (Int.toNat v_20) 0).toNat:Int)) fun r2 =>
    bif (!r2) then
      rt false
    else
      ckB (inR .i64 (v_20 + 1)) <|
      nx (v_20 + 1)
  else
    dn ()
def qqq (s_0:ByteArray) (v_19:Int) (s0:Int):Option (Unit ⊕ Bool) :=
  loopM (fun a=>qbu s_0 v_19 a (fun a'=>some (.next a')) (fun e=>some (.done e)) (fun r=>some (.ret r))) s0
def qpk:Shp:=⟨[(0,.d true .str),(19,.d true (.int .i64)),(20,.d true (.int .i64))],[]⟩
def qp0:Shp:=⟨[],[]⟩
def qjo (s_0:ByteArray):Option Bool :=
  bif decide ((ByteArray.size s_0:Int) < 1) then
    some false
  else
    bif decide ((40:Int) < (ByteArray.size s_0:Int)) then
      some false
    else
      ckB (ix 0 (ByteArray.size s_0)) <|
      bnd (qfr (((ByteArray.data s_0).getD 0 0).toNat:Int)) fun r1 =>
      bif (!r1) then
        some false
      else
        bnd (qqq s_0 (ByteArray.size s_0:Int) 0) fun oe3 =>
        lk oe3 (fun e3 =>
          some true) (fun r=>some r)
def q86 {R:Type} (l_1:(List Int)) (v_7:(List Int)) (v_8:Int) (n_20:Int) (n_21:(List Trans)) (n_22:Int) (n_23:Int) (v_9:Int) (nx:Int → Option R) (dn:Unit → Option R) (rt:Bool → Option R):Option R :=
  bif decide (v_9 < v_8) then
    ckB (ix v_9 v_7.length) <|
    ckB (ix v_9 v_7.length) <|
    bif decide ((v_7.getD (Int.toNat v_9) 0) < 0) then
      rt false
    else
      bif decide (n_20 ≤ (v_7.getD (Int.toNat v_9) 0)) then
        rt false
      else
        bif decide ((0:Int) < v_9) then
          ckB (inR .i64 (v_9 - 1)) <|
          ckB (ix (v_9 - 1) l_1.length) <|
          ckB (ix (v_9 - 1) l_1.length) <|
          bif decide ((v_7.getD (Int.toNat v_9) 0) ≤ (l_1.getD (Int.toNat (v_9 - 1)) 0)) then
            rt false
          else
            ckB (inR .i64 (v_9 + 1)) <|
            nx (v_9 + 1)
        else
          ckB (inR .i64 (v_9 + 1)) <|
          nx (v_9 + 1)
  else
    dn ()
def qpn (l_1:(List Int)) (v_7:(List Int)) (v_8:Int) (n_20:Int) (n_21:(List Trans)) (n_22:Int) (n_23:Int) (s0:Int):Option (Unit ⊕ Bool) :=
  loopM (fun a=>q86 l_1 v_7 v_8 n_20 n_21 n_22 n_23 a (fun a'=>some (.next a')) (fun e=>some (.done e)) (fun r=>some (.ret r))) s0
def qnq:Shp:=⟨[(1,.d false (.slice (.int .i64))),(2,.ptr 0),(7,.d false (.slice (.int .i64))),(8,.d true (.int .i64)),(9,.d true (.int .i64))],[.cs 24 4 1 (.cons (.d true (.int .i64)) (.cons (.d false (.slice Trans.ty)) (.cons (.d true (.int .i64)) (.cons (.d true (.int .i64)) .nil))))]⟩
def qo4:Shp:=⟨[],[]⟩
def q63 (n_0:Net) (l_1:(List Int)):Option Bool :=
  bnd (qpn l_1 l_1 (l_1.length:Int) n_0.1 n_0.2.1 n_0.2.2.1 n_0.2.2.2.1 0) fun oe1 =>
  lk oe1 (fun e1 =>
    some true) (fun r=>some r)
def qes {R:Type} (v_20:(List Trans)) (v_21:Int) (n_10:Int) (n_11:(List Trans)) (n_12:Int) (n_13:Int) (v_22:Int) (nx:Int → Option R) (dn:Unit → Option R) (rt:Bool → Option R):Option R :=
  bif decide (v_22 < v_21) then
    ckB (ix v_22 v_20.length) <|
    ckB (ix v_22 v_20.length) <|
    bif (!(ByteArray.toList (v_20.getD (Int.toNat v_22) Trans.z).1 == ByteArray.toList ⟨#[]⟩)) then
      bnd (qjo (v_20.getD (Int.toNat v_22) Trans.z).1) fun r1 =>
      bif (!r1) then
        rt false
      else
        bnd (q63 (n_10,n_11,n_12,n_13,()) (v_20.getD (Int.toNat v_22) Trans.z).2.1) fun r2 =>
        bif (!r2) then
          rt false
        else
          bnd (q63 (n_10,n_11,n_12,n_13,()) (v_20.getD (Int.toNat v_22) Trans.z).2.2.1) fun r3 =>
          bif (!r3) then
            rt false
          else
            ckB (inR .i64 (v_22 + 1)) <|
            nx (v_22 + 1)
    else
      bnd (q63 (n_10,n_11,n_12,n_13,()) (v_20.getD (Int.toNat v_22) Trans.z).2.1) fun r4 =>
      bif (!r4) then
        rt false
      else
        bnd (q63 (n_10,n_11,n_12,n_13,()) (v_20.getD (Int.toNat v_22) Trans.z).2.2.1) fun r5 =>
        bif (!r5) then
          rt false
        else
          ckB (inR .i64 (v_22 + 1)) <|
          nx (v_22 + 1)
  else
    dn ()
def qrc (v_20:(List Trans)) (v_21:Int) (n_10:Int) (n_11:(List Trans)) (n_12:Int) (n_13:Int) (s0:Int):Option (Unit ⊕ Bool) :=
  loopM (fun a=>qes v_20 v_21 n_10 n_11 n_12 n_13 a (fun a'=>some (.next a')) (fun e=>some (.done e)) (fun r=>some (.ret r))) s0
def qp5:Shp:=⟨[(1,.ptr 0),(20,.d false (.slice Trans.ty)),(21,.d true (.int .i64)),(22,.d true (.int .i64))],[.cs 24 4 1 (.cons (.d true (.int .i64)) (.cons (.d false (.slice Trans.ty)) (.cons (.d true (.int .i64)) (.cons (.d true (.int .i64)) .nil))))]⟩
def qpt:Shp:=⟨[(1,.ptr 0)],[.cs 24 4 1 (.cons (.d true (.int .i64)) (.cons (.d false (.slice Trans.ty)) (.cons (.d true (.int .i64)) (.cons (.d true (.int .i64)) .nil))))]⟩
def qax (n_0:Net):Option Bool :=
  bif decide (n_0.1 < 1) then
    some false
  else
    bif decide ((40:Int) < n_0.1) then
      some false
    else
      bif decide ((60:Int) < (n_0.2.1.length:Int)) then
        some false
      else
        bnd (qrc n_0.2.1 (n_0.2.1.length:Int) n_0.1 n_0.2.1 n_0.2.2.1 n_0.2.2.2.1 0) fun oe6 =>
        lk oe6 (fun e6 =>
          bnd (q63 n_0 [n_0.2.2.1]) fun r7 =>
          bif r7 then
            bnd (q63 n_0 [n_0.2.2.2.1]) fun r8 =>
            some r8
          else
            some false) (fun r=>some r)
def qdi {R:Type} (v_6:(List Int)) (v_7:Int) (m_3:Int) (v_8:Int) (nx:(Int × Int) → Option R) (dn:Int → Option R) (rt:Int → Option R):Option R :=
  bif decide (v_8 < v_7) then
    ckB (ix v_8 v_6.length) <|
    ckB (ix v_8 v_6.length) <|
    ckB (decide (0 ≤ (v_6.getD (Int.toNat v_8) 0))) <|
    ckB (inR .i64 (v_8 + 1)) <|
    nx ((bitI .or .u32 m_3 (shlI .u32 1 (v_6.getD (Int.toNat v_8) 0))),(v_8 + 1))
  else
    dn m_3
def qpm (v_6:(List Int)) (v_7:Int) (s0:(Int × Int)):Option (Int ⊕ Int) :=
  loopM (fun a=>qdi v_6 v_7 a.1 a.2 (fun a'=>some (.next a')) (fun e=>some (.done e)) (fun r=>some (.ret r))) s0
def qo5:Shp:=⟨[(3,.d true (.int .u32)),(6,.d false (.slice (.int .i64))),(7,.d true (.int .i64)),(8,.d true (.int .i64))],[]⟩
def qnn:Shp:=⟨[(3,.d true (.int .u32))],[]⟩
def qea (l_0:(List Int)):Option Int :=
  bnd (qpm l_0 (l_0.length:Int) (0,0)) fun oe1 =>
  lk oe1 (fun e1 =>
    some e1) (fun r=>some r)
def qbo {R:Type} (v_15:(List Trans)) (v_16:Int) (n_10:Int) (n_11:(List Trans)) (n_12:Int) (n_13:Int) (v_17:Int) (in_3:(List Int)) (out_4:(List Int)) (nx:(Int × (List Int) × (List Int)) → Option R) (dn:((List Int) × (List Int)) → Option R) (rt:(List Int) → Option R):Option R :=
  bif decide (v_17 < v_16) then
    ckB (ix v_17 v_15.length) <|
    ckB (ix v_17 v_15.length) <|
    bnd (qea (v_15.getD (Int.toNat v_17) Trans.z).2.1) fun r1 =>
    bnd (qea (v_15.getD (Int.toNat v_17) Trans.z).2.2.1) fun r2 =>
    ckB (room (in_3.length + 1) 4) <|
    ckB (room (out_4.length + 1) 4) <|
    ckB (inR .i64 (v_17 + 1)) <|
    nx ((v_17 + 1),(in_3 ++ [r1]),(out_4 ++ [r2]))
  else
    dn (in_3,out_4)
def qn1 (v_15:(List Trans)) (v_16:Int) (n_10:Int) (n_11:(List Trans)) (n_12:Int) (n_13:Int) (s0:(Int × (List Int) × (List Int))):Option (((List Int) × (List Int)) ⊕ (List Int)) :=
  loopM (fun a=>qbo v_15 v_16 n_10 n_11 n_12 n_13 a.1 a.2.1 a.2.2 (fun a'=>some (.next a')) (fun e=>some (.done e)) (fun r=>some (.ret r))) s0
def ql4:Shp:=⟨[(1,.ptr 0),(3,.nl false (.own 1)),(4,.nl false (.own 2)),(15,.d false (.slice Trans.ty)),(16,.d true (.int .i64)),(17,.d true (.int .i64))],[.cs 24 4 1 (.cons (.d true (.int .i64)) (.cons (.d false (.slice Trans.ty)) (.cons (.d true (.int .i64)) (.cons (.d true (.int .i64)) .nil)))),.arr 67 (.fz true) [0] (.int .u32),.arr 67 (.fz true) [0] (.int .u32)]⟩
def ql6:Shp:=⟨[(1,.ptr 0),(3,.nl false (.own 1)),(4,.nl false (.own 2))],[.cs 24 4 1 (.cons (.d true (.int .i64)) (.cons (.d false (.slice Trans.ty)) (.cons (.d true (.int .i64)) (.cons (.d true (.int .i64)) .nil)))),.arr 67 (.fz true) [0] (.int .u32),.arr 67 (.fz true) [0] (.int .u32)]⟩
def q6c {R:Type} (in_3:(List Int)) (out_4:(List Int)) (s_9:Int) (v_46:Int) (n_10:Int) (n_11:(List Trans)) (n_12:Int) (n_13:Int) (found_8:(List Int)) (v_47:Int) (siphon_7:(List Bool)) (nx:(Int × (List Bool)) → Option R) (dn:(List Bool) → Option R) (rt:(List Int) → Option R):Option R :=
  bif decide (v_47 < v_46) then
    ckB (decide (0 ≤ v_47)) <|
    bif (!decide ((bitI .and .u32 s_9 (shlI .u32 1 v_47))=0)) then
      ckB (ix (bitI .andNot .u32 s_9 (shlI .u32 1 v_47)) siphon_7.length) <|
      ckB (ix (bitI .andNot .u32 s_9 (shlI .u32 1 v_47)) siphon_7.length) <|
      bif (siphon_7.getD (Int.toNat (bitI .andNot .u32 s_9 (shlI .u32 1 v_47))) false) then
        ckB (ix s_9 siphon_7.length) <|
        ckB (ix s_9 siphon_7.length) <|
        ckB (inR .i64 (v_47 + 1)) <|
        nx ((v_47 + 1),(siphon_7.set (Int.toNat s_9) true))
      else
        ckB (inR .i64 (v_47 + 1)) <|
        nx ((v_47 + 1),siphon_7)
    else
      ckB (inR .i64 (v_47 + 1)) <|
      nx ((v_47 + 1),siphon_7)
  else
    dn siphon_7
def qn6 (in_3:(List Int)) (out_4:(List Int)) (s_9:Int) (v_46:Int) (n_10:Int) (n_11:(List Trans)) (n_12:Int) (n_13:Int) (found_8:(List Int)) (s0:(Int × (List Bool))):Option ((List Bool) ⊕ (List Int)) :=
  loopM (fun a=>q6c in_3 out_4 s_9 v_46 n_10 n_11 n_12 n_13 found_8 a.1 a.2 (fun a'=>some (.next a')) (fun e=>some (.done e)) (fun r=>some (.ret r))) s0
def ql1:Shp:=⟨[(1,.ptr 0),(3,.nl false (.d true (.slice (.int .u32)))),(4,.nl false (.d true (.slice (.int .u32)))),(7,.own 1),(8,.nl false (.own 2)),(9,.d true (.int .u32)),(46,.d true (.int .i64)),(47,.d true (.int .i64))],[.cs 24 4 1 (.cons (.d true (.int .i64)) (.cons (.d false (.slice Trans.ty)) (.cons (.d true (.int .i64)) (.cons (.d true (.int .i64)) .nil)))),.arr 4 (.fz true) [0] .bool,.arr 67 (.fz true) [0] (.int .u32)]⟩
def qky:Shp:=⟨[(1,.ptr 0),(3,.nl false (.d true (.slice (.int .u32)))),(4,.nl false (.d true (.slice (.int .u32)))),(7,.own 1),(8,.nl false (.own 2)),(9,.d true (.int .u32))],[.cs 24 4 1 (.cons (.d true (.int .i64)) (.cons (.d false (.slice Trans.ty)) (.cons (.d true (.int .i64)) (.cons (.d true (.int .i64)) .nil)))),.arr 4 (.fz true) [0] .bool,.arr 67 (.fz true) [0] (.int .u32)]⟩
def qbn {R:Type} (in_3:(List Int)) (out_4:(List Int)) (s_9:Int) (v_73:Int) (n_10:Int) (n_11:(List Trans)) (n_12:Int) (n_13:Int) (siphon_7:(List Bool)) (found_8:(List Int)) (ok_12:Bool) (v_74:Int) (nx:(Bool × Int) → Option R) (dn:Bool → Option R) (rt:(List Int) → Option R):Option R :=
  bif decide (v_74 < v_73) then
    bif ok_12 then
      ckB (ix v_74 out_4.length) <|
      ckB (ix v_74 out_4.length) <|
      bif decide ((bitI .and .u32 (out_4.getD (Int.toNat v_74) 0) s_9)=0) then
        ckB (inR .i64 (v_74 + 1)) <|
        nx (true,(v_74 + 1))
      else
        ckB (ix v_74 in_3.length) <|
        ckB (ix v_74 in_3.length) <|
        ckB (inR .i64 (v_74 + 1)) <|
        nx ((!decide ((bitI .and .u32 (in_3.getD (Int.toNat v_74) 0) s_9)=0)),(v_74 + 1))
    else
      ckB (inR .i64 (v_74 + 1)) <|
      nx (false,(v_74 + 1))
  else
    dn ok_12
def qn0 (in_3:(List Int)) (out_4:(List Int)) (s_9:Int) (v_73:Int) (n_10:Int) (n_11:(List Trans)) (n_12:Int) (n_13:Int) (siphon_7:(List Bool)) (found_8:(List Int)) (s0:(Bool × Int)):Option (Bool ⊕ (List Int)) :=
  loopM (fun a=>qbn in_3 out_4 s_9 v_73 n_10 n_11 n_12 n_13 siphon_7 found_8 a.1 a.2 (fun a'=>some (.next a')) (fun e=>some (.done e)) (fun r=>some (.ret r))) s0
def qld:Shp:=⟨[(1,.ptr 0),(3,.nl false (.d true (.slice (.int .u32)))),(4,.nl false (.d true (.slice (.int .u32)))),(7,.own 1),(8,.nl false (.own 2)),(9,.d true (.int .u32)),(12,.d true .bool),(73,.d true (.int .i64)),(74,.d true (.int .i64))],[.cs 24 4 1 (.cons (.d true (.int .i64)) (.cons (.d false (.slice Trans.ty)) (.cons (.d true (.int .i64)) (.cons (.d true (.int .i64)) .nil)))),.arr 4 (.fz true) [0] .bool,.arr 67 (.fz true) [0] (.int .u32)]⟩
def qkx:Shp:=⟨[(1,.ptr 0),(3,.nl false (.d true (.slice (.int .u32)))),(4,.nl false (.d true (.slice (.int .u32)))),(7,.own 1),(8,.nl false (.own 2)),(9,.d true (.int .u32)),(12,.d true .bool)],[.cs 24 4 1 (.cons (.d true (.int .i64)) (.cons (.d false (.slice Trans.ty)) (.cons (.d true (.int .i64)) (.cons (.d true (.int .i64)) .nil)))),.arr 4 (.fz true) [0] .bool,.arr 67 (.fz true) [0] (.int .u32)]⟩
def q6b {R:Type} (in_3:(List Int)) (out_4:(List Int)) (n_10:Int) (n_11:(List Trans)) (n_12:Int) (n_13:Int) (s_9:Int) (siphon_7:(List Bool)) (found_8:(List Int)) (nx:(Int × (List Bool) × (List Int)) → Option R) (dn:(List Int) → Option R) (rt:(List Int) → Option R):Option R :=
  ckB (decide (0 ≤ n_10)) <|
  bif decide (s_9 < (shlI .u32 1 n_10)) then
    bnd (qn6 in_3 out_4 s_9 n_10 n_10 n_11 n_12 n_13 found_8 (0,siphon_7)) fun oe4 =>
    lk oe4 (fun e4 =>
      ckB (ix s_9 e4.length) <|
      ckB (ix s_9 e4.length) <|
      bif (e4.getD (Int.toNat s_9) false) then
        nx ((IntKind.wrap .u32 (s_9 + 1)),e4,found_8)
      else
        bnd (qn0 in_3 out_4 s_9 (in_3.length:Int) n_10 n_11 n_12 n_13 e4 found_8 (true,0)) fun oe5 =>
        lk oe5 (fun e5 =>
          bif e5 then
            ckB (ix s_9 e4.length) <|
            ckB (ix s_9 e4.length) <|
            ckB (room (found_8.length + 1) 4) <|
            nx ((IntKind.wrap .u32 (s_9 + 1)),(e4.set (Int.toNat s_9) true),(found_8 ++ [s_9]))
          else
            nx ((IntKind.wrap .u32 (s_9 + 1)),e4,found_8)) (fun r=>rt r)) (fun r=>rt r)
  else
    dn found_8
def qge (in_3:(List Int)) (out_4:(List Int)) (n_10:Int) (n_11:(List Trans)) (n_12:Int) (n_13:Int) (s0:(Int × (List Bool) × (List Int))):Option ((List Int) ⊕ (List Int)) :=
  loopM (fun a=>q6b in_3 out_4 n_10 n_11 n_12 n_13 a.1 a.2.1 a.2.2 (fun a'=>some (.next a')) (fun e=>some (.done e)) (fun r=>some (.ret r))) s0
def qle:Shp:=⟨[(1,.ptr 0),(3,.nl false (.d true (.slice (.int .u32)))),(4,.nl false (.d true (.slice (.int .u32)))),(7,.own 1),(8,.nl false (.own 2)),(9,.d true (.int .u32))],[.cs 24 4 1 (.cons (.d true (.int .i64)) (.cons (.d false (.slice Trans.ty)) (.cons (.d true (.int .i64)) (.cons (.d true (.int .i64)) .nil)))),.arr 4 (.fz true) [0] .bool,.arr 67 (.fz true) [0] (.int .u32)]⟩
def ql0:Shp:=⟨[(8,.nl false (.own 0))],[.arr 67 (.fz true) [0] (.int .u32)]⟩
def qcd (n_0:Net):Option (List Int) :=
  bnd (qn1 n_0.2.1 (n_0.2.1.length:Int) n_0.1 n_0.2.1 n_0.2.2.1 n_0.2.2.2.1 (0,[],[])) fun oe3 =>
  lk oe3 (fun e3 =>
    ckB (decide (0 ≤ n_0.1)) <|
    ckB (mkOk (shlI .i64 1 n_0.1) (shlI .i64 1 n_0.1) 1) <|
    bnd (qge e3.1 e3.2 n_0.1 n_0.2.1 n_0.2.2.1 n_0.2.2.2.1 (1,(List.replicate (Int.toNat (shlI .i64 1 n_0.1)) (false:Bool)),[])) fun oe6 =>
    lk oe6 (fun e6 =>
      some e6) (fun r=>some r)) (fun r=>some r)
def qqs {R:Type} (x_0:Int) (n_2:Int) (dn:Unit → Option R) (rt:Int → Option R):Option R :=
  bif decide ((256:Int) ≤ x_0) then
    ckB (decide (0 ≤ (8:Int))) <|
    ckB (inR .i64 (n_2 + 8)) <|
    ckB (ix (IntKind.wrap .u8 (shrI .u64 x_0 8)) (ByteArray.size bytes0)) <|
    ckB (inR .i64 (((ByteArray.data bytes0).getD (Int.toNat (IntKind.wrap .u8 (shrI .u64 x_0 8))) 0).toNat:Int)) <|
    ckB (inR .i64 ((n_2 + 8) + (((ByteArray.data bytes0).getD (Int.toNat (IntKind.wrap .u8 (shrI .u64 x_0 8))) 0).toNat:Int))) <|
    rt ((n_2 + 8) + (((ByteArray.data bytes0).getD (Int.toNat (IntKind.wrap .u8 (shrI .u64 x_0 8))) 0).toNat:Int))
  else
    ckB (ix (IntKind.wrap .u8 x_0) (ByteArray.size bytes0)) <|
    ckB (inR .i64 (((ByteArray.data bytes0).getD (Int.toNat (IntKind.wrap .u8 x_0)) 0).toNat:Int)) <|
    ckB (inR .i64 (n_2 + (((ByteArray.data bytes0).getD (Int.toNat (IntKind.wrap .u8 x_0)) 0).toNat:Int))) <|
    rt (n_2 + (((ByteArray.data bytes0).getD (Int.toNat (IntKind.wrap .u8 x_0)) 0).toNat:Int))
def qhy (x_0:Int) (n_2:Int):Option (Unit ⊕ Int) :=
  qqs x_0 n_2 (fun e=>some (.inl e)) (fun r=>some (.inr r))
def qqz:Shp:=⟨[(0,.d true (.int .u64)),(2,.d true (.int .i64))],[]⟩
def qrf:Shp:=⟨[],[]⟩
def qvb (x_0:Int):Option Int :=
  bif decide ((4294967296:Int) ≤ x_0) then
    ckB (decide (0 ≤ (32:Int))) <|
    bif decide ((65536:Int) ≤ (shrI .u64 x_0 32)) then
      ckB (decide (0 ≤ (16:Int))) <|
      ckB (inR .i64 ((32:Int) + 16)) <|
      bnd (qhy (shrI .u64 (shrI .u64 x_0 32) 16) ((32:Int) + 16)) fun oe1 =>
      lk oe1 (fun e1 =>
        none) (fun r=>some r)
    else
      bnd (qhy (shrI .u64 x_0 32) 32) fun oe2 =>
      lk oe2 (fun e2 =>
        none) (fun r=>some r)
  else
    bif decide ((65536:Int) ≤ x_0) then
      ckB (decide (0 ≤ (16:Int))) <|
      ckB (inR .i64 ((0:Int) + 16)) <|
      bnd (qhy (shrI .u64 x_0 16) ((0:Int) + 16)) fun oe3 =>
      lk oe3 (fun e3 =>
        none) (fun r=>some r)
    else
      bnd (qhy x_0 0) fun oe4 =>
      lk oe4 (fun e4 =>
        none) (fun r=>some r)
def qn2 (x_0:Int):Option Int :=
  bnd (qvb x_0) fun r1 =>
  some r1
def q8f (x_0:Int):Option Bool :=
  some (!decide (x_0=x_0))
def qdj (x_0:Int) (y_1:Int):Option Int :=
  bnd (q8f x_0) fun r1 =>
  bnd (q8f y_1) fun r2 =>
  bif r1 then
    bif r2 then
      some 0
    else
      some (-1)
  else
    bif r2 then
      some 1
    else
      bif decide (x_0 < y_1) then
        some (-1)
      else
        bif decide (y_1 < x_0) then
          some 1
        else
          some 0
def q1s {R:Type} (s1_0:(List Int)) (s2_1:(List Int)) (v_9:(List Int)) (v_10:Int) (v_11:Int) (nx:Int → Option R) (dn:Unit → Option R) (rt:Int → Option R):Option R :=
  bif decide (v_11 < v_10) then
    ckB (ix v_11 v_9.length) <|
    ckB (ix v_11 v_9.length) <|
    bif decide ((s2_1.length:Int) ≤ v_11) then
      rt 1
    else
      ckB (ix v_11 s2_1.length) <|
      ckB (ix v_11 s2_1.length) <|
      bnd (qdj (v_9.getD (Int.toNat v_11) 0) (s2_1.getD (Int.toNat v_11) 0)) fun r1 =>
      bif (!decide (r1=0)) then
        rt r1
      else
        ckB (inR .i64 (v_11 + 1)) <|
        nx (v_11 + 1)
  else
    dn ()
def qe6 (s1_0:(List Int)) (s2_1:(List Int)) (v_9:(List Int)) (v_10:Int) (s0:Int):Option (Unit ⊕ Int) :=
  loopM (fun a=>q1s s1_0 s2_1 v_9 v_10 a (fun a'=>some (.next a')) (fun e=>some (.done e)) (fun r=>some (.ret r))) s0
def qdf:Shp:=⟨[(0,.d false (.slice (.int .i64))),(1,.d false (.slice (.int .i64))),(9,.d false (.slice (.int .i64))),(10,.d true (.int .i64)),(11,.d true (.int .i64))],[]⟩
def qdh:Shp:=⟨[(0,.d false (.slice (.int .i64))),(1,.d false (.slice (.int .i64)))],[]⟩
def q7p (s1_0:(List Int)) (s2_1:(List Int)):Option Int :=
  bnd (qe6 s1_0 s2_1 s1_0 (s1_0.length:Int) 0) fun oe2 =>
  lk oe2 (fun e2 =>
    bif decide ((s1_0.length:Int) < (s2_1.length:Int)) then
      some (-1)
    else
      some 0) (fun r=>some r)
def qj (a_0:(List Int)) (b_1:(List Int)):Option Int :=
  bnd (q7p a_0 b_1) fun r1 =>
  some r1
def q10 {R:Type} (a_1:Int) (b_2:Int) (i_8:Int) (j_9:Int) (data_0:(List (List Int))) (nx:(Int × (List (List Int))) → Option R) (dn:(List (List Int)) → Option R) (rt:(List (List Int)) → Option R):Option R :=
  bif decide (a_1 < j_9) then
    ckB (ix j_9 data_0.length) <|
    ckB (ix j_9 data_0.length) <|
    ckB (inR .i64 (j_9 - 1)) <|
    ckB (ix (j_9 - 1) data_0.length) <|
    ckB (ix (j_9 - 1) data_0.length) <|
    bnd (qj (data_0.getD (Int.toNat j_9) []) (data_0.getD (Int.toNat (j_9 - 1)) [])) fun r1 =>
    bif decide (r1 < 0) then
      ckB (inR .i64 (j_9 - 1)) <|
      ckB (inR .i64 (j_9 - 1)) <|
      ckB (ix (j_9 - 1) data_0.length) <|
      ckB (ix (j_9 - 1) data_0.length) <|
      ckB (ix j_9 data_0.length) <|
      ckB (ix j_9 data_0.length) <|
      ckB (ix j_9 data_0.length) <|
      ckB (ix j_9 data_0.length) <|
      ckB (ix (j_9 - 1) (data_0.set (Int.toNat j_9) (data_0.getD (Int.toNat (j_9 - 1)) [])).length) <|
      ckB (ix (j_9 - 1) (data_0.set (Int.toNat j_9) (data_0.getD (Int.toNat (j_9 - 1)) [])).length) <|
      ckB (inR .i64 (j_9 - 1)) <|
      nx ((j_9 - 1),((data_0.set (Int.toNat j_9) (data_0.getD (Int.toNat (j_9 - 1)) [])).set (Int.toNat (j_9 - 1)) (data_0.getD (Int.toNat j_9) [])))
    else
      dn data_0
  else
    dn data_0
def q3x (a_1:Int) (b_2:Int) (i_8:Int) (s0:(Int × (List (List Int)))):Option ((List (List Int)) ⊕ (List (List Int))) :=
  loopM (fun a=>q10 a_1 b_2 i_8 a.1 a.2 (fun a'=>some (.next a')) (fun e=>some (.done e)) (fun r=>some (.ret r))) s0
def q7i:Shp:=⟨[(0,.own 0),(1,.d true (.int .i64)),(2,.d true (.int .i64)),(3,.fn 49 .nil),(8,.d true (.int .i64)),(9,.d true (.int .i64))],[.arr 34 (.fz true) [3] (.slice (.int .i64))]⟩
def q7m:Shp:=⟨[(0,.own 0),(1,.d true (.int .i64)),(2,.d true (.int .i64)),(3,.fn 49 .nil),(8,.d true (.int .i64))],[.arr 34 (.fz true) [3] (.slice (.int .i64))]⟩
def q20 {R:Type} (a_1:Int) (b_2:Int) (i_8:Int) (data_0:(List (List Int))) (nx:(Int × (List (List Int))) → Option R) (dn:(List (List Int)) → Option R) (rt:(List (List Int)) → Option R):Option R :=
  bif decide (i_8 < b_2) then
    bnd (q3x a_1 b_2 i_8 (i_8,data_0)) fun oe2 =>
    lk oe2 (fun e2 =>
      ckB (inR .i64 (i_8 + 1)) <|
      nx ((i_8 + 1),e2)) (fun r=>rt r)
  else
    dn data_0
def q7x (a_1:Int) (b_2:Int) (s0:(Int × (List (List Int)))):Option ((List (List Int)) ⊕ (List (List Int))) :=
  loopM (fun a=>q20 a_1 b_2 a.1 a.2 (fun a'=>some (.next a')) (fun e=>some (.done e)) (fun r=>some (.ret r))) s0
def q7k:Shp:=⟨[(0,.own 0),(1,.d true (.int .i64)),(2,.d true (.int .i64)),(3,.fn 49 .nil),(8,.d true (.int .i64))],[.arr 34 (.fz true) [3] (.slice (.int .i64))]⟩
def q7n:Shp:=⟨[],[.arr 34 (.fz true) [3] (.slice (.int .i64))]⟩
def q1o (a_1:Int) (b_2:Int) (data_0:(List (List Int))):Option (List (List Int)) :=
  ckB (inR .i64 (a_1 + 1)) <|
  bnd (q7x a_1 b_2 ((a_1 + 1),data_0)) fun oe3 =>
  lk oe3 (fun e3 =>
    some e3) (fun r=>some r)
def q58 {R:Type} (hi_2:Int) (first_3:Int) (root_10:Int) (child_11:Int) (data_0:(List (List Int))) (dn:(List (List Int)) → Option R) (rt:(List (List Int)) → Option R):Option R :=
  ckB (inR .i64 (first_3 + root_10)) <|
  ckB (ix (first_3 + root_10) data_0.length) <|
  ckB (ix (first_3 + root_10) data_0.length) <|
  ckB (inR .i64 (first_3 + child_11)) <|
  ckB (ix (first_3 + child_11) data_0.length) <|
  ckB (ix (first_3 + child_11) data_0.length) <|
  bnd (qj (data_0.getD (Int.toNat (first_3 + root_10)) []) (data_0.getD (Int.toNat (first_3 + child_11)) [])) fun r2 =>
  bif (!(decide (r2 < 0))) then
    rt data_0
  else
    ckB (inR .i64 (first_3 + root_10)) <|
    ckB (inR .i64 (first_3 + child_11)) <|
    ckB (inR .i64 (first_3 + child_11)) <|
    ckB (ix (first_3 + child_11) data_0.length) <|
    ckB (ix (first_3 + child_11) data_0.length) <|
    ckB (inR .i64 (first_3 + root_10)) <|
    ckB (ix (first_3 + root_10) data_0.length) <|
    ckB (ix (first_3 + root_10) data_0.length) <|
    ckB (ix (first_3 + root_10) data_0.length) <|
    ckB (ix (first_3 + root_10) data_0.length) <|
    ckB (ix (first_3 + child_11) (data_0.set (Int.toNat (first_3 + root_10)) (data_0.getD (Int.toNat (first_3 + child_11)) [])).length) <|
    ckB (ix (first_3 + child_11) (data_0.set (Int.toNat (first_3 + root_10)) (data_0.getD (Int.toNat (first_3 + child_11)) [])).length) <|
    dn ((data_0.set (Int.toNat (first_3 + root_10)) (data_0.getD (Int.toNat (first_3 + child_11)) [])).set (Int.toNat (first_3 + child_11)) (data_0.getD (Int.toNat (first_3 + root_10)) []))
def q1z (hi_2:Int) (first_3:Int) (root_10:Int) (child_11:Int) (data_0:(List (List Int))):Option ((List (List Int)) ⊕ (List (List Int))) :=
  q58 hi_2 first_3 root_10 child_11 data_0 (fun e=>some (.inl e)) (fun r=>some (.inr r))
def q9b:Shp:=⟨[(0,.own 0),(2,.d true (.int .i64)),(3,.d true (.int .i64)),(4,.fn 49 .nil),(10,.d true (.int .i64)),(11,.d true (.int .i64))],[.arr 34 (.fz true) [3] (.slice (.int .i64))]⟩
def q95:Shp:=⟨[(0,.own 0),(2,.d true (.int .i64)),(3,.d true (.int .i64)),(4,.fn 49 .nil),(10,.d true (.int .i64))],[.arr 34 (.fz true) [3] (.slice (.int .i64))]⟩
def qq {R:Type} (hi_2:Int) (first_3:Int) (root_10:Int) (data_0:(List (List Int))) (nx:(Int × (List (List Int))) → Option R) (dn:(List (List Int)) → Option R) (rt:(List (List Int)) → Option R):Option R :=
  ckB (inR .i64 ((2:Int) * root_10)) <|
  ckB (inR .i64 (((2:Int) * root_10) + 1)) <|
  bif decide (hi_2 ≤ (((2:Int) * root_10) + 1)) then
    dn data_0
  else
    ckB (inR .i64 ((((2:Int) * root_10) + 1) + 1)) <|
    bif decide (((((2:Int) * root_10) + 1) + 1) < hi_2) then
      ckB (inR .i64 (first_3 + (((2:Int) * root_10) + 1))) <|
      ckB (ix (first_3 + (((2:Int) * root_10) + 1)) data_0.length) <|
      ckB (ix (first_3 + (((2:Int) * root_10) + 1)) data_0.length) <|
      ckB (inR .i64 (first_3 + (((2:Int) * root_10) + 1))) <|
      ckB (inR .i64 ((first_3 + (((2:Int) * root_10) + 1)) + 1)) <|
      ckB (ix ((first_3 + (((2:Int) * root_10) + 1)) + 1) data_0.length) <|
      ckB (ix ((first_3 + (((2:Int) * root_10) + 1)) + 1) data_0.length) <|
      bnd (qj (data_0.getD (Int.toNat (first_3 + (((2:Int) * root_10) + 1))) []) (data_0.getD (Int.toNat ((first_3 + (((2:Int) * root_10) + 1)) + 1)) [])) fun r1 =>
      bif decide (r1 < 0) then
        ckB (inR .i64 ((((2:Int) * root_10) + 1) + 1)) <|
        bnd (q1z hi_2 first_3 root_10 ((((2:Int) * root_10) + 1) + 1) data_0) fun oe3 =>
        lk oe3 (fun e3 =>
          nx (((((2:Int) * root_10) + 1) + 1),e3)) (fun r=>rt r)
      else
        bnd (q1z hi_2 first_3 root_10 (((2:Int) * root_10) + 1) data_0) fun oe4 =>
        lk oe4 (fun e4 =>
          nx ((((2:Int) * root_10) + 1),e4)) (fun r=>rt r)
    else
      bnd (q1z hi_2 first_3 root_10 (((2:Int) * root_10) + 1) data_0) fun oe5 =>
      lk oe5 (fun e5 =>
        nx ((((2:Int) * root_10) + 1),e5)) (fun r=>rt r)
def q9n (hi_2:Int) (first_3:Int) (s0:(Int × (List (List Int)))):Option ((List (List Int)) ⊕ (List (List Int))) :=
  loopM (fun a=>qq hi_2 first_3 a.1 a.2 (fun a'=>some (.next a')) (fun e=>some (.done e)) (fun r=>some (.ret r))) s0
def q9e:Shp:=⟨[(0,.own 0),(2,.d true (.int .i64)),(3,.d true (.int .i64)),(4,.fn 49 .nil),(10,.d true (.int .i64))],[.arr 34 (.fz true) [3] (.slice (.int .i64))]⟩
def q94:Shp:=⟨[],[.arr 34 (.fz true) [3] (.slice (.int .i64))]⟩
def q29 (lo_1:Int) (hi_2:Int) (first_3:Int) (data_0:(List (List Int))):Option (List (List Int)) :=
  bnd (q9n hi_2 first_3 (lo_1,data_0)) fun oe6 =>
  lk oe6 (fun e6 =>
    some e6) (fun r=>some r)
def q1u {R:Type} (first_8:Int) (lo_9:Int) (hi_10:Int) (i_11:Int) (data_0:(List (List Int))) (nx:(Int × (List (List Int))) → Option R) (dn:(List (List Int)) → Option R) (rt:(List (List Int)) → Option R):Option R :=
  bif decide ((0:Int) ≤ i_11) then
    bnd (q29 i_11 hi_10 first_8 data_0) fun r1 =>
    ckB (decide (r1.length=data_0.length)) <|
    ckB (inR .i64 (i_11 - 1)) <|
    nx ((i_11 - 1),r1)
  else
    dn data_0
def qhb (first_8:Int) (lo_9:Int) (hi_10:Int) (s0:(Int × (List (List Int)))):Option ((List (List Int)) ⊕ (List (List Int))) :=
  loopM (fun a=>q1u first_8 lo_9 hi_10 a.1 a.2 (fun a'=>some (.next a')) (fun e=>some (.done e)) (fun r=>some (.ret r))) s0
def q98:Shp:=⟨[(0,.own 0),(3,.fn 49 .nil),(8,.d true (.int .i64)),(9,.d true (.int .i64)),(10,.d true (.int .i64)),(11,.d true (.int .i64))],[.arr 34 (.fz true) [3] (.slice (.int .i64))]⟩
def q93:Shp:=⟨[(0,.own 0),(3,.fn 49 .nil),(8,.d true (.int .i64)),(9,.d true (.int .i64)),(10,.d true (.int .i64))],[.arr 34 (.fz true) [3] (.slice (.int .i64))]⟩
def q17 {R:Type} (first_8:Int) (lo_9:Int) (i_12:Int) (data_0:(List (List Int))) (nx:(Int × (List (List Int))) → Option R) (dn:(List (List Int)) → Option R) (rt:(List (List Int)) → Option R):Option R :=
  bif decide ((0:Int) ≤ i_12) then
    ckB (inR .i64 (first_8 + i_12)) <|
    ckB (inR .i64 (first_8 + i_12)) <|
    ckB (ix (first_8 + i_12) data_0.length) <|
    ckB (ix (first_8 + i_12) data_0.length) <|
    ckB (ix first_8 data_0.length) <|
    ckB (ix first_8 data_0.length) <|
    ckB (ix first_8 data_0.length) <|
    ckB (ix first_8 data_0.length) <|
    ckB (ix (first_8 + i_12) (data_0.set (Int.toNat first_8) (data_0.getD (Int.toNat (first_8 + i_12)) [])).length) <|
    ckB (ix (first_8 + i_12) (data_0.set (Int.toNat first_8) (data_0.getD (Int.toNat (first_8 + i_12)) [])).length) <|
    bnd (q29 lo_9 i_12 first_8 ((data_0.set (Int.toNat first_8) (data_0.getD (Int.toNat (first_8 + i_12)) [])).set (Int.toNat (first_8 + i_12)) (data_0.getD (Int.toNat first_8) []))) fun r3 =>
    ckB (decide (r3.length=((data_0.set (Int.toNat first_8) (data_0.getD (Int.toNat (first_8 + i_12)) [])).set (Int.toNat (first_8 + i_12)) (data_0.getD (Int.toNat first_8) [])).length)) <|
    ckB (inR .i64 (i_12 - 1)) <|
    nx ((i_12 - 1),r3)
  else
    dn data_0
def qhm (first_8:Int) (lo_9:Int) (s0:(Int × (List (List Int)))):Option ((List (List Int)) ⊕ (List (List Int))) :=
  loopM (fun a=>q17 first_8 lo_9 a.1 a.2 (fun a'=>some (.next a')) (fun e=>some (.done e)) (fun r=>some (.ret r))) s0
def q8z:Shp:=⟨[(0,.own 0),(3,.fn 49 .nil),(8,.d true (.int .i64)),(9,.d true (.int .i64)),(12,.d true (.int .i64))],[.arr 34 (.fz true) [3] (.slice (.int .i64))]⟩
def q9f:Shp:=⟨[],[.arr 34 (.fz true) [3] (.slice (.int .i64))]⟩
def q2a (a_1:Int) (b_2:Int) (data_0:(List (List Int))):Option (List (List Int)) :=
  ckB (inR .i64 (b_2 - a_1)) <|
  ckB (inR .i64 ((b_2 - a_1) - 1)) <|
  ckB (!decide ((2:Int)=0)) <|
  ckB (inR .i64 (Int.tdiv ((b_2 - a_1) - 1) 2)) <|
  bnd (qhb a_1 0 (b_2 - a_1) ((Int.tdiv ((b_2 - a_1) - 1) 2),data_0)) fun oe2 =>
  lk oe2 (fun e2 =>
    ckB (inR .i64 ((b_2 - a_1) - 1)) <|
    bnd (qhm a_1 0 (((b_2 - a_1) - 1),e2)) fun oe4 =>
    lk oe4 (fun e4 =>
      some e4) (fun r=>some r)) (fun r=>some r)
def q83 (length_0:Int):Option Int :=
  bnd (qn2 (IntKind.wrap .u64 length_0)) fun r1 =>
  ckB (decide (0 ≤ r1)) <|
  some (shlI .u64 1 r1)
def qct (r_0:Int):Option (Int × Int) :=
  ckB (decide (0 ≤ (13:Int))) <|
  ckB (decide (0 ≤ (7:Int))) <|
  ckB (decide (0 ≤ (17:Int))) <|
  some ((bitI .xor .u64 (bitI .xor .u64 (bitI .xor .u64 r_0 (shlI .u64 r_0 13)) (shrI .u64 (bitI .xor .u64 r_0 (shlI .u64 r_0 13)) 7)) (shlI .u64 (bitI .xor .u64 (bitI .xor .u64 r_0 (shlI .u64 r_0 13)) (shrI .u64 (bitI .xor .u64 r_0 (shlI .u64 r_0 13)) 7)) 17)),(bitI .xor .u64 (bitI .xor .u64 (bitI .xor .u64 r_0 (shlI .u64 r_0 13)) (shrI .u64 (bitI .xor .u64 r_0 (shlI .u64 r_0 13)) 7)) (shlI .u64 (bitI .xor .u64 (bitI .xor .u64 r_0 (shlI .u64 r_0 13)) (shrI .u64 (bitI .xor .u64 r_0 (shlI .u64 r_0 13)) 7)) 17)))
def q19 {R:Type} (a_1:Int) (length_8:Int) (modulus_10:Int) (idx_11:Int) (data_0:(List (List Int))) (random_9:Int) (nx:(Int × (List (List Int)) × Int) → Option R) (dn:(List (List Int)) → Option R) (rt:(List (List Int)) → Option R):Option R :=
  ckB (!decide ((4:Int)=0)) <|
  ckB (inR .i64 (Int.tdiv length_8 4)) <|
  ckB (inR .i64 ((Int.tdiv length_8 4) * 2)) <|
  ckB (inR .i64 (a_1 + ((Int.tdiv length_8 4) * 2))) <|
  ckB (inR .i64 ((a_1 + ((Int.tdiv length_8 4) * 2)) + 1)) <|
  bif decide (idx_11 ≤ ((a_1 + ((Int.tdiv length_8 4) * 2)) + 1)) then
    bnd (qct random_9) fun r2 =>
    ckB (inR .i64 (bitI .and .u64 r2.1 (IntKind.wrap .u64 (modulus_10 - 1)))) <|
    bif decide (length_8 ≤ (bitI .and .u64 r2.1 (IntKind.wrap .u64 (modulus_10 - 1)))) then
      ckB (inR .i64 ((bitI .and .u64 r2.1 (IntKind.wrap .u64 (modulus_10 - 1))) - length_8)) <|
      ckB (inR .i64 (a_1 + ((bitI .and .u64 r2.1 (IntKind.wrap .u64 (modulus_10 - 1))) - length_8))) <|
      ckB (inR .i64 (a_1 + ((bitI .and .u64 r2.1 (IntKind.wrap .u64 (modulus_10 - 1))) - length_8))) <|
      ckB (ix (a_1 + ((bitI .and .u64 r2.1 (IntKind.wrap .u64 (modulus_10 - 1))) - length_8)) data_0.length) <|
      ckB (ix (a_1 + ((bitI .and .u64 r2.1 (IntKind.wrap .u64 (modulus_10 - 1))) - length_8)) data_0.length) <|
      ckB (ix idx_11 data_0.length) <|
      ckB (ix idx_11 data_0.length) <|
      ckB (ix idx_11 data_0.length) <|
      ckB (ix idx_11 data_0.length) <|
      ckB (ix (a_1 + ((bitI .and .u64 r2.1 (IntKind.wrap .u64 (modulus_10 - 1))) - length_8)) (data_0.set (Int.toNat idx_11) (data_0.getD (Int.toNat (a_1 + ((bitI .and .u64 r2.1 (IntKind.wrap .u64 (modulus_10 - 1))) - length_8))) [])).length) <|
      ckB (ix (a_1 + ((bitI .and .u64 r2.1 (IntKind.wrap .u64 (modulus_10 - 1))) - length_8)) (data_0.set (Int.toNat idx_11) (data_0.getD (Int.toNat (a_1 + ((bitI .and .u64 r2.1 (IntKind.wrap .u64 (modulus_10 - 1))) - length_8))) [])).length) <|
      ckB (inR .i64 (idx_11 + 1)) <|
      nx ((idx_11 + 1),((data_0.set (Int.toNat idx_11) (data_0.getD (Int.toNat (a_1 + ((bitI .and .u64 r2.1 (IntKind.wrap .u64 (modulus_10 - 1))) - length_8))) [])).set (Int.toNat (a_1 + ((bitI .and .u64 r2.1 (IntKind.wrap .u64 (modulus_10 - 1))) - length_8))) (data_0.getD (Int.toNat idx_11) [])),r2.2)
    else
      ckB (inR .i64 (a_1 + (bitI .and .u64 r2.1 (IntKind.wrap .u64 (modulus_10 - 1))))) <|
      ckB (inR .i64 (a_1 + (bitI .and .u64 r2.1 (IntKind.wrap .u64 (modulus_10 - 1))))) <|
      ckB (ix (a_1 + (bitI .and .u64 r2.1 (IntKind.wrap .u64 (modulus_10 - 1)))) data_0.length) <|
      ckB (ix (a_1 + (bitI .and .u64 r2.1 (IntKind.wrap .u64 (modulus_10 - 1)))) data_0.length) <|
      ckB (ix idx_11 data_0.length) <|
      ckB (ix idx_11 data_0.length) <|
      ckB (ix idx_11 data_0.length) <|
      ckB (ix idx_11 data_0.length) <|
      ckB (ix (a_1 + (bitI .and .u64 r2.1 (IntKind.wrap .u64 (modulus_10 - 1)))) (data_0.set (Int.toNat idx_11) (data_0.getD (Int.toNat (a_1 + (bitI .and .u64 r2.1 (IntKind.wrap .u64 (modulus_10 - 1))))) [])).length) <|
      ckB (ix (a_1 + (bitI .and .u64 r2.1 (IntKind.wrap .u64 (modulus_10 - 1)))) (data_0.set (Int.toNat idx_11) (data_0.getD (Int.toNat (a_1 + (bitI .and .u64 r2.1 (IntKind.wrap .u64 (modulus_10 - 1))))) [])).length) <|
      ckB (inR .i64 (idx_11 + 1)) <|
      nx ((idx_11 + 1),((data_0.set (Int.toNat idx_11) (data_0.getD (Int.toNat (a_1 + (bitI .and .u64 r2.1 (IntKind.wrap .u64 (modulus_10 - 1))))) [])).set (Int.toNat (a_1 + (bitI .and .u64 r2.1 (IntKind.wrap .u64 (modulus_10 - 1))))) (data_0.getD (Int.toNat idx_11) [])),r2.2)
  else
    dn data_0
def q7y (a_1:Int) (length_8:Int) (modulus_10:Int) (s0:(Int × (List (List Int)) × Int)):Option ((List (List Int)) ⊕ (List (List Int))) :=
  loopM (fun a=>q19 a_1 length_8 modulus_10 a.1 a.2.1 a.2.2 (fun a'=>some (.next a')) (fun e=>some (.done e)) (fun r=>some (.ret r))) s0
def q7j:Shp:=⟨[(0,.own 0),(1,.d true (.int .i64)),(8,.d true (.int .i64)),(9,.ptr 1),(10,.d true (.int .u64)),(11,.d true (.int .i64))],[.arr 34 (.fz true) [3] (.slice (.int .i64)),.cs 116 1 1 (.cons (.d true (.int .u64)) .nil)]⟩
def q7o:Shp:=⟨[],[.arr 34 (.fz true) [3] (.slice (.int .i64))]⟩
def q1p (a_1:Int) (b_2:Int) (data_0:(List (List Int))):Option (List (List Int)) :=
  ckB (inR .i64 (b_2 - a_1)) <|
  bif decide ((8:Int) ≤ (b_2 - a_1)) then
    bnd (q83 (b_2 - a_1)) fun r1 =>
    ckB (!decide ((4:Int)=0)) <|
    ckB (inR .i64 (Int.tdiv (b_2 - a_1) 4)) <|
    ckB (inR .i64 ((Int.tdiv (b_2 - a_1) 4) * 2)) <|
    ckB (inR .i64 (a_1 + ((Int.tdiv (b_2 - a_1) 4) * 2))) <|
    ckB (inR .i64 ((a_1 + ((Int.tdiv (b_2 - a_1) 4) * 2)) - 1)) <|
    bnd (q7y a_1 (b_2 - a_1) r1 (((a_1 + ((Int.tdiv (b_2 - a_1) 4) * 2)) - 1),data_0,(IntKind.wrap .u64 (b_2 - a_1)))) fun oe3 =>
    lk oe3 (fun e3 =>
      some e3) (fun r=>some r)
  else
    some data_0
def q1d (data_0:(List (List Int))) (a_1:Int) (b_2:Int) (swaps_3:Int):Option (Int × Int × Int) :=
  ckB (ix b_2 data_0.length) <|
  ckB (ix b_2 data_0.length) <|
  ckB (ix a_1 data_0.length) <|
  ckB (ix a_1 data_0.length) <|
  bnd (qj (data_0.getD (Int.toNat b_2) []) (data_0.getD (Int.toNat a_1) [])) fun r1 =>
  bif decide (r1 < 0) then
    ckB (inR .i64 (swaps_3 + 1)) <|
    some (b_2,a_1,(swaps_3 + 1))
  else
    some (a_1,b_2,swaps_3)
def q1e (data_0:(List (List Int))) (a_1:Int) (b_2:Int) (c_3:Int) (swaps_4:Int):Option (Int × Int) :=
  bnd (q1d data_0 a_1 b_2 swaps_4) fun r1 =>
  bnd (q1d data_0 r1.2.1 c_3 r1.2.2) fun r2 =>
  bnd (q1d data_0 r1.1 r2.1 r2.2.2) fun r3 =>
  some (r3.2.1,r3.2.2)
def qs (data_0:(List (List Int))) (a_1:Int) (swaps_2:Int):Option (Int × Int) :=
  ckB (inR .i64 (a_1 - 1)) <|
  ckB (inR .i64 (a_1 + 1)) <|
  bnd (q1e data_0 (a_1 - 1) a_1 (a_1 + 1) swaps_2) fun r1 =>
  some (r1.1,r1.2)
def q47 {R:Type} (j_13:Int) (swaps_11:Int) (dn:Unit → Option R) (rt:(Int × Int) → Option R):Option R :=
  bif decide (swaps_11=0) then
    rt (j_13,1)
  else
    bif decide (swaps_11=12) then
      rt (j_13,2)
    else
      rt (j_13,0)
def q1n (j_13:Int) (swaps_11:Int):Option (Unit ⊕ (Int × Int)) :=
  q47 j_13 swaps_11 (fun e=>some (.inl e)) (fun r=>some (.inr r))
def q88:Shp:=⟨[(11,.ptr 0),(13,.d true (.int .i64))],[.cs 3 1 1 (.cons (.d true (.int .i64)) .nil)]⟩
def q8c:Shp:=⟨[],[]⟩
def q18 (data_0:(List (List Int))) (a_1:Int) (b_2:Int):Option (Int × Int) :=
  ckB (inR .i64 (b_2 - a_1)) <|
  ckB (!decide ((4:Int)=0)) <|
  ckB (inR .i64 (Int.tdiv (b_2 - a_1) 4)) <|
  ckB (inR .i64 ((Int.tdiv (b_2 - a_1) 4) * 1)) <|
  ckB (inR .i64 (a_1 + ((Int.tdiv (b_2 - a_1) 4) * 1))) <|
  ckB (!decide ((4:Int)=0)) <|
  ckB (inR .i64 (Int.tdiv (b_2 - a_1) 4)) <|
  ckB (inR .i64 ((Int.tdiv (b_2 - a_1) 4) * 2)) <|
  ckB (inR .i64 (a_1 + ((Int.tdiv (b_2 - a_1) 4) * 2))) <|
  ckB (!decide ((4:Int)=0)) <|
  ckB (inR .i64 (Int.tdiv (b_2 - a_1) 4)) <|
  ckB (inR .i64 ((Int.tdiv (b_2 - a_1) 4) * 3)) <|
  ckB (inR .i64 (a_1 + ((Int.tdiv (b_2 - a_1) 4) * 3))) <|
  bif decide ((8:Int) ≤ (b_2 - a_1)) then
    bif decide ((50:Int) ≤ (b_2 - a_1)) then
      bnd (qs data_0 (a_1 + ((Int.tdiv (b_2 - a_1) 4) * 1)) 0) fun r1 =>
      bnd (qs data_0 (a_1 + ((Int.tdiv (b_2 - a_1) 4) * 2)) r1.2) fun r2 =>
      bnd (qs data_0 (a_1 + ((Int.tdiv (b_2 - a_1) 4) * 3)) r2.2) fun r3 =>
      bnd (q1e data_0 r1.1 r2.1 r3.1 r3.2) fun r4 =>
      bnd (q1n r4.1 r4.2) fun oe5 =>
      lk oe5 (fun e5 =>
        none) (fun r=>some r)
    else
      bnd (q1e data_0 (a_1 + ((Int.tdiv (b_2 - a_1) 4) * 1)) (a_1 + ((Int.tdiv (b_2 - a_1) 4) * 2)) (a_1 + ((Int.tdiv (b_2 - a_1) 4) * 3)) 0) fun r6 =>
      bnd (q1n r6.1 r6.2) fun oe7 =>
      lk oe7 (fun e7 =>
        none) (fun r=>some r)
  else
    bnd (q1n (a_1 + ((Int.tdiv (b_2 - a_1) 4) * 2)) 0) fun oe8 =>
    lk oe8 (fun e8 =>
      none) (fun r=>some r)
def q21 {R:Type}  (i_8:Int) (j_9:Int) (data_0:(List (List Int))) (nx:(Int × Int × (List (List Int))) → Option R) (dn:(List (List Int)) → Option R) (rt:(List (List Int)) → Option R):Option R :=
  bif decide (i_8 < j_9) then
    ckB (ix j_9 data_0.length) <|
    ckB (ix j_9 data_0.length) <|
    ckB (ix i_8 data_0.length) <|
    ckB (ix i_8 data_0.length) <|
    ckB (ix i_8 data_0.length) <|
    ckB (ix i_8 data_0.length) <|
    ckB (ix j_9 (data_0.set (Int.toNat i_8) (data_0.getD (Int.toNat j_9) [])).length) <|
    ckB (ix j_9 (data_0.set (Int.toNat i_8) (data_0.getD (Int.toNat j_9) [])).length) <|
    ckB (inR .i64 (i_8 + 1)) <|
    ckB (inR .i64 (j_9 - 1)) <|
    nx ((i_8 + 1),(j_9 - 1),((data_0.set (Int.toNat i_8) (data_0.getD (Int.toNat j_9) [])).set (Int.toNat j_9) (data_0.getD (Int.toNat i_8) [])))
  else
    dn data_0
def q87  (s0:(Int × Int × (List (List Int)))):Option ((List (List Int)) ⊕ (List (List Int))) :=
  loopM (fun a=>q21  a.1 a.2.1 a.2.2 (fun a'=>some (.next a')) (fun e=>some (.done e)) (fun r=>some (.ret r))) s0
def q7t:Shp:=⟨[(0,.own 0),(8,.d true (.int .i64)),(9,.d true (.int .i64))],[.arr 34 (.fz true) [3] (.slice (.int .i64))]⟩
def q80:Shp:=⟨[],[.arr 34 (.fz true) [3] (.slice (.int .i64))]⟩
def q16 (a_1:Int) (b_2:Int) (data_0:(List (List Int))):Option (List (List Int)) :=
  ckB (inR .i64 (b_2 - 1)) <|
  bnd (q87  (a_1,(b_2 - 1),data_0)) fun oe1 =>
  lk oe1 (fun e1 =>
    some e1) (fun r=>some r)
def qy {R:Type} (a_1:Int) (b_2:Int) (j_10:Int) (data_0:(List (List Int))) (i_9:Int) (nx:Int → Option R) (dn:Int → Option R) (rt:(Bool × (List (List Int))) → Option R):Option R :=
  bif decide (i_9 < b_2) then
    ckB (ix i_9 data_0.length) <|
    ckB (ix i_9 data_0.length) <|
    ckB (inR .i64 (i_9 - 1)) <|
    ckB (ix (i_9 - 1) data_0.length) <|
    ckB (ix (i_9 - 1) data_0.length) <|
    bnd (qj (data_0.getD (Int.toNat i_9) []) (data_0.getD (Int.toNat (i_9 - 1)) [])) fun r1 =>
    bif (!(decide (r1 < 0))) then
      ckB (inR .i64 (i_9 + 1)) <|
      nx (i_9 + 1)
    else
      dn i_9
  else
    dn i_9
def q2c (a_1:Int) (b_2:Int) (j_10:Int) (data_0:(List (List Int))) (s0:Int):Option (Int ⊕ (Bool × (List (List Int)))) :=
  loopM (fun a=>qy a_1 b_2 j_10 data_0 a (fun a'=>some (.next a')) (fun e=>some (.done e)) (fun r=>some (.ret r))) s0
def q4w:Shp:=⟨[(0,.own 0),(1,.d true (.int .i64)),(2,.d true (.int .i64)),(3,.fn 49 .nil),(9,.d true (.int .i64)),(10,.d true (.int .i64))],[.arr 34 (.fz true) [3] (.slice (.int .i64))]⟩
def q4r:Shp:=⟨[(0,.own 0),(1,.d true (.int .i64)),(2,.d true (.int .i64)),(3,.fn 49 .nil),(9,.d true (.int .i64)),(10,.d true (.int .i64))],[.arr 34 (.fz true) [3] (.slice (.int .i64))]⟩
def qv {R:Type} (a_1:Int) (b_2:Int) (i_9:Int) (j_10:Int) (j_11:Int) (data_0:(List (List Int))) (nx:(Int × (List (List Int))) → Option R) (dn:(List (List Int)) → Option R) (rt:(Bool × (List (List Int))) → Option R):Option R :=
  bif decide ((1:Int) ≤ j_11) then
    ckB (ix j_11 data_0.length) <|
    ckB (ix j_11 data_0.length) <|
    ckB (inR .i64 (j_11 - 1)) <|
    ckB (ix (j_11 - 1) data_0.length) <|
    ckB (ix (j_11 - 1) data_0.length) <|
    bnd (qj (data_0.getD (Int.toNat j_11) []) (data_0.getD (Int.toNat (j_11 - 1)) [])) fun r3 =>
    bif (!(decide (r3 < 0))) then
      dn data_0
    else
      ckB (inR .i64 (j_11 - 1)) <|
      ckB (inR .i64 (j_11 - 1)) <|
      ckB (ix (j_11 - 1) data_0.length) <|
      ckB (ix (j_11 - 1) data_0.length) <|
      ckB (ix j_11 data_0.length) <|
      ckB (ix j_11 data_0.length) <|
      ckB (ix j_11 data_0.length) <|
      ckB (ix j_11 data_0.length) <|
      ckB (ix (j_11 - 1) (data_0.set (Int.toNat j_11) (data_0.getD (Int.toNat (j_11 - 1)) [])).length) <|
      ckB (ix (j_11 - 1) (data_0.set (Int.toNat j_11) (data_0.getD (Int.toNat (j_11 - 1)) [])).length) <|
      ckB (inR .i64 (j_11 - 1)) <|
      nx ((j_11 - 1),((data_0.set (Int.toNat j_11) (data_0.getD (Int.toNat (j_11 - 1)) [])).set (Int.toNat (j_11 - 1)) (data_0.getD (Int.toNat j_11) [])))
  else
    dn data_0
def q2b (a_1:Int) (b_2:Int) (i_9:Int) (j_10:Int) (s0:(Int × (List (List Int)))):Option ((List (List Int)) ⊕ (Bool × (List (List Int)))) :=
  loopM (fun a=>qv a_1 b_2 i_9 j_10 a.1 a.2 (fun a'=>some (.next a')) (fun e=>some (.done e)) (fun r=>some (.ret r))) s0
def q4k:Shp:=⟨[(0,.own 0),(1,.d true (.int .i64)),(2,.d true (.int .i64)),(3,.fn 49 .nil),(9,.d true (.int .i64)),(10,.d true (.int .i64)),(11,.d true (.int .i64))],[.arr 34 (.fz true) [3] (.slice (.int .i64))]⟩
def q4o:Shp:=⟨[(0,.own 0),(1,.d true (.int .i64)),(2,.d true (.int .i64)),(3,.fn 49 .nil),(9,.d true (.int .i64)),(10,.d true (.int .i64))],[.arr 34 (.fz true) [3] (.slice (.int .i64))]⟩
def qw {R:Type} (a_1:Int) (b_2:Int) (i_9:Int) (j_10:Int) (j_12:Int) (data_0:(List (List Int))) (nx:(Int × (List (List Int))) → Option R) (dn:(List (List Int)) → Option R) (rt:(Bool × (List (List Int))) → Option R):Option R :=
  bif decide (j_12 < b_2) then
    ckB (ix j_12 data_0.length) <|
    ckB (ix j_12 data_0.length) <|
    ckB (inR .i64 (j_12 - 1)) <|
    ckB (ix (j_12 - 1) data_0.length) <|
    ckB (ix (j_12 - 1) data_0.length) <|
    bnd (qj (data_0.getD (Int.toNat j_12) []) (data_0.getD (Int.toNat (j_12 - 1)) [])) fun r5 =>
    bif (!(decide (r5 < 0))) then
      dn data_0
    else
      ckB (inR .i64 (j_12 - 1)) <|
      ckB (inR .i64 (j_12 - 1)) <|
      ckB (ix (j_12 - 1) data_0.length) <|
      ckB (ix (j_12 - 1) data_0.length) <|
      ckB (ix j_12 data_0.length) <|
      ckB (ix j_12 data_0.length) <|
      ckB (ix j_12 data_0.length) <|
      ckB (ix j_12 data_0.length) <|
      ckB (ix (j_12 - 1) (data_0.set (Int.toNat j_12) (data_0.getD (Int.toNat (j_12 - 1)) [])).length) <|
      ckB (ix (j_12 - 1) (data_0.set (Int.toNat j_12) (data_0.getD (Int.toNat (j_12 - 1)) [])).length) <|
      ckB (inR .i64 (j_12 + 1)) <|
      nx ((j_12 + 1),((data_0.set (Int.toNat j_12) (data_0.getD (Int.toNat (j_12 - 1)) [])).set (Int.toNat (j_12 - 1)) (data_0.getD (Int.toNat j_12) [])))
  else
    dn data_0
def q2f (a_1:Int) (b_2:Int) (i_9:Int) (j_10:Int) (s0:(Int × (List (List Int)))):Option ((List (List Int)) ⊕ (Bool × (List (List Int)))) :=
  loopM (fun a=>qw a_1 b_2 i_9 j_10 a.1 a.2 (fun a'=>some (.next a')) (fun e=>some (.done e)) (fun r=>some (.ret r))) s0
def q4l:Shp:=⟨[(0,.own 0),(1,.d true (.int .i64)),(2,.d true (.int .i64)),(3,.fn 49 .nil),(9,.d true (.int .i64)),(10,.d true (.int .i64)),(12,.d true (.int .i64))],[.arr 34 (.fz true) [3] (.slice (.int .i64))]⟩
def q4j:Shp:=⟨[(0,.own 0),(1,.d true (.int .i64)),(2,.d true (.int .i64)),(3,.fn 49 .nil),(9,.d true (.int .i64)),(10,.d true (.int .i64))],[.arr 34 (.fz true) [3] (.slice (.int .i64))]⟩
def q1a {R:Type} (a_1:Int) (b_2:Int) (i_9:Int) (j_10:Int) (data_0:(List (List Int))) (dn:(List (List Int)) → Option R) (rt:(Bool × (List (List Int))) → Option R):Option R :=
  ckB (inR .i64 (b_2 - i_9)) <|
  bif decide ((2:Int) ≤ (b_2 - i_9)) then
    ckB (inR .i64 (i_9 + 1)) <|
    bnd (q2f a_1 b_2 i_9 j_10 ((i_9 + 1),data_0)) fun oe6 =>
    lk oe6 (fun e6 =>
      dn e6) (fun r=>rt r)
  else
    dn data_0
def q1g (a_1:Int) (b_2:Int) (i_9:Int) (j_10:Int) (data_0:(List (List Int))):Option ((List (List Int)) ⊕ (Bool × (List (List Int)))) :=
  q1a a_1 b_2 i_9 j_10 data_0 (fun e=>some (.inl e)) (fun r=>some (.inr r))
def q4u:Shp:=⟨[(0,.own 0),(1,.d true (.int .i64)),(2,.d true (.int .i64)),(3,.fn 49 .nil),(9,.d true (.int .i64)),(10,.d true (.int .i64))],[.arr 34 (.fz true) [3] (.slice (.int .i64))]⟩
def q4s:Shp:=⟨[(0,.own 0),(1,.d true (.int .i64)),(2,.d true (.int .i64)),(3,.fn 49 .nil),(9,.d true (.int .i64)),(10,.d true (.int .i64))],[.arr 34 (.fz true) [3] (.slice (.int .i64))]⟩
def qn {R:Type} (a_1:Int) (b_2:Int) (i_9:Int) (j_10:Int) (data_0:(List (List Int))) (nx:(Int × Int × (List (List Int))) → Option R) (dn:(List (List Int)) → Option R) (rt:(Bool × (List (List Int))) → Option R):Option R :=
  bif decide (j_10 < 5) then
    bnd (q2c a_1 b_2 j_10 data_0 i_9) fun oe2 =>
    lk oe2 (fun e2 =>
      bif decide (e2=b_2) then
        rt (true,data_0)
      else
        ckB (inR .i64 (b_2 - a_1)) <|
        bif decide ((b_2 - a_1) < 50) then
          rt (false,data_0)
        else
          ckB (inR .i64 (e2 - 1)) <|
          ckB (inR .i64 (e2 - 1)) <|
          ckB (ix (e2 - 1) data_0.length) <|
          ckB (ix (e2 - 1) data_0.length) <|
          ckB (ix e2 data_0.length) <|
          ckB (ix e2 data_0.length) <|
          ckB (ix e2 data_0.length) <|
          ckB (ix e2 data_0.length) <|
          ckB (ix (e2 - 1) (data_0.set (Int.toNat e2) (data_0.getD (Int.toNat (e2 - 1)) [])).length) <|
          ckB (ix (e2 - 1) (data_0.set (Int.toNat e2) (data_0.getD (Int.toNat (e2 - 1)) [])).length) <|
          ckB (inR .i64 (e2 - a_1)) <|
          bif decide ((2:Int) ≤ (e2 - a_1)) then
            ckB (inR .i64 (e2 - 1)) <|
            bnd (q2b a_1 b_2 e2 j_10 ((e2 - 1),((data_0.set (Int.toNat e2) (data_0.getD (Int.toNat (e2 - 1)) [])).set (Int.toNat (e2 - 1)) (data_0.getD (Int.toNat e2) [])))) fun oe4 =>
            lk oe4 (fun e4 =>
              bnd (q1g a_1 b_2 e2 j_10 e4) fun oe7 =>
              lk oe7 (fun e7 =>
                ckB (inR .i64 (j_10 + 1)) <|
                nx (e2,(j_10 + 1),e7)) (fun r=>rt r)) (fun r=>rt r)
          else
            bnd (q1g a_1 b_2 e2 j_10 ((data_0.set (Int.toNat e2) (data_0.getD (Int.toNat (e2 - 1)) [])).set (Int.toNat (e2 - 1)) (data_0.getD (Int.toNat e2) []))) fun oe8 =>
            lk oe8 (fun e8 =>
              ckB (inR .i64 (j_10 + 1)) <|
              nx (e2,(j_10 + 1),e8)) (fun r=>rt r)) (fun r=>rt r)
  else
    dn data_0
def q4x (a_1:Int) (b_2:Int) (s0:(Int × Int × (List (List Int)))):Option ((List (List Int)) ⊕ (Bool × (List (List Int)))) :=
  loopM (fun a=>qn a_1 b_2 a.1 a.2.1 a.2.2 (fun a'=>some (.next a')) (fun e=>some (.done e)) (fun r=>some (.ret r))) s0
def q4m:Shp:=⟨[(0,.own 0),(1,.d true (.int .i64)),(2,.d true (.int .i64)),(3,.fn 49 .nil),(9,.d true (.int .i64)),(10,.d true (.int .i64))],[.arr 34 (.fz true) [3] (.slice (.int .i64))]⟩
def q4q:Shp:=⟨[],[.arr 34 (.fz true) [3] (.slice (.int .i64))]⟩
def q1m (a_1:Int) (b_2:Int) (data_0:(List (List Int))):Option (Bool × (List (List Int))) :=
  ckB (inR .i64 (a_1 + 1)) <|
  bnd (q4x a_1 b_2 ((a_1 + 1),0,data_0)) fun oe9 =>
  lk oe9 (fun e9 =>
    some (false,e9)) (fun r=>some r)
def q1x {R:Type} (a_1:Int) (j_12:Int) (data_0:(List (List Int))) (i_11:Int) (nx:Int → Option R) (dn:Int → Option R) (rt:(Int × (List (List Int))) → Option R):Option R :=
  bif decide (i_11 ≤ j_12) then
    ckB (ix a_1 data_0.length) <|
    ckB (ix a_1 data_0.length) <|
    ckB (ix i_11 data_0.length) <|
    ckB (ix i_11 data_0.length) <|
    bnd (qj (data_0.getD (Int.toNat a_1) []) (data_0.getD (Int.toNat i_11) [])) fun r1 =>
    bif (!(decide (r1 < 0))) then
      ckB (inR .i64 (i_11 + 1)) <|
      nx (i_11 + 1)
    else
      dn i_11
  else
    dn i_11
def q7h (a_1:Int) (j_12:Int) (data_0:(List (List Int))) (s0:Int):Option (Int ⊕ (Int × (List (List Int)))) :=
  loopM (fun a=>q1x a_1 j_12 data_0 a (fun a'=>some (.next a')) (fun e=>some (.done e)) (fun r=>some (.ret r))) s0
def q6v:Shp:=⟨[(0,.own 0),(1,.d true (.int .i64)),(4,.fn 49 .nil),(11,.d true (.int .i64)),(12,.d true (.int .i64))],[.arr 34 (.fz true) [3] (.slice (.int .i64))]⟩
def q6u:Shp:=⟨[(0,.own 0),(1,.d true (.int .i64)),(4,.fn 49 .nil),(11,.d true (.int .i64)),(12,.d true (.int .i64))],[.arr 34 (.fz true) [3] (.slice (.int .i64))]⟩
def q1w {R:Type} (a_1:Int) (i_11:Int) (data_0:(List (List Int))) (j_12:Int) (nx:Int → Option R) (dn:Int → Option R) (rt:(Int × (List (List Int))) → Option R):Option R :=
  bif decide (i_11 ≤ j_12) then
    ckB (ix a_1 data_0.length) <|
    ckB (ix a_1 data_0.length) <|
    ckB (ix j_12 data_0.length) <|
    ckB (ix j_12 data_0.length) <|
    bnd (qj (data_0.getD (Int.toNat a_1) []) (data_0.getD (Int.toNat j_12) [])) fun r3 =>
    bif decide (r3 < 0) then
      ckB (inR .i64 (j_12 - 1)) <|
      nx (j_12 - 1)
    else
      dn j_12
  else
    dn j_12
def q7l (a_1:Int) (i_11:Int) (data_0:(List (List Int))) (s0:Int):Option (Int ⊕ (Int × (List (List Int)))) :=
  loopM (fun a=>q1w a_1 i_11 data_0 a (fun a'=>some (.next a')) (fun e=>some (.done e)) (fun r=>some (.ret r))) s0
def q6s:Shp:=⟨[(0,.own 0),(1,.d true (.int .i64)),(4,.fn 49 .nil),(11,.d true (.int .i64)),(12,.d true (.int .i64))],[.arr 34 (.fz true) [3] (.slice (.int .i64))]⟩
def q6w:Shp:=⟨[(0,.own 0),(1,.d true (.int .i64)),(4,.fn 49 .nil),(11,.d true (.int .i64)),(12,.d true (.int .i64))],[.arr 34 (.fz true) [3] (.slice (.int .i64))]⟩
def q1v {R:Type} (a_1:Int) (i_11:Int) (j_12:Int) (data_0:(List (List Int))) (nx:(Int × Int × (List (List Int))) → Option R) (dn:(Int × (List (List Int))) → Option R) (rt:(Int × (List (List Int))) → Option R):Option R :=
  bnd (q7h a_1 j_12 data_0 i_11) fun oe2 =>
  lk oe2 (fun e2 =>
    bnd (q7l a_1 e2 data_0 j_12) fun oe4 =>
    lk oe4 (fun e4 =>
      bif decide (e4 < e2) then
        dn (e2,data_0)
      else
        ckB (ix e4 data_0.length) <|
        ckB (ix e4 data_0.length) <|
        ckB (ix e2 data_0.length) <|
        ckB (ix e2 data_0.length) <|
        ckB (ix e2 data_0.length) <|
        ckB (ix e2 data_0.length) <|
        ckB (ix e4 (data_0.set (Int.toNat e2) (data_0.getD (Int.toNat e4) [])).length) <|
        ckB (ix e4 (data_0.set (Int.toNat e2) (data_0.getD (Int.toNat e4) [])).length) <|
        ckB (inR .i64 (e2 + 1)) <|
        ckB (inR .i64 (e4 - 1)) <|
        nx ((e2 + 1),(e4 - 1),((data_0.set (Int.toNat e2) (data_0.getD (Int.toNat e4) [])).set (Int.toNat e4) (data_0.getD (Int.toNat e2) [])))) (fun r=>rt r)) (fun r=>rt r)
def q3t (a_1:Int) (s0:(Int × Int × (List (List Int)))):Option ((Int × (List (List Int))) ⊕ (Int × (List (List Int)))) :=
  loopM (fun a=>q1v a_1 a.1 a.2.1 a.2.2 (fun a'=>some (.next a')) (fun e=>some (.done e)) (fun r=>some (.ret r))) s0
def q6x:Shp:=⟨[(0,.own 0),(1,.d true (.int .i64)),(4,.fn 49 .nil),(11,.d true (.int .i64)),(12,.d true (.int .i64))],[.arr 34 (.fz true) [3] (.slice (.int .i64))]⟩
def q6t:Shp:=⟨[(11,.d true (.int .i64))],[.arr 34 (.fz true) [3] (.slice (.int .i64))]⟩
def qg (a_1:Int) (b_2:Int) (pivot_3:Int) (data_0:(List (List Int))):Option (Int × (List (List Int))) :=
  ckB (ix pivot_3 data_0.length) <|
  ckB (ix pivot_3 data_0.length) <|
  ckB (ix a_1 data_0.length) <|
  ckB (ix a_1 data_0.length) <|
  ckB (ix a_1 data_0.length) <|
  ckB (ix a_1 data_0.length) <|
  ckB (ix pivot_3 (data_0.set (Int.toNat a_1) (data_0.getD (Int.toNat pivot_3) [])).length) <|
  ckB (ix pivot_3 (data_0.set (Int.toNat a_1) (data_0.getD (Int.toNat pivot_3) [])).length) <|
  ckB (inR .i64 (a_1 + 1)) <|
  ckB (inR .i64 (b_2 - 1)) <|
  bnd (q3t a_1 ((a_1 + 1),(b_2 - 1),((data_0.set (Int.toNat a_1) (data_0.getD (Int.toNat pivot_3) [])).set (Int.toNat pivot_3) (data_0.getD (Int.toNat a_1) [])))) fun oe5 =>
  lk oe5 (fun e5 =>
    some (e5.1,e5.2)) (fun r=>some r)
def q2p {R:Type} (a_1:Int) (j_13:Int) (data_0:(List (List Int))) (i_12:Int) (nx:Int → Option R) (dn:Int → Option R) (rt:(Int × Bool × (List (List Int))) → Option R):Option R :=
  bif decide (i_12 ≤ j_13) then
    ckB (ix i_12 data_0.length) <|
    ckB (ix i_12 data_0.length) <|
    ckB (ix a_1 data_0.length) <|
    ckB (ix a_1 data_0.length) <|
    bnd (qj (data_0.getD (Int.toNat i_12) []) (data_0.getD (Int.toNat a_1) [])) fun r1 =>
    bif decide (r1 < 0) then
      ckB (inR .i64 (i_12 + 1)) <|
      nx (i_12 + 1)
    else
      dn i_12
  else
    dn i_12
def q99 (a_1:Int) (j_13:Int) (data_0:(List (List Int))) (s0:Int):Option (Int ⊕ (Int × Bool × (List (List Int)))) :=
  loopM (fun a=>q2p a_1 j_13 data_0 a (fun a'=>some (.next a')) (fun e=>some (.done e)) (fun r=>some (.ret r))) s0
def q8p:Shp:=⟨[(0,.own 0),(1,.d true (.int .i64)),(4,.fn 49 .nil),(12,.d true (.int .i64)),(13,.d true (.int .i64))],[.arr 34 (.fz true) [3] (.slice (.int .i64))]⟩
def q8r:Shp:=⟨[(0,.own 0),(1,.d true (.int .i64)),(4,.fn 49 .nil),(12,.d true (.int .i64)),(13,.d true (.int .i64))],[.arr 34 (.fz true) [3] (.slice (.int .i64))]⟩
def q2o {R:Type} (a_1:Int) (i_12:Int) (data_0:(List (List Int))) (j_13:Int) (nx:Int → Option R) (dn:Int → Option R) (rt:(Int × Bool × (List (List Int))) → Option R):Option R :=
  bif decide (i_12 ≤ j_13) then
    ckB (ix j_13 data_0.length) <|
    ckB (ix j_13 data_0.length) <|
    ckB (ix a_1 data_0.length) <|
    ckB (ix a_1 data_0.length) <|
    bnd (qj (data_0.getD (Int.toNat j_13) []) (data_0.getD (Int.toNat a_1) [])) fun r3 =>
    bif (!(decide (r3 < 0))) then
      ckB (inR .i64 (j_13 - 1)) <|
      nx (j_13 - 1)
    else
      dn j_13
  else
    dn j_13
def q92 (a_1:Int) (i_12:Int) (data_0:(List (List Int))) (s0:Int):Option (Int ⊕ (Int × Bool × (List (List Int)))) :=
  loopM (fun a=>q2o a_1 i_12 data_0 a (fun a'=>some (.next a')) (fun e=>some (.done e)) (fun r=>some (.ret r))) s0
def q8v:Shp:=⟨[(0,.own 0),(1,.d true (.int .i64)),(4,.fn 49 .nil),(12,.d true (.int .i64)),(13,.d true (.int .i64))],[.arr 34 (.fz true) [3] (.slice (.int .i64))]⟩
def q8l:Shp:=⟨[(0,.own 0),(1,.d true (.int .i64)),(4,.fn 49 .nil),(12,.d true (.int .i64)),(13,.d true (.int .i64))],[.arr 34 (.fz true) [3] (.slice (.int .i64))]⟩
def q2q {R:Type} (a_1:Int) (j_13:Int) (data_0:(List (List Int))) (i_12:Int) (nx:Int → Option R) (dn:Int → Option R) (rt:(Int × Bool × (List (List Int))) → Option R):Option R :=
  bif decide (i_12 ≤ j_13) then
    ckB (ix i_12 data_0.length) <|
    ckB (ix i_12 data_0.length) <|
    ckB (ix a_1 data_0.length) <|
    ckB (ix a_1 data_0.length) <|
    bnd (qj (data_0.getD (Int.toNat i_12) []) (data_0.getD (Int.toNat a_1) [])) fun r5 =>
    bif decide (r5 < 0) then
      ckB (inR .i64 (i_12 + 1)) <|
      nx (i_12 + 1)
    else
      dn i_12
  else
    dn i_12
def q9d (a_1:Int) (j_13:Int) (data_0:(List (List Int))) (s0:Int):Option (Int ⊕ (Int × Bool × (List (List Int)))) :=
  loopM (fun a=>q2q a_1 j_13 data_0 a (fun a'=>some (.next a')) (fun e=>some (.done e)) (fun r=>some (.ret r))) s0
def q8m:Shp:=⟨[(0,.own 0),(1,.d true (.int .i64)),(4,.fn 49 .nil),(12,.d true (.int .i64)),(13,.d true (.int .i64))],[.arr 34 (.fz true) [3] (.slice (.int .i64))]⟩
def q8w:Shp:=⟨[(0,.own 0),(1,.d true (.int .i64)),(4,.fn 49 .nil),(12,.d true (.int .i64)),(13,.d true (.int .i64))],[.arr 34 (.fz true) [3] (.slice (.int .i64))]⟩
def q2n {R:Type} (a_1:Int) (i_12:Int) (data_0:(List (List Int))) (j_13:Int) (nx:Int → Option R) (dn:Int → Option R) (rt:(Int × Bool × (List (List Int))) → Option R):Option R :=
  bif decide (i_12 ≤ j_13) then
    ckB (ix j_13 data_0.length) <|
    ckB (ix j_13 data_0.length) <|
    ckB (ix a_1 data_0.length) <|
    ckB (ix a_1 data_0.length) <|
    bnd (qj (data_0.getD (Int.toNat j_13) []) (data_0.getD (Int.toNat a_1) [])) fun r7 =>
    bif (!(decide (r7 < 0))) then
      ckB (inR .i64 (j_13 - 1)) <|
      nx (j_13 - 1)
    else
      dn j_13
  else
    dn j_13
def q9c (a_1:Int) (i_12:Int) (data_0:(List (List Int))) (s0:Int):Option (Int ⊕ (Int × Bool × (List (List Int)))) :=
  loopM (fun a=>q2n a_1 i_12 data_0 a (fun a'=>some (.next a')) (fun e=>some (.done e)) (fun r=>some (.ret r))) s0
def q8s:Shp:=⟨[(0,.own 0),(1,.d true (.int .i64)),(4,.fn 49 .nil),(12,.d true (.int .i64)),(13,.d true (.int .i64))],[.arr 34 (.fz true) [3] (.slice (.int .i64))]⟩
def q8q:Shp:=⟨[(0,.own 0),(1,.d true (.int .i64)),(4,.fn 49 .nil),(12,.d true (.int .i64)),(13,.d true (.int .i64))],[.arr 34 (.fz true) [3] (.slice (.int .i64))]⟩
def q2r {R:Type} (a_1:Int) (i_12:Int) (j_13:Int) (data_0:(List (List Int))) (nx:(Int × Int × (List (List Int))) → Option R) (dn:(Int × (List (List Int))) → Option R) (rt:(Int × Bool × (List (List Int))) → Option R):Option R :=
  bnd (q9d a_1 j_13 data_0 i_12) fun oe6 =>
  lk oe6 (fun e6 =>
    bnd (q9c a_1 e6 data_0 j_13) fun oe8 =>
    lk oe8 (fun e8 =>
      bif decide (e8 < e6) then
        dn (e8,data_0)
      else
        ckB (ix e8 data_0.length) <|
        ckB (ix e8 data_0.length) <|
        ckB (ix e6 data_0.length) <|
        ckB (ix e6 data_0.length) <|
        ckB (ix e6 data_0.length) <|
        ckB (ix e6 data_0.length) <|
        ckB (ix e8 (data_0.set (Int.toNat e6) (data_0.getD (Int.toNat e8) [])).length) <|
        ckB (ix e8 (data_0.set (Int.toNat e6) (data_0.getD (Int.toNat e8) [])).length) <|
        ckB (inR .i64 (e6 + 1)) <|
        ckB (inR .i64 (e8 - 1)) <|
        nx ((e6 + 1),(e8 - 1),((data_0.set (Int.toNat e6) (data_0.getD (Int.toNat e8) [])).set (Int.toNat e8) (data_0.getD (Int.toNat e6) [])))) (fun r=>rt r)) (fun r=>rt r)
def q59 (a_1:Int) (s0:(Int × Int × (List (List Int)))):Option ((Int × (List (List Int))) ⊕ (Int × Bool × (List (List Int)))) :=
  loopM (fun a=>q2r a_1 a.1 a.2.1 a.2.2 (fun a'=>some (.next a')) (fun e=>some (.done e)) (fun r=>some (.ret r))) s0
def q8n:Shp:=⟨[(0,.own 0),(1,.d true (.int .i64)),(4,.fn 49 .nil),(12,.d true (.int .i64)),(13,.d true (.int .i64))],[.arr 34 (.fz true) [3] (.slice (.int .i64))]⟩
def q8o:Shp:=⟨[(0,.own 0),(1,.d true (.int .i64)),(13,.d true (.int .i64))],[.arr 34 (.fz true) [3] (.slice (.int .i64))]⟩
def q3o (a_1:Int) (b_2:Int) (pivot_3:Int) (data_0:(List (List Int))):Option (Int × Bool × (List (List Int))) :=
  ckB (ix pivot_3 data_0.length) <|
  ckB (ix pivot_3 data_0.length) <|
  ckB (ix a_1 data_0.length) <|
  ckB (ix a_1 data_0.length) <|
  ckB (ix a_1 data_0.length) <|
  ckB (ix a_1 data_0.length) <|
  ckB (ix pivot_3 (data_0.set (Int.toNat a_1) (data_0.getD (Int.toNat pivot_3) [])).length) <|
  ckB (ix pivot_3 (data_0.set (Int.toNat a_1) (data_0.getD (Int.toNat pivot_3) [])).length) <|
  ckB (inR .i64 (a_1 + 1)) <|
  ckB (inR .i64 (b_2 - 1)) <|
  bnd (q99 a_1 (b_2 - 1) ((data_0.set (Int.toNat a_1) (data_0.getD (Int.toNat pivot_3) [])).set (Int.toNat pivot_3) (data_0.getD (Int.toNat a_1) [])) (a_1 + 1)) fun oe2 =>
  lk oe2 (fun e2 =>
    bnd (q92 a_1 e2 ((data_0.set (Int.toNat a_1) (data_0.getD (Int.toNat pivot_3) [])).set (Int.toNat pivot_3) (data_0.getD (Int.toNat a_1) [])) (b_2 - 1)) fun oe4 =>
    lk oe4 (fun e4 =>
      bif decide (e4 < e2) then
        ckB (ix a_1 ((data_0.set (Int.toNat a_1) (data_0.getD (Int.toNat pivot_3) [])).set (Int.toNat pivot_3) (data_0.getD (Int.toNat a_1) [])).length) <|
        ckB (ix a_1 ((data_0.set (Int.toNat a_1) (data_0.getD (Int.toNat pivot_3) [])).set (Int.toNat pivot_3) (data_0.getD (Int.toNat a_1) [])).length) <|
        ckB (ix e4 ((data_0.set (Int.toNat a_1) (data_0.getD (Int.toNat pivot_3) [])).set (Int.toNat pivot_3) (data_0.getD (Int.toNat a_1) [])).length) <|
        ckB (ix e4 ((data_0.set (Int.toNat a_1) (data_0.getD (Int.toNat pivot_3) [])).set (Int.toNat pivot_3) (data_0.getD (Int.toNat a_1) [])).length) <|
        ckB (ix e4 ((data_0.set (Int.toNat a_1) (data_0.getD (Int.toNat pivot_3) [])).set (Int.toNat pivot_3) (data_0.getD (Int.toNat a_1) [])).length) <|
        ckB (ix e4 ((data_0.set (Int.toNat a_1) (data_0.getD (Int.toNat pivot_3) [])).set (Int.toNat pivot_3) (data_0.getD (Int.toNat a_1) [])).length) <|
        ckB (ix a_1 (((data_0.set (Int.toNat a_1) (data_0.getD (Int.toNat pivot_3) [])).set (Int.toNat pivot_3) (data_0.getD (Int.toNat a_1) [])).set (Int.toNat e4) (((data_0.set (Int.toNat a_1) (data_0.getD (Int.toNat pivot_3) [])).set (Int.toNat pivot_3) (data_0.getD (Int.toNat a_1) [])).getD (Int.toNat a_1) [])).length) <|
        ckB (ix a_1 (((data_0.set (Int.toNat a_1) (data_0.getD (Int.toNat pivot_3) [])).set (Int.toNat pivot_3) (data_0.getD (Int.toNat a_1) [])).set (Int.toNat e4) (((data_0.set (Int.toNat a_1) (data_0.getD (Int.toNat pivot_3) [])).set (Int.toNat pivot_3) (data_0.getD (Int.toNat a_1) [])).getD (Int.toNat a_1) [])).length) <|
        some (e4,true,((((data_0.set (Int.toNat a_1) (data_0.getD (Int.toNat pivot_3) [])).set (Int.toNat pivot_3) (data_0.getD (Int.toNat a_1) [])).set (Int.toNat e4) (((data_0.set (Int.toNat a_1) (data_0.getD (Int.toNat pivot_3) [])).set (Int.toNat pivot_3) (data_0.getD (Int.toNat a_1) [])).getD (Int.toNat a_1) [])).set (Int.toNat a_1) (((data_0.set (Int.toNat a_1) (data_0.getD (Int.toNat pivot_3) [])).set (Int.toNat pivot_3) (data_0.getD (Int.toNat a_1) [])).getD (Int.toNat e4) [])))
      else
        ckB (ix e4 ((data_0.set (Int.toNat a_1) (data_0.getD (Int.toNat pivot_3) [])).set (Int.toNat pivot_3) (data_0.getD (Int.toNat a_1) [])).length) <|
        ckB (ix e4 ((data_0.set (Int.toNat a_1) (data_0.getD (Int.toNat pivot_3) [])).set (Int.toNat pivot_3) (data_0.getD (Int.toNat a_1) [])).length) <|
        ckB (ix e2 ((data_0.set (Int.toNat a_1) (data_0.getD (Int.toNat pivot_3) [])).set (Int.toNat pivot_3) (data_0.getD (Int.toNat a_1) [])).length) <|
        ckB (ix e2 ((data_0.set (Int.toNat a_1) (data_0.getD (Int.toNat pivot_3) [])).set (Int.toNat pivot_3) (data_0.getD (Int.toNat a_1) [])).length) <|
        ckB (ix e2 ((data_0.set (Int.toNat a_1) (data_0.getD (Int.toNat pivot_3) [])).set (Int.toNat pivot_3) (data_0.getD (Int.toNat a_1) [])).length) <|
        ckB (ix e2 ((data_0.set (Int.toNat a_1) (data_0.getD (Int.toNat pivot_3) [])).set (Int.toNat pivot_3) (data_0.getD (Int.toNat a_1) [])).length) <|
        ckB (ix e4 (((data_0.set (Int.toNat a_1) (data_0.getD (Int.toNat pivot_3) [])).set (Int.toNat pivot_3) (data_0.getD (Int.toNat a_1) [])).set (Int.toNat e2) (((data_0.set (Int.toNat a_1) (data_0.getD (Int.toNat pivot_3) [])).set (Int.toNat pivot_3) (data_0.getD (Int.toNat a_1) [])).getD (Int.toNat e4) [])).length) <|
        ckB (ix e4 (((data_0.set (Int.toNat a_1) (data_0.getD (Int.toNat pivot_3) [])).set (Int.toNat pivot_3) (data_0.getD (Int.toNat a_1) [])).set (Int.toNat e2) (((data_0.set (Int.toNat a_1) (data_0.getD (Int.toNat pivot_3) [])).set (Int.toNat pivot_3) (data_0.getD (Int.toNat a_1) [])).getD (Int.toNat e4) [])).length) <|
        ckB (inR .i64 (e2 + 1)) <|
        ckB (inR .i64 (e4 - 1)) <|
        bnd (q59 a_1 ((e2 + 1),(e4 - 1),((((data_0.set (Int.toNat a_1) (data_0.getD (Int.toNat pivot_3) [])).set (Int.toNat pivot_3) (data_0.getD (Int.toNat a_1) [])).set (Int.toNat e2) (((data_0.set (Int.toNat a_1) (data_0.getD (Int.toNat pivot_3) [])).set (Int.toNat pivot_3) (data_0.getD (Int.toNat a_1) [])).getD (Int.toNat e4) [])).set (Int.toNat e4) (((data_0.set (Int.toNat a_1) (data_0.getD (Int.toNat pivot_3) [])).set (Int.toNat pivot_3) (data_0.getD (Int.toNat a_1) [])).getD (Int.toNat e2) [])))) fun oe9 =>
        lk oe9 (fun e9 =>
          ckB (ix a_1 e9.2.length) <|
          ckB (ix a_1 e9.2.length) <|
          ckB (ix e9.1 e9.2.length) <|
          ckB (ix e9.1 e9.2.length) <|
          ckB (ix e9.1 e9.2.length) <|
          ckB (ix e9.1 e9.2.length) <|
          ckB (ix a_1 (e9.2.set (Int.toNat e9.1) (e9.2.getD (Int.toNat a_1) [])).length) <|
          ckB (ix a_1 (e9.2.set (Int.toNat e9.1) (e9.2.getD (Int.toNat a_1) [])).length) <|
          some (e9.1,false,((e9.2.set (Int.toNat e9.1) (e9.2.getD (Int.toNat a_1) [])).set (Int.toNat a_1) (e9.2.getD (Int.toNat e9.1) [])))) (fun r=>some r)) (fun r=>some r)) (fun r=>some r)
def q5r {R:Type} (rec:((Unit × Int × Int × Int × (Unit) × Unit) × ((List (List Int)) × Unit)) → Option (List (List Int))) (a_1:Int) (b_2:Int) (limit_3:Int) (wasBalanced_10:Bool) (wasPartitioned_11:Bool) (length_12:Int) (pivot_13:Int) (v_75:Bool) (data_0:(List (List Int))) (dn:(List (List Int)) → Option R) (rt:(List (List Int)) → Option R):Option R :=
  bif v_75 then
    bnd (q1m a_1 b_2 data_0) fun r6 =>
    ckB (decide (r6.2.length=data_0.length)) <|
    bif r6.1 then
      rt r6.2
    else
      dn r6.2
  else
    dn data_0
def qk (rec:((Unit × Int × Int × Int × (Unit) × Unit) × ((List (List Int)) × Unit)) → Option (List (List Int))) (a_1:Int) (b_2:Int) (limit_3:Int) (wasBalanced_10:Bool) (wasPartitioned_11:Bool) (length_12:Int) (pivot_13:Int) (v_75:Bool) (data_0:(List (List Int))):Option ((List (List Int)) ⊕ (List (List Int))) :=
  q5r rec a_1 b_2 limit_3 wasBalanced_10 wasPartitioned_11 length_12 pivot_13 v_75 data_0 (fun e=>some (.inl e)) (fun r=>some (.inr r))
def q9j:Shp:=⟨[(0,.own 0),(1,.d true (.int .i64)),(2,.d true (.int .i64)),(3,.d true (.int .i64)),(4,.fn 49 .nil),(10,.d true .bool),(11,.d true .bool),(12,.d true (.int .i64)),(13,.d true (.int .i64)),(75,.d true .bool)],[.arr 34 (.fz true) [3] (.slice (.int .i64))]⟩
def q9p:Shp:=⟨[(0,.own 0),(1,.d true (.int .i64)),(2,.d true (.int .i64)),(3,.d true (.int .i64)),(4,.fn 49 .nil),(10,.d true .bool),(11,.d true .bool),(12,.d true (.int .i64)),(13,.d true (.int .i64))],[.arr 34 (.fz true) [3] (.slice (.int .i64))]⟩
def q3a {R:Type} (rec:((Unit × Int × Int × Int × (Unit) × Unit) × ((List (List Int)) × Unit)) → Option (List (List Int))) (a_1:Int) (b_2:Int) (limit_3:Int) (length_12:Int) (pivot_13:Int) (data_0:(List (List Int))) (dn:(Int × Int × Bool × Bool × (List (List Int))) → Option R) (rt:(List (List Int)) → Option R):Option R :=
  bnd (q3o a_1 b_2 pivot_13 data_0) fun r10 =>
  ckB (decide (r10.2.2.length=data_0.length)) <|
  ckB (inR .i64 (r10.1 - a_1)) <|
  ckB (inR .i64 (b_2 - r10.1)) <|
  ckB (!decide ((8:Int)=0)) <|
  ckB (inR .i64 (Int.tdiv length_12 8)) <|
  bif decide ((r10.1 - a_1) < (b_2 - r10.1)) then
    bnd (rec (((),a_1,r10.1,limit_3,(()),()),(r10.2.2,()))) fun r11 =>
    ckB (decide (r11.length=r10.2.2.length)) <|
    ckB (inR .i64 (r10.1 + 1)) <|
    dn ((r10.1 + 1),b_2,decide ((Int.tdiv length_12 8) ≤ (r10.1 - a_1)),r10.2.1,r11)
  else
    ckB (inR .i64 (r10.1 + 1)) <|
    bnd (rec (((),(r10.1 + 1),b_2,limit_3,(()),()),(r10.2.2,()))) fun r12 =>
    ckB (decide (r12.length=r10.2.2.length)) <|
    dn (a_1,r10.1,decide ((Int.tdiv length_12 8) ≤ (b_2 - r10.1)),r10.2.1,r12)
def qe (rec:((Unit × Int × Int × Int × (Unit) × Unit) × ((List (List Int)) × Unit)) → Option (List (List Int))) (a_1:Int) (b_2:Int) (limit_3:Int) (length_12:Int) (pivot_13:Int) (data_0:(List (List Int))):Option ((Int × Int × Bool × Bool × (List (List Int))) ⊕ (List (List Int))) :=
  q3a rec a_1 b_2 limit_3 length_12 pivot_13 data_0 (fun e=>some (.inl e)) (fun r=>some (.inr r))
def q9g:Shp:=⟨[(0,.own 0),(1,.d true (.int .i64)),(2,.d true (.int .i64)),(3,.d true (.int .i64)),(4,.fn 49 .nil),(12,.d true (.int .i64)),(13,.d true (.int .i64))],[.arr 34 (.fz true) [3] (.slice (.int .i64))]⟩
def q9t:Shp:=⟨[(0,.own 0),(1,.d true (.int .i64)),(2,.d true (.int .i64)),(3,.d true (.int .i64)),(4,.fn 49 .nil),(10,.d true .bool),(11,.d true .bool)],[.arr 34 (.fz true) [3] (.slice (.int .i64))]⟩
def q3b {R:Type} (rec:((Unit × Int × Int × Int × (Unit) × Unit) × ((List (List Int)) × Unit)) → Option (List (List Int)))  (a_1:Int) (b_2:Int) (limit_3:Int) (wasBalanced_10:Bool) (wasPartitioned_11:Bool) (data_0:(List (List Int))) (nx:(Int × Int × Int × Bool × Bool × (List (List Int))) → Option R) (dn:Unit → Option R) (rt:(List (List Int)) → Option R):Option R :=
  ckB (inR .i64 (b_2 - a_1)) <|
  bif decide ((b_2 - a_1) ≤ 12) then
    bnd (q1o a_1 b_2 data_0) fun r1 =>
    ckB (decide (r1.length=data_0.length)) <|
    rt r1
  else
    bif decide (limit_3=0) then
      bnd (q2a a_1 b_2 data_0) fun r2 =>
      ckB (decide (r2.length=data_0.length)) <|
      rt r2
    else
      bif (!wasBalanced_10) then
        bnd (q1p a_1 b_2 data_0) fun r3 =>
        ckB (decide (r3.length=data_0.length)) <|
        ckB (inR .i64 (limit_3 - 1)) <|
        bnd (q18 r3 a_1 b_2) fun r4 =>
        bif decide (r4.2=2) then
          bnd (q16 a_1 b_2 r3) fun r5 =>
          ckB (decide (r5.length=r3.length)) <|
          ckB (inR .i64 (b_2 - 1)) <|
          ckB (inR .i64 (r4.1 - a_1)) <|
          ckB (inR .i64 ((b_2 - 1) - (r4.1 - a_1))) <|
          bif wasBalanced_10 then
            bif wasPartitioned_11 then
              bnd (qk rec a_1 b_2 (limit_3 - 1) wasBalanced_10 wasPartitioned_11 (b_2 - a_1) ((b_2 - 1) - (r4.1 - a_1)) (decide ((1:Int)=1)) r5) fun oe7 =>
              lk oe7 (fun e7 =>
                bif decide ((0:Int) < a_1) then
                  ckB (inR .i64 (a_1 - 1)) <|
                  ckB (ix (a_1 - 1) e7.length) <|
                  ckB (ix (a_1 - 1) e7.length) <|
                  ckB (ix ((b_2 - 1) - (r4.1 - a_1)) e7.length) <|
                  ckB (ix ((b_2 - 1) - (r4.1 - a_1)) e7.length) <|
                  bnd (qj (e7.getD (Int.toNat (a_1 - 1)) []) (e7.getD (Int.toNat ((b_2 - 1) - (r4.1 - a_1))) [])) fun r8 =>
                  bif (!(decide (r8 < 0))) then
                    bnd (qg a_1 b_2 ((b_2 - 1) - (r4.1 - a_1)) e7) fun r9 =>
                    ckB (decide (r9.2.length=e7.length)) <|
                    nx (r9.1,b_2,(limit_3 - 1),wasBalanced_10,wasPartitioned_11,r9.2)
                  else
                    bnd (qe rec a_1 b_2 (limit_3 - 1) (b_2 - a_1) ((b_2 - 1) - (r4.1 - a_1)) e7) fun oe13 =>
                    lk oe13 (fun e13 =>
                      nx (e13.1,e13.2.1,(limit_3 - 1),e13.2.2.1,e13.2.2.2.1,e13.2.2.2.2)) (fun r=>rt r)
                else
                  bnd (qe rec a_1 b_2 (limit_3 - 1) (b_2 - a_1) ((b_2 - 1) - (r4.1 - a_1)) e7) fun oe14 =>
                  lk oe14 (fun e14 =>
                    nx (e14.1,e14.2.1,(limit_3 - 1),e14.2.2.1,e14.2.2.2.1,e14.2.2.2.2)) (fun r=>rt r)) (fun r=>rt r)
            else
              bnd (qk rec a_1 b_2 (limit_3 - 1) wasBalanced_10 wasPartitioned_11 (b_2 - a_1) ((b_2 - 1) - (r4.1 - a_1)) false r5) fun oe15 =>
              lk oe15 (fun e15 =>
                bif decide ((0:Int) < a_1) then
                  ckB (inR .i64 (a_1 - 1)) <|
                  ckB (ix (a_1 - 1) e15.length) <|
                  ckB (ix (a_1 - 1) e15.length) <|
                  ckB (ix ((b_2 - 1) - (r4.1 - a_1)) e15.length) <|
                  ckB (ix ((b_2 - 1) - (r4.1 - a_1)) e15.length) <|
                  bnd (qj (e15.getD (Int.toNat (a_1 - 1)) []) (e15.getD (Int.toNat ((b_2 - 1) - (r4.1 - a_1))) [])) fun r16 =>
                  bif (!(decide (r16 < 0))) then
                    bnd (qg a_1 b_2 ((b_2 - 1) - (r4.1 - a_1)) e15) fun r17 =>
                    ckB (decide (r17.2.length=e15.length)) <|
                    nx (r17.1,b_2,(limit_3 - 1),wasBalanced_10,wasPartitioned_11,r17.2)
                  else
                    bnd (qe rec a_1 b_2 (limit_3 - 1) (b_2 - a_1) ((b_2 - 1) - (r4.1 - a_1)) e15) fun oe18 =>
                    lk oe18 (fun e18 =>
                      nx (e18.1,e18.2.1,(limit_3 - 1),e18.2.2.1,e18.2.2.2.1,e18.2.2.2.2)) (fun r=>rt r)
                else
                  bnd (qe rec a_1 b_2 (limit_3 - 1) (b_2 - a_1) ((b_2 - 1) - (r4.1 - a_1)) e15) fun oe19 =>
                  lk oe19 (fun e19 =>
                    nx (e19.1,e19.2.1,(limit_3 - 1),e19.2.2.1,e19.2.2.2.1,e19.2.2.2.2)) (fun r=>rt r)) (fun r=>rt r)
          else
            bnd (qk rec a_1 b_2 (limit_3 - 1) wasBalanced_10 wasPartitioned_11 (b_2 - a_1) ((b_2 - 1) - (r4.1 - a_1)) false r5) fun oe20 =>
            lk oe20 (fun e20 =>
              bif decide ((0:Int) < a_1) then
                ckB (inR .i64 (a_1 - 1)) <|
                ckB (ix (a_1 - 1) e20.length) <|
                ckB (ix (a_1 - 1) e20.length) <|
                ckB (ix ((b_2 - 1) - (r4.1 - a_1)) e20.length) <|
                ckB (ix ((b_2 - 1) - (r4.1 - a_1)) e20.length) <|
                bnd (qj (e20.getD (Int.toNat (a_1 - 1)) []) (e20.getD (Int.toNat ((b_2 - 1) - (r4.1 - a_1))) [])) fun r21 =>
                bif (!(decide (r21 < 0))) then
                  bnd (qg a_1 b_2 ((b_2 - 1) - (r4.1 - a_1)) e20) fun r22 =>
                  ckB (decide (r22.2.length=e20.length)) <|
                  nx (r22.1,b_2,(limit_3 - 1),wasBalanced_10,wasPartitioned_11,r22.2)
                else
                  bnd (qe rec a_1 b_2 (limit_3 - 1) (b_2 - a_1) ((b_2 - 1) - (r4.1 - a_1)) e20) fun oe23 =>
                  lk oe23 (fun e23 =>
                    nx (e23.1,e23.2.1,(limit_3 - 1),e23.2.2.1,e23.2.2.2.1,e23.2.2.2.2)) (fun r=>rt r)
              else
                bnd (qe rec a_1 b_2 (limit_3 - 1) (b_2 - a_1) ((b_2 - 1) - (r4.1 - a_1)) e20) fun oe24 =>
                lk oe24 (fun e24 =>
                  nx (e24.1,e24.2.1,(limit_3 - 1),e24.2.2.1,e24.2.2.2.1,e24.2.2.2.2)) (fun r=>rt r)) (fun r=>rt r)
        else
          bif wasBalanced_10 then
            bif wasPartitioned_11 then
              bnd (qk rec a_1 b_2 (limit_3 - 1) wasBalanced_10 wasPartitioned_11 (b_2 - a_1) r4.1 (decide (r4.2=1)) r3) fun oe25 =>
              lk oe25 (fun e25 =>
                bif decide ((0:Int) < a_1) then
                  ckB (inR .i64 (a_1 - 1)) <|
                  ckB (ix (a_1 - 1) e25.length) <|
                  ckB (ix (a_1 - 1) e25.length) <|
                  ckB (ix r4.1 e25.length) <|
                  ckB (ix r4.1 e25.length) <|
                  bnd (qj (e25.getD (Int.toNat (a_1 - 1)) []) (e25.getD (Int.toNat r4.1) [])) fun r26 =>
                  bif (!(decide (r26 < 0))) then
                    bnd (qg a_1 b_2 r4.1 e25) fun r27 =>
                    ckB (decide (r27.2.length=e25.length)) <|
                    nx (r27.1,b_2,(limit_3 - 1),wasBalanced_10,wasPartitioned_11,r27.2)
                  else
                    bnd (qe rec a_1 b_2 (limit_3 - 1) (b_2 - a_1) r4.1 e25) fun oe28 =>
                    lk oe28 (fun e28 =>
                      nx (e28.1,e28.2.1,(limit_3 - 1),e28.2.2.1,e28.2.2.2.1,e28.2.2.2.2)) (fun r=>rt r)
                else
                  bnd (qe rec a_1 b_2 (limit_3 - 1) (b_2 - a_1) r4.1 e25) fun oe29 =>
                  lk oe29 (fun e29 =>
                    nx (e29.1,e29.2.1,(limit_3 - 1),e29.2.2.1,e29.2.2.2.1,e29.2.2.2.2)) (fun r=>rt r)) (fun r=>rt r)
            else
              bnd (qk rec a_1 b_2 (limit_3 - 1) wasBalanced_10 wasPartitioned_11 (b_2 - a_1) r4.1 false r3) fun oe30 =>
              lk oe30 (fun e30 =>
                bif decide ((0:Int) < a_1) then
                  ckB (inR .i64 (a_1 - 1)) <|
                  ckB (ix (a_1 - 1) e30.length) <|
                  ckB (ix (a_1 - 1) e30.length) <|
                  ckB (ix r4.1 e30.length) <|
                  ckB (ix r4.1 e30.length) <|
                  bnd (qj (e30.getD (Int.toNat (a_1 - 1)) []) (e30.getD (Int.toNat r4.1) [])) fun r31 =>
                  bif (!(decide (r31 < 0))) then
                    bnd (qg a_1 b_2 r4.1 e30) fun r32 =>
                    ckB (decide (r32.2.length=e30.length)) <|
                    nx (r32.1,b_2,(limit_3 - 1),wasBalanced_10,wasPartitioned_11,r32.2)
                  else
                    bnd (qe rec a_1 b_2 (limit_3 - 1) (b_2 - a_1) r4.1 e30) fun oe33 =>
                    lk oe33 (fun e33 =>
                      nx (e33.1,e33.2.1,(limit_3 - 1),e33.2.2.1,e33.2.2.2.1,e33.2.2.2.2)) (fun r=>rt r)
                else
                  bnd (qe rec a_1 b_2 (limit_3 - 1) (b_2 - a_1) r4.1 e30) fun oe34 =>
                  lk oe34 (fun e34 =>
                    nx (e34.1,e34.2.1,(limit_3 - 1),e34.2.2.1,e34.2.2.2.1,e34.2.2.2.2)) (fun r=>rt r)) (fun r=>rt r)
          else
            bnd (qk rec a_1 b_2 (limit_3 - 1) wasBalanced_10 wasPartitioned_11 (b_2 - a_1) r4.1 false r3) fun oe35 =>
            lk oe35 (fun e35 =>
              bif decide ((0:Int) < a_1) then
                ckB (inR .i64 (a_1 - 1)) <|
                ckB (ix (a_1 - 1) e35.length) <|
                ckB (ix (a_1 - 1) e35.length) <|
                ckB (ix r4.1 e35.length) <|
                ckB (ix r4.1 e35.length) <|
                bnd (qj (e35.getD (Int.toNat (a_1 - 1)) []) (e35.getD (Int.toNat r4.1) [])) fun r36 =>
                bif (!(decide (r36 < 0))) then
                  bnd (qg a_1 b_2 r4.1 e35) fun r37 =>
                  ckB (decide (r37.2.length=e35.length)) <|
                  nx (r37.1,b_2,(limit_3 - 1),wasBalanced_10,wasPartitioned_11,r37.2)
                else
                  bnd (qe rec a_1 b_2 (limit_3 - 1) (b_2 - a_1) r4.1 e35) fun oe38 =>
                  lk oe38 (fun e38 =>
                    nx (e38.1,e38.2.1,(limit_3 - 1),e38.2.2.1,e38.2.2.2.1,e38.2.2.2.2)) (fun r=>rt r)
              else
                bnd (qe rec a_1 b_2 (limit_3 - 1) (b_2 - a_1) r4.1 e35) fun oe39 =>
                lk oe39 (fun e39 =>
                  nx (e39.1,e39.2.1,(limit_3 - 1),e39.2.2.1,e39.2.2.2.1,e39.2.2.2.2)) (fun r=>rt r)) (fun r=>rt r)
      else
        bnd (q18 data_0 a_1 b_2) fun r40 =>
        bif decide (r40.2=2) then
          bnd (q16 a_1 b_2 data_0) fun r41 =>
          ckB (decide (r41.length=data_0.length)) <|
          ckB (inR .i64 (b_2 - 1)) <|
          ckB (inR .i64 (r40.1 - a_1)) <|
          ckB (inR .i64 ((b_2 - 1) - (r40.1 - a_1))) <|
          bif wasBalanced_10 then
            bif wasPartitioned_11 then
              bnd (qk rec a_1 b_2 limit_3 wasBalanced_10 wasPartitioned_11 (b_2 - a_1) ((b_2 - 1) - (r40.1 - a_1)) (decide ((1:Int)=1)) r41) fun oe42 =>
              lk oe42 (fun e42 =>
                bif decide ((0:Int) < a_1) then
                  ckB (inR .i64 (a_1 - 1)) <|
                  ckB (ix (a_1 - 1) e42.length) <|
                  ckB (ix (a_1 - 1) e42.length) <|
                  ckB (ix ((b_2 - 1) - (r40.1 - a_1)) e42.length) <|
                  ckB (ix ((b_2 - 1) - (r40.1 - a_1)) e42.length) <|
                  bnd (qj (e42.getD (Int.toNat (a_1 - 1)) []) (e42.getD (Int.toNat ((b_2 - 1) - (r40.1 - a_1))) [])) fun r43 =>
                  bif (!(decide (r43 < 0))) then
                    bnd (qg a_1 b_2 ((b_2 - 1) - (r40.1 - a_1)) e42) fun r44 =>
                    ckB (decide (r44.2.length=e42.length)) <|
                    nx (r44.1,b_2,limit_3,wasBalanced_10,wasPartitioned_11,r44.2)
                  else
                    bnd (qe rec a_1 b_2 limit_3 (b_2 - a_1) ((b_2 - 1) - (r40.1 - a_1)) e42) fun oe45 =>
                    lk oe45 (fun e45 =>
                      nx (e45.1,e45.2.1,limit_3,e45.2.2.1,e45.2.2.2.1,e45.2.2.2.2)) (fun r=>rt r)
                else
                  bnd (qe rec a_1 b_2 limit_3 (b_2 - a_1) ((b_2 - 1) - (r40.1 - a_1)) e42) fun oe46 =>
                  lk oe46 (fun e46 =>
                    nx (e46.1,e46.2.1,limit_3,e46.2.2.1,e46.2.2.2.1,e46.2.2.2.2)) (fun r=>rt r)) (fun r=>rt r)
            else
              bnd (qk rec a_1 b_2 limit_3 wasBalanced_10 wasPartitioned_11 (b_2 - a_1) ((b_2 - 1) - (r40.1 - a_1)) false r41) fun oe47 =>
              lk oe47 (fun e47 =>
                bif decide ((0:Int) < a_1) then
                  ckB (inR .i64 (a_1 - 1)) <|
                  ckB (ix (a_1 - 1) e47.length) <|
                  ckB (ix (a_1 - 1) e47.length) <|
                  ckB (ix ((b_2 - 1) - (r40.1 - a_1)) e47.length) <|
                  ckB (ix ((b_2 - 1) - (r40.1 - a_1)) e47.length) <|
                  bnd (qj (e47.getD (Int.toNat (a_1 - 1)) []) (e47.getD (Int.toNat ((b_2 - 1) - (r40.1 - a_1))) [])) fun r48 =>
                  bif (!(decide (r48 < 0))) then
                    bnd (qg a_1 b_2 ((b_2 - 1) - (r40.1 - a_1)) e47) fun r49 =>
                    ckB (decide (r49.2.length=e47.length)) <|
                    nx (r49.1,b_2,limit_3,wasBalanced_10,wasPartitioned_11,r49.2)
                  else
                    bnd (qe rec a_1 b_2 limit_3 (b_2 - a_1) ((b_2 - 1) - (r40.1 - a_1)) e47) fun oe50 =>
                    lk oe50 (fun e50 =>
                      nx (e50.1,e50.2.1,limit_3,e50.2.2.1,e50.2.2.2.1,e50.2.2.2.2)) (fun r=>rt r)
                else
                  bnd (qe rec a_1 b_2 limit_3 (b_2 - a_1) ((b_2 - 1) - (r40.1 - a_1)) e47) fun oe51 =>
                  lk oe51 (fun e51 =>
                    nx (e51.1,e51.2.1,limit_3,e51.2.2.1,e51.2.2.2.1,e51.2.2.2.2)) (fun r=>rt r)) (fun r=>rt r)
          else
            bnd (qk rec a_1 b_2 limit_3 wasBalanced_10 wasPartitioned_11 (b_2 - a_1) ((b_2 - 1) - (r40.1 - a_1)) false r41) fun oe52 =>
            lk oe52 (fun e52 =>
              bif decide ((0:Int) < a_1) then
                ckB (inR .i64 (a_1 - 1)) <|
                ckB (ix (a_1 - 1) e52.length) <|
                ckB (ix (a_1 - 1) e52.length) <|
                ckB (ix ((b_2 - 1) - (r40.1 - a_1)) e52.length) <|
                ckB (ix ((b_2 - 1) - (r40.1 - a_1)) e52.length) <|
                bnd (qj (e52.getD (Int.toNat (a_1 - 1)) []) (e52.getD (Int.toNat ((b_2 - 1) - (r40.1 - a_1))) [])) fun r53 =>
                bif (!(decide (r53 < 0))) then
                  bnd (qg a_1 b_2 ((b_2 - 1) - (r40.1 - a_1)) e52) fun r54 =>
                  ckB (decide (r54.2.length=e52.length)) <|
                  nx (r54.1,b_2,limit_3,wasBalanced_10,wasPartitioned_11,r54.2)
                else
                  bnd (qe rec a_1 b_2 limit_3 (b_2 - a_1) ((b_2 - 1) - (r40.1 - a_1)) e52) fun oe55 =>
                  lk oe55 (fun e55 =>
                    nx (e55.1,e55.2.1,limit_3,e55.2.2.1,e55.2.2.2.1,e55.2.2.2.2)) (fun r=>rt r)
              else
                bnd (qe rec a_1 b_2 limit_3 (b_2 - a_1) ((b_2 - 1) - (r40.1 - a_1)) e52) fun oe56 =>
                lk oe56 (fun e56 =>
                  nx (e56.1,e56.2.1,limit_3,e56.2.2.1,e56.2.2.2.1,e56.2.2.2.2)) (fun r=>rt r)) (fun r=>rt r)
        else
          bif wasBalanced_10 then
            bif wasPartitioned_11 then
              bnd (qk rec a_1 b_2 limit_3 wasBalanced_10 wasPartitioned_11 (b_2 - a_1) r40.1 (decide (r40.2=1)) data_0) fun oe57 =>
              lk oe57 (fun e57 =>
                bif decide ((0:Int) < a_1) then
                  ckB (inR .i64 (a_1 - 1)) <|
                  ckB (ix (a_1 - 1) e57.length) <|
                  ckB (ix (a_1 - 1) e57.length) <|
                  ckB (ix r40.1 e57.length) <|
                  ckB (ix r40.1 e57.length) <|
                  bnd (qj (e57.getD (Int.toNat (a_1 - 1)) []) (e57.getD (Int.toNat r40.1) [])) fun r58 =>
                  bif (!(decide (r58 < 0))) then
                    bnd (qg a_1 b_2 r40.1 e57) fun r59 =>
                    ckB (decide (r59.2.length=e57.length)) <|
                    nx (r59.1,b_2,limit_3,wasBalanced_10,wasPartitioned_11,r59.2)
                  else
                    bnd (qe rec a_1 b_2 limit_3 (b_2 - a_1) r40.1 e57) fun oe60 =>
                    lk oe60 (fun e60 =>
                      nx (e60.1,e60.2.1,limit_3,e60.2.2.1,e60.2.2.2.1,e60.2.2.2.2)) (fun r=>rt r)
                else
                  bnd (qe rec a_1 b_2 limit_3 (b_2 - a_1) r40.1 e57) fun oe61 =>
                  lk oe61 (fun e61 =>
                    nx (e61.1,e61.2.1,limit_3,e61.2.2.1,e61.2.2.2.1,e61.2.2.2.2)) (fun r=>rt r)) (fun r=>rt r)
            else
              bnd (qk rec a_1 b_2 limit_3 wasBalanced_10 wasPartitioned_11 (b_2 - a_1) r40.1 false data_0) fun oe62 =>
              lk oe62 (fun e62 =>
                bif decide ((0:Int) < a_1) then
                  ckB (inR .i64 (a_1 - 1)) <|
                  ckB (ix (a_1 - 1) e62.length) <|
                  ckB (ix (a_1 - 1) e62.length) <|
                  ckB (ix r40.1 e62.length) <|
                  ckB (ix r40.1 e62.length) <|
                  bnd (qj (e62.getD (Int.toNat (a_1 - 1)) []) (e62.getD (Int.toNat r40.1) [])) fun r63 =>
                  bif (!(decide (r63 < 0))) then
                    bnd (qg a_1 b_2 r40.1 e62) fun r64 =>
                    ckB (decide (r64.2.length=e62.length)) <|
                    nx (r64.1,b_2,limit_3,wasBalanced_10,wasPartitioned_11,r64.2)
                  else
                    bnd (qe rec a_1 b_2 limit_3 (b_2 - a_1) r40.1 e62) fun oe65 =>
                    lk oe65 (fun e65 =>
                      nx (e65.1,e65.2.1,limit_3,e65.2.2.1,e65.2.2.2.1,e65.2.2.2.2)) (fun r=>rt r)
                else
                  bnd (qe rec a_1 b_2 limit_3 (b_2 - a_1) r40.1 e62) fun oe66 =>
                  lk oe66 (fun e66 =>
                    nx (e66.1,e66.2.1,limit_3,e66.2.2.1,e66.2.2.2.1,e66.2.2.2.2)) (fun r=>rt r)) (fun r=>rt r)
          else
            bnd (qk rec a_1 b_2 limit_3 wasBalanced_10 wasPartitioned_11 (b_2 - a_1) r40.1 false data_0) fun oe67 =>
            lk oe67 (fun e67 =>
              bif decide ((0:Int) < a_1) then
                ckB (inR .i64 (a_1 - 1)) <|
                ckB (ix (a_1 - 1) e67.length) <|
                ckB (ix (a_1 - 1) e67.length) <|
                ckB (ix r40.1 e67.length) <|
                ckB (ix r40.1 e67.length) <|
                bnd (qj (e67.getD (Int.toNat (a_1 - 1)) []) (e67.getD (Int.toNat r40.1) [])) fun r68 =>
                bif (!(decide (r68 < 0))) then
                  bnd (qg a_1 b_2 r40.1 e67) fun r69 =>
                  ckB (decide (r69.2.length=e67.length)) <|
                  nx (r69.1,b_2,limit_3,wasBalanced_10,wasPartitioned_11,r69.2)
                else
                  bnd (qe rec a_1 b_2 limit_3 (b_2 - a_1) r40.1 e67) fun oe70 =>
                  lk oe70 (fun e70 =>
                    nx (e70.1,e70.2.1,limit_3,e70.2.2.1,e70.2.2.2.1,e70.2.2.2.2)) (fun r=>rt r)
              else
                bnd (qe rec a_1 b_2 limit_3 (b_2 - a_1) r40.1 e67) fun oe71 =>
                lk oe71 (fun e71 =>
                  nx (e71.1,e71.2.1,limit_3,e71.2.2.1,e71.2.2.2.1,e71.2.2.2.2)) (fun r=>rt r)) (fun r=>rt r)
def qae (rec:((Unit × Int × Int × Int × (Unit) × Unit) × ((List (List Int)) × Unit)) → Option (List (List Int)))  (s0:(Int × Int × Int × Bool × Bool × (List (List Int)))):Option (Unit ⊕ (List (List Int))) :=
  loopM (fun a=>q3b rec  a.1 a.2.1 a.2.2.1 a.2.2.2.1 a.2.2.2.2.1 a.2.2.2.2.2 (fun a'=>some (.next a')) (fun e=>some (.done e)) (fun r=>some (.ret r))) s0
def q9u:Shp:=⟨[(0,.own 0),(1,.d true (.int .i64)),(2,.d true (.int .i64)),(3,.d true (.int .i64)),(4,.fn 49 .nil),(10,.d true .bool),(11,.d true .bool)],[.arr 34 (.fz true) [3] (.slice (.int .i64))]⟩
def q9i:Shp:=⟨[],[]⟩
def q1r (rec:((Unit × Int × Int × Int × (Unit) × Unit) × ((List (List Int)) × Unit)) → Option (List (List Int))) (a_1:Int) (b_2:Int) (limit_3:Int) (data_0:(List (List Int))):Option (List (List Int)) :=
  bnd (qae rec  (a_1,b_2,limit_3,true,true,data_0)) fun oe72 =>
  lk oe72 (fun e72 =>
    none) (fun r=>some r)
def qbd (a:((Unit × Int × Int × Int × (Unit) × Unit) × ((List (List Int)) × Unit))):Option (List (List Int)) :=
  recM (fun (rec:((Unit × Int × Int × Int × (Unit) × Unit) × ((List (List Int)) × Unit)) → Option (List (List Int))) (a:((Unit × Int × Int × Int × (Unit) × Unit) × ((List (List Int)) × Unit)))=>q1r rec a.1.2.1 a.1.2.2.1 a.1.2.2.2.1 a.2.1) many a
def q7d (a_1:Int) (b_2:Int) (limit_3:Int) (data_0:(List (List Int))):Option (List (List Int)) :=
  qbd (((),a_1,b_2,limit_3,(()),()),(data_0,()))
def q37 (x_0:(List (List Int))):Option (List (List Int)) :=
  bnd (qn2 (IntKind.wrap .u64 (x_0.length:Int))) fun r1 =>
  bnd (q7d 0 (x_0.length:Int) r1 x_0) fun r2 =>
  ckB (decide (r2.length=x_0.length)) <|
  some r2
def qla {R:Type} (s_6:Int) (v_18:(List Int)) (v_19:Int) (v_20:Int) (v_25:Int) (n_10:Int) (n_11:(List Trans)) (n_12:Int) (n_13:Int) (out_4:(List (List Int))) (v_26:Int) (l_7:(List Int)) (nx:(Int × (List Int)) → Option R) (dn:(List Int) → Option R) (rt:(Int × (List (List Int))) → Option R):Option R :=
  bif decide (v_26 < v_25) then
    ckB (decide (0 ≤ v_26)) <|
    bif decide ((bitI .and .u32 (shrI .u32 s_6 v_26) 1)=1) then
      ckB (room (l_7.length + 1) 8) <|
      ckB (inR .i64 (v_26 + 1)) <|
      nx ((v_26 + 1),(l_7 ++ [v_26]))
    else
      ckB (inR .i64 (v_26 + 1)) <|
      nx ((v_26 + 1),l_7)
  else
    dn l_7
def qug (s_6:Int) (v_18:(List Int)) (v_19:Int) (v_20:Int) (v_25:Int) (n_10:Int) (n_11:(List Trans)) (n_12:Int) (n_13:Int) (out_4:(List (List Int))) (s0:(Int × (List Int))):Option ((List Int) ⊕ (Int × (List (List Int)))) :=
  loopM (fun a=>qla s_6 v_18 v_19 v_20 v_25 n_10 n_11 n_12 n_13 out_4 a.1 a.2 (fun a'=>some (.next a')) (fun e=>some (.done e)) (fun r=>some (.ret r))) s0
def ql8:Shp:=⟨[(1,.ptr 0),(4,.nl false (.own 1)),(6,.d true (.int .u32)),(7,.nl false (.own 2)),(18,.nl false (.d true (.slice (.int .u32)))),(19,.d true (.int .i64)),(20,.d true (.int .i64)),(25,.d true (.int .i64)),(26,.d true (.int .i64))],[.cs 24 4 1 (.cons (.d true (.int .i64)) (.cons (.d false (.slice Trans.ty)) (.cons (.d true (.int .i64)) (.cons (.d true (.int .i64)) .nil)))),.arr 34 (.fz true) [3] (.slice (.int .i64)),.arr 3 (.fz true) [0] (.int .i64)]⟩
def qlh:Shp:=⟨[(1,.ptr 0),(4,.nl false (.own 1)),(7,.nl false (.own 2)),(18,.nl false (.d true (.slice (.int .u32)))),(19,.d true (.int .i64)),(20,.d true (.int .i64))],[.cs 24 4 1 (.cons (.d true (.int .i64)) (.cons (.d false (.slice Trans.ty)) (.cons (.d true (.int .i64)) (.cons (.d true (.int .i64)) .nil)))),.arr 34 (.fz true) [3] (.slice (.int .i64)),.arr 3 (.fz true) [0] (.int .i64)]⟩
def qll {R:Type} (v_18:(List Int)) (v_19:Int) (n_10:Int) (n_11:(List Trans)) (n_12:Int) (n_13:Int) (v_20:Int) (out_4:(List (List Int))) (nx:(Int × (List (List Int))) → Option R) (dn:(List (List Int)) → Option R) (rt:(Int × (List (List Int))) → Option R):Option R :=
  bif decide (v_20 < v_19) then
    ckB (ix v_20 v_18.length) <|
    ckB (ix v_20 v_18.length) <|
    bnd (qug (v_18.getD (Int.toNat v_20) 0) v_18 v_19 v_20 n_10 n_10 n_11 n_12 n_13 out_4 (0,[])) fun oe3 =>
    lk oe3 (fun e3 =>
      ckB (room (out_4.length + 1) 24) <|
      ckB (inR .i64 (v_20 + 1)) <|
      nx ((v_20 + 1),(out_4 ++ [e3]))) (fun r=>rt r)
  else
    dn out_4
def qv4 (v_18:(List Int)) (v_19:Int) (n_10:Int) (n_11:(List Trans)) (n_12:Int) (n_13:Int) (s0:(Int × (List (List Int)))):Option ((List (List Int)) ⊕ (Int × (List (List Int)))) :=
  loopM (fun a=>qll v_18 v_19 n_10 n_11 n_12 n_13 a.1 a.2 (fun a'=>some (.next a')) (fun e=>some (.done e)) (fun r=>some (.ret r))) s0
def qlc:Shp:=⟨[(1,.ptr 0),(4,.nl false (.own 1)),(18,.nl false (.d true (.slice (.int .u32)))),(19,.d true (.int .i64)),(20,.d true (.int .i64))],[.cs 24 4 1 (.cons (.d true (.int .i64)) (.cons (.d false (.slice Trans.ty)) (.cons (.d true (.int .i64)) (.cons (.d true (.int .i64)) .nil)))),.arr 34 (.fz true) [3] (.slice (.int .i64))]⟩
def qlb:Shp:=⟨[(4,.nl false (.own 0))],[.arr 34 (.fz true) [3] (.slice (.int .i64))]⟩
def qpa (n_00:Int) (n_01:(List Trans)) (n_02:Int) (n_03:Int):Option (Int × (List (List Int))) :=
  bnd (qax (n_00,n_01,n_02,n_03,())) fun r1 =>
  bif (!r1) then
    some (1,[])
  else
    bif decide ((16:Int) < n_00) then
      some (13,[])
    else
      bnd (qcd (n_00,n_01,n_02,n_03,())) fun r2 =>
      bnd (qv4 r2 (r2.length:Int) n_00 n_01 n_02 n_03 (0,[])) fun oe4 =>
      lk oe4 (fun e4 =>
        bnd (q37 e4) fun r5 =>
        ckB (decide (r5.length=e4.length)) <|
        some (0,r5)) (fun r=>some r)
def qa2 {R:Type} (l_1:(List Int)) (v_7:(List Int)) (v_8:Int) (n_20:Int) (n_21:(List Trans)) (n_22:Int) (n_23:Int) (v_9:Int) (nx:Int → Option R) (dn:Unit → Option R) (rt:Bool → Option R):Option R :=
  bif decide (v_9 < v_8) then
    ckB (ix v_9 v_7.length) <|
    ckB (ix v_9 v_7.length) <|
    bif decide ((v_7.getD (Int.toNat v_9) 0) < 0) then
      rt false
    else
      bif decide (n_20 ≤ (v_7.getD (Int.toNat v_9) 0)) then
        rt false
      else
        bif decide ((0:Int) < v_9) then
          ckB (inR .i64 (v_9 - 1)) <|
          ckB (ix (v_9 - 1) l_1.length) <|
          ckB (ix (v_9 - 1) l_1.length) <|
          bif decide ((v_7.getD (Int.toNat v_9) 0) ≤ (l_1.getD (Int.toNat (v_9 - 1)) 0)) then
            rt false
          else
            ckB (inR .i64 (v_9 + 1)) <|
            nx (v_9 + 1)
        else
          ckB (inR .i64 (v_9 + 1)) <|
          nx (v_9 + 1)
  else
    dn ()
def qrx (l_1:(List Int)) (v_7:(List Int)) (v_8:Int) (n_20:Int) (n_21:(List Trans)) (n_22:Int) (n_23:Int) (s0:Int):Option (Unit ⊕ Bool) :=
  loopM (fun a=>qa2 l_1 v_7 v_8 n_20 n_21 n_22 n_23 a (fun a'=>some (.next a')) (fun e=>some (.done e)) (fun r=>some (.ret r))) s0
def qqt:Shp:=⟨[(1,.d false (.slice (.int .i64))),(2,.ptr 0),(7,.d false (.slice (.int .i64))),(8,.d true (.int .i64)),(9,.d true (.int .i64))],[.cs 24 4 1 (.cons (.d true (.int .i64)) (.cons (.d false (.slice Trans.ty)) (.cons (.d true (.int .i64)) (.cons (.d true (.int .i64)) .nil))))]⟩
def qri:Shp:=⟨[],[]⟩
def qio (n_0:Net) (l_1:(List Int)):Option Bool :=
  bnd (qrx l_1 l_1 (l_1.length:Int) n_0.1 n_0.2.1 n_0.2.2.1 n_0.2.2.2.1 0) fun oe1 =>
  lk oe1 (fun e1 =>
    some true) (fun r=>some r)
def qe1 (n_0:Net) (l_1:(List Int)):Option Int :=
  bnd (qax n_0) fun r1 =>
  bif (!r1) then
    some 1
  else
    bnd (qio n_0 l_1) fun r2 =>
    bif (!r2) then
      some 2
    else
      some 0
def qfm (t_0:Trans) (trap_1:Bool):Option ((List Int) × (List Int)) :=
  bif trap_1 then
    some (t_0.2.1,t_0.2.2.1)
  else
    some (t_0.2.2.1,t_0.2.1)
def q6r {R:Type} (s_0:(List Int)) (v_1:Int) (v_7:Int) (v_8:Int) (nx:Int → Option R) (dn:Unit → Option R) (rt:Int → Option R):Option R :=
  bif decide (v_8 < v_7) then
    ckB (ix v_8 s_0.length) <|
    ckB (ix v_8 s_0.length) <|
    bif decide (v_1=(s_0.getD (Int.toNat v_8) 0)) then
      rt v_8
    else
      ckB (inR .i64 (v_8 + 1)) <|
      nx (v_8 + 1)
  else
    dn ()
def qfh (s_0:(List Int)) (v_1:Int) (v_7:Int) (s0:Int):Option (Unit ⊕ Int) :=
  loopM (fun a=>q6r s_0 v_1 v_7 a (fun a'=>some (.next a')) (fun e=>some (.done e)) (fun r=>some (.ret r))) s0
def qev:Shp:=⟨[(0,.d false (.slice (.int .i64))),(1,.d true (.int .i64)),(7,.d true (.int .i64)),(8,.d true (.int .i64))],[]⟩
def qez:Shp:=⟨[],[]⟩
def qco (s_0:(List Int)) (v_1:Int):Option Int :=
  bnd (qfh s_0 v_1 (s_0.length:Int) 0) fun oe1 =>
  lk oe1 (fun e1 =>
    some (-1)) (fun r=>some r)
def q2y (s_0:(List Int)) (v_1:Int):Option Bool :=
  bnd (qco s_0 v_1) fun r1 =>
  some (decide ((0:Int) ≤ r1))
def qj2 (p_0:Int) (p_1:(List Int)):Option Bool :=
  ckB (ix 0 1) <|
  bnd (q2y p_1 p_0) fun r1 =>
  some r1
def q39 {R:Type} (s_0:(List Int)) (f_1c0:(List Int)) (v_7:Int) (v_8:Int) (nx:Int → Option R) (dn:Unit → Option R) (rt:Int → Option R):Option R :=
  bif decide (v_8 < v_7) then
    ckB (ix v_8 s_0.length) <|
    ckB (ix v_8 s_0.length) <|
    bnd (qj2 (s_0.getD (Int.toNat v_8) 0) f_1c0) fun r1 =>
    bif r1 then
      rt v_8
    else
      ckB (inR .i64 (v_8 + 1)) <|
      nx (v_8 + 1)
  else
    dn ()
def qaq (s_0:(List Int)) (f_1c0:(List Int)) (v_7:Int) (s0:Int):Option (Unit ⊕ Int) :=
  loopM (fun a=>q39 s_0 f_1c0 v_7 a (fun a'=>some (.next a')) (fun e=>some (.done e)) (fun r=>some (.ret r))) s0
def q9h:Shp:=⟨[(0,.d false (.slice (.int .i64))),(1,.fn 109 (.cons (.rp false (.slice (.int .i64))) .nil)),(7,.d true (.int .i64)),(8,.d true (.int .i64))],[]⟩
def q9l:Shp:=⟨[],[]⟩
def q7e (s_0:(List Int)) (f_1c0:(List Int)):Option Int :=
  bnd (qaq s_0 f_1c0 (s_0.length:Int) 0) fun oe2 =>
  lk oe2 (fun e2 =>
    some (-1)) (fun r=>some r)
def q5l (s_0:(List Int)) (f_1c0:(List Int)):Option Bool :=
  bnd (q7e s_0 f_1c0) fun r1 =>
  some (decide ((0:Int) ≤ r1))
def qbz (a_0:(List Int)) (b_1:(List Int)):Option Bool :=
  bnd (q5l a_0 b_1) fun r1 =>
  some r1
def qdk (t_0:Trans) (p_1:Bool) (p_2:(List Int)):Option Bool :=
  ckB (ix 0 1) <|
  bnd (qfm t_0 p_1) fun r1 =>
  ckB (ix 0 1) <|
  bnd (qbz r1.1 p_2) fun r2 =>
  bif r2 then
    ckB (ix 0 1) <|
    bnd (qbz r1.2 p_2) fun r3 =>
    some (!r3)
  else
    some false
def q1l {R:Type} (s_0:(List Trans)) (f_1c0:Bool) (f_1c1:(List Int)) (v_7:Int) (v_8:Int) (nx:Int → Option R) (dn:Unit → Option R) (rt:Int → Option R):Option R :=
  bif decide (v_8 < v_7) then
    ckB (ix v_8 s_0.length) <|
    ckB (ix v_8 s_0.length) <|
    bnd (qdk (s_0.getD (Int.toNat v_8) Trans.z) f_1c0 f_1c1) fun r1 =>
    bif r1 then
      rt v_8
    else
      ckB (inR .i64 (v_8 + 1)) <|
      nx (v_8 + 1)
  else
    dn ()
def q5t (s_0:(List Trans)) (f_1c0:Bool) (f_1c1:(List Int)) (v_7:Int) (s0:Int):Option (Unit ⊕ Int) :=
  loopM (fun a=>q1l s_0 f_1c0 f_1c1 v_7 a (fun a'=>some (.next a')) (fun e=>some (.done e)) (fun r=>some (.ret r))) s0
def q5f:Shp:=⟨[(0,.d false (.slice Trans.ty)),(1,.fn 92 (.cons (.rp false .bool) (.cons (.rp false (.slice (.int .i64))) .nil))),(7,.d true (.int .i64)),(8,.d true (.int .i64))],[]⟩
def q5g:Shp:=⟨[],[]⟩
def q38 (s_0:(List Trans)) (f_1c0:Bool) (f_1c1:(List Int)):Option Int :=
  bnd (q5t s_0 f_1c0 f_1c1 (s_0.length:Int) 0) fun oe2 =>
  lk oe2 (fun e2 =>
    some (-1)) (fun r=>some r)
def q2l (s_0:(List Trans)) (f_1c0:Bool) (f_1c1:(List Int)):Option Bool :=
  bnd (q38 s_0 f_1c0 f_1c1) fun r1 =>
  some (decide ((0:Int) ≤ r1))
def qa1 (n_0:Net) (l_1:(List Int)) (trap_2:Bool):Option Bool :=
  bnd (q2l n_0.2.1 trap_2 l_1) fun r1 =>
  some (!r1)
def qny (n_00:Int) (n_01:(List Trans)) (n_02:Int) (n_03:Int) (l_1:(List Int)):Option (Bool × Int) :=
  bnd (qe1 (n_00,n_01,n_02,n_03,()) l_1) fun r1 =>
  bif (!decide (r1=0)) then
    some (false,r1)
  else
    bnd (qa1 (n_00,n_01,n_02,n_03,()) l_1 false) fun r2 =>
    some (r2,0)
def qhs (k_0:Int):Option Bool :=
  bif decide (k_0 < 0) then
    some true
  else
    some (decide ((100:Int) < k_0))
def q3j {R:Type} (s_0:(List Int)) (v_7:Int) (v_8:Int) (nx:Int → Option R) (dn:Unit → Option R) (rt:Int → Option R):Option R :=
  bif decide (v_8 < v_7) then
    ckB (ix v_8 s_0.length) <|
    ckB (ix v_8 s_0.length) <|
    bnd (qhs (s_0.getD (Int.toNat v_8) 0)) fun r1 =>
    bif r1 then
      rt v_8
    else
      ckB (inR .i64 (v_8 + 1)) <|
      nx (v_8 + 1)
  else
    dn ()
def qbe (s_0:(List Int)) (v_7:Int) (s0:Int):Option (Unit ⊕ Int) :=
  loopM (fun a=>q3j s_0 v_7 a (fun a'=>some (.next a')) (fun e=>some (.done e)) (fun r=>some (.ret r))) s0
def qat:Shp:=⟨[(0,.d false (.slice (.int .i64))),(1,.fn 93 .nil),(7,.d true (.int .i64)),(8,.d true (.int .i64))],[]⟩
def qai:Shp:=⟨[],[]⟩
def q7s (s_0:(List Int)):Option Int :=
  bnd (qbe s_0 (s_0.length:Int) 0) fun oe2 =>
  lk oe2 (fun e2 =>
    some (-1)) (fun r=>some r)
def q3m (s_0:(List Int)):Option Bool :=
  bnd (q7s s_0) fun r1 =>
  some (decide ((0:Int) ≤ r1))
def q9z (n_0:Net) (m_1:(List Int)):Option Bool :=
  bnd (qax n_0) fun r1 =>
  bif r1 then
    bif decide ((m_1.length:Int)=n_0.1) then
      bnd (q3m m_1) fun r2 =>
      some (!r2)
    else
      some false
  else
    some false
def qic (p_0:Int) (p_1:(List Int)):Option Bool :=
  ckB (ix 0 1) <|
  ckB (ix p_0 p_1.length) <|
  ckB (ix p_0 p_1.length) <|
  some (decide ((p_1.getD (Int.toNat p_0) 0)=0))
def q3n {R:Type} (s_0:(List Int)) (f_1c0:(List Int)) (v_7:Int) (v_8:Int) (nx:Int → Option R) (dn:Unit → Option R) (rt:Int → Option R):Option R :=
  bif decide (v_8 < v_7) then
    ckB (ix v_8 s_0.length) <|
    ckB (ix v_8 s_0.length) <|
    bnd (qic (s_0.getD (Int.toNat v_8) 0) f_1c0) fun r1 =>
    bif r1 then
      rt v_8
    else
      ckB (inR .i64 (v_8 + 1)) <|
      nx (v_8 + 1)
  else
    dn ()
def qb5 (s_0:(List Int)) (f_1c0:(List Int)) (v_7:Int) (s0:Int):Option (Unit ⊕ Int) :=
  loopM (fun a=>q3n s_0 f_1c0 v_7 a (fun a'=>some (.next a')) (fun e=>some (.done e)) (fun r=>some (.ret r))) s0
def qaw:Shp:=⟨[(0,.d false (.slice (.int .i64))),(1,.fn 95 (.cons (.rp false (.slice (.int .i64))) .nil)),(7,.d true (.int .i64)),(8,.d true (.int .i64))],[]⟩
def qag:Shp:=⟨[],[]⟩
def q82 (s_0:(List Int)) (f_1c0:(List Int)):Option Int :=
  bnd (qb5 s_0 f_1c0 (s_0.length:Int) 0) fun oe2 =>
  lk oe2 (fun e2 =>
    some (-1)) (fun r=>some r)
def q65 (s_0:(List Int)) (f_1c0:(List Int)):Option Bool :=
  bnd (q82 s_0 f_1c0) fun r1 =>
  some (decide ((0:Int) ≤ r1))
def qcy (t_0:Trans) (m_1:(List Int)):Option Bool :=
  bnd (q65 t_0.2.1 m_1) fun r1 =>
  some (!r1)
def q8x {R:Type} (m_1:(List Int)) (v_14:(List Trans)) (v_15:Int) (v_16:Int) (out_6:(List Int)) (nx:(Int × (List Int)) → Option R) (dn:(List Int) → Option R) (rt:(Int × (List Int)) → Option R):Option R :=
  bif decide (v_16 < v_15) then
    ckB (ix v_16 v_14.length) <|
    ckB (ix v_16 v_14.length) <|
    bnd (qcy (v_14.getD (Int.toNat v_16) Trans.z) m_1) fun r2 =>
    bif r2 then
      ckB (room (out_6.length + 1) 8) <|
      ckB (inR .i64 (v_16 + 1)) <|
      nx ((v_16 + 1),(out_6 ++ [v_16]))
    else
      ckB (inR .i64 (v_16 + 1)) <|
      nx ((v_16 + 1),out_6)
  else
    dn out_6
def qnp (m_1:(List Int)) (v_14:(List Trans)) (v_15:Int) (s0:(Int × (List Int))):Option ((List Int) ⊕ (Int × (List Int))) :=
  loopM (fun a=>q8x m_1 v_14 v_15 a.1 a.2 (fun a'=>some (.next a')) (fun e=>some (.done e)) (fun r=>some (.ret r))) s0
def qn4:Shp:=⟨[(1,.d false (.slice (.int .i64))),(6,.nl false (.own 0)),(14,.d false (.slice Trans.ty)),(15,.d true (.int .i64)),(16,.d true (.int .i64))],[.arr 3 (.fz true) [0] (.int .i64)]⟩
def qnd:Shp:=⟨[(6,.nl false (.own 0))],[.arr 3 (.fz true) [0] (.int .i64)]⟩
def qd0 (n_0:Net) (m_1:(List Int)):Option (Int × (List Int)) :=
  bnd (q9z n_0 m_1) fun r1 =>
  bif (!r1) then
    some (1,[])
  else
    bnd (qnp m_1 n_0.2.1 (n_0.2.1.length:Int) (0,[])) fun oe3 =>
    lk oe3 (fun e3 =>
      some (0,e3)) (fun r=>some r)
def qdt (n_0:Net) (m_1:(List Int)):Option Bool :=
  bnd (qd0 n_0 m_1) fun r1 =>
  some (decide (r1.1=0))
def qhw (p_0:Int) (p_1:(List Int)):Option Bool :=
  ckB (ix 0 1) <|
  ckB (ix p_0 p_1.length) <|
  ckB (ix p_0 p_1.length) <|
  some (decide ((0:Int) < (p_1.getD (Int.toNat p_0) 0)))
def q3f {R:Type} (s_0:(List Int)) (f_1c0:(List Int)) (v_7:Int) (v_8:Int) (nx:Int → Option R) (dn:Unit → Option R) (rt:Int → Option R):Option R :=
  bif decide (v_8 < v_7) then
    ckB (ix v_8 s_0.length) <|
    ckB (ix v_8 s_0.length) <|
    bnd (qhw (s_0.getD (Int.toNat v_8) 0) f_1c0) fun r1 =>
    bif r1 then
      rt v_8
    else
      ckB (inR .i64 (v_8 + 1)) <|
      nx (v_8 + 1)
  else
    dn ()
def qb7 (s_0:(List Int)) (f_1c0:(List Int)) (v_7:Int) (s0:Int):Option (Unit ⊕ Int) :=
  loopM (fun a=>q3f s_0 f_1c0 v_7 a (fun a'=>some (.next a')) (fun e=>some (.done e)) (fun r=>some (.ret r))) s0
def qad:Shp:=⟨[(0,.d false (.slice (.int .i64))),(1,.fn 86 (.cons (.rp false (.slice (.int .i64))) .nil)),(7,.d true (.int .i64)),(8,.d true (.int .i64))],[]⟩
def qac:Shp:=⟨[],[]⟩
def q7r (s_0:(List Int)) (f_1c0:(List Int)):Option Int :=
  bnd (qb7 s_0 f_1c0 (s_0.length:Int) 0) fun oe2 =>
  lk oe2 (fun e2 =>
    some (-1)) (fun r=>some r)
def q5y (s_0:(List Int)) (f_1c0:(List Int)):Option Bool :=
  bnd (q7r s_0 f_1c0) fun r1 =>
  some (decide ((0:Int) ≤ r1))
def qa3 (l_0:(List Int)) (m_1:(List Int)):Option Bool :=
  bnd (q5y l_0 m_1) fun r1 =>
  some r1
def qr5 {R:Type} (v_6:(List Int)) (v_7:Int) (v_8:Int) (b_3:(List Int)) (nx:(Int × (List Int)) → Option R) (dn:(List Int) → Option R) (rt:ByteArray → Option R):Option R :=
  bif decide (v_8 < v_7) then
    ckB (ix v_8 v_6.length) <|
    ckB (ix v_8 v_6.length) <|
    ckB (room (b_3.length + 1) 1) <|
    ckB (inR .i64 (v_8 + 1)) <|
    nx ((v_8 + 1),(b_3 ++ [(IntKind.wrap .u8 (v_6.getD (Int.toNat v_8) 0))]))
  else
    dn b_3
def qzt (v_6:(List Int)) (v_7:Int) (s0:(Int × (List Int))):Option ((List Int) ⊕ ByteArray) :=
  loopM (fun a=>qr5 v_6 v_7 a.1 a.2 (fun a'=>some (.next a')) (fun e=>some (.done e)) (fun r=>some (.ret r))) s0
def qqx:Shp:=⟨[(3,.nl false (.own 0)),(6,.d false (.slice (.int .i64))),(7,.d true (.int .i64)),(8,.d true (.int .i64))],[.arr 5 (.fz true) [0] (.int .u8)]⟩
def qr8:Shp:=⟨[(3,.nl false (.own 0))],[.arr 5 (.fz true) [0] (.int .u8)]⟩
def qm0 (m_0:(List Int)):Option ByteArray :=
  bnd (qzt m_0 (m_0.length:Int) (0,[])) fun oe1 =>
  lk oe1 (fun e1 =>
    some (strOfNums e1)) (fun r=>some r)
def qft (s_0:(List Int)):Option (List Int) :=
  bif decide ((s_0.length:Int)=0) then
    some []
  else
    ckB (room (0 + s_0.length) 8) <|
    some ([] ++ s_0)
def q4p (s_0:(List Int)):Option (List Int) :=
  ckB (room (0 + s_0.length) 8) <|
  some ([] ++ s_0)
def q1b (s_0:(List Int)):Option (List Int):=q4p s_0
def q85 {R:Type} (x_0:(List Int)) (m_3:Int) (i_4:Int) (nx:(Int × Int) → Option R) (dn:Int → Option R) (rt:Int → Option R):Option R :=
  bif decide (i_4 < (x_0.length:Int)) then
    ckB (ix i_4 x_0.length) <|
    ckB (ix i_4 x_0.length) <|
    ckB (inR .i64 (i_4 + 1)) <|
    nx ((max m_3 (x_0.getD (Int.toNat i_4) 0)),(i_4 + 1))
  else
    dn m_3
def qi2 (x_0:(List Int)) (s0:(Int × Int)):Option (Int ⊕ Int) :=
  loopM (fun a=>q85 x_0 a.1 a.2 (fun a'=>some (.next a')) (fun e=>some (.done e)) (fun r=>some (.ret r))) s0
def qh3:Shp:=⟨[(0,.d false (.slice (.int .i64))),(3,.d true (.int .i64)),(4,.d true (.int .i64))],[]⟩
def qh9:Shp:=⟨[(3,.d true (.int .i64))],[]⟩
def qak (x_0:(List Int)):Option Int :=
  bif decide ((x_0.length:Int) < 1) then
    none
  else
    ckB (ix 0 x_0.length) <|
    ckB (ix 0 x_0.length) <|
    bnd (qi2 x_0 ((x_0.getD 0 0),1)) fun oe1 =>
    lk oe1 (fun e1 =>
      some e1) (fun r=>some r)
def qfw {R:Type} (v_35:(List Int)) (v_36:Int) (x_80:ByteArray) (x_81:(List Int)) (x_82:(List Int)) (v_37:Int) (out_9:(List Int)) (nx:(Int × (List Int)) → Option R) (dn:(List Int) → Option R) (rt:(Int × (List Int)) → Option R):Option R :=
  bif decide (v_37 < v_36) then
    ckB (ix v_37 v_35.length) <|
    ckB (ix v_37 v_35.length) <|
    ckB (ix (v_35.getD (Int.toNat v_37) 0) out_9.length) <|
    ckB (ix (v_35.getD (Int.toNat v_37) 0) out_9.length) <|
    ckB (inR .i64 ((out_9.getD (Int.toNat (v_35.getD (Int.toNat v_37) 0)) 0) - 1)) <|
    ckB (ix (v_35.getD (Int.toNat v_37) 0) out_9.length) <|
    ckB (ix (v_35.getD (Int.toNat v_37) 0) out_9.length) <|
    ckB (inR .i64 (v_37 + 1)) <|
    nx ((v_37 + 1),(out_9.set (Int.toNat (v_35.getD (Int.toNat v_37) 0)) ((out_9.getD (Int.toNat (v_35.getD (Int.toNat v_37) 0)) 0) - 1)))
  else
    dn out_9
def qso (v_35:(List Int)) (v_36:Int) (x_80:ByteArray) (x_81:(List Int)) (x_82:(List Int)) (s0:(Int × (List Int))):Option ((List Int) ⊕ (Int × (List Int))) :=
  loopM (fun a=>qfw v_35 v_36 x_80 x_81 x_82 a.1 a.2 (fun a'=>some (.next a')) (fun e=>some (.done e)) (fun r=>some (.ret r))) s0
def qra:Shp:=⟨[(8,.ptr 0),(9,.own 1),(35,.d false (.slice (.int .i64))),(36,.d true (.int .i64)),(37,.d true (.int .i64))],[.cs 61 3 1 (.cons (.d true .str) (.cons (.d false (.slice (.int .i64))) (.cons (.d false (.slice (.int .i64))) .nil))),.arr 3 (.fz true) [0] (.int .i64)]⟩
def qrd:Shp:=⟨[(8,.ptr 0),(9,.own 1)],[.cs 61 3 1 (.cons (.d true .str) (.cons (.d false (.slice (.int .i64))) (.cons (.d false (.slice (.int .i64))) .nil))),.arr 3 (.fz true) [0] (.int .i64)]⟩
def qfx {R:Type} (v_49:(List Int)) (v_50:Int) (v_51:Int) (out_9:(List Int)) (nx:(Int × (List Int)) → Option R) (dn:(List Int) → Option R) (rt:(Int × (List Int)) → Option R):Option R :=
  bif decide (v_51 < v_50) then
    ckB (ix v_51 v_49.length) <|
    ckB (ix v_51 v_49.length) <|
    ckB (ix (v_49.getD (Int.toNat v_51) 0) out_9.length) <|
    ckB (ix (v_49.getD (Int.toNat v_51) 0) out_9.length) <|
    ckB (inR .i64 ((out_9.getD (Int.toNat (v_49.getD (Int.toNat v_51) 0)) 0) + 1)) <|
    ckB (ix (v_49.getD (Int.toNat v_51) 0) out_9.length) <|
    ckB (ix (v_49.getD (Int.toNat v_51) 0) out_9.length) <|
    ckB (inR .i64 (v_51 + 1)) <|
    nx ((v_51 + 1),(out_9.set (Int.toNat (v_49.getD (Int.toNat v_51) 0)) ((out_9.getD (Int.toNat (v_49.getD (Int.toNat v_51) 0)) 0) + 1)))
  else
    dn out_9
def qsr (v_49:(List Int)) (v_50:Int) (s0:(Int × (List Int))):Option ((List Int) ⊕ (Int × (List Int))) :=
  loopM (fun a=>qfx v_49 v_50 a.1 a.2 (fun a'=>some (.next a')) (fun e=>some (.done e)) (fun r=>some (.ret r))) s0
def qr9:Shp:=⟨[(9,.own 0),(49,.d false (.slice (.int .i64))),(50,.d true (.int .i64)),(51,.d true (.int .i64))],[.arr 3 (.fz true) [0] (.int .i64)]⟩
def qrl:Shp:=⟨[(9,.own 0)],[.arr 3 (.fz true) [0] (.int .i64)]⟩
def qim (n_0:Net) (m_1:(List Int)) (t_2:Int):Option (Int × (List Int)) :=
  bif decide (t_2 < 0) then
    some (2,[])
  else
    bif decide ((n_0.2.1.length:Int) ≤ t_2) then
      some (2,[])
    else
      ckB (ix t_2 n_0.2.1.length) <|
      ckB (ix t_2 n_0.2.1.length) <|
      bnd (qcy (n_0.2.1.getD (Int.toNat t_2) Trans.z) m_1) fun r1 =>
      bif (!r1) then
        some (12,[])
      else
        bnd (q1b m_1) fun r2 =>
        bnd (qso (n_0.2.1.getD (Int.toNat t_2) Trans.z).2.1 ((n_0.2.1.getD (Int.toNat t_2) Trans.z).2.1.length:Int) (n_0.2.1.getD (Int.toNat t_2) Trans.z).1 (n_0.2.1.getD (Int.toNat t_2) Trans.z).2.1 (n_0.2.1.getD (Int.toNat t_2) Trans.z).2.2.1 (0,r2)) fun oe3 =>
        lk oe3 (fun e3 =>
          bnd (qsr (n_0.2.1.getD (Int.toNat t_2) Trans.z).2.2.1 ((n_0.2.1.getD (Int.toNat t_2) Trans.z).2.2.1.length:Int) (0,e3)) fun oe4 =>
          lk oe4 (fun e4 =>
            bnd (qak e4) fun r5 =>
            bif decide ((100:Int) < r5) then
              some (5,[])
            else
              some (0,e4)) (fun r=>some r)) (fun r=>some r)
def qvm (n_0:Net) (m_1:(List Int)) (t_2:Int):Option (Int × (List Int)) :=
  bnd (q9z n_0 m_1) fun r1 =>
  bif (!r1) then
    some (1,[])
  else
    bnd (qim n_0 m_1 t_2) fun r2 =>
    some (r2.1,r2.2)
def qkv {R:Type} (l_2:(List Int)) (limit_3:Int) (i_12:Int) (v_52:Int) (n_40:Int) (n_41:(List Trans)) (n_42:Int) (n_43:Int) (v_53:Int) (seen_10:(List (ByteArray × Bool))) (queue_11:(List qz)) (nx:(Int × (List (ByteArray × Bool)) × (List qz)) → Option R) (dn:((List (ByteArray × Bool)) × (List qz)) → Option R) (rt:(Int × (List Int)) → Option R):Option R :=
  bif decide (v_53 < v_52) then
    ckB (ix i_12 queue_11.length) <|
    ckB (ix i_12 queue_11.length) <|
    bnd (qvm (n_40,n_41,n_42,n_43,()) (queue_11.getD (Int.toNat i_12) qz.z).1 v_53) fun r5 =>
    bif (!decide (r5.1=0)) then
      ckB (inR .i64 (v_53 + 1)) <|
      nx ((v_53 + 1),seen_10,queue_11)
    else
      bnd (qm0 r5.2) fun r6 =>
      bif ((mfind .str r6 seen_10).getD false) then
        ckB (inR .i64 (v_53 + 1)) <|
        nx ((v_53 + 1),seen_10,queue_11)
      else
        bif decide ((queue_11.length:Int)=limit_3) then
          rt (13,[])
        else
          bnd (qm0 r5.2) fun r7 =>
          ckB (ix i_12 queue_11.length) <|
          ckB (ix i_12 queue_11.length) <|
          bnd (q1b (queue_11.getD (Int.toNat i_12) qz.z).2.1) fun r8 =>
          ckB (room (r8.length + 1) 8) <|
          bnd (qa3 l_2 r5.2) fun r9 =>
          bif (!r9) then
            rt (0,(r8 ++ [v_53]))
          else
            ckB (room (queue_11.length + 1) 48) <|
            ckB (inR .i64 (v_53 + 1)) <|
            nx ((v_53 + 1),(mput .str r7 true seen_10),(queue_11 ++ [(r5.2,(r8 ++ [v_53]),())]))
  else
    dn (seen_10,queue_11)
def qu7 (l_2:(List Int)) (limit_3:Int) (i_12:Int) (v_52:Int) (n_40:Int) (n_41:(List Trans)) (n_42:Int) (n_43:Int) (s0:(Int × (List (ByteArray × Bool)) × (List qz))):Option (((List (ByteArray × Bool)) × (List qz)) ⊕ (Int × (List Int))) :=
  loopM (fun a=>qkv l_2 limit_3 i_12 v_52 n_40 n_41 n_42 n_43 a.1 a.2.1 a.2.2 (fun a'=>some (.next a')) (fun e=>some (.done e)) (fun r=>some (.ret r))) s0
def ql9:Shp:=⟨[(2,.d false (.slice (.int .i64))),(3,.d true (.int .i64)),(4,.ptr 0),(10,.mp 1),(11,.own 2),(12,.d true (.int .i64)),(52,.d true (.int .i64)),(53,.d true (.int .i64))],[.cs 24 4 1 (.cons (.d true (.int .i64)) (.cons (.d false (.slice Trans.ty)) (.cons (.d true (.int .i64)) (.cons (.d true (.int .i64)) .nil)))),.mp .str .bool,.arr 76 (.fz false) [3,3] qz.ty]⟩
def qkt:Shp:=⟨[(2,.d false (.slice (.int .i64))),(3,.d true (.int .i64)),(4,.ptr 0),(10,.mp 1),(11,.own 2),(12,.d true (.int .i64))],[.cs 24 4 1 (.cons (.d true (.int .i64)) (.cons (.d false (.slice Trans.ty)) (.cons (.d true (.int .i64)) (.cons (.d true (.int .i64)) .nil)))),.mp .str .bool,.arr 76 (.fz false) [3,3] qz.ty]⟩
def ql7 {R:Type} (l_2:(List Int)) (limit_3:Int) (n_40:Int) (n_41:(List Trans)) (n_42:Int) (n_43:Int) (i_12:Int) (seen_10:(List (ByteArray × Bool))) (queue_11:(List qz)) (nx:(Int × (List (ByteArray × Bool)) × (List qz)) → Option R) (dn:Unit → Option R) (rt:(Int × (List Int)) → Option R):Option R :=
  bif decide (i_12 < (queue_11.length:Int)) then
    bnd (qu7 l_2 limit_3 i_12 (n_41.length:Int) n_40 n_41 n_42 n_43 (0,seen_10,queue_11)) fun oe10 =>
    lk oe10 (fun e10 =>
      ckB (inR .i64 (i_12 + 1)) <|
      nx ((i_12 + 1),e10.1,e10.2)) (fun r=>rt r)
  else
    dn ()
def qus (l_2:(List Int)) (limit_3:Int) (n_40:Int) (n_41:(List Trans)) (n_42:Int) (n_43:Int) (s0:(Int × (List (ByteArray × Bool)) × (List qz))):Option (Unit ⊕ (Int × (List Int))) :=
  loopM (fun a=>ql7 l_2 limit_3 n_40 n_41 n_42 n_43 a.1 a.2.1 a.2.2 (fun a'=>some (.next a')) (fun e=>some (.done e)) (fun r=>some (.ret r))) s0
def qlj:Shp:=⟨[(2,.d false (.slice (.int .i64))),(3,.d true (.int .i64)),(4,.ptr 0),(10,.mp 1),(11,.own 2),(12,.d true (.int .i64))],[.cs 24 4 1 (.cons (.d true (.int .i64)) (.cons (.d false (.slice Trans.ty)) (.cons (.d true (.int .i64)) (.cons (.d true (.int .i64)) .nil)))),.mp .str .bool,.arr 76 (.fz false) [3,3] qz.ty]⟩
def qlk:Shp:=⟨[],[]⟩
def qpe (n_00:Int) (n_01:(List Trans)) (n_02:Int) (n_03:Int) (m_1:(List Int)) (l_2:(List Int)) (limit_3:Int):Option (Int × (List Int)) :=
  bnd (qdt (n_00,n_01,n_02,n_03,()) m_1) fun r1 =>
  bif (!r1) then
    some (1,[])
  else
    bnd (qio (n_00,n_01,n_02,n_03,()) l_2) fun r2 =>
    bif (!r2) then
      some (2,[])
    else
      bif decide (limit_3 < 1) then
        some (2,[])
      else
        bif decide ((2000:Int) < limit_3) then
          some (2,[])
        else
          bnd (qa3 l_2 m_1) fun r3 =>
          bif (!r3) then
            some (0,[])
          else
            bnd (qm0 m_1) fun r4 =>
            bnd (qus l_2 limit_3 n_00 n_01 n_02 n_03 (0,(mput .str r4 true ([]:(List (ByteArray × Bool)))),[(m_1,[],())])) fun oe11 =>
            lk oe11 (fun e11 =>
              some (10,[])) (fun r=>some r)
def qmo {R:Type} (a_0:(List Int)) (b_1:(List Int)) (i_5:Int) (nx:Int → Option R) (dn:Unit → Option R) (rt:Bool → Option R):Option R :=
  bif decide (i_5 < (a_0.length:Int)) then
    ckB (ix i_5 a_0.length) <|
    ckB (ix i_5 a_0.length) <|
    ckB (ix i_5 b_1.length) <|
    ckB (ix i_5 b_1.length) <|
    bif (!decide ((a_0.getD (Int.toNat i_5) 0)=(b_1.getD (Int.toNat i_5) 0))) then
      rt false
    else
      ckB (inR .i64 (i_5 + 1)) <|
      nx (i_5 + 1)
  else
    dn ()
def qvj (a_0:(List Int)) (b_1:(List Int)) (s0:Int):Option (Unit ⊕ Bool) :=
  loopM (fun a=>qmo a_0 b_1 a (fun a'=>some (.next a')) (fun e=>some (.done e)) (fun r=>some (.ret r))) s0
def qm5:Shp:=⟨[(0,.d false (.slice (.int .i64))),(1,.d false (.slice (.int .i64))),(5,.d true (.int .i64))],[]⟩
def qmk:Shp:=⟨[],[]⟩
def qr7 (a_0:(List Int)) (b_1:(List Int)):Option Bool :=
  bif (!decide ((a_0.length:Int)=(b_1.length:Int))) then
    some false
  else
    bnd (qvj a_0 b_1 0) fun oe1 =>
    lk oe1 (fun e1 =>
      some true) (fun r=>some r)
def qrb {R:Type} (a_0:(List (List Int))) (b_1:(List (List Int))) (i_5:Int) (nx:Int → Option R) (dn:Unit → Option R) (rt:Bool → Option R):Option R :=
  bif decide (i_5 < (a_0.length:Int)) then
    ckB (ix i_5 a_0.length) <|
    ckB (ix i_5 a_0.length) <|
    ckB (ix i_5 b_1.length) <|
    ckB (ix i_5 b_1.length) <|
    bnd (qr7 (a_0.getD (Int.toNat i_5) []) (b_1.getD (Int.toNat i_5) [])) fun r1 =>
    bif (!r1) then
      rt false
    else
      ckB (inR .i64 (i_5 + 1)) <|
      nx (i_5 + 1)
  else
    dn ()
def qza (a_0:(List (List Int))) (b_1:(List (List Int))) (s0:Int):Option (Unit ⊕ Bool) :=
  loopM (fun a=>qrb a_0 b_1 a (fun a'=>some (.next a')) (fun e=>some (.done e)) (fun r=>some (.ret r))) s0
def qr1:Shp:=⟨[(0,.d false (.slice (.slice (.int .i64)))),(1,.d false (.slice (.slice (.int .i64)))),(5,.d true (.int .i64))],[]⟩
def qqw:Shp:=⟨[],[]⟩
def qvo (a_0:(List (List Int))) (b_1:(List (List Int))):Option Bool :=
  bif (!decide ((a_0.length:Int)=(b_1.length:Int))) then
    some false
  else
    bnd (qza a_0 b_1 0) fun oe2 =>
    lk oe2 (fun e2 =>
      some true) (fun r=>some r)
def qf1 {R:Type} (s1_0:(List Int)) (s2_1:(List Int)) (v_12:Int) (v_13:Int) (nx:Int → Option R) (dn:Unit → Option R) (rt:Bool → Option R):Option R :=
  bif decide (v_13 < v_12) then
    ckB (ix v_13 s1_0.length) <|
    ckB (ix v_13 s1_0.length) <|
    ckB (ix v_13 s2_1.length) <|
    ckB (ix v_13 s2_1.length) <|
    bif (!decide ((s1_0.getD (Int.toNat v_13) 0)=(s2_1.getD (Int.toNat v_13) 0))) then
      rt false
    else
      ckB (inR .i64 (v_13 + 1)) <|
      nx (v_13 + 1)
  else
    dn ()
def qof (s1_0:(List Int)) (s2_1:(List Int)) (v_12:Int) (s0:Int):Option (Unit ⊕ Bool) :=
  loopM (fun a=>qf1 s1_0 s2_1 v_12 a (fun a'=>some (.next a')) (fun e=>some (.done e)) (fun r=>some (.ret r))) s0
def qew:Shp:=⟨[(0,.d false (.slice (.int .i64))),(1,.d false (.slice (.int .i64))),(12,.d true (.int .i64)),(13,.d true (.int .i64))],[]⟩
def qf0:Shp:=⟨[],[]⟩
def qho (s1_0:(List Int)) (s2_1:(List Int)):Option Bool :=
  bif (!decide ((s1_0.length:Int)=(s2_1.length:Int))) then
    some false
  else
    bnd (qof s1_0 s2_1 (s1_0.length:Int) 0) fun oe1 =>
    lk oe1 (fun e1 =>
      some true) (fun r=>some r)
def qox  : Option Bool :=
  bnd (qpa 2 [(⟨#[97]⟩,[0],[1],()),(⟨#[98]⟩,[1],[0],())] 0 1) fun r1 =>
  ckB (ix 1 2) <|
  bnd (qny 2 [(⟨#[97]⟩,[0],[1],()),(⟨#[98]⟩,[1],[],())] 0 1 [0]) fun r2 =>
  bnd (qpe 2 [(⟨#[97]⟩,[0],[1],()),(⟨#[98]⟩,[1],[],())] 0 1 [1,0] [0] 10) fun r3 =>
  bif decide (r1.1=0) then
    bnd (qvo r1.2 [[0,1]]) fun r4 =>
    bif r4 then
      bif decide (r2.2=0) then
        bif r2.1 then
          bif decide (r3.1=0) then
            bnd (qho r3.2 [0]) fun r5 =>
            some r5
          else
            some false
        else
          some false
      else
        some false
    else
      some false
  else
    some false
def qfu (t_0:Trans):Option Bool :=
  bif decide ((50:Int) < (t_0.2.1.length:Int)) then
    some true
  else
    bif decide ((50:Int) < (t_0.2.2.1.length:Int)) then
      some true
    else
      some (decide ((200:Int) < (ByteArray.size t_0.1:Int)))
def q1i {R:Type} (s_0:(List Trans)) (v_7:Int) (v_8:Int) (nx:Int → Option R) (dn:Unit → Option R) (rt:Int → Option R):Option R :=
  bif decide (v_8 < v_7) then
    ckB (ix v_8 s_0.length) <|
    ckB (ix v_8 s_0.length) <|
    bnd (qfu (s_0.getD (Int.toNat v_8) Trans.z)) fun r1 =>
    bif r1 then
      rt v_8
    else
      ckB (inR .i64 (v_8 + 1)) <|
      nx (v_8 + 1)
  else
    dn ()
def q5u (s_0:(List Trans)) (v_7:Int) (s0:Int):Option (Unit ⊕ Int) :=
  loopM (fun a=>q1i s_0 v_7 a (fun a'=>some (.next a')) (fun e=>some (.done e)) (fun r=>some (.ret r))) s0
def q5c:Shp:=⟨[(0,.d false (.slice Trans.ty)),(1,.fn 45 .nil),(7,.d true (.int .i64)),(8,.d true (.int .i64))],[]⟩
def q5a:Shp:=⟨[],[]⟩
def q36 (s_0:(List Trans)):Option Int :=
  bnd (q5u s_0 (s_0.length:Int) 0) fun oe2 =>
  lk oe2 (fun e2 =>
    some (-1)) (fun r=>some r)
def qp (s_0:(List Trans)):Option Bool :=
  bnd (q36 s_0) fun r1 =>
  some (decide ((0:Int) ≤ r1))
def qjp (n_0:Net):Option Bool :=
  bif decide ((12:Int) < (n_0.2.1.length:Int)) then
    bif decide ((n_0.2.1.length:Int) ≤ 60) then
      some true
    else
      bif decide ((100:Int) < (n_0.2.1.length:Int)) then
        some true
      else
        bif decide ((10:Int) < n_0.1) then
          bif decide (n_0.1 ≤ 16) then
            some true
          else
            bnd (qp n_0.2.1) fun r1 =>
            some r1
        else
          bnd (qp n_0.2.1) fun r2 =>
          some r2
  else
    bif decide ((100:Int) < (n_0.2.1.length:Int)) then
      some true
    else
      bif decide ((10:Int) < n_0.1) then
        bif decide (n_0.1 ≤ 16) then
          some true
        else
          bnd (qp n_0.2.1) fun r3 =>
          some r3
      else
        bnd (qp n_0.2.1) fun r4 =>
        some r4
def q81 {R:Type} (s_6:Int) (v_18:(List Int)) (v_19:Int) (v_20:Int) (v_25:Int) (n_10:Int) (n_11:(List Trans)) (n_12:Int) (n_13:Int) (out_4:(List (List Int))) (v_26:Int) (l_7:(List Int)) (nx:(Int × (List Int)) → Option R) (dn:(List Int) → Option R) (rt:(Int × (List (List Int))) → Option R):Option R :=
  bif decide (v_26 < v_25) then
    ckB (decide (0 ≤ v_26)) <|
    bif decide ((bitI .and .u32 (shrI .u32 s_6 v_26) 1)=1) then
      ckB (room (l_7.length + 1) 8) <|
      ckB (inR .i64 (v_26 + 1)) <|
      nx ((v_26 + 1),(l_7 ++ [v_26]))
    else
      ckB (inR .i64 (v_26 + 1)) <|
      nx ((v_26 + 1),l_7)
  else
    dn l_7
def qlg (s_6:Int) (v_18:(List Int)) (v_19:Int) (v_20:Int) (v_25:Int) (n_10:Int) (n_11:(List Trans)) (n_12:Int) (n_13:Int) (out_4:(List (List Int))) (s0:(Int × (List Int))):Option ((List Int) ⊕ (Int × (List (List Int)))) :=
  loopM (fun a=>q81 s_6 v_18 v_19 v_20 v_25 n_10 n_11 n_12 n_13 out_4 a.1 a.2 (fun a'=>some (.next a')) (fun e=>some (.done e)) (fun r=>some (.ret r))) s0
def qk8:Shp:=⟨[(1,.ptr 0),(4,.nl false (.own 1)),(6,.d true (.int .u32)),(7,.nl false (.own 2)),(18,.nl false (.d true (.slice (.int .u32)))),(19,.d true (.int .i64)),(20,.d true (.int .i64)),(25,.d true (.int .i64)),(26,.d true (.int .i64))],[.cs 24 4 1 (.cons (.d true (.int .i64)) (.cons (.d false (.slice Trans.ty)) (.cons (.d true (.int .i64)) (.cons (.d true (.int .i64)) .nil)))),.arr 34 (.fz true) [3] (.slice (.int .i64)),.arr 3 (.fz true) [0] (.int .i64)]⟩
def qk3:Shp:=⟨[(1,.ptr 0),(4,.nl false (.own 1)),(7,.nl false (.own 2)),(18,.nl false (.d true (.slice (.int .u32)))),(19,.d true (.int .i64)),(20,.d true (.int .i64))],[.cs 24 4 1 (.cons (.d true (.int .i64)) (.cons (.d false (.slice Trans.ty)) (.cons (.d true (.int .i64)) (.cons (.d true (.int .i64)) .nil)))),.arr 34 (.fz true) [3] (.slice (.int .i64)),.arr 3 (.fz true) [0] (.int .i64)]⟩
def qa4 {R:Type} (v_18:(List Int)) (v_19:Int) (n_10:Int) (n_11:(List Trans)) (n_12:Int) (n_13:Int) (v_20:Int) (out_4:(List (List Int))) (nx:(Int × (List (List Int))) → Option R) (dn:(List (List Int)) → Option R) (rt:(Int × (List (List Int))) → Option R):Option R :=
  bif decide (v_20 < v_19) then
    ckB (ix v_20 v_18.length) <|
    ckB (ix v_20 v_18.length) <|
    bnd (qlg (v_18.getD (Int.toNat v_20) 0) v_18 v_19 v_20 n_10 n_10 n_11 n_12 n_13 out_4 (0,[])) fun oe3 =>
    lk oe3 (fun e3 =>
      ckB (room (out_4.length + 1) 24) <|
      ckB (inR .i64 (v_20 + 1)) <|
      nx ((v_20 + 1),(out_4 ++ [e3]))) (fun r=>rt r)
  else
    dn out_4
def ql2 (v_18:(List Int)) (v_19:Int) (n_10:Int) (n_11:(List Trans)) (n_12:Int) (n_13:Int) (s0:(Int × (List (List Int)))):Option ((List (List Int)) ⊕ (Int × (List (List Int)))) :=
  loopM (fun a=>qa4 v_18 v_19 n_10 n_11 n_12 n_13 a.1 a.2 (fun a'=>some (.next a')) (fun e=>some (.done e)) (fun r=>some (.ret r))) s0
def qjw:Shp:=⟨[(1,.ptr 0),(4,.nl false (.own 1)),(18,.nl false (.d true (.slice (.int .u32)))),(19,.d true (.int .i64)),(20,.d true (.int .i64))],[.cs 24 4 1 (.cons (.d true (.int .i64)) (.cons (.d false (.slice Trans.ty)) (.cons (.d true (.int .i64)) (.cons (.d true (.int .i64)) .nil)))),.arr 34 (.fz true) [3] (.slice (.int .i64))]⟩
def qk2:Shp:=⟨[(4,.nl false (.own 0))],[.arr 34 (.fz true) [3] (.slice (.int .i64))]⟩
def qa6 (n_0:Net):Option (Int × (List (List Int))) :=
  bnd (qax n_0) fun r1 =>
  bif (!r1) then
    some (1,[])
  else
    bif decide ((16:Int) < n_0.1) then
      some (13,[])
    else
      bnd (qcd n_0) fun r2 =>
      bnd (ql2 r2 (r2.length:Int) n_0.1 n_0.2.1 n_0.2.2.1 n_0.2.2.2.1 (0,[])) fun oe4 =>
      lk oe4 (fun e4 =>
        bnd (q37 e4) fun r5 =>
        ckB (decide (r5.length=e4.length)) <|
        some (0,r5)) (fun r=>some r)
def qe8 (c_0:Int):Option Bool :=
  bif decide ((97:Int) ≤ c_0) then
    bif decide (c_0 ≤ 122) then
      some true
    else
      bif decide ((65:Int) ≤ c_0) then
        some (decide (c_0 ≤ 90))
      else
        some false
  else
    bif decide ((65:Int) ≤ c_0) then
      some (decide (c_0 ≤ 90))
    else
      some false
def qaf {R:Type} (s_0:ByteArray) (i_3:Int) (nx:Int → Option R) (dn:Unit → Option R) (rt:Bool → Option R):Option R :=
  bif decide (i_3 < (ByteArray.size s_0:Int)) then
    ckB (ix i_3 (ByteArray.size s_0)) <|
    bnd (qe8 (((ByteArray.data s_0).getD (Int.toNat i_3) 0).toNat:Int)) fun r2 =>
    bif (!r2) then
      bif decide ((48:Int) ≤ (((ByteArray.data s_0).getD (Int.toNat i_3) 0).toNat:Int)) then
        bif (!(decide ((((ByteArray.data s_0).getD (Int.toNat i_3) 0).toNat:Int) ≤ 57))) then
          bif (!decide ((((ByteArray.data s_0).getD (Int.toNat i_3) 0).toNat:Int)=95)) then
            bif (!decide ((((ByteArray.data s_0).getD (Int.toNat i_3) 0).toNat:Int)=45)) then
              bif (!decide ((((ByteArray.data s_0).getD (Int.toNat i_3) 0).toNat:Int)=46)) then
                rt false
              else
                ckB (inR .i64 (i_3 + 1)) <|
                nx (i_3 + 1)
            else
              ckB (inR .i64 (i_3 + 1)) <|
              nx (i_3 + 1)
          else
            ckB (inR .i64 (i_3 + 1)) <|
            nx (i_3 + 1)
        else
          ckB (inR .i64 (i_3 + 1)) <|
          nx (i_3 + 1)
      else
        bif (!decide ((((ByteArray.data s_0).getD (Int.toNat i_3) 0).toNat:Int)=95)) then
          bif (!decide ((((ByteArray.data s_0).getD (Int.toNat i_3) 0).toNat:Int)=45)) then
            bif (!decide ((((ByteArray.data s_0).getD (Int.toNat i_3) 0).toNat:Int)=46)) then
              rt false
            else
              ckB (inR .i64 (i_3 + 1)) <|
              nx (i_3 + 1)
          else
            ckB (inR .i64 (i_3 + 1)) <|
            nx (i_3 + 1)
        else
          ckB (inR .i64 (i_3 + 1)) <|
          nx (i_3 + 1)
    else
      ckB (inR .i64 (i_3 + 1)) <|
      nx (i_3 + 1)
  else
    dn ()
def qpv (s_0:ByteArray) (s0:Int):Option (Unit ⊕ Bool) :=
  loopM (fun a=>qaf s_0 a (fun a'=>some (.next a')) (fun e=>some (.done e)) (fun r=>some (.ret r))) s0
def qnz:Shp:=⟨[(0,.d true .str),(3,.d true (.int .i64))],[]⟩
def qo6:Shp:=⟨[],[]⟩
def qie (s_0:ByteArray):Option Bool :=
  bif decide ((ByteArray.size s_0:Int) < 1) then
    some false
  else
    bif decide ((40:Int) < (ByteArray.size s_0:Int)) then
      some false
    else
      ckB (ix 0 (ByteArray.size s_0)) <|
      bnd (qe8 (((ByteArray.data s_0).getD 0 0).toNat:Int)) fun r1 =>
      bif (!r1) then
        some false
      else
        bnd (qpv s_0 1) fun oe3 =>
        lk oe3 (fun e3 =>
          some true) (fun r=>some r)
def q8b {R:Type} (n_0:Int) (l_1:(List Int)) (i_5:Int) (nx:Int → Option R) (dn:Unit → Option R) (rt:Bool → Option R):Option R :=
  bif decide (i_5 < (l_1.length:Int)) then
    ckB (ix i_5 l_1.length) <|
    ckB (ix i_5 l_1.length) <|
    bif decide ((l_1.getD (Int.toNat i_5) 0) < 0) then
      rt false
    else
      ckB (ix i_5 l_1.length) <|
      ckB (ix i_5 l_1.length) <|
      bif decide (n_0 ≤ (l_1.getD (Int.toNat i_5) 0)) then
        rt false
      else
        bif decide ((0:Int) < i_5) then
          ckB (inR .i64 (i_5 - 1)) <|
          ckB (ix (i_5 - 1) l_1.length) <|
          ckB (ix (i_5 - 1) l_1.length) <|
          ckB (ix i_5 l_1.length) <|
          ckB (ix i_5 l_1.length) <|
          bif decide ((l_1.getD (Int.toNat i_5) 0) ≤ (l_1.getD (Int.toNat (i_5 - 1)) 0)) then
            rt false
          else
            ckB (inR .i64 (i_5 + 1)) <|
            nx (i_5 + 1)
        else
          ckB (inR .i64 (i_5 + 1)) <|
          nx (i_5 + 1)
  else
    dn ()
def qpb (n_0:Int) (l_1:(List Int)) (s0:Int):Option (Unit ⊕ Bool) :=
  loopM (fun a=>q8b n_0 l_1 a (fun a'=>some (.next a')) (fun e=>some (.done e)) (fun r=>some (.ret r))) s0
def qnx:Shp:=⟨[(0,.d true (.int .i64)),(1,.d false (.slice (.int .i64))),(5,.d true (.int .i64))],[]⟩
def qnw:Shp:=⟨[],[]⟩
def q90 (n_0:Int) (l_1:(List Int)):Option Bool :=
  bnd (qpb n_0 l_1 0) fun oe1 =>
  lk oe1 (fun e1 =>
    some true) (fun r=>some r)
def qep {R:Type} (n_10:Int) (n_11:(List Trans)) (n_12:Int) (n_13:Int) (i_3:Int) (nx:Int → Option R) (dn:Unit → Option R) (rt:Bool → Option R):Option R :=
  bif decide (i_3 < (n_11.length:Int)) then
    ckB (ix i_3 n_11.length) <|
    ckB (ix i_3 n_11.length) <|
    bif (!(ByteArray.toList (n_11.getD (Int.toNat i_3) Trans.z).1 == ByteArray.toList ⟨#[]⟩)) then
      bnd (qie (n_11.getD (Int.toNat i_3) Trans.z).1) fun r1 =>
      bif (!r1) then
        rt false
      else
        bnd (q90 n_10 (n_11.getD (Int.toNat i_3) Trans.z).2.1) fun r2 =>
        bif (!r2) then
          rt false
        else
          bnd (q90 n_10 (n_11.getD (Int.toNat i_3) Trans.z).2.2.1) fun r3 =>
          bif (!r3) then
            rt false
          else
            ckB (inR .i64 (i_3 + 1)) <|
            nx (i_3 + 1)
    else
      bnd (q90 n_10 (n_11.getD (Int.toNat i_3) Trans.z).2.1) fun r4 =>
      bif (!r4) then
        rt false
      else
        bnd (q90 n_10 (n_11.getD (Int.toNat i_3) Trans.z).2.2.1) fun r5 =>
        bif (!r5) then
          rt false
        else
          ckB (inR .i64 (i_3 + 1)) <|
          nx (i_3 + 1)
  else
    dn ()
def qqv (n_10:Int) (n_11:(List Trans)) (n_12:Int) (n_13:Int) (s0:Int):Option (Unit ⊕ Bool) :=
  loopM (fun a=>qep n_10 n_11 n_12 n_13 a (fun a'=>some (.next a')) (fun e=>some (.done e)) (fun r=>some (.ret r))) s0
def qp7:Shp:=⟨[(1,.ptr 0),(3,.d true (.int .i64))],[.cs 24 4 1 (.cons (.d true (.int .i64)) (.cons (.d false (.slice Trans.ty)) (.cons (.d true (.int .i64)) (.cons (.d true (.int .i64)) .nil))))]⟩
def qp9:Shp:=⟨[],[]⟩
def qjn (n_0:Net):Option Bool :=
  bif decide (n_0.1 < 1) then
    some false
  else
    bif decide ((40:Int) < n_0.1) then
      some false
    else
      bif decide ((60:Int) < (n_0.2.1.length:Int)) then
        some false
      else
        bif decide (n_0.2.2.1 < 0) then
          some false
        else
          bif decide (n_0.1 ≤ n_0.2.2.1) then
            some false
          else
            bif decide (n_0.2.2.2.1 < 0) then
              some false
            else
              bif decide (n_0.1 ≤ n_0.2.2.2.1) then
                some false
              else
                bnd (qqv n_0.1 n_0.2.1 n_0.2.2.1 n_0.2.2.2.1 0) fun oe6 =>
                lk oe6 (fun e6 =>
                  some true) (fun r=>some r)
def q8j (p_0:Int) (p_1:(List Int)):Option Bool :=
  ckB (ix 0 1) <|
  bnd (q2y p_1 p_0) fun r1 =>
  some r1
def q3i {R:Type} (s_0:(List Int)) (f_1c0:(List Int)) (v_7:Int) (v_8:Int) (nx:Int → Option R) (dn:Unit → Option R) (rt:Int → Option R):Option R :=
  bif decide (v_8 < v_7) then
    ckB (ix v_8 s_0.length) <|
    ckB (ix v_8 s_0.length) <|
    bnd (q8j (s_0.getD (Int.toNat v_8) 0) f_1c0) fun r1 =>
    bif r1 then
      rt v_8
    else
      ckB (inR .i64 (v_8 + 1)) <|
      nx (v_8 + 1)
  else
    dn ()
def qb9 (s_0:(List Int)) (f_1c0:(List Int)) (v_7:Int) (s0:Int):Option (Unit ⊕ Int) :=
  loopM (fun a=>q3i s_0 f_1c0 v_7 a (fun a'=>some (.next a')) (fun e=>some (.done e)) (fun r=>some (.ret r))) s0
def qaj:Shp:=⟨[(0,.d false (.slice (.int .i64))),(1,.fn 91 (.cons (.rp false (.slice (.int .i64))) .nil)),(7,.d true (.int .i64)),(8,.d true (.int .i64))],[]⟩
def qam:Shp:=⟨[],[]⟩
def q4h (s_0:(List Int)) (f_1c0:(List Int)):Option Int :=
  bnd (qb9 s_0 f_1c0 (s_0.length:Int) 0) fun oe2 =>
  lk oe2 (fun e2 =>
    some (-1)) (fun r=>some r)
def q1y {R:Type} (del_1c0:(List Int)) (i_5:Int) (j_6:Int) (s_0:(List Int)) (nx:(Int × Int × (List Int)) → Option R) (dn:(Int × (List Int)) → Option R) (rt:(List Int) → Option R):Option R :=
  bif decide (j_6 < (s_0.length:Int)) then
    ckB (ix j_6 s_0.length) <|
    ckB (ix j_6 s_0.length) <|
    bnd (q8j (s_0.getD (Int.toNat j_6) 0) del_1c0) fun r2 =>
    bif (!r2) then
      ckB (ix i_5 s_0.length) <|
      ckB (ix i_5 s_0.length) <|
      ckB (inR .i64 (i_5 + 1)) <|
      ckB (inR .i64 (j_6 + 1)) <|
      nx ((i_5 + 1),(j_6 + 1),(s_0.set (Int.toNat i_5) (s_0.getD (Int.toNat j_6) 0)))
    else
      ckB (inR .i64 (j_6 + 1)) <|
      nx (i_5,(j_6 + 1),s_0)
  else
    dn (i_5,s_0)
def qao (del_1c0:(List Int)) (s0:(Int × Int × (List Int))):Option ((Int × (List Int)) ⊕ (List Int)) :=
  loopM (fun a=>q1y del_1c0 a.1 a.2.1 a.2.2 (fun a'=>some (.next a')) (fun e=>some (.done e)) (fun r=>some (.ret r))) s0
def q9k:Shp:=⟨[(0,.own 0),(1,.fn 91 (.cons (.rp false (.slice (.int .i64))) .nil)),(5,.d true (.int .i64)),(6,.d true (.int .i64))],[.arr 3 (.fz true) [0] (.int .i64)]⟩
def q9v:Shp:=⟨[(0,.own 0),(5,.d true (.int .i64))],[.arr 3 (.fz true) [0] (.int .i64)]⟩
def q4a (del_1c0:(List Int)) (s_0:(List Int)):Option (List Int) :=
  bnd (q4h s_0 del_1c0) fun r1 =>
  bif decide (r1=(-1)) then
    some s_0
  else
    ckB (inR .i64 (r1 + 1)) <|
    bnd (qao del_1c0 (r1,(r1 + 1),s_0)) fun oe3 =>
    lk oe3 (fun e3 =>
      ckB (cut e3.1 (e3.2.length:Int) e3.2.length) <|
      ckB (cut 0 e3.1 (copyL e3.2 (Int.toNat e3.1) ((Int.toNat (e3.2.length:Int)) - (Int.toNat e3.1)) (List.replicate ((Int.toNat (e3.2.length:Int)) - (Int.toNat e3.1)) (0:Int))).length) <|
      some (((copyL e3.2 (Int.toNat e3.1) ((Int.toNat (e3.2.length:Int)) - (Int.toNat e3.1)) (List.replicate ((Int.toNat (e3.2.length:Int)) - (Int.toNat e3.1)) (0:Int))).drop 0).take ((Int.toNat e3.1) - 0))) (fun r=>some r)
def qau {R:Type} (trap_2:Bool) (v_20:(List Trans)) (v_21:Int) (n_30:Int) (n_31:(List Trans)) (n_32:Int) (n_33:Int) (v_22:Int) (out_7:(List Int)) (nx:(Int × (List Int)) → Option R) (dn:(List Int) → Option R) (rt:(List Int) → Option R):Option R :=
  bif decide (v_22 < v_21) then
    ckB (ix v_22 v_20.length) <|
    ckB (ix v_22 v_20.length) <|
    bnd (qfm (v_20.getD (Int.toNat v_22) Trans.z) trap_2) fun r3 =>
    bnd (qbz r3.2 out_7) fun r4 =>
    bif (!r4) then
      bnd (q4a r3.1 out_7) fun r5 =>
      ckB (inR .i64 (v_22 + 1)) <|
      nx ((v_22 + 1),r5)
    else
      ckB (inR .i64 (v_22 + 1)) <|
      nx ((v_22 + 1),out_7)
  else
    dn out_7
def ql5 (trap_2:Bool) (v_20:(List Trans)) (v_21:Int) (n_30:Int) (n_31:(List Trans)) (n_32:Int) (n_33:Int) (s0:(Int × (List Int))):Option ((List Int) ⊕ (List Int)) :=
  loopM (fun a=>qau trap_2 v_20 v_21 n_30 n_31 n_32 n_33 a.1 a.2 (fun a'=>some (.next a')) (fun e=>some (.done e)) (fun r=>some (.ret r))) s0
def qk0:Shp:=⟨[(2,.d true .bool),(3,.ptr 0),(7,.own 1),(20,.d false (.slice Trans.ty)),(21,.d true (.int .i64)),(22,.d true (.int .i64))],[.cs 24 4 1 (.cons (.d true (.int .i64)) (.cons (.d false (.slice Trans.ty)) (.cons (.d true (.int .i64)) (.cons (.d true (.int .i64)) .nil)))),.arr 3 (.fz true) [0] (.int .i64)]⟩
def qk7:Shp:=⟨[(2,.d true .bool),(3,.ptr 0),(7,.own 1)],[.cs 24 4 1 (.cons (.d true (.int .i64)) (.cons (.d false (.slice Trans.ty)) (.cons (.d true (.int .i64)) (.cons (.d true (.int .i64)) .nil)))),.arr 3 (.fz true) [0] (.int .i64)]⟩
def qah {R:Type} (trap_2:Bool) (n_30:Int) (n_31:(List Trans)) (n_32:Int) (n_33:Int) (out_7:(List Int)) (nx:(List Int) → Option R) (dn:(List Int) → Option R) (rt:(List Int) → Option R):Option R :=
  bnd (qa1 (n_30,n_31,n_32,n_33,()) out_7 trap_2) fun r2 =>
  bif (!r2) then
    bnd (ql5 trap_2 n_31 (n_31.length:Int) n_30 n_31 n_32 n_33 (0,out_7)) fun oe6 =>
    lk oe6 (fun e6 =>
      nx e6) (fun r=>rt r)
  else
    dn out_7
def qkw (trap_2:Bool) (n_30:Int) (n_31:(List Trans)) (n_32:Int) (n_33:Int) (s0:(List Int)):Option ((List Int) ⊕ (List Int)) :=
  loopM (fun a=>qah trap_2 n_30 n_31 n_32 n_33 a (fun a'=>some (.next a')) (fun e=>some (.done e)) (fun r=>some (.ret r))) s0
def qjt:Shp:=⟨[(2,.d true .bool),(3,.ptr 0),(7,.own 1)],[.cs 24 4 1 (.cons (.d true (.int .i64)) (.cons (.d false (.slice Trans.ty)) (.cons (.d true (.int .i64)) (.cons (.d true (.int .i64)) .nil)))),.arr 3 (.fz true) [0] (.int .i64)]⟩
def qka:Shp:=⟨[(7,.own 0)],[.arr 3 (.fz true) [0] (.int .i64)]⟩
def q84 (n_0:Net) (l_1:(List Int)) (trap_2:Bool):Option (List Int) :=
  bnd (q1b l_1) fun r1 =>
  bnd (qkw trap_2 n_0.1 n_0.2.1 n_0.2.2.1 n_0.2.2.2.1 r1) fun oe7 =>
  lk oe7 (fun e7 =>
    bif decide ((e7.length:Int)=0) then
      some []
    else
      some e7) (fun r=>some r)
def qa7 {R:Type} (m_1:(List Int)) (v_23:(List (List Int))) (v_24:Int) (n_20:Int) (n_21:(List Trans)) (n_22:Int) (n_23:Int) (v_25:Int) (nx:Int → Option R) (dn:Unit → Option R) (rt:(Bool × (List Int) × Int) → Option R):Option R :=
  bif decide (v_25 < v_24) then
    ckB (ix v_25 v_23.length) <|
    ckB (ix v_25 v_23.length) <|
    bnd (q84 (n_20,n_21,n_22,n_23,()) (v_23.getD (Int.toNat v_25) []) true) fun r3 =>
    bnd (qa3 r3 m_1) fun r4 =>
    bif (!r4) then
      rt (false,(v_23.getD (Int.toNat v_25) []),0)
    else
      ckB (inR .i64 (v_25 + 1)) <|
      nx (v_25 + 1)
  else
    dn ()
def qku (m_1:(List Int)) (v_23:(List (List Int))) (v_24:Int) (n_20:Int) (n_21:(List Trans)) (n_22:Int) (n_23:Int) (s0:Int):Option (Unit ⊕ (Bool × (List Int) × Int)) :=
  loopM (fun a=>qa7 m_1 v_23 v_24 n_20 n_21 n_22 n_23 a (fun a'=>some (.next a')) (fun e=>some (.done e)) (fun r=>some (.ret r))) s0
def qk4:Shp:=⟨[(1,.d false (.slice (.int .i64))),(2,.ptr 0),(23,.nl false (.d true (.slice (.slice (.int .i64))))),(24,.d true (.int .i64)),(25,.d true (.int .i64))],[.cs 24 4 1 (.cons (.d true (.int .i64)) (.cons (.d false (.slice Trans.ty)) (.cons (.d true (.int .i64)) (.cons (.d true (.int .i64)) .nil))))]⟩
def qjz:Shp:=⟨[],[]⟩
def qdd (n_0:Net) (m_1:(List Int)):Option (Bool × (List Int) × Int) :=
  bnd (qdt n_0 m_1) fun r1 =>
  bif (!r1) then
    some (false,[],1)
  else
    bnd (qa6 n_0) fun r2 =>
    bif (!decide (r2.1=0)) then
      some (false,[],r2.1)
    else
      bnd (qku m_1 r2.2 (r2.2.length:Int) n_0.1 n_0.2.1 n_0.2.2.1 n_0.2.2.2.1 0) fun oe5 =>
      lk oe5 (fun e5 =>
        some (true,[],0)) (fun r=>some r)
def qcv (n_0:Net) (l_1:(List Int)):Option (Bool × Int) :=
  bnd (qe1 n_0 l_1) fun r1 =>
  bif (!decide (r1=0)) then
    some (false,r1)
  else
    bnd (qa1 n_0 l_1 false) fun r2 =>
    some (r2,0)
def qdx {R:Type} (l_2:(List Int)) (v_25:(List Int)) (v_26:Int) (n_30:Int) (n_31:(List Trans)) (n_32:Int) (n_33:Int) (now_9:(List Int)) (v_27:Int) (nx:((List Int) × Int) → Option R) (dn:(List Int) → Option R) (rt:((List Int) × Int × Int) → Option R):Option R :=
  bif decide (v_27 < v_26) then
    ckB (ix v_27 v_25.length) <|
    ckB (ix v_27 v_25.length) <|
    bnd (qim (n_30,n_31,n_32,n_33,()) now_9 (v_25.getD (Int.toNat v_27) 0)) fun r3 =>
    bif (!decide (r3.1=0)) then
      rt ([],v_27,r3.1)
    else
      ckB (inR .i64 (v_27 + 1)) <|
      nx (r3.2,(v_27 + 1))
  else
    dn now_9
def qtt (l_2:(List Int)) (v_25:(List Int)) (v_26:Int) (n_30:Int) (n_31:(List Trans)) (n_32:Int) (n_33:Int) (s0:((List Int) × Int)):Option ((List Int) ⊕ ((List Int) × Int × Int)) :=
  loopM (fun a=>qdx l_2 v_25 v_26 n_30 n_31 n_32 n_33 a.1 a.2 (fun a'=>some (.next a')) (fun e=>some (.done e)) (fun r=>some (.ret r))) s0
def qrr:Shp:=⟨[(2,.d false (.slice (.int .i64))),(3,.ptr 0),(9,.d true (.slice (.int .i64))),(25,.d false (.slice (.int .i64))),(26,.d true (.int .i64)),(27,.d true (.int .i64))],[.cs 24 4 1 (.cons (.d true (.int .i64)) (.cons (.d false (.slice Trans.ty)) (.cons (.d true (.int .i64)) (.cons (.d true (.int .i64)) .nil))))]⟩
def qsl:Shp:=⟨[(2,.d false (.slice (.int .i64))),(9,.d true (.slice (.int .i64)))],[]⟩
def qo1 (n_0:Net) (m_1:(List Int)) (l_2:(List Int)):Option ((List Int) × Int × Int) :=
  bnd (q9z n_0 m_1) fun r1 =>
  bif (!r1) then
    some ([],0,1)
  else
    bif decide ((1000:Int) < (l_2.length:Int)) then
      some ([],0,5)
    else
      bnd (q1b m_1) fun r2 =>
      bnd (qtt l_2 l_2 (l_2.length:Int) n_0.1 n_0.2.1 n_0.2.2.1 n_0.2.2.2.1 (r2,0)) fun oe4 =>
      lk oe4 (fun e4 =>
        some (e4,(l_2.length:Int),0)) (fun r=>some r)
def qe5 (t_0:Trans):Option Bool :=
  some (decide ((t_0.2.1.length:Int)=0))
def q1h {R:Type} (s_0:(List Trans)) (v_7:Int) (v_8:Int) (nx:Int → Option R) (dn:Unit → Option R) (rt:Int → Option R):Option R :=
  bif decide (v_8 < v_7) then
    ckB (ix v_8 s_0.length) <|
    ckB (ix v_8 s_0.length) <|
    bnd (qe5 (s_0.getD (Int.toNat v_8) Trans.z)) fun r1 =>
    bif r1 then
      rt v_8
    else
      ckB (inR .i64 (v_8 + 1)) <|
      nx (v_8 + 1)
  else
    dn ()
def q5s (s_0:(List Trans)) (v_7:Int) (s0:Int):Option (Unit ⊕ Int) :=
  loopM (fun a=>q1h s_0 v_7 a (fun a'=>some (.next a')) (fun e=>some (.done e)) (fun r=>some (.ret r))) s0
def q5e:Shp:=⟨[(0,.d false (.slice Trans.ty)),(1,.fn 40 .nil),(7,.d true (.int .i64)),(8,.d true (.int .i64))],[]⟩
def q5h:Shp:=⟨[],[]⟩
def q35 (s_0:(List Trans)):Option Int :=
  bnd (q5s s_0 (s_0.length:Int) 0) fun oe2 =>
  lk oe2 (fun e2 =>
    some (-1)) (fun r=>some r)
def q1j (s_0:(List Trans)):Option Bool :=
  bnd (q35 s_0) fun r1 =>
  some (decide ((0:Int) ≤ r1))
def qcn (p_0:Int) (p_1:(List Int)):Option Bool :=
  ckB (ix 0 1) <|
  bnd (q2y p_1 p_0) fun r1 =>
  some (!r1)
def q3l {R:Type} (s_0:(List Int)) (f_1c0:(List Int)) (v_7:Int) (v_8:Int) (nx:Int → Option R) (dn:Unit → Option R) (rt:Int → Option R):Option R :=
  bif decide (v_8 < v_7) then
    ckB (ix v_8 s_0.length) <|
    ckB (ix v_8 s_0.length) <|
    bnd (qcn (s_0.getD (Int.toNat v_8) 0) f_1c0) fun r1 =>
    bif r1 then
      rt v_8
    else
      ckB (inR .i64 (v_8 + 1)) <|
      nx (v_8 + 1)
  else
    dn ()
def qbc (s_0:(List Int)) (f_1c0:(List Int)) (v_7:Int) (s0:Int):Option (Unit ⊕ Int) :=
  loopM (fun a=>q3l s_0 f_1c0 v_7 a (fun a'=>some (.next a')) (fun e=>some (.done e)) (fun r=>some (.ret r))) s0
def qa8:Shp:=⟨[(0,.d false (.slice (.int .i64))),(1,.fn 44 (.cons (.rp false (.slice (.int .i64))) .nil)),(7,.d true (.int .i64)),(8,.d true (.int .i64))],[]⟩
def qab:Shp:=⟨[],[]⟩
def q7u (s_0:(List Int)) (f_1c0:(List Int)):Option Int :=
  bnd (qbc s_0 f_1c0 (s_0.length:Int) 0) fun oe2 =>
  lk oe2 (fun e2 =>
    some (-1)) (fun r=>some r)
def q3k (s_0:(List Int)) (f_1c0:(List Int)):Option Bool :=
  bnd (q7u s_0 f_1c0) fun r1 =>
  some (decide ((0:Int) ≤ r1))
def qdw (s_0:(List Int)) (p_1:(List Int)):Option Bool :=
  bif decide ((0:Int) < (s_0.length:Int)) then
    bnd (q3k s_0 p_1) fun r1 =>
    some (!r1)
  else
    some false
def q3g {R:Type} (s_0:(List (List Int))) (f_1c0:(List Int)) (v_7:Int) (v_8:Int) (nx:Int → Option R) (dn:Unit → Option R) (rt:Int → Option R):Option R :=
  bif decide (v_8 < v_7) then
    ckB (ix v_8 s_0.length) <|
    ckB (ix v_8 s_0.length) <|
    bnd (qdw (s_0.getD (Int.toNat v_8) []) f_1c0) fun r1 =>
    bif r1 then
      rt v_8
    else
      ckB (inR .i64 (v_8 + 1)) <|
      nx (v_8 + 1)
  else
    dn ()
def qbb (s_0:(List (List Int))) (f_1c0:(List Int)) (v_7:Int) (s0:Int):Option (Unit ⊕ Int) :=
  loopM (fun a=>q3g s_0 f_1c0 v_7 a (fun a'=>some (.next a')) (fun e=>some (.done e)) (fun r=>some (.ret r))) s0
def qa5:Shp:=⟨[(0,.d false (.slice (.slice (.int .i64)))),(1,.fn 43 (.cons (.rp false (.slice (.int .i64))) .nil)),(7,.d true (.int .i64)),(8,.d true (.int .i64))],[]⟩
def qa9:Shp:=⟨[],[]⟩
def q7q (s_0:(List (List Int))) (f_1c0:(List Int)):Option Int :=
  bnd (qbb s_0 f_1c0 (s_0.length:Int) 0) fun oe2 =>
  lk oe2 (fun e2 =>
    some (-1)) (fun r=>some r)
def q3p (s_0:(List (List Int))) (f_1c0:(List Int)):Option Bool :=
  bnd (q7q s_0 f_1c0) fun r1 =>
  some (decide ((0:Int) ≤ r1))
def q6y {R:Type} (m_1:(List Int)) (v_85:(List Int)) (v_86:Int) (n_30:Int) (n_31:(List Trans)) (n_32:Int) (n_33:Int) (v_87:Int) (empty_12:(List Int)) (nx:(Int × (List Int)) → Option R) (dn:(List Int) → Option R) (rt:Bool → Option R):Option R :=
  bif decide (v_87 < v_86) then
    ckB (ix v_87 v_85.length) <|
    ckB (ix v_87 v_85.length) <|
    bif decide ((v_85.getD (Int.toNat v_87) 0)=0) then
      ckB (room (empty_12.length + 1) 8) <|
      ckB (inR .i64 (v_87 + 1)) <|
      nx ((v_87 + 1),(empty_12 ++ [v_87]))
    else
      ckB (inR .i64 (v_87 + 1)) <|
      nx ((v_87 + 1),empty_12)
  else
    dn empty_12
def qju (m_1:(List Int)) (v_85:(List Int)) (v_86:Int) (n_30:Int) (n_31:(List Trans)) (n_32:Int) (n_33:Int) (s0:(Int × (List Int))):Option ((List Int) ⊕ Bool) :=
  loopM (fun a=>q6y m_1 v_85 v_86 n_30 n_31 n_32 n_33 a.1 a.2 (fun a'=>some (.next a')) (fun e=>some (.done e)) (fun r=>some (.ret r))) s0
def qiz:Shp:=⟨[(1,.d true (.slice (.int .i64))),(3,.ptr 0),(12,.ptr 1),(85,.d true (.slice (.int .i64))),(86,.d true (.int .i64)),(87,.d true (.int .i64))],[.cs 24 4 1 (.cons (.d true (.int .i64)) (.cons (.d true (.slice Trans.ty)) (.cons (.d true (.int .i64)) (.cons (.d true (.int .i64)) .nil)))),.cs 34 1 1 (.cons (.own 2) .nil),.arr 3 (.fz true) [0] (.int .i64)]⟩
def qiw:Shp:=⟨[(1,.d true (.slice (.int .i64))),(3,.ptr 0),(12,.ptr 1)],[.cs 24 4 1 (.cons (.d true (.int .i64)) (.cons (.d true (.slice Trans.ty)) (.cons (.d true (.int .i64)) (.cons (.d true (.int .i64)) .nil)))),.cs 34 1 1 (.cons (.own 2) .nil),.arr 3 (.fz true) [0] (.int .i64)]⟩
def qgo (n_0:Net) (m_1:(List Int)) (run_2:(List Int)):Option Bool :=
  bnd (qox) fun r1 =>
  bif (!r1) then
    some false
  else
    bnd (qjp n_0) fun r2 =>
    bif r2 then
      some true
    else
      bif decide ((16:Int) < n_0.1) then
        some true
      else
        bif decide ((60:Int) < (m_1.length:Int)) then
          some true
        else
          bif decide ((60:Int) < (run_2.length:Int)) then
            some true
          else
            bnd (qjn n_0) fun r3 =>
            bif (!r3) then
              some true
            else
              bif decide ((n_0.2.1.length:Int)=0) then
                some true
              else
                bnd (q1j n_0.2.1) fun r4 =>
                bif r4 then
                  some true
                else
                  bnd (qo1 n_0 m_1 run_2) fun r5 =>
                  bif (!decide (r5.2.2=0)) then
                    some true
                  else
                    bnd (qd0 n_0 r5.1) fun r6 =>
                    bif (!decide (r6.1=0)) then
                      some false
                    else
                      bif (!decide ((r5.1.length:Int)=(m_1.length:Int))) then
                        some false
                      else
                        bif decide ((0:Int) < (r6.2.length:Int)) then
                          some true
                        else
                          bnd (qju m_1 r5.1 (r5.1.length:Int) n_0.1 n_0.2.1 n_0.2.2.1 n_0.2.2.2.1 (0,[])) fun oe7 =>
                          lk oe7 (fun e7 =>
                            bnd (qcv n_0 e7) fun r8 =>
                            bnd (qa6 n_0) fun r9 =>
                            bnd (qdd n_0 m_1) fun r10 =>
                            bif (!decide (r8.2=0)) then
                              some false
                            else
                              bif (!decide (r9.1=0)) then
                                some false
                              else
                                bif (!decide (r10.2.2=0)) then
                                  some false
                                else
                                  bif (!r8.1) then
                                    some false
                                  else
                                    bif r10.1 then
                                      some false
                                    else
                                      bnd (q3p r9.2 e7) fun r11 =>
                                      some r11) (fun r=>some r)
end Go.Proofs.Ytjhojmninmipcaa
