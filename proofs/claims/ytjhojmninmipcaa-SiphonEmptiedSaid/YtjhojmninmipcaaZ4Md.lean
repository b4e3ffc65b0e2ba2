/-
  What the functions compute, as plain functions of Lean. Made by program (mg3.py) out of the translation.
-/
import Derived.Test.YtjhojmninmipcaaZ4KE
set_option linter.all false
set_option maxRecDepth 100000
namespace Go.Proofs.Ytjhojmninmipcaa
open Go.K Go.M
abbrev qL1:Type:=List Int
abbrev qL2:Type:=List (List Int)
abbrev qT0:Ty:=.int .i64
abbrev qT1:Ty:=.slice qT0
abbrev qT2:Ty:=.slice qT1
abbrev Trans:Type:=ByteArray×qL1×qL1×Unit
abbrev Trans.z:Trans:=(⟨#[]⟩,[],[],())
def Trans.ty:Ty:=.struct (.cons .str (.cons qT1 (.cons qT1 .nil)))
abbrev Net:Type:=Int×(List Trans)×Int×Int×Unit
abbrev Net.z:Net:=(0,[],0,0,())
def Net.ty:Ty:=.struct (.cons qT0 (.cons (.slice Trans.ty) (.cons qT0 (.cons qT0 .nil))))
abbrev q5:Type:=qL1×qL1×Unit
abbrev q5.z:q5:=([],[],())
def q5.ty:Ty:=.struct (.cons qT1 (.cons qT1 .nil))
abbrev bytes0:ByteArray:=⟨#[0,1,2,2,3,3,3,3,4,4,4,4,4,4,4,4,5,5,5,5,5,5,5,5,5,5,5,5,5,5,5,5,6,6,6,6,6,6,6,6,6,6,6,6,6,6,6,6,6,6,6,6,6,6,6,6,6,6,6,6,6,6,6,6,7,7,7,7,7,7,7,7,7,7,7,7,7,7,7,7,7,7,7,7,7,7,7,7,7,7,7,7,7,7,7,7,7,7,7,7,7,7,7,7,7,7,7,7,7,7,7,7,7,7,7,7,7,7,7,7,7,7,7,7,7,7,7,7,8,8,8,8,8,8,8,8,8,8,8,8,8,8,8,8,8,8,8,8,8,8,8,8,8,8,8,8,8,8,8,8,8,8,8,8,8,8,8,8,8,8,8,8,8,8,8,8,8,8,8,8,8,8,8,8,8,8,8,8,8,8,8,8,8,8,8,8,8,8,8,8,8,8,8,8,8,8,8,8,8,8,8,8,8,8,8,8,8,8,8,8,8,8,8,8,8,8,8,8,8,8,8,8,8,8,8,8,8,8,8,8,8,8,8,8,8,8,8,8,8,8,8,8,8,8,8,8]⟩
def qce (c_0:Int):Option Bool :=
 bif decide ((65:Int)≤c_0) then
   bif decide (c_0≤90) then
     some true
   else
     bif decide ((97:Int)≤c_0) then
       some (decide (c_0≤122))
     else
       some false
 else
   bif decide ((97:Int)≤c_0) then
     some (decide (c_0≤122))
   else
     some false
def ql9 (c_0:Int):Option Bool :=
 bnd (qce c_0) fun r1 =>
 bif r1 then
   some true
 else
   bif decide ((48:Int)≤c_0) then
     bif decide (c_0≤57) then
       some true
     else
       bif decide (c_0=95) then
         some true
       else
         bif decide (c_0=45) then
           some true
         else
           some (decide (c_0=46))
   else
     bif decide (c_0=95) then
       some true
     else
       bif decide (c_0=45) then
         some true
       else
         some (decide (c_0=46))
def q98 {R:Type} (s_0:ByteArray) (v_19:Int) (v_20:Int) (nx:Int→Option R) (dn:Unit→Option R) (rt:Bool→Option R):Option R :=
 bif decide (v_20 < v_19) then
   ckB (ix v_20 (ByteArray.size s_0)) <|
   bnd (ql9 (((ByteArray.data s_0).getD (Int.toNat v_20) 0).toNat:Int)) fun r2 =>
   bif (!r2) then
     rt false
   else
     ckB (inR .i64 (v_20+1)) <|
     nx (v_20+1)
 else
   dn ()
def qog (s_0:ByteArray) (v_19:Int) (s0:Int):Option (Unit⊕Bool) :=
 loopM (fun a=>q98 s_0 v_19 a (fun a'=>some (.next a')) (fun e=>some (.done e)) (fun r=>some (.ret r))) s0
def qm6:Shp:=⟨[(0,.d true .str),(19,.d true qT0),(20,.d true qT0)],[]⟩
def qmv:Shp:=⟨[],[]⟩
def qgs (s_0:ByteArray):Option Bool :=
 bif decide ((ByteArray.size s_0:Int) < 1) then
   some false
 else
   bif decide ((40:Int) < (ByteArray.size s_0:Int)) then
     some false
   else
     ckB (ix 0 (ByteArray.size s_0)) <|
     bnd (qce (((ByteArray.data s_0).getD 0 0).toNat:Int)) fun r1 =>
     bif (!r1) then
       some false
     else
       bnd (qog s_0 (ByteArray.size s_0:Int) 0) fun oe3 =>
       lk oe3 (fun e3 =>
         some true) (fun r=>some r)
def q5m {R:Type} (l_1:qL1) (v_7:qL1) (v_8:Int) (n_20:Int) (n_21:(List Trans)) (n_22:Int) (n_23:Int) (v_9:Int) (nx:Int→Option R) (dn:Unit→Option R) (rt:Bool→Option R):Option R :=
 bif decide (v_9 < v_8) then
   ckB (ix v_9 v_7.length) <|
   ckB (ix v_9 v_7.length) <|
   bif decide ((v_7.getD (Int.toNat v_9) 0) < 0) then
     rt false
   else
     bif decide (n_20≤(v_7.getD (Int.toNat v_9) 0)) then
       rt false
     else
       bif decide ((0:Int) < v_9) then
         ckB (inR .i64 (v_9 - 1)) <|
         ckB (ix (v_9 - 1) l_1.length) <|
         ckB (ix (v_9 - 1) l_1.length) <|
         bif decide ((v_7.getD (Int.toNat v_9) 0)≤(l_1.getD (Int.toNat (v_9 - 1)) 0)) then
           rt false
         else
           ckB (inR .i64 (v_9+1)) <|
           nx (v_9+1)
       else
         ckB (inR .i64 (v_9+1)) <|
         nx (v_9+1)
 else
   dn ()
def qmn (l_1:qL1) (v_7:qL1) (v_8:Int) (n_20:Int) (n_21:(List Trans)) (n_22:Int) (n_23:Int) (s0:Int):Option (Unit⊕Bool) :=
 loopM (fun a=>q5m l_1 v_7 v_8 n_20 n_21 n_22 n_23 a (fun a'=>some (.next a')) (fun e=>some (.done e)) (fun r=>some (.ret r))) s0
def qla:Shp:=⟨[(1,.d false qT1),(2,.ptr 0),(7,.d false qT1),(8,.d true qT0),(9,.d true qT0)],[.cs 24 4 1 (.cons (.d true qT0) (.cons (.d false (.slice Trans.ty)) (.cons (.d true qT0) (.cons (.d true qT0) .nil))))]⟩
def qlf:Shp:=⟨[],[]⟩
def q45 (n_0:Net) (l_1:qL1):Option Bool :=
 bnd (qmn l_1 l_1 (l_1.length:Int) n_0.1 n_0.2.1 n_0.2.2.1 n_0.2.2.2.1 0) fun oe1 =>
 lk oe1 (fun e1 =>
   some true) (fun r=>some r)
def qbs {R:Type} (v_20:(List Trans)) (v_21:Int) (n_10:Int) (n_11:(List Trans)) (n_12:Int) (n_13:Int) (v_22:Int) (nx:Int→Option R) (dn:Unit→Option R) (rt:Bool→Option R):Option R :=
 bif decide (v_22 < v_21) then
   ckB (ix v_22 v_20.length) <|
   ckB (ix v_22 v_20.length) <|
   bif (!(ByteArray.toList (v_20.getD (Int.toNat v_22) Trans.z).1 == ByteArray.toList ⟨#[]⟩)) then
     bnd (qgs (v_20.getD (Int.toNat v_22) Trans.z).1) fun r1 =>
     bif (!r1) then
       rt false
     else
       bnd (q45 (n_10,n_11,n_12,n_13,()) (v_20.getD (Int.toNat v_22) Trans.z).2.1) fun r2 =>
       bif (!r2) then
         rt false
       else
         bnd (q45 (n_10,n_11,n_12,n_13,()) (v_20.getD (Int.toNat v_22) Trans.z).2.2.1) fun r3 =>
         bif (!r3) then
           rt false
         else
           ckB (inR .i64 (v_22+1)) <|
           nx (v_22+1)
   else
     bnd (q45 (n_10,n_11,n_12,n_13,()) (v_20.getD (Int.toNat v_22) Trans.z).2.1) fun r4 =>
     bif (!r4) then
       rt false
     else
       bnd (q45 (n_10,n_11,n_12,n_13,()) (v_20.getD (Int.toNat v_22) Trans.z).2.2.1) fun r5 =>
       bif (!r5) then
         rt false
       else
         ckB (inR .i64 (v_22+1)) <|
         nx (v_22+1)
 else
   dn ()
def qp1 (v_20:(List Trans)) (v_21:Int) (n_10:Int) (n_11:(List Trans)) (n_12:Int) (n_13:Int) (s0:Int):Option (Unit⊕Bool) :=
 loopM (fun a=>qbs v_20 v_21 n_10 n_11 n_12 n_13 a (fun a'=>some (.next a')) (fun e=>some (.done e)) (fun r=>some (.ret r))) s0
def qmx:Shp:=⟨[(1,.ptr 0),(20,.d false (.slice Trans.ty)),(21,.d true qT0),(22,.d true qT0)],[.cs 24 4 1 (.cons (.d true qT0) (.cons (.d false (.slice Trans.ty)) (.cons (.d true qT0) (.cons (.d true qT0) .nil))))]⟩
def qmf:Shp:=⟨[(1,.ptr 0)],[.cs 24 4 1 (.cons (.d true qT0) (.cons (.d false (.slice Trans.ty)) (.cons (.d true qT0) (.cons (.d true qT0) .nil))))]⟩
def qa1 (n_0:Net):Option Bool :=
 bif decide (n_0.1 < 1) then
   some false
 else
   bif decide ((40:Int) < n_0.1) then
     some false
   else
     bif decide ((60:Int) < (n_0.2.1.length:Int)) then
       some false
     else
       bnd (qp1 n_0.2.1 (n_0.2.1.length:Int) n_0.1 n_0.2.1 n_0.2.2.1 n_0.2.2.2.1 0) fun oe6 =>
       lk oe6 (fun e6 =>
         bnd (q45 n_0 [n_0.2.2.1]) fun r7 =>
         bif r7 then
           bnd (q45 n_0 [n_0.2.2.2.1]) fun r8 =>
           some r8
         else
           some false) (fun r=>some r)
def qkv {R:Type} (v_6:qL1) (v_7:Int) (m_3:Int) (v_8:Int) (nx:(Int×Int)→Option R) (dn:Int→Option R) (rt:Int→Option R):Option R :=
 bif decide (v_8 < v_7) then
   ckB (ix v_8 v_6.length) <|
   ckB (ix v_8 v_6.length) <|
   ckB (decide (0≤(v_6.getD (Int.toNat v_8) 0))) <|
   ckB (inR .i64 (v_8+1)) <|
   nx ((bitI .or .u32 m_3 (shlI .u32 1 (v_6.getD (Int.toNat v_8) 0))),(v_8+1))
 else
   dn m_3
def qty (v_6:qL1) (v_7:Int) (s0:(Int×Int)):Option (Int⊕Int) :=
 loopM (fun a=>qkv v_6 v_7 a.1 a.2 (fun a'=>some (.next a')) (fun e=>some (.done e)) (fun r=>some (.ret r))) s0
def ql4:Shp:=⟨[(3,.d true (.int .u32)),(6,.d false qT1),(7,.d true qT0),(8,.d true qT0)],[]⟩
def qkx:Shp:=⟨[(3,.d true (.int .u32))],[]⟩
def qjk (l_0:qL1):Option Int :=
 bnd (qty l_0 (l_0.length:Int) (0,0)) fun oe1 =>
 lk oe1 (fun e1 =>
   some e1) (fun r=>some r)
def qij {R:Type} (v_15:(List Trans)) (v_16:Int) (n_10:Int) (n_11:(List Trans)) (n_12:Int) (n_13:Int) (v_17:Int) (in_3:qL1) (out_4:qL1) (nx:(Int×qL1×qL1)→Option R) (dn:(qL1×qL1)→Option R) (rt:qL1→Option R):Option R :=
 bif decide (v_17 < v_16) then
   ckB (ix v_17 v_15.length) <|
   ckB (ix v_17 v_15.length) <|
   bnd (qjk (v_15.getD (Int.toNat v_17) Trans.z).2.1) fun r1 =>
   bnd (qjk (v_15.getD (Int.toNat v_17) Trans.z).2.2.1) fun r2 =>
   ckB (room (in_3.length+1) 4) <|
   ckB (room (out_4.length+1) 4) <|
   ckB (inR .i64 (v_17+1)) <|
   nx ((v_17+1),(in_3++[r1]),(out_4++[r2]))
 else
   dn (in_3,out_4)
def qro (v_15:(List Trans)) (v_16:Int) (n_10:Int) (n_11:(List Trans)) (n_12:Int) (n_13:Int) (s0:(Int×qL1×qL1)):Option ((qL1×qL1)⊕qL1) :=
 loopM (fun a=>qij v_15 v_16 n_10 n_11 n_12 n_13 a.1 a.2.1 a.2.2 (fun a'=>some (.next a')) (fun e=>some (.done e)) (fun r=>some (.ret r))) s0
def qhw:Shp:=⟨[(1,.ptr 0),(3,.nl false (.own 1)),(4,.nl false (.own 2)),(15,.d false (.slice Trans.ty)),(16,.d true qT0),(17,.d true qT0)],[.cs 24 4 1 (.cons (.d true qT0) (.cons (.d false (.slice Trans.ty)) (.cons (.d true qT0) (.cons (.d true qT0) .nil)))),.arr 67 (.fz true) [0] (.int .u32),.arr 67 (.fz true) [0] (.int .u32)]⟩
def qid:Shp:=⟨[(1,.ptr 0),(3,.nl false (.own 1)),(4,.nl false (.own 2))],[.cs 24 4 1 (.cons (.d true qT0) (.cons (.d false (.slice Trans.ty)) (.cons (.d true qT0) (.cons (.d true qT0) .nil)))),.arr 67 (.fz true) [0] (.int .u32),.arr 67 (.fz true) [0] (.int .u32)]⟩
def qi8 {R:Type} (in_3:qL1) (out_4:qL1) (s_9:Int) (v_46:Int) (n_10:Int) (n_11:(List Trans)) (n_12:Int) (n_13:Int) (found_8:qL1) (v_47:Int) (siphon_7:(List Bool)) (nx:(Int×(List Bool))→Option R) (dn:(List Bool)→Option R) (rt:qL1→Option R):Option R :=
 bif decide (v_47 < v_46) then
   ckB (decide (0≤v_47)) <|
   bif (!decide ((bitI .and .u32 s_9 (shlI .u32 1 v_47))=0)) then
     ckB (ix (bitI .andNot .u32 s_9 (shlI .u32 1 v_47)) siphon_7.length) <|
     ckB (ix (bitI .andNot .u32 s_9 (shlI .u32 1 v_47)) siphon_7.length) <|
     bif (siphon_7.getD (Int.toNat (bitI .andNot .u32 s_9 (shlI .u32 1 v_47))) false) then
       ckB (ix s_9 siphon_7.length) <|
       ckB (ix s_9 siphon_7.length) <|
       ckB (inR .i64 (v_47+1)) <|
       nx ((v_47+1),(siphon_7.set (Int.toNat s_9) true))
     else
       ckB (inR .i64 (v_47+1)) <|
       nx ((v_47+1),siphon_7)
   else
     ckB (inR .i64 (v_47+1)) <|
     nx ((v_47+1),siphon_7)
 else
   dn siphon_7
def qry (in_3:qL1) (out_4:qL1) (s_9:Int) (v_46:Int) (n_10:Int) (n_11:(List Trans)) (n_12:Int) (n_13:Int) (found_8:qL1) (s0:(Int×(List Bool))):Option ((List Bool)⊕qL1) :=
 loopM (fun a=>qi8 in_3 out_4 s_9 v_46 n_10 n_11 n_12 n_13 found_8 a.1 a.2 (fun a'=>some (.next a')) (fun e=>some (.done e)) (fun r=>some (.ret r))) s0
def qhx:Shp:=⟨[(1,.ptr 0),(3,.nl false (.d true (.slice (.int .u32)))),(4,.nl false (.d true (.slice (.int .u32)))),(7,.own 1),(8,.nl false (.own 2)),(9,.d true (.int .u32)),(46,.d true qT0),(47,.d true qT0)],[.cs 24 4 1 (.cons (.d true qT0) (.cons (.d false (.slice Trans.ty)) (.cons (.d true qT0) (.cons (.d true qT0) .nil)))),.arr 4 (.fz true) [0] .bool,.arr 67 (.fz true) [0] (.int .u32)]⟩
def qi0:Shp:=⟨[(1,.ptr 0),(3,.nl false (.d true (.slice (.int .u32)))),(4,.nl false (.d true (.slice (.int .u32)))),(7,.own 1),(8,.nl false (.own 2)),(9,.d true (.int .u32))],[.cs 24 4 1 (.cons (.d true qT0) (.cons (.d false (.slice Trans.ty)) (.cons (.d true qT0) (.cons (.d true qT0) .nil)))),.arr 4 (.fz true) [0] .bool,.arr 67 (.fz true) [0] (.int .u32)]⟩
def qie {R:Type} (in_3:qL1) (out_4:qL1) (s_9:Int) (v_73:Int) (n_10:Int) (n_11:(List Trans)) (n_12:Int) (n_13:Int) (siphon_7:(List Bool)) (found_8:qL1) (ok_12:Bool) (v_74:Int) (nx:(Bool×Int)→Option R) (dn:Bool→Option R) (rt:qL1→Option R):Option R :=
 bif decide (v_74 < v_73) then
   bif ok_12 then
     ckB (ix v_74 out_4.length) <|
     ckB (ix v_74 out_4.length) <|
     bif decide ((bitI .and .u32 (out_4.getD (Int.toNat v_74) 0) s_9)=0) then
       ckB (inR .i64 (v_74+1)) <|
       nx (true,(v_74+1))
     else
       ckB (ix v_74 in_3.length) <|
       ckB (ix v_74 in_3.length) <|
       ckB (inR .i64 (v_74+1)) <|
       nx ((!decide ((bitI .and .u32 (in_3.getD (Int.toNat v_74) 0) s_9)=0)),(v_74+1))
   else
     ckB (inR .i64 (v_74+1)) <|
     nx (false,(v_74+1))
 else
   dn ok_12
def qrb (in_3:qL1) (out_4:qL1) (s_9:Int) (v_73:Int) (n_10:Int) (n_11:(List Trans)) (n_12:Int) (n_13:Int) (siphon_7:(List Bool)) (found_8:qL1) (s0:(Bool×Int)):Option (Bool⊕qL1) :=
 loopM (fun a=>qie in_3 out_4 s_9 v_73 n_10 n_11 n_12 n_13 siphon_7 found_8 a.1 a.2 (fun a'=>some (.next a')) (fun e=>some (.done e)) (fun r=>some (.ret r))) s0
def qig:Shp:=⟨[(1,.ptr 0),(3,.nl false (.d true (.slice (.int .u32)))),(4,.nl false (.d true (.slice (.int .u32)))),(7,.own 1),(8,.nl false (.own 2)),(9,.d true (.int .u32)),(12,.d true .bool),(73,.d true qT0),(74,.d true qT0)],[.cs 24 4 1 (.cons (.d true qT0) (.cons (.d false (.slice Trans.ty)) (.cons (.d true qT0) (.cons (.d true qT0) .nil)))),.arr 4 (.fz true) [0] .bool,.arr 67 (.fz true) [0] (.int .u32)]⟩
def qi4:Shp:=⟨[(1,.ptr 0),(3,.nl false (.d true (.slice (.int .u32)))),(4,.nl false (.d true (.slice (.int .u32)))),(7,.own 1),(8,.nl false (.own 2)),(9,.d true (.int .u32)),(12,.d true .bool)],[.cs 24 4 1 (.cons (.d true qT0) (.cons (.d false (.slice Trans.ty)) (.cons (.d true qT0) (.cons (.d true qT0) .nil)))),.arr 4 (.fz true) [0] .bool,.arr 67 (.fz true) [0] (.int .u32)]⟩
def qif {R:Type} (in_3:qL1) (out_4:qL1) (n_10:Int) (n_11:(List Trans)) (n_12:Int) (n_13:Int) (s_9:Int) (siphon_7:(List Bool)) (found_8:qL1) (nx:(Int×(List Bool)×qL1)→Option R) (dn:qL1→Option R) (rt:qL1→Option R):Option R :=
 ckB (decide (0≤n_10)) <|
 bif decide (s_9 < (shlI .u32 1 n_10)) then
   bnd (qry in_3 out_4 s_9 n_10 n_10 n_11 n_12 n_13 found_8 (0,siphon_7)) fun oe4 =>
   lk oe4 (fun e4 =>
     ckB (ix s_9 e4.length) <|
     ckB (ix s_9 e4.length) <|
     bif (e4.getD (Int.toNat s_9) false) then
       nx ((IntKind.wrap .u32 (s_9+1)),e4,found_8)
     else
       bnd (qrb in_3 out_4 s_9 (in_3.length:Int) n_10 n_11 n_12 n_13 e4 found_8 (true,0)) fun oe5 =>
       lk oe5 (fun e5 =>
         bif e5 then
           ckB (ix s_9 e4.length) <|
           ckB (ix s_9 e4.length) <|
           ckB (room (found_8.length+1) 4) <|
           nx ((IntKind.wrap .u32 (s_9+1)),(e4.set (Int.toNat s_9) true),(found_8++[s_9]))
         else
           nx ((IntKind.wrap .u32 (s_9+1)),e4,found_8)) (fun r=>rt r)) (fun r=>rt r)
 else
   dn found_8
def qrs (in_3:qL1) (out_4:qL1) (n_10:Int) (n_11:(List Trans)) (n_12:Int) (n_13:Int) (s0:(Int×(List Bool)×qL1)):Option (qL1⊕qL1) :=
 loopM (fun a=>qif in_3 out_4 n_10 n_11 n_12 n_13 a.1 a.2.1 a.2.2 (fun a'=>some (.next a')) (fun e=>some (.done e)) (fun r=>some (.ret r))) s0
def qhu:Shp:=⟨[(1,.ptr 0),(3,.nl false (.d true (.slice (.int .u32)))),(4,.nl false (.d true (.slice (.int .u32)))),(7,.own 1),(8,.nl false (.own 2)),(9,.d true (.int .u32))],[.cs 24 4 1 (.cons (.d true qT0) (.cons (.d false (.slice Trans.ty)) (.cons (.d true qT0) (.cons (.d true qT0) .nil)))),.arr 4 (.fz true) [0] .bool,.arr 67 (.fz true) [0] (.int .u32)]⟩
def qih:Shp:=⟨[(8,.nl false (.own 0))],[.arr 67 (.fz true) [0] (.int .u32)]⟩
def qme (n_0:Net):Option qL1 :=
 bnd (qro n_0.2.1 (n_0.2.1.length:Int) n_0.1 n_0.2.1 n_0.2.2.1 n_0.2.2.2.1 (0,[],[])) fun oe3 =>
 lk oe3 (fun e3 =>
   ckB (decide (0≤n_0.1)) <|
   ckB (mkOk (shlI .i64 1 n_0.1) (shlI .i64 1 n_0.1) 1) <|
   bnd (qrs e3.1 e3.2 n_0.1 n_0.2.1 n_0.2.2.1 n_0.2.2.2.1 (1,(List.replicate (Int.toNat (shlI .i64 1 n_0.1)) (false:Bool)),[])) fun oe6 =>
   lk oe6 (fun e6 =>
     some e6) (fun r=>some r)) (fun r=>some r)
def qoa {R:Type} (x_0:Int) (n_2:Int) (dn:Unit→Option R) (rt:Int→Option R):Option R :=
 bif decide ((256:Int)≤x_0) then
   ckB (decide (0≤(8:Int))) <|
   ckB (inR .i64 (n_2+8)) <|
   ckB (ix (IntKind.wrap .u8 (shrI .u64 x_0 8)) (ByteArray.size bytes0)) <|
   ckB (inR .i64 (((ByteArray.data bytes0).getD (Int.toNat (IntKind.wrap .u8 (shrI .u64 x_0 8))) 0).toNat:Int)) <|
   ckB (inR .i64 ((n_2+8)+(((ByteArray.data bytes0).getD (Int.toNat (IntKind.wrap .u8 (shrI .u64 x_0 8))) 0).toNat:Int))) <|
   rt ((n_2+8)+(((ByteArray.data bytes0).getD (Int.toNat (IntKind.wrap .u8 (shrI .u64 x_0 8))) 0).toNat:Int))
 else
   ckB (ix (IntKind.wrap .u8 x_0) (ByteArray.size bytes0)) <|
   ckB (inR .i64 (((ByteArray.data bytes0).getD (Int.toNat (IntKind.wrap .u8 x_0)) 0).toNat:Int)) <|
   ckB (inR .i64 (n_2+(((ByteArray.data bytes0).getD (Int.toNat (IntKind.wrap .u8 x_0)) 0).toNat:Int))) <|
   rt (n_2+(((ByteArray.data bytes0).getD (Int.toNat (IntKind.wrap .u8 x_0)) 0).toNat:Int))
def qes (x_0:Int) (n_2:Int):Option (Unit⊕Int) :=
 qoa x_0 n_2 (fun e=>some (.inl e)) (fun r=>some (.inr r))
def qp0:Shp:=⟨[(0,.d true (.int .u64)),(2,.d true qT0)],[]⟩
def qoy:Shp:=⟨[],[]⟩
def qt2 (x_0:Int):Option Int :=
 bif decide ((4294967296:Int)≤x_0) then
   ckB (decide (0≤(32:Int))) <|
   bif decide ((65536:Int)≤(shrI .u64 x_0 32)) then
     ckB (decide (0≤(16:Int))) <|
     ckB (inR .i64 ((32:Int)+16)) <|
     bnd (qes (shrI .u64 (shrI .u64 x_0 32) 16) ((32:Int)+16)) fun oe1 =>
     lk oe1 (fun e1 =>
       none) (fun r=>some r)
   else
     bnd (qes (shrI .u64 x_0 32) 32) fun oe2 =>
     lk oe2 (fun e2 =>
       none) (fun r=>some r)
 else
   bif decide ((65536:Int)≤x_0) then
     ckB (decide (0≤(16:Int))) <|
     ckB (inR .i64 ((0:Int)+16)) <|
     bnd (qes (shrI .u64 x_0 16) ((0:Int)+16)) fun oe3 =>
     lk oe3 (fun e3 =>
       none) (fun r=>some r)
   else
     bnd (qes x_0 0) fun oe4 =>
     lk oe4 (fun e4 =>
       none) (fun r=>some r)
def qrz (x_0:Int):Option Int :=
 bnd (qt2 x_0) fun r1 =>
 some r1
def qh6 (x_0:Int):Option Bool :=
 some (!decide (x_0=x_0))
def qld (x_0:Int) (y_1:Int):Option Int :=
 bnd (qh6 x_0) fun r1 =>
 bnd (qh6 y_1) fun r2 =>
 bif r1 then
   bif r2 then
     some 0
   else
     some (-1)
 else
   bif r2 then
     some 1
   else
     bif decide (x_0 < y_1) then
       some (-1)
     else
       bif decide (y_1 < x_0) then
         some 1
       else
         some 0
def qad {R:Type} (s1_0:qL1) (s2_1:qL1) (v_9:qL1) (v_10:Int) (v_11:Int) (nx:Int→Option R) (dn:Unit→Option R) (rt:Int→Option R):Option R :=
 bif decide (v_11 < v_10) then
   ckB (ix v_11 v_9.length) <|
   ckB (ix v_11 v_9.length) <|
   bif decide ((s2_1.length:Int)≤v_11) then
     rt 1
   else
     ckB (ix v_11 s2_1.length) <|
     ckB (ix v_11 s2_1.length) <|
     bnd (qld (v_9.getD (Int.toNat v_11) 0) (s2_1.getD (Int.toNat v_11) 0)) fun r1 =>
     bif (!decide (r1=0)) then
       rt r1
     else
       ckB (inR .i64 (v_11+1)) <|
       nx (v_11+1)
 else
   dn ()
def qj6 (s1_0:qL1) (s2_1:qL1) (v_9:qL1) (v_10:Int) (s0:Int):Option (Unit⊕Int) :=
 loopM (fun a=>qad s1_0 s2_1 v_9 v_10 a (fun a'=>some (.next a')) (fun e=>some (.done e)) (fun r=>some (.ret r))) s0
def qaf:Shp:=⟨[(0,.d false qT1),(1,.d false qT1),(9,.d false qT1),(10,.d true qT0),(11,.d true qT0)],[]⟩
def qab:Shp:=⟨[(0,.d false qT1),(1,.d false qT1)],[]⟩
def qcs (s1_0:qL1) (s2_1:qL1):Option Int :=
 bnd (qj6 s1_0 s2_1 s1_0 (s1_0.length:Int) 0) fun oe2 =>
 lk oe2 (fun e2 =>
   bif decide ((s1_0.length:Int) < (s2_1.length:Int)) then
     some (-1)
   else
     some 0) (fun r=>some r)
def qj (a_0:qL1) (b_1:qL1):Option Int :=
 bnd (qcs a_0 b_1) fun r1 =>
 some r1
def q55 {R:Type} (a_1:Int) (b_2:Int) (i_8:Int) (j_9:Int) (data_0:qL2) (nx:(Int×qL2)→Option R) (dn:qL2→Option R) (rt:qL2→Option R):Option R :=
 bif decide (a_1 < j_9) then
   ckB (ix j_9 data_0.length) <|
   ckB (ix j_9 data_0.length) <|
   ckB (inR .i64 (j_9 - 1)) <|
   ckB (ix (j_9 - 1) data_0.length) <|
   ckB (ix (j_9 - 1) data_0.length) <|
   bnd (qj (data_0.getD (Int.toNat j_9) []) (data_0.getD (Int.toNat (j_9 - 1)) [])) fun r1 =>
   bif decide (r1 < 0) then
     ckB (inR .i64 (j_9 - 1)) <|
     ckB (inR .i64 (j_9 - 1)) <|
     ckB (ix (j_9 - 1) data_0.length) <|
     ckB (ix (j_9 - 1) data_0.length) <|
     ckB (ix j_9 data_0.length) <|
     ckB (ix j_9 data_0.length) <|
     ckB (ix j_9 data_0.length) <|
     ckB (ix j_9 data_0.length) <|
     ckB (ix (j_9 - 1) (data_0.set (Int.toNat j_9) (data_0.getD (Int.toNat (j_9 - 1)) [])).length) <|
     ckB (ix (j_9 - 1) (data_0.set (Int.toNat j_9) (data_0.getD (Int.toNat (j_9 - 1)) [])).length) <|
     ckB (inR .i64 (j_9 - 1)) <|
     nx ((j_9 - 1),((data_0.set (Int.toNat j_9) (data_0.getD (Int.toNat (j_9 - 1)) [])).set (Int.toNat (j_9 - 1)) (data_0.getD (Int.toNat j_9) [])))
   else
     dn data_0
 else
   dn data_0
def qas (a_1:Int) (b_2:Int) (i_8:Int) (s0:(Int×qL2)):Option (qL2⊕qL2) :=
 loopM (fun a=>q55 a_1 b_2 i_8 a.1 a.2 (fun a'=>some (.next a')) (fun e=>some (.done e)) (fun r=>some (.ret r))) s0
def q53:Shp:=⟨[(0,.own 0),(1,.d true qT0),(2,.d true qT0),(3,.fn 49 .nil),(8,.d true qT0),(9,.d true qT0)],[.arr 34 (.fz true) [3] qT1]⟩
def q59:Shp:=⟨[(0,.own 0),(1,.d true qT0),(2,.d true qT0),(3,.fn 49 .nil),(8,.d true qT0)],[.arr 34 (.fz true) [3] qT1]⟩
def q5b {R:Type} (a_1:Int) (b_2:Int) (i_8:Int) (data_0:qL2) (nx:(Int×qL2)→Option R) (dn:qL2→Option R) (rt:qL2→Option R):Option R :=
 bif decide (i_8 < b_2) then
   bnd (qas a_1 b_2 i_8 (i_8,data_0)) fun oe2 =>
   lk oe2 (fun e2 =>
     ckB (inR .i64 (i_8+1)) <|
     nx ((i_8+1),e2)) (fun r=>rt r)
 else
   dn data_0
def qb5 (a_1:Int) (b_2:Int) (s0:(Int×qL2)):Option (qL2⊕qL2) :=
 loopM (fun a=>q5b a_1 b_2 a.1 a.2 (fun a'=>some (.next a')) (fun e=>some (.done e)) (fun r=>some (.ret r))) s0
def q5a:Shp:=⟨[(0,.own 0),(1,.d true qT0),(2,.d true qT0),(3,.fn 49 .nil),(8,.d true qT0)],[.arr 34 (.fz true) [3] qT1]⟩
def q57:Shp:=⟨[],[.arr 34 (.fz true) [3] qT1]⟩
def q61 (a_1:Int) (b_2:Int) (data_0:qL2):Option qL2 :=
 ckB (inR .i64 (a_1+1)) <|
 bnd (qb5 a_1 b_2 ((a_1+1),data_0)) fun oe3 =>
 lk oe3 (fun e3 =>
   some e3) (fun r=>some r)
def q6p {R:Type} (hi_2:Int) (first_3:Int) (root_10:Int) (child_11:Int) (data_0:qL2) (dn:qL2→Option R) (rt:qL2→Option R):Option R :=
 ckB (inR .i64 (first_3+root_10)) <|
 ckB (ix (first_3+root_10) data_0.length) <|
 ckB (ix (first_3+root_10) data_0.length) <|
 ckB (inR .i64 (first_3+child_11)) <|
 ckB (ix (first_3+child_11) data_0.length) <|
 ckB (ix (first_3+child_11) data_0.length) <|
 bnd (qj (data_0.getD (Int.toNat (first_3+root_10)) []) (data_0.getD (Int.toNat (first_3+child_11)) [])) fun r2 =>
 bif (!(decide (r2 < 0))) then
   rt data_0
 else
   ckB (inR .i64 (first_3+root_10)) <|
   ckB (inR .i64 (first_3+child_11)) <|
   ckB (inR .i64 (first_3+child_11)) <|
   ckB (ix (first_3+child_11) data_0.length) <|
   ckB (ix (first_3+child_11) data_0.length) <|
   ckB (inR .i64 (first_3+root_10)) <|
   ckB (ix (first_3+root_10) data_0.length) <|
   ckB (ix (first_3+root_10) data_0.length) <|
   ckB (ix (first_3+root_10) data_0.length) <|
   ckB (ix (first_3+root_10) data_0.length) <|
   ckB (ix (first_3+child_11) (data_0.set (Int.toNat (first_3+root_10)) (data_0.getD (Int.toNat (first_3+child_11)) [])).length) <|
   ckB (ix (first_3+child_11) (data_0.set (Int.toNat (first_3+root_10)) (data_0.getD (Int.toNat (first_3+child_11)) [])).length) <|
   dn ((data_0.set (Int.toNat (first_3+root_10)) (data_0.getD (Int.toNat (first_3+child_11)) [])).set (Int.toNat (first_3+child_11)) (data_0.getD (Int.toNat (first_3+root_10)) []))
def q3o (hi_2:Int) (first_3:Int) (root_10:Int) (child_11:Int) (data_0:qL2):Option (qL2⊕qL2) :=
 q6p hi_2 first_3 root_10 child_11 data_0 (fun e=>some (.inl e)) (fun r=>some (.inr r))
def q71:Shp:=⟨[(0,.own 0),(2,.d true qT0),(3,.d true qT0),(4,.fn 49 .nil),(10,.d true qT0),(11,.d true qT0)],[.arr 34 (.fz true) [3] qT1]⟩
def q6w:Shp:=⟨[(0,.own 0),(2,.d true qT0),(3,.d true qT0),(4,.fn 49 .nil),(10,.d true qT0)],[.arr 34 (.fz true) [3] qT1]⟩
def q72 {R:Type} (hi_2:Int) (first_3:Int) (root_10:Int) (data_0:qL2) (nx:(Int×qL2)→Option R) (dn:qL2→Option R) (rt:qL2→Option R):Option R :=
 ckB (inR .i64 ((2:Int)*root_10)) <|
 ckB (inR .i64 (((2:Int)*root_10)+1)) <|
 bif decide (hi_2≤(((2:Int)*root_10)+1)) then
   dn data_0
 else
   ckB (inR .i64 ((((2:Int)*root_10)+1)+1)) <|
   bif decide (((((2:Int)*root_10)+1)+1) < hi_2) then
     ckB (inR .i64 (first_3+(((2:Int)*root_10)+1))) <|
     ckB (ix (first_3+(((2:Int)*root_10)+1)) data_0.length) <|
     ckB (ix (first_3+(((2:Int)*root_10)+1)) data_0.length) <|
     ckB (inR .i64 (first_3+(((2:Int)*root_10)+1))) <|
     ckB (inR .i64 ((first_3+(((2:Int)*root_10)+1))+1)) <|
     ckB (ix ((first_3+(((2:Int)*root_10)+1))+1) data_0.length) <|
     ckB (ix ((first_3+(((2:Int)*root_10)+1))+1) data_0.length) <|
     bnd (qj (data_0.getD (Int.toNat (first_3+(((2:Int)*root_10)+1))) []) (data_0.getD (Int.toNat ((first_3+(((2:Int)*root_10)+1))+1)) [])) fun r1 =>
     bif decide (r1 < 0) then
       ckB (inR .i64 ((((2:Int)*root_10)+1)+1)) <|
       bnd (q3o hi_2 first_3 root_10 ((((2:Int)*root_10)+1)+1) data_0) fun oe3 =>
       lk oe3 (fun e3 =>
         nx (((((2:Int)*root_10)+1)+1),e3)) (fun r=>rt r)
     else
       bnd (q3o hi_2 first_3 root_10 (((2:Int)*root_10)+1) data_0) fun oe4 =>
       lk oe4 (fun e4 =>
         nx ((((2:Int)*root_10)+1),e4)) (fun r=>rt r)
   else
     bnd (q3o hi_2 first_3 root_10 (((2:Int)*root_10)+1) data_0) fun oe5 =>
     lk oe5 (fun e5 =>
       nx ((((2:Int)*root_10)+1),e5)) (fun r=>rt r)
def qem (hi_2:Int) (first_3:Int) (s0:(Int×qL2)):Option (qL2⊕qL2) :=
 loopM (fun a=>q72 hi_2 first_3 a.1 a.2 (fun a'=>some (.next a')) (fun e=>some (.done e)) (fun r=>some (.ret r))) s0
def q70:Shp:=⟨[(0,.own 0),(2,.d true qT0),(3,.d true qT0),(4,.fn 49 .nil),(10,.d true qT0)],[.arr 34 (.fz true) [3] qT1]⟩
def q6q:Shp:=⟨[],[.arr 34 (.fz true) [3] qT1]⟩
def q4h (lo_1:Int) (hi_2:Int) (first_3:Int) (data_0:qL2):Option qL2 :=
 bnd (qem hi_2 first_3 (lo_1,data_0)) fun oe6 =>
 lk oe6 (fun e6 =>
   some e6) (fun r=>some r)
def q6o {R:Type} (first_8:Int) (lo_9:Int) (hi_10:Int) (i_11:Int) (data_0:qL2) (nx:(Int×qL2)→Option R) (dn:qL2→Option R) (rt:qL2→Option R):Option R :=
 bif decide ((0:Int)≤i_11) then
   bnd (q4h i_11 hi_10 first_8 data_0) fun r1 =>
   ckB (decide (r1.length=data_0.length)) <|
   ckB (inR .i64 (i_11 - 1)) <|
   nx ((i_11 - 1),r1)
 else
   dn data_0
def qei (first_8:Int) (lo_9:Int) (hi_10:Int) (s0:(Int×qL2)):Option (qL2⊕qL2) :=
 loopM (fun a=>q6o first_8 lo_9 hi_10 a.1 a.2 (fun a'=>some (.next a')) (fun e=>some (.done e)) (fun r=>some (.ret r))) s0
def q74:Shp:=⟨[(0,.own 0),(3,.fn 49 .nil),(8,.d true qT0),(9,.d true qT0),(10,.d true qT0),(11,.d true qT0)],[.arr 34 (.fz true) [3] qT1]⟩
def q6y:Shp:=⟨[(0,.own 0),(3,.fn 49 .nil),(8,.d true qT0),(9,.d true qT0),(10,.d true qT0)],[.arr 34 (.fz true) [3] qT1]⟩
def q6t {R:Type} (first_8:Int) (lo_9:Int) (i_12:Int) (data_0:qL2) (nx:(Int×qL2)→Option R) (dn:qL2→Option R) (rt:qL2→Option R):Option R :=
 bif decide ((0:Int)≤i_12) then
   ckB (inR .i64 (first_8+i_12)) <|
   ckB (inR .i64 (first_8+i_12)) <|
   ckB (ix (first_8+i_12) data_0.length) <|
   ckB (ix (first_8+i_12) data_0.length) <|
   ckB (ix first_8 data_0.length) <|
   ckB (ix first_8 data_0.length) <|
   ckB (ix first_8 data_0.length) <|
   ckB (ix first_8 data_0.length) <|
   ckB (ix (first_8+i_12) (data_0.set (Int.toNat first_8) (data_0.getD (Int.toNat (first_8+i_12)) [])).length) <|
   ckB (ix (first_8+i_12) (data_0.set (Int.toNat first_8) (data_0.getD (Int.toNat (first_8+i_12)) [])).length) <|
   bnd (q4h lo_9 i_12 first_8 ((data_0.set (Int.toNat first_8) (data_0.getD (Int.toNat (first_8+i_12)) [])).set (Int.toNat (first_8+i_12)) (data_0.getD (Int.toNat first_8) []))) fun r3 =>
   ckB (decide (r3.length=((data_0.set (Int.toNat first_8) (data_0.getD (Int.toNat (first_8+i_12)) [])).set (Int.toNat (first_8+i_12)) (data_0.getD (Int.toNat first_8) [])).length)) <|
   ckB (inR .i64 (i_12 - 1)) <|
   nx ((i_12 - 1),r3)
 else
   dn data_0
def qeg (first_8:Int) (lo_9:Int) (s0:(Int×qL2)):Option (qL2⊕qL2) :=
 loopM (fun a=>q6t first_8 lo_9 a.1 a.2 (fun a'=>some (.next a')) (fun e=>some (.done e)) (fun r=>some (.ret r))) s0
def q6x:Shp:=⟨[(0,.own 0),(3,.fn 49 .nil),(8,.d true qT0),(9,.d true qT0),(12,.d true qT0)],[.arr 34 (.fz true) [3] qT1]⟩
def q6r:Shp:=⟨[],[.arr 34 (.fz true) [3] qT1]⟩
def q8n (a_1:Int) (b_2:Int) (data_0:qL2):Option qL2 :=
 ckB (inR .i64 (b_2 - a_1)) <|
 ckB (inR .i64 ((b_2 - a_1) - 1)) <|
 ckB (!decide ((2:Int)=0)) <|
 ckB (inR .i64 (Int.tdiv ((b_2 - a_1) - 1) 2)) <|
 bnd (qei a_1 0 (b_2 - a_1) ((Int.tdiv ((b_2 - a_1) - 1) 2),data_0)) fun oe2 =>
 lk oe2 (fun e2 =>
   ckB (inR .i64 ((b_2 - a_1) - 1)) <|
   bnd (qeg a_1 0 (((b_2 - a_1) - 1),e2)) fun oe4 =>
   lk oe4 (fun e4 =>
     some e4) (fun r=>some r)) (fun r=>some r)
def qe7 (length_0:Int):Option Int :=
 bnd (qrz (IntKind.wrap .u64 length_0)) fun r1 =>
 ckB (decide (0≤r1)) <|
 some (shlI .u64 1 r1)
def qeu (r_0:Int):Option (Int×Int) :=
 ckB (decide (0≤(13:Int))) <|
 ckB (decide (0≤(7:Int))) <|
 ckB (decide (0≤(17:Int))) <|
 some ((bitI .xor .u64 (bitI .xor .u64 (bitI .xor .u64 r_0 (shlI .u64 r_0 13)) (shrI .u64 (bitI .xor .u64 r_0 (shlI .u64 r_0 13)) 7)) (shlI .u64 (bitI .xor .u64 (bitI .xor .u64 r_0 (shlI .u64 r_0 13)) (shrI .u64 (bitI .xor .u64 r_0 (shlI .u64 r_0 13)) 7)) 17)),(bitI .xor .u64 (bitI .xor .u64 (bitI .xor .u64 r_0 (shlI .u64 r_0 13)) (shrI .u64 (bitI .xor .u64 r_0 (shlI .u64 r_0 13)) 7)) (shlI .u64 (bitI .xor .u64 (bitI .xor .u64 r_0 (shlI .u64 r_0 13)) (shrI .u64 (bitI .xor .u64 r_0 (shlI .u64 r_0 13)) 7)) 17)))
def q54 {R:Type} (a_1:Int) (length_8:Int) (modulus_10:Int) (idx_11:Int) (data_0:qL2) (random_9:Int) (nx:(Int×qL2×Int)→Option R) (dn:qL2→Option R) (rt:qL2→Option R):Option R :=
 ckB (!decide ((4:Int)=0)) <|
 ckB (inR .i64 (Int.tdiv length_8 4)) <|
 ckB (inR .i64 ((Int.tdiv length_8 4)*2)) <|
 ckB (inR .i64 (a_1+((Int.tdiv length_8 4)*2))) <|
 ckB (inR .i64 ((a_1+((Int.tdiv length_8 4)*2))+1)) <|
 bif decide (idx_11≤((a_1+((Int.tdiv length_8 4)*2))+1)) then
   bnd (qeu random_9) fun r2 =>
   ckB (inR .i64 (bitI .and .u64 r2.1 (IntKind.wrap .u64 (modulus_10 - 1)))) <|
   bif decide (length_8≤(bitI .and .u64 r2.1 (IntKind.wrap .u64 (modulus_10 - 1)))) then
     ckB (inR .i64 ((bitI .and .u64 r2.1 (IntKind.wrap .u64 (modulus_10 - 1))) - length_8)) <|
     ckB (inR .i64 (a_1+((bitI .and .u64 r2.1 (IntKind.wrap .u64 (modulus_10 - 1))) - length_8))) <|
     ckB (inR .i64 (a_1+((bitI .and .u64 r2.1 (IntKind.wrap .u64 (modulus_10 - 1))) - length_8))) <|
     ckB (ix (a_1+((bitI .and .u64 r2.1 (IntKind.wrap .u64 (modulus_10 - 1))) - length_8)) data_0.length) <|
     ckB (ix (a_1+((bitI .and .u64 r2.1 (IntKind.wrap .u64 (modulus_10 - 1))) - length_8)) data_0.length) <|
     ckB (ix idx_11 data_0.length) <|
     ckB (ix idx_11 data_0.length) <|
     ckB (ix idx_11 data_0.length) <|
     ckB (ix idx_11 data_0.length) <|
     ckB (ix (a_1+((bitI .and .u64 r2.1 (IntKind.wrap .u64 (modulus_10 - 1))) - length_8)) (data_0.set (Int.toNat idx_11) (data_0.getD (Int.toNat (a_1+((bitI .and .u64 r2.1 (IntKind.wrap .u64 (modulus_10 - 1))) - length_8))) [])).length) <|
     ckB (ix (a_1+((bitI .and .u64 r2.1 (IntKind.wrap .u64 (modulus_10 - 1))) - length_8)) (data_0.set (Int.toNat idx_11) (data_0.getD (Int.toNat (a_1+((bitI .and .u64 r2.1 (IntKind.wrap .u64 (modulus_10 - 1))) - length_8))) [])).length) <|
     ckB (inR .i64 (idx_11+1)) <|
     nx ((idx_11+1),((data_0.set (Int.toNat idx_11) (data_0.getD (Int.toNat (a_1+((bitI .and .u64 r2.1 (IntKind.wrap .u64 (modulus_10 - 1))) - length_8))) [])).set (Int.toNat (a_1+((bitI .and .u64 r2.1 (IntKind.wrap .u64 (modulus_10 - 1))) - length_8))) (data_0.getD (Int.toNat idx_11) [])),r2.2)
   else
     ckB (inR .i64 (a_1+(bitI .and .u64 r2.1 (IntKind.wrap .u64 (modulus_10 - 1))))) <|
     ckB (inR .i64 (a_1+(bitI .and .u64 r2.1 (IntKind.wrap .u64 (modulus_10 - 1))))) <|
     ckB (ix (a_1+(bitI .and .u64 r2.1 (IntKind.wrap .u64 (modulus_10 - 1)))) data_0.length) <|
     ckB (ix (a_1+(bitI .and .u64 r2.1 (IntKind.wrap .u64 (modulus_10 - 1)))) data_0.length) <|
     ckB (ix idx_11 data_0.length) <|
     ckB (ix idx_11 data_0.length) <|
     ckB (ix idx_11 data_0.length) <|
     ckB (ix idx_11 data_0.length) <|
     ckB (ix (a_1+(bitI .and .u64 r2.1 (IntKind.wrap .u64 (modulus_10 - 1)))) (data_0.set (Int.toNat idx_11) (data_0.getD (Int.toNat (a_1+(bitI .and .u64 r2.1 (IntKind.wrap .u64 (modulus_10 - 1))))) [])).length) <|
     ckB (ix (a_1+(bitI .and .u64 r2.1 (IntKind.wrap .u64 (modulus_10 - 1)))) (data_0.set (Int.toNat idx_11) (data_0.getD (Int.toNat (a_1+(bitI .and .u64 r2.1 (IntKind.wrap .u64 (modulus_10 - 1))))) [])).length) <|
     ckB (inR .i64 (idx_11+1)) <|
     nx ((idx_11+1),((data_0.set (Int.toNat idx_11) (data_0.getD (Int.toNat (a_1+(bitI .and .u64 r2.1 (IntKind.wrap .u64 (modulus_10 - 1))))) [])).set (Int.toNat (a_1+(bitI .and .u64 r2.1 (IntKind.wrap .u64 (modulus_10 - 1))))) (data_0.getD (Int.toNat idx_11) [])),r2.2)
 else
   dn data_0
def qar (a_1:Int) (length_8:Int) (modulus_10:Int) (s0:(Int×qL2×Int)):Option (qL2⊕qL2) :=
 loopM (fun a=>q54 a_1 length_8 modulus_10 a.1 a.2.1 a.2.2 (fun a'=>some (.next a')) (fun e=>some (.done e)) (fun r=>some (.ret r))) s0
def q58:Shp:=⟨[(0,.own 0),(1,.d true qT0),(8,.d true qT0),(9,.ptr 1),(10,.d true (.int .u64)),(11,.d true qT0)],[.arr 34 (.fz true) [3] qT1,.cs 116 1 1 (.cons (.d true (.int .u64)) .nil)]⟩
def q56:Shp:=⟨[],[.arr 34 (.fz true) [3] qT1]⟩
def q62 (a_1:Int) (b_2:Int) (data_0:qL2):Option qL2 :=
 ckB (inR .i64 (b_2 - a_1)) <|
 bif decide ((8:Int)≤(b_2 - a_1)) then
   bnd (qe7 (b_2 - a_1)) fun r1 =>
   ckB (!decide ((4:Int)=0)) <|
   ckB (inR .i64 (Int.tdiv (b_2 - a_1) 4)) <|
   ckB (inR .i64 ((Int.tdiv (b_2 - a_1) 4)*2)) <|
   ckB (inR .i64 (a_1+((Int.tdiv (b_2 - a_1) 4)*2))) <|
   ckB (inR .i64 ((a_1+((Int.tdiv (b_2 - a_1) 4)*2)) - 1)) <|
   bnd (qar a_1 (b_2 - a_1) r1 (((a_1+((Int.tdiv (b_2 - a_1) 4)*2)) - 1),data_0,(IntKind.wrap .u64 (b_2 - a_1)))) fun oe3 =>
   lk oe3 (fun e3 =>
     some e3) (fun r=>some r)
 else
   some data_0
def q2k (data_0:qL2) (a_1:Int) (b_2:Int) (swaps_3:Int):Option (Int×Int×Int) :=
 ckB (ix b_2 data_0.length) <|
 ckB (ix b_2 data_0.length) <|
 ckB (ix a_1 data_0.length) <|
 ckB (ix a_1 data_0.length) <|
 bnd (qj (data_0.getD (Int.toNat b_2) []) (data_0.getD (Int.toNat a_1) [])) fun r1 =>
 bif decide (r1 < 0) then
   ckB (inR .i64 (swaps_3+1)) <|
   some (b_2,a_1,(swaps_3+1))
 else
   some (a_1,b_2,swaps_3)
def q2m (data_0:qL2) (a_1:Int) (b_2:Int) (c_3:Int) (swaps_4:Int):Option (Int×Int) :=
 bnd (q2k data_0 a_1 b_2 swaps_4) fun r1 =>
 bnd (q2k data_0 r1.2.1 c_3 r1.2.2) fun r2 =>
 bnd (q2k data_0 r1.1 r2.1 r2.2.2) fun r3 =>
 some (r3.2.1,r3.2.2)
def q17 (data_0:qL2) (a_1:Int) (swaps_2:Int):Option (Int×Int) :=
 ckB (inR .i64 (a_1 - 1)) <|
 ckB (inR .i64 (a_1+1)) <|
 bnd (q2m data_0 (a_1 - 1) a_1 (a_1+1) swaps_2) fun r1 =>
 some (r1.1,r1.2)
def q5q {R:Type} (j_13:Int) (swaps_11:Int) (dn:Unit→Option R) (rt:(Int×Int)→Option R):Option R :=
 bif decide (swaps_11=0) then
   rt (j_13,1)
 else
   bif decide (swaps_11=12) then
     rt (j_13,2)
   else
     rt (j_13,0)
def q2h (j_13:Int) (swaps_11:Int):Option (Unit⊕(Int×Int)) :=
 q5q j_13 swaps_11 (fun e=>some (.inl e)) (fun r=>some (.inr r))
def q5s:Shp:=⟨[(11,.ptr 0),(13,.d true qT0)],[.cs 3 1 1 (.cons (.d true qT0) .nil)]⟩
def q5w:Shp:=⟨[],[]⟩
def q3d (data_0:qL2) (a_1:Int) (b_2:Int):Option (Int×Int) :=
 ckB (inR .i64 (b_2 - a_1)) <|
 ckB (!decide ((4:Int)=0)) <|
 ckB (inR .i64 (Int.tdiv (b_2 - a_1) 4)) <|
 ckB (inR .i64 ((Int.tdiv (b_2 - a_1) 4)*1)) <|
 ckB (inR .i64 (a_1+((Int.tdiv (b_2 - a_1) 4)*1))) <|
 ckB (!decide ((4:Int)=0)) <|
 ckB (inR .i64 (Int.tdiv (b_2 - a_1) 4)) <|
 ckB (inR .i64 ((Int.tdiv (b_2 - a_1) 4)*2)) <|
 ckB (inR .i64 (a_1+((Int.tdiv (b_2 - a_1) 4)*2))) <|
 ckB (!decide ((4:Int)=0)) <|
 ckB (inR .i64 (Int.tdiv (b_2 - a_1) 4)) <|
 ckB (inR .i64 ((Int.tdiv (b_2 - a_1) 4)*3)) <|
 ckB (inR .i64 (a_1+((Int.tdiv (b_2 - a_1) 4)*3))) <|
 bif decide ((8:Int)≤(b_2 - a_1)) then
   bif decide ((50:Int)≤(b_2 - a_1)) then
     bnd (q17 data_0 (a_1+((Int.tdiv (b_2 - a_1) 4)*1)) 0) fun r1 =>
     bnd (q17 data_0 (a_1+((Int.tdiv (b_2 - a_1) 4)*2)) r1.2) fun r2 =>
     bnd (q17 data_0 (a_1+((Int.tdiv (b_2 - a_1) 4)*3)) r2.2) fun r3 =>
     bnd (q2m data_0 r1.1 r2.1 r3.1 r3.2) fun r4 =>
     bnd (q2h r4.1 r4.2) fun oe5 =>
     lk oe5 (fun e5 =>
       none) (fun r=>some r)
   else
     bnd (q2m data_0 (a_1+((Int.tdiv (b_2 - a_1) 4)*1)) (a_1+((Int.tdiv (b_2 - a_1) 4)*2)) (a_1+((Int.tdiv (b_2 - a_1) 4)*3)) 0) fun r6 =>
     bnd (q2h r6.1 r6.2) fun oe7 =>
     lk oe7 (fun e7 =>
       none) (fun r=>some r)
 else
   bnd (q2h (a_1+((Int.tdiv (b_2 - a_1) 4)*2)) 0) fun oe8 =>
   lk oe8 (fun e8 =>
     none) (fun r=>some r)
def q5l {R:Type}  (i_8:Int) (j_9:Int) (data_0:qL2) (nx:(Int×Int×qL2)→Option R) (dn:qL2→Option R) (rt:qL2→Option R):Option R :=
 bif decide (i_8 < j_9) then
   ckB (ix j_9 data_0.length) <|
   ckB (ix j_9 data_0.length) <|
   ckB (ix i_8 data_0.length) <|
   ckB (ix i_8 data_0.length) <|
   ckB (ix i_8 data_0.length) <|
   ckB (ix i_8 data_0.length) <|
   ckB (ix j_9 (data_0.set (Int.toNat i_8) (data_0.getD (Int.toNat j_9) [])).length) <|
   ckB (ix j_9 (data_0.set (Int.toNat i_8) (data_0.getD (Int.toNat j_9) [])).length) <|
   ckB (inR .i64 (i_8+1)) <|
   ckB (inR .i64 (j_9 - 1)) <|
   nx ((i_8+1),(j_9 - 1),((data_0.set (Int.toNat i_8) (data_0.getD (Int.toNat j_9) [])).set (Int.toNat j_9) (data_0.getD (Int.toNat i_8) [])))
 else
   dn data_0
def qbq  (s0:(Int×Int×qL2)):Option (qL2⊕qL2) :=
 loopM (fun a=>q5l  a.1 a.2.1 a.2.2 (fun a'=>some (.next a')) (fun e=>some (.done e)) (fun r=>some (.ret r))) s0
def q5e:Shp:=⟨[(0,.own 0),(8,.d true qT0),(9,.d true qT0)],[.arr 34 (.fz true) [3] qT1]⟩
def q5d:Shp:=⟨[],[.arr 34 (.fz true) [3] qT1]⟩
def q2z (a_1:Int) (b_2:Int) (data_0:qL2):Option qL2 :=
 ckB (inR .i64 (b_2 - 1)) <|
 bnd (qbq  (a_1,(b_2 - 1),data_0)) fun oe1 =>
 lk oe1 (fun e1 =>
   some e1) (fun r=>some r)
def q2w {R:Type} (a_1:Int) (b_2:Int) (j_10:Int) (data_0:qL2) (i_9:Int) (nx:Int→Option R) (dn:Int→Option R) (rt:(Bool×qL2)→Option R):Option R :=
 bif decide (i_9 < b_2) then
   ckB (ix i_9 data_0.length) <|
   ckB (ix i_9 data_0.length) <|
   ckB (inR .i64 (i_9 - 1)) <|
   ckB (ix (i_9 - 1) data_0.length) <|
   ckB (ix (i_9 - 1) data_0.length) <|
   bnd (qj (data_0.getD (Int.toNat i_9) []) (data_0.getD (Int.toNat (i_9 - 1)) [])) fun r1 =>
   bif (!(decide (r1 < 0))) then
     ckB (inR .i64 (i_9+1)) <|
     nx (i_9+1)
   else
     dn i_9
 else
   dn i_9
def q8s (a_1:Int) (b_2:Int) (j_10:Int) (data_0:qL2) (s0:Int):Option (Int⊕(Bool×qL2)) :=
 loopM (fun a=>q2w a_1 b_2 j_10 data_0 a (fun a'=>some (.next a')) (fun e=>some (.done e)) (fun r=>some (.ret r))) s0
def q30:Shp:=⟨[(0,.own 0),(1,.d true qT0),(2,.d true qT0),(3,.fn 49 .nil),(9,.d true qT0),(10,.d true qT0)],[.arr 34 (.fz true) [3] qT1]⟩
def q2u:Shp:=⟨[(0,.own 0),(1,.d true qT0),(2,.d true qT0),(3,.fn 49 .nil),(9,.d true qT0),(10,.d true qT0)],[.arr 34 (.fz true) [3] qT1]⟩
def q34 {R:Type} (a_1:Int) (b_2:Int) (i_9:Int) (j_10:Int) (j_11:Int) (data_0:qL2) (nx:(Int×qL2)→Option R) (dn:qL2→Option R) (rt:(Bool×qL2)→Option R):Option R :=
 bif decide ((1:Int)≤j_11) then
   ckB (ix j_11 data_0.length) <|
   ckB (ix j_11 data_0.length) <|
   ckB (inR .i64 (j_11 - 1)) <|
   ckB (ix (j_11 - 1) data_0.length) <|
   ckB (ix (j_11 - 1) data_0.length) <|
   bnd (qj (data_0.getD (Int.toNat j_11) []) (data_0.getD (Int.toNat (j_11 - 1)) [])) fun r3 =>
   bif (!(decide (r3 < 0))) then
     dn data_0
   else
     ckB (inR .i64 (j_11 - 1)) <|
     ckB (inR .i64 (j_11 - 1)) <|
     ckB (ix (j_11 - 1) data_0.length) <|
     ckB (ix (j_11 - 1) data_0.length) <|
     ckB (ix j_11 data_0.length) <|
     ckB (ix j_11 data_0.length) <|
     ckB (ix j_11 data_0.length) <|
     ckB (ix j_11 data_0.length) <|
     ckB (ix (j_11 - 1) (data_0.set (Int.toNat j_11) (data_0.getD (Int.toNat (j_11 - 1)) [])).length) <|
     ckB (ix (j_11 - 1) (data_0.set (Int.toNat j_11) (data_0.getD (Int.toNat (j_11 - 1)) [])).length) <|
     ckB (inR .i64 (j_11 - 1)) <|
     nx ((j_11 - 1),((data_0.set (Int.toNat j_11) (data_0.getD (Int.toNat (j_11 - 1)) [])).set (Int.toNat (j_11 - 1)) (data_0.getD (Int.toNat j_11) [])))
 else
   dn data_0
def q8z (a_1:Int) (b_2:Int) (i_9:Int) (j_10:Int) (s0:(Int×qL2)):Option (qL2⊕(Bool×qL2)) :=
 loopM (fun a=>q34 a_1 b_2 i_9 j_10 a.1 a.2 (fun a'=>some (.next a')) (fun e=>some (.done e)) (fun r=>some (.ret r))) s0
def q33:Shp:=⟨[(0,.own 0),(1,.d true qT0),(2,.d true qT0),(3,.fn 49 .nil),(9,.d true qT0),(10,.d true qT0),(11,.d true qT0)],[.arr 34 (.fz true) [3] qT1]⟩
def q2t:Shp:=⟨[(0,.own 0),(1,.d true qT0),(2,.d true qT0),(3,.fn 49 .nil),(9,.d true qT0),(10,.d true qT0)],[.arr 34 (.fz true) [3] qT1]⟩
def q2n {R:Type} (a_1:Int) (b_2:Int) (i_9:Int) (j_10:Int) (j_12:Int) (data_0:qL2) (nx:(Int×qL2)→Option R) (dn:qL2→Option R) (rt:(Bool×qL2)→Option R):Option R :=
 bif decide (j_12 < b_2) then
   ckB (ix j_12 data_0.length) <|
   ckB (ix j_12 data_0.length) <|
   ckB (inR .i64 (j_12 - 1)) <|
   ckB (ix (j_12 - 1) data_0.length) <|
   ckB (ix (j_12 - 1) data_0.length) <|
   bnd (qj (data_0.getD (Int.toNat j_12) []) (data_0.getD (Int.toNat (j_12 - 1)) [])) fun r5 =>
   bif (!(decide (r5 < 0))) then
     dn data_0
   else
     ckB (inR .i64 (j_12 - 1)) <|
     ckB (inR .i64 (j_12 - 1)) <|
     ckB (ix (j_12 - 1) data_0.length) <|
     ckB (ix (j_12 - 1) data_0.length) <|
     ckB (ix j_12 data_0.length) <|
     ckB (ix j_12 data_0.length) <|
     ckB (ix j_12 data_0.length) <|
     ckB (ix j_12 data_0.length) <|
     ckB (ix (j_12 - 1) (data_0.set (Int.toNat j_12) (data_0.getD (Int.toNat (j_12 - 1)) [])).length) <|
     ckB (ix (j_12 - 1) (data_0.set (Int.toNat j_12) (data_0.getD (Int.toNat (j_12 - 1)) [])).length) <|
     ckB (inR .i64 (j_12+1)) <|
     nx ((j_12+1),((data_0.set (Int.toNat j_12) (data_0.getD (Int.toNat (j_12 - 1)) [])).set (Int.toNat (j_12 - 1)) (data_0.getD (Int.toNat j_12) [])))
 else
   dn data_0
def q8x (a_1:Int) (b_2:Int) (i_9:Int) (j_10:Int) (s0:(Int×qL2)):Option (qL2⊕(Bool×qL2)) :=
 loopM (fun a=>q2n a_1 b_2 i_9 j_10 a.1 a.2 (fun a'=>some (.next a')) (fun e=>some (.done e)) (fun r=>some (.ret r))) s0
def q2p:Shp:=⟨[(0,.own 0),(1,.d true qT0),(2,.d true qT0),(3,.fn 49 .nil),(9,.d true qT0),(10,.d true qT0),(12,.d true qT0)],[.arr 34 (.fz true) [3] qT1]⟩
def q2o:Shp:=⟨[(0,.own 0),(1,.d true qT0),(2,.d true qT0),(3,.fn 49 .nil),(9,.d true qT0),(10,.d true qT0)],[.arr 34 (.fz true) [3] qT1]⟩
def q2x {R:Type} (a_1:Int) (b_2:Int) (i_9:Int) (j_10:Int) (data_0:qL2) (dn:qL2→Option R) (rt:(Bool×qL2)→Option R):Option R :=
 ckB (inR .i64 (b_2 - i_9)) <|
 bif decide ((2:Int)≤(b_2 - i_9)) then
   ckB (inR .i64 (i_9+1)) <|
   bnd (q8x a_1 b_2 i_9 j_10 ((i_9+1),data_0)) fun oe6 =>
   lk oe6 (fun e6 =>
     dn e6) (fun r=>rt r)
 else
   dn data_0
def q37 (a_1:Int) (b_2:Int) (i_9:Int) (j_10:Int) (data_0:qL2):Option (qL2⊕(Bool×qL2)) :=
 q2x a_1 b_2 i_9 j_10 data_0 (fun e=>some (.inl e)) (fun r=>some (.inr r))
def q2q:Shp:=⟨[(0,.own 0),(1,.d true qT0),(2,.d true qT0),(3,.fn 49 .nil),(9,.d true qT0),(10,.d true qT0)],[.arr 34 (.fz true) [3] qT1]⟩
def q2s:Shp:=⟨[(0,.own 0),(1,.d true qT0),(2,.d true qT0),(3,.fn 49 .nil),(9,.d true qT0),(10,.d true qT0)],[.arr 34 (.fz true) [3] qT1]⟩
def q2v {R:Type} (a_1:Int) (b_2:Int) (i_9:Int) (j_10:Int) (data_0:qL2) (nx:(Int×Int×qL2)→Option R) (dn:qL2→Option R) (rt:(Bool×qL2)→Option R):Option R :=
 bif decide (j_10 < 5) then
   bnd (q8s a_1 b_2 j_10 data_0 i_9) fun oe2 =>
   lk oe2 (fun e2 =>
     bif decide (e2=b_2) then
       rt (true,data_0)
     else
       ckB (inR .i64 (b_2 - a_1)) <|
       bif decide ((b_2 - a_1) < 50) then
         rt (false,data_0)
       else
         ckB (inR .i64 (e2 - 1)) <|
         ckB (inR .i64 (e2 - 1)) <|
         ckB (ix (e2 - 1) data_0.length) <|
         ckB (ix (e2 - 1) data_0.length) <|
         ckB (ix e2 data_0.length) <|
         ckB (ix e2 data_0.length) <|
         ckB (ix e2 data_0.length) <|
         ckB (ix e2 data_0.length) <|
         ckB (ix (e2 - 1) (data_0.set (Int.toNat e2) (data_0.getD (Int.toNat (e2 - 1)) [])).length) <|
         ckB (ix (e2 - 1) (data_0.set (Int.toNat e2) (data_0.getD (Int.toNat (e2 - 1)) [])).length) <|
         ckB (inR .i64 (e2 - a_1)) <|
         bif decide ((2:Int)≤(e2 - a_1)) then
           ckB (inR .i64 (e2 - 1)) <|
           bnd (q8z a_1 b_2 e2 j_10 ((e2 - 1),((data_0.set (Int.toNat e2) (data_0.getD (Int.toNat (e2 - 1)) [])).set (Int.toNat (e2 - 1)) (data_0.getD (Int.toNat e2) [])))) fun oe4 =>
           lk oe4 (fun e4 =>
             bnd (q37 a_1 b_2 e2 j_10 e4) fun oe7 =>
             lk oe7 (fun e7 =>
               ckB (inR .i64 (j_10+1)) <|
               nx (e2,(j_10+1),e7)) (fun r=>rt r)) (fun r=>rt r)
         else
           bnd (q37 a_1 b_2 e2 j_10 ((data_0.set (Int.toNat e2) (data_0.getD (Int.toNat (e2 - 1)) [])).set (Int.toNat (e2 - 1)) (data_0.getD (Int.toNat e2) []))) fun oe8 =>
           lk oe8 (fun e8 =>
             ckB (inR .i64 (j_10+1)) <|
             nx (e2,(j_10+1),e8)) (fun r=>rt r)) (fun r=>rt r)
 else
   dn data_0
def q8q (a_1:Int) (b_2:Int) (s0:(Int×Int×qL2)):Option (qL2⊕(Bool×qL2)) :=
 loopM (fun a=>q2v a_1 b_2 a.1 a.2.1 a.2.2 (fun a'=>some (.next a')) (fun e=>some (.done e)) (fun r=>some (.ret r))) s0
def q35:Shp:=⟨[(0,.own 0),(1,.d true qT0),(2,.d true qT0),(3,.fn 49 .nil),(9,.d true qT0),(10,.d true qT0)],[.arr 34 (.fz true) [3] qT1]⟩
def q31:Shp:=⟨[],[.arr 34 (.fz true) [3] qT1]⟩
def q3w (a_1:Int) (b_2:Int) (data_0:qL2):Option (Bool×qL2) :=
 ckB (inR .i64 (a_1+1)) <|
 bnd (q8q a_1 b_2 ((a_1+1),0,data_0)) fun oe9 =>
 lk oe9 (fun e9 =>
   some (false,e9)) (fun r=>some r)
def q4p {R:Type} (a_1:Int) (j_12:Int) (data_0:qL2) (i_11:Int) (nx:Int→Option R) (dn:Int→Option R) (rt:(Int×qL2)→Option R):Option R :=
 bif decide (i_11≤j_12) then
   ckB (ix a_1 data_0.length) <|
   ckB (ix a_1 data_0.length) <|
   ckB (ix i_11 data_0.length) <|
   ckB (ix i_11 data_0.length) <|
   bnd (qj (data_0.getD (Int.toNat a_1) []) (data_0.getD (Int.toNat i_11) [])) fun r1 =>
   bif (!(decide (r1 < 0))) then
     ckB (inR .i64 (i_11+1)) <|
     nx (i_11+1)
   else
     dn i_11
 else
   dn i_11
def qam (a_1:Int) (j_12:Int) (data_0:qL2) (s0:Int):Option (Int⊕(Int×qL2)) :=
 loopM (fun a=>q4p a_1 j_12 data_0 a (fun a'=>some (.next a')) (fun e=>some (.done e)) (fun r=>some (.ret r))) s0
def q4n:Shp:=⟨[(0,.own 0),(1,.d true qT0),(4,.fn 49 .nil),(11,.d true qT0),(12,.d true qT0)],[.arr 34 (.fz true) [3] qT1]⟩
def q4r:Shp:=⟨[(0,.own 0),(1,.d true qT0),(4,.fn 49 .nil),(11,.d true qT0),(12,.d true qT0)],[.arr 34 (.fz true) [3] qT1]⟩
def q4o {R:Type} (a_1:Int) (i_11:Int) (data_0:qL2) (j_12:Int) (nx:Int→Option R) (dn:Int→Option R) (rt:(Int×qL2)→Option R):Option R :=
 bif decide (i_11≤j_12) then
   ckB (ix a_1 data_0.length) <|
   ckB (ix a_1 data_0.length) <|
   ckB (ix j_12 data_0.length) <|
   ckB (ix j_12 data_0.length) <|
   bnd (qj (data_0.getD (Int.toNat a_1) []) (data_0.getD (Int.toNat j_12) [])) fun r3 =>
   bif decide (r3 < 0) then
     ckB (inR .i64 (j_12 - 1)) <|
     nx (j_12 - 1)
   else
     dn j_12
 else
   dn j_12
def qaj (a_1:Int) (i_11:Int) (data_0:qL2) (s0:Int):Option (Int⊕(Int×qL2)) :=
 loopM (fun a=>q4o a_1 i_11 data_0 a (fun a'=>some (.next a')) (fun e=>some (.done e)) (fun r=>some (.ret r))) s0
def q4m:Shp:=⟨[(0,.own 0),(1,.d true qT0),(4,.fn 49 .nil),(11,.d true qT0),(12,.d true qT0)],[.arr 34 (.fz true) [3] qT1]⟩
def q4u:Shp:=⟨[(0,.own 0),(1,.d true qT0),(4,.fn 49 .nil),(11,.d true qT0),(12,.d true qT0)],[.arr 34 (.fz true) [3] qT1]⟩
def q4s {R:Type} (a_1:Int) (i_11:Int) (j_12:Int) (data_0:qL2) (nx:(Int×Int×qL2)→Option R) (dn:(Int×qL2)→Option R) (rt:(Int×qL2)→Option R):Option R :=
 bnd (qam a_1 j_12 data_0 i_11) fun oe2 =>
 lk oe2 (fun e2 =>
   bnd (qaj a_1 e2 data_0 j_12) fun oe4 =>
   lk oe4 (fun e4 =>
     bif decide (e4 < e2) then
       dn (e2,data_0)
     else
       ckB (ix e4 data_0.length) <|
       ckB (ix e4 data_0.length) <|
       ckB (ix e2 data_0.length) <|
       ckB (ix e2 data_0.length) <|
       ckB (ix e2 data_0.length) <|
       ckB (ix e2 data_0.length) <|
       ckB (ix e4 (data_0.set (Int.toNat e2) (data_0.getD (Int.toNat e4) [])).length) <|
       ckB (ix e4 (data_0.set (Int.toNat e2) (data_0.getD (Int.toNat e4) [])).length) <|
       ckB (inR .i64 (e2+1)) <|
       ckB (inR .i64 (e4 - 1)) <|
       nx ((e2+1),(e4 - 1),((data_0.set (Int.toNat e2) (data_0.getD (Int.toNat e4) [])).set (Int.toNat e4) (data_0.getD (Int.toNat e2) [])))) (fun r=>rt r)) (fun r=>rt r)
def qao (a_1:Int) (s0:(Int×Int×qL2)):Option ((Int×qL2)⊕(Int×qL2)) :=
 loopM (fun a=>q4s a_1 a.1 a.2.1 a.2.2 (fun a'=>some (.next a')) (fun e=>some (.done e)) (fun r=>some (.ret r))) s0
def q4t:Shp:=⟨[(0,.own 0),(1,.d true qT0),(4,.fn 49 .nil),(11,.d true qT0),(12,.d true qT0)],[.arr 34 (.fz true) [3] qT1]⟩
def q4q:Shp:=⟨[(11,.d true qT0)],[.arr 34 (.fz true) [3] qT1]⟩
def qh (a_1:Int) (b_2:Int) (pivot_3:Int) (data_0:qL2):Option (Int×qL2) :=
 ckB (ix pivot_3 data_0.length) <|
 ckB (ix pivot_3 data_0.length) <|
 ckB (ix a_1 data_0.length) <|
 ckB (ix a_1 data_0.length) <|
 ckB (ix a_1 data_0.length) <|
 ckB (ix a_1 data_0.length) <|
 ckB (ix pivot_3 (data_0.set (Int.toNat a_1) (data_0.getD (Int.toNat pivot_3) [])).length) <|
 ckB (ix pivot_3 (data_0.set (Int.toNat a_1) (data_0.getD (Int.toNat pivot_3) [])).length) <|
 ckB (inR .i64 (a_1+1)) <|
 ckB (inR .i64 (b_2 - 1)) <|
 bnd (qao a_1 ((a_1+1),(b_2 - 1),((data_0.set (Int.toNat a_1) (data_0.getD (Int.toNat pivot_3) [])).set (Int.toNat pivot_3) (data_0.getD (Int.toNat a_1) [])))) fun oe5 =>
 lk oe5 (fun e5 =>
   some (e5.1,e5.2)) (fun r=>some r)
def q68 {R:Type} (a_1:Int) (j_13:Int) (data_0:qL2) (i_12:Int) (nx:Int→Option R) (dn:Int→Option R) (rt:(Int×Bool×qL2)→Option R):Option R :=
 bif decide (i_12≤j_13) then
   ckB (ix i_12 data_0.length) <|
   ckB (ix i_12 data_0.length) <|
   ckB (ix a_1 data_0.length) <|
   ckB (ix a_1 data_0.length) <|
   bnd (qj (data_0.getD (Int.toNat i_12) []) (data_0.getD (Int.toNat a_1) [])) fun r1 =>
   bif decide (r1 < 0) then
     ckB (inR .i64 (i_12+1)) <|
     nx (i_12+1)
   else
     dn i_12
 else
   dn i_12
def qd4 (a_1:Int) (j_13:Int) (data_0:qL2) (s0:Int):Option (Int⊕(Int×Bool×qL2)) :=
 loopM (fun a=>q68 a_1 j_13 data_0 a (fun a'=>some (.next a')) (fun e=>some (.done e)) (fun r=>some (.ret r))) s0
def q6d:Shp:=⟨[(0,.own 0),(1,.d true qT0),(4,.fn 49 .nil),(12,.d true qT0),(13,.d true qT0)],[.arr 34 (.fz true) [3] qT1]⟩
def q6f:Shp:=⟨[(0,.own 0),(1,.d true qT0),(4,.fn 49 .nil),(12,.d true qT0),(13,.d true qT0)],[.arr 34 (.fz true) [3] qT1]⟩
def q6l {R:Type} (a_1:Int) (i_12:Int) (data_0:qL2) (j_13:Int) (nx:Int→Option R) (dn:Int→Option R) (rt:(Int×Bool×qL2)→Option R):Option R :=
 bif decide (i_12≤j_13) then
   ckB (ix j_13 data_0.length) <|
   ckB (ix j_13 data_0.length) <|
   ckB (ix a_1 data_0.length) <|
   ckB (ix a_1 data_0.length) <|
   bnd (qj (data_0.getD (Int.toNat j_13) []) (data_0.getD (Int.toNat a_1) [])) fun r3 =>
   bif (!(decide (r3 < 0))) then
     ckB (inR .i64 (j_13 - 1)) <|
     nx (j_13 - 1)
   else
     dn j_13
 else
   dn j_13
def qds (a_1:Int) (i_12:Int) (data_0:qL2) (s0:Int):Option (Int⊕(Int×Bool×qL2)) :=
 loopM (fun a=>q6l a_1 i_12 data_0 a (fun a'=>some (.next a')) (fun e=>some (.done e)) (fun r=>some (.ret r))) s0
def q6a:Shp:=⟨[(0,.own 0),(1,.d true qT0),(4,.fn 49 .nil),(12,.d true qT0),(13,.d true qT0)],[.arr 34 (.fz true) [3] qT1]⟩
def q69:Shp:=⟨[(0,.own 0),(1,.d true qT0),(4,.fn 49 .nil),(12,.d true qT0),(13,.d true qT0)],[.arr 34 (.fz true) [3] qT1]⟩
def q6g {R:Type} (a_1:Int) (j_13:Int) (data_0:qL2) (i_12:Int) (nx:Int→Option R) (dn:Int→Option R) (rt:(Int×Bool×qL2)→Option R):Option R :=
 bif decide (i_12≤j_13) then
   ckB (ix i_12 data_0.length) <|
   ckB (ix i_12 data_0.length) <|
   ckB (ix a_1 data_0.length) <|
   ckB (ix a_1 data_0.length) <|
   bnd (qj (data_0.getD (Int.toNat i_12) []) (data_0.getD (Int.toNat a_1) [])) fun r5 =>
   bif decide (r5 < 0) then
     ckB (inR .i64 (i_12+1)) <|
     nx (i_12+1)
   else
     dn i_12
 else
   dn i_12
def qdf (a_1:Int) (j_13:Int) (data_0:qL2) (s0:Int):Option (Int⊕(Int×Bool×qL2)) :=
 loopM (fun a=>q6g a_1 j_13 data_0 a (fun a'=>some (.next a')) (fun e=>some (.done e)) (fun r=>some (.ret r))) s0
def q6k:Shp:=⟨[(0,.own 0),(1,.d true qT0),(4,.fn 49 .nil),(12,.d true qT0),(13,.d true qT0)],[.arr 34 (.fz true) [3] qT1]⟩
def q6m:Shp:=⟨[(0,.own 0),(1,.d true qT0),(4,.fn 49 .nil),(12,.d true qT0),(13,.d true qT0)],[.arr 34 (.fz true) [3] qT1]⟩
def q6e {R:Type} (a_1:Int) (i_12:Int) (data_0:qL2) (j_13:Int) (nx:Int→Option R) (dn:Int→Option R) (rt:(Int×Bool×qL2)→Option R):Option R :=
 bif decide (i_12≤j_13) then
   ckB (ix j_13 data_0.length) <|
   ckB (ix j_13 data_0.length) <|
   ckB (ix a_1 data_0.length) <|
   ckB (ix a_1 data_0.length) <|
   bnd (qj (data_0.getD (Int.toNat j_13) []) (data_0.getD (Int.toNat a_1) [])) fun r7 =>
   bif (!(decide (r7 < 0))) then
     ckB (inR .i64 (j_13 - 1)) <|
     nx (j_13 - 1)
   else
     dn j_13
 else
   dn j_13
def qd7 (a_1:Int) (i_12:Int) (data_0:qL2) (s0:Int):Option (Int⊕(Int×Bool×qL2)) :=
 loopM (fun a=>q6e a_1 i_12 data_0 a (fun a'=>some (.next a')) (fun e=>some (.done e)) (fun r=>some (.ret r))) s0
def q6j:Shp:=⟨[(0,.own 0),(1,.d true qT0),(4,.fn 49 .nil),(12,.d true qT0),(13,.d true qT0)],[.arr 34 (.fz true) [3] qT1]⟩
def q6h:Shp:=⟨[(0,.own 0),(1,.d true qT0),(4,.fn 49 .nil),(12,.d true qT0),(13,.d true qT0)],[.arr 34 (.fz true) [3] qT1]⟩
def q67 {R:Type} (a_1:Int) (i_12:Int) (j_13:Int) (data_0:qL2) (nx:(Int×Int×qL2)→Option R) (dn:(Int×qL2)→Option R) (rt:(Int×Bool×qL2)→Option R):Option R :=
 bnd (qdf a_1 j_13 data_0 i_12) fun oe6 =>
 lk oe6 (fun e6 =>
   bnd (qd7 a_1 e6 data_0 j_13) fun oe8 =>
   lk oe8 (fun e8 =>
     bif decide (e8 < e6) then
       dn (e8,data_0)
     else
       ckB (ix e8 data_0.length) <|
       ckB (ix e8 data_0.length) <|
       ckB (ix e6 data_0.length) <|
       ckB (ix e6 data_0.length) <|
       ckB (ix e6 data_0.length) <|
       ckB (ix e6 data_0.length) <|
       ckB (ix e8 (data_0.set (Int.toNat e6) (data_0.getD (Int.toNat e8) [])).length) <|
       ckB (ix e8 (data_0.set (Int.toNat e6) (data_0.getD (Int.toNat e8) [])).length) <|
       ckB (inR .i64 (e6+1)) <|
       ckB (inR .i64 (e8 - 1)) <|
       nx ((e6+1),(e8 - 1),((data_0.set (Int.toNat e6) (data_0.getD (Int.toNat e8) [])).set (Int.toNat e8) (data_0.getD (Int.toNat e6) [])))) (fun r=>rt r)) (fun r=>rt r)
def qdc (a_1:Int) (s0:(Int×Int×qL2)):Option ((Int×qL2)⊕(Int×Bool×qL2)) :=
 loopM (fun a=>q67 a_1 a.1 a.2.1 a.2.2 (fun a'=>some (.next a')) (fun e=>some (.done e)) (fun r=>some (.ret r))) s0
def q6c:Shp:=⟨[(0,.own 0),(1,.d true qT0),(4,.fn 49 .nil),(12,.d true qT0),(13,.d true qT0)],[.arr 34 (.fz true) [3] qT1]⟩
def q6i:Shp:=⟨[(0,.own 0),(1,.d true qT0),(13,.d true qT0)],[.arr 34 (.fz true) [3] qT1]⟩
def q88 (a_1:Int) (b_2:Int) (pivot_3:Int) (data_0:qL2):Option (Int×Bool×qL2) :=
 ckB (ix pivot_3 data_0.length) <|
 ckB (ix pivot_3 data_0.length) <|
 ckB (ix a_1 data_0.length) <|
 ckB (ix a_1 data_0.length) <|
 ckB (ix a_1 data_0.length) <|
 ckB (ix a_1 data_0.length) <|
 ckB (ix pivot_3 (data_0.set (Int.toNat a_1) (data_0.getD (Int.toNat pivot_3) [])).length) <|
 ckB (ix pivot_3 (data_0.set (Int.toNat a_1) (data_0.getD (Int.toNat pivot_3) [])).length) <|
 ckB (inR .i64 (a_1+1)) <|
 ckB (inR .i64 (b_2 - 1)) <|
 bnd (qd4 a_1 (b_2 - 1) ((data_0.set (Int.toNat a_1) (data_0.getD (Int.toNat pivot_3) [])).set (Int.toNat pivot_3) (data_0.getD (Int.toNat a_1) [])) (a_1+1)) fun oe2 =>
 lk oe2 (fun e2 =>
   bnd (qds a_1 e2 ((data_0.set (Int.toNat a_1) (data_0.getD (Int.toNat pivot_3) [])).set (Int.toNat pivot_3) (data_0.getD (Int.toNat a_1) [])) (b_2 - 1)) fun oe4 =>
   lk oe4 (fun e4 =>
     bif decide (e4 < e2) then
       ckB (ix a_1 ((data_0.set (Int.toNat a_1) (data_0.getD (Int.toNat pivot_3) [])).set (Int.toNat pivot_3) (data_0.getD (Int.toNat a_1) [])).length) <|
       ckB (ix a_1 ((data_0.set (Int.toNat a_1) (data_0.getD (Int.toNat pivot_3) [])).set (Int.toNat pivot_3) (data_0.getD (Int.toNat a_1) [])).length) <|
       ckB (ix e4 ((data_0.set (Int.toNat a_1) (data_0.getD (Int.toNat pivot_3) [])).set (Int.toNat pivot_3) (data_0.getD (Int.toNat a_1) [])).length) <|
       ckB (ix e4 ((data_0.set (Int.toNat a_1) (data_0.getD (Int.toNat pivot_3) [])).set (Int.toNat pivot_3) (data_0.getD (Int.toNat a_1) [])).length) <|
       ckB (ix e4 ((data_0.set (Int.toNat a_1) (data_0.getD (Int.toNat pivot_3) [])).set (Int.toNat pivot_3) (data_0.getD (Int.toNat a_1) [])).length) <|
       ckB (ix e4 ((data_0.set (Int.toNat a_1) (data_0.getD (Int.toNat pivot_3) [])).set (Int.toNat pivot_3) (data_0.getD (Int.toNat a_1) [])).length) <|
       ckB (ix a_1 (((data_0.set (Int.toNat a_1) (data_0.getD (Int.toNat pivot_3) [])).set (Int.toNat pivot_3) (data_0.getD (Int.toNat a_1) [])).set (Int.toNat e4) (((data_0.set (Int.toNat a_1) (data_0.getD (Int.toNat pivot_3) [])).set (Int.toNat pivot_3) (data_0.getD (Int.toNat a_1) [])).getD (Int.toNat a_1) [])).length) <|
       ckB (ix a_1 (((data_0.set (Int.toNat a_1) (data_0.getD (Int.toNat pivot_3) [])).set (Int.toNat pivot_3) (data_0.getD (Int.toNat a_1) [])).set (Int.toNat e4) (((data_0.set (Int.toNat a_1) (data_0.getD (Int.toNat pivot_3) [])).set (Int.toNat pivot_3) (data_0.getD (Int.toNat a_1) [])).getD (Int.toNat a_1) [])).length) <|
       some (e4,true,((((data_0.set (Int.toNat a_1) (data_0.getD (Int.toNat pivot_3) [])).set (Int.toNat pivot_3) (data_0.getD (Int.toNat a_1) [])).set (Int.toNat e4) (((data_0.set (Int.toNat a_1) (data_0.getD (Int.toNat pivot_3) [])).set (Int.toNat pivot_3) (data_0.getD (Int.toNat a_1) [])).getD (Int.toNat a_1) [])).set (Int.toNat a_1) (((data_0.set (Int.toNat a_1) (data_0.getD (Int.toNat pivot_3) [])).set (Int.toNat pivot_3) (data_0.getD (Int.toNat a_1) [])).getD (Int.toNat e4) [])))
     else
       ckB (ix e4 ((data_0.set (Int.toNat a_1) (data_0.getD (Int.toNat pivot_3) [])).set (Int.toNat pivot_3) (data_0.getD (Int.toNat a_1) [])).length) <|
       ckB (ix e4 ((data_0.set (Int.toNat a_1) (data_0.getD (Int.toNat pivot_3) [])).set (Int.toNat pivot_3) (data_0.getD (Int.toNat a_1) [])).length) <|
       ckB (ix e2 ((data_0.set (Int.toNat a_1) (data_0.getD (Int.toNat pivot_3) [])).set (Int.toNat pivot_3) (data_0.getD (Int.toNat a_1) [])).length) <|
       ckB (ix e2 ((data_0.set (Int.toNat a_1) (data_0.getD (Int.toNat pivot_3) [])).set (Int.toNat pivot_3) (data_0.getD (Int.toNat a_1) [])).length) <|
       ckB (ix e2 ((data_0.set (Int.toNat a_1) (data_0.getD (Int.toNat pivot_3) [])).set (Int.toNat pivot_3) (data_0.getD (Int.toNat a_1) [])).length) <|
       ckB (ix e2 ((data_0.set (Int.toNat a_1) (data_0.getD (Int.toNat pivot_3) [])).set (Int.toNat pivot_3) (data_0.getD (Int.toNat a_1) [])).length) <|
       ckB (ix e4 (((data_0.set (Int.toNat a_1) (data_0.getD (Int.toNat pivot_3) [])).set (Int.toNat pivot_3) (data_0.getD (Int.toNat a_1) [])).set (Int.toNat e2) (((data_0.set (Int.toNat a_1) (data_0.getD (Int.toNat pivot_3) [])).set (Int.toNat pivot_3) (data_0.getD (Int.toNat a_1) [])).getD (Int.toNat e4) [])).length) <|
       ckB (ix e4 (((data_0.set (Int.toNat a_1) (data_0.getD (Int.toNat pivot_3) [])).set (Int.toNat pivot_3) (data_0.getD (Int.toNat a_1) [])).set (Int.toNat e2) (((data_0.set (Int.toNat a_1) (data_0.getD (Int.toNat pivot_3) [])).set (Int.toNat pivot_3) (data_0.getD (Int.toNat a_1) [])).getD (Int.toNat e4) [])).length) <|
       ckB (inR .i64 (e2+1)) <|
       ckB (inR .i64 (e4 - 1)) <|
       bnd (qdc a_1 ((e2+1),(e4 - 1),((((data_0.set (Int.toNat a_1) (data_0.getD (Int.toNat pivot_3) [])).set (Int.toNat pivot_3) (data_0.getD (Int.toNat a_1) [])).set (Int.toNat e2) (((data_0.set (Int.toNat a_1) (data_0.getD (Int.toNat pivot_3) [])).set (Int.toNat pivot_3) (data_0.getD (Int.toNat a_1) [])).getD (Int.toNat e4) [])).set (Int.toNat e4) (((data_0.set (Int.toNat a_1) (data_0.getD (Int.toNat pivot_3) [])).set (Int.toNat pivot_3) (data_0.getD (Int.toNat a_1) [])).getD (Int.toNat e2) [])))) fun oe9 =>
       lk oe9 (fun e9 =>
         ckB (ix a_1 e9.2.length) <|
         ckB (ix a_1 e9.2.length) <|
         ckB (ix e9.1 e9.2.length) <|
         ckB (ix e9.1 e9.2.length) <|
         ckB (ix e9.1 e9.2.length) <|
         ckB (ix e9.1 e9.2.length) <|
         ckB (ix a_1 (e9.2.set (Int.toNat e9.1) (e9.2.getD (Int.toNat a_1) [])).length) <|
         ckB (ix a_1 (e9.2.set (Int.toNat e9.1) (e9.2.getD (Int.toNat a_1) [])).length) <|
         some (e9.1,false,((e9.2.set (Int.toNat e9.1) (e9.2.getD (Int.toNat a_1) [])).set (Int.toNat a_1) (e9.2.getD (Int.toNat e9.1) [])))) (fun r=>some r)) (fun r=>some r)) (fun r=>some r)
def q7h {R:Type} (rec:((Unit×Int×Int×Int×(Unit)×Unit)×(qL2×Unit))→Option qL2) (a_1:Int) (b_2:Int) (limit_3:Int) (wasBalanced_10:Bool) (wasPartitioned_11:Bool) (length_12:Int) (pivot_13:Int) (v_75:Bool) (data_0:qL2) (dn:qL2→Option R) (rt:qL2→Option R):Option R :=
 bif v_75 then
   bnd (q3w a_1 b_2 data_0) fun r6 =>
   ckB (decide (r6.2.length=data_0.length)) <|
   bif r6.1 then
     rt r6.2
   else
     dn r6.2
 else
   dn data_0
def qk (rec:((Unit×Int×Int×Int×(Unit)×Unit)×(qL2×Unit))→Option qL2) (a_1:Int) (b_2:Int) (limit_3:Int) (wasBalanced_10:Bool) (wasPartitioned_11:Bool) (length_12:Int) (pivot_13:Int) (v_75:Bool) (data_0:qL2):Option (qL2⊕qL2) :=
 q7h rec a_1 b_2 limit_3 wasBalanced_10 wasPartitioned_11 length_12 pivot_13 v_75 data_0 (fun e=>some (.inl e)) (fun r=>some (.inr r))
def q7a:Shp:=⟨[(0,.own 0),(1,.d true qT0),(2,.d true qT0),(3,.d true qT0),(4,.fn 49 .nil),(10,.d true .bool),(11,.d true .bool),(12,.d true qT0),(13,.d true qT0),(75,.d true .bool)],[.arr 34 (.fz true) [3] qT1]⟩
def q7d:Shp:=⟨[(0,.own 0),(1,.d true qT0),(2,.d true qT0),(3,.d true qT0),(4,.fn 49 .nil),(10,.d true .bool),(11,.d true .bool),(12,.d true qT0),(13,.d true qT0)],[.arr 34 (.fz true) [3] qT1]⟩
def q7g {R:Type} (rec:((Unit×Int×Int×Int×(Unit)×Unit)×(qL2×Unit))→Option qL2) (a_1:Int) (b_2:Int) (limit_3:Int) (length_12:Int) (pivot_13:Int) (data_0:qL2) (dn:(Int×Int×Bool×Bool×qL2)→Option R) (rt:qL2→Option R):Option R :=
 bnd (q88 a_1 b_2 pivot_13 data_0) fun r10 =>
 ckB (decide (r10.2.2.length=data_0.length)) <|
 ckB (inR .i64 (r10.1 - a_1)) <|
 ckB (inR .i64 (b_2 - r10.1)) <|
 ckB (!decide ((8:Int)=0)) <|
 ckB (inR .i64 (Int.tdiv length_12 8)) <|
 bif decide ((r10.1 - a_1) < (b_2 - r10.1)) then
   bnd (rec (((),a_1,r10.1,limit_3,(()),()),(r10.2.2,()))) fun r11 =>
   ckB (decide (r11.length=r10.2.2.length)) <|
   ckB (inR .i64 (r10.1+1)) <|
   dn ((r10.1+1),b_2,decide ((Int.tdiv length_12 8)≤(r10.1 - a_1)),r10.2.1,r11)
 else
   ckB (inR .i64 (r10.1+1)) <|
   bnd (rec (((),(r10.1+1),b_2,limit_3,(()),()),(r10.2.2,()))) fun r12 =>
   ckB (decide (r12.length=r10.2.2.length)) <|
   dn (a_1,r10.1,decide ((Int.tdiv length_12 8)≤(b_2 - r10.1)),r10.2.1,r12)
def q8 (rec:((Unit×Int×Int×Int×(Unit)×Unit)×(qL2×Unit))→Option qL2) (a_1:Int) (b_2:Int) (limit_3:Int) (length_12:Int) (pivot_13:Int) (data_0:qL2):Option ((Int×Int×Bool×Bool×qL2)⊕qL2) :=
 q7g rec a_1 b_2 limit_3 length_12 pivot_13 data_0 (fun e=>some (.inl e)) (fun r=>some (.inr r))
def q7m:Shp:=⟨[(0,.own 0),(1,.d true qT0),(2,.d true qT0),(3,.d true qT0),(4,.fn 49 .nil),(12,.d true qT0),(13,.d true qT0)],[.arr 34 (.fz true) [3] qT1]⟩
def q7j:Shp:=⟨[(0,.own 0),(1,.d true qT0),(2,.d true qT0),(3,.d true qT0),(4,.fn 49 .nil),(10,.d true .bool),(11,.d true .bool)],[.arr 34 (.fz true) [3] qT1]⟩
def q7n {R:Type} (rec:((Unit×Int×Int×Int×(Unit)×Unit)×(qL2×Unit))→Option qL2)  (a_1:Int) (b_2:Int) (limit_3:Int) (wasBalanced_10:Bool) (wasPartitioned_11:Bool) (data_0:qL2) (nx:(Int×Int×Int×Bool×Bool×qL2)→Option R) (dn:Unit→Option R) (rt:qL2→Option R):Option R :=
 ckB (inR .i64 (b_2 - a_1)) <|
 bif decide ((b_2 - a_1)≤12) then
   bnd (q61 a_1 b_2 data_0) fun r1 =>
   ckB (decide (r1.length=data_0.length)) <|
   rt r1
 else
   bif decide (limit_3=0) then
     bnd (q8n a_1 b_2 data_0) fun r2 =>
     ckB (decide (r2.length=data_0.length)) <|
     rt r2
   else
     bif (!wasBalanced_10) then
       bnd (q62 a_1 b_2 data_0) fun r3 =>
       ckB (decide (r3.length=data_0.length)) <|
       ckB (inR .i64 (limit_3 - 1)) <|
       bnd (q3d r3 a_1 b_2) fun r4 =>
       bif decide (r4.2=2) then
         bnd (q2z a_1 b_2 r3) fun r5 =>
         ckB (decide (r5.length=r3.length)) <|
         ckB (inR .i64 (b_2 - 1)) <|
         ckB (inR .i64 (r4.1 - a_1)) <|
         ckB (inR .i64 ((b_2 - 1) - (r4.1 - a_1))) <|
         bif wasBalanced_10 then
           bif wasPartitioned_11 then
             bnd (qk rec a_1 b_2 (limit_3 - 1) wasBalanced_10 wasPartitioned_11 (b_2 - a_1) ((b_2 - 1) - (r4.1 - a_1)) (decide ((1:Int)=1)) r5) fun oe7 =>
             lk oe7 (fun e7 =>
               bif decide ((0:Int) < a_1) then
                 ckB (inR .i64 (a_1 - 1)) <|
                 ckB (ix (a_1 - 1) e7.length) <|
                 ckB (ix (a_1 - 1) e7.length) <|
                 ckB (ix ((b_2 - 1) - (r4.1 - a_1)) e7.length) <|
                 ckB (ix ((b_2 - 1) - (r4.1 - a_1)) e7.length) <|
                 bnd (qj (e7.getD (Int.toNat (a_1 - 1)) []) (e7.getD (Int.toNat ((b_2 - 1) - (r4.1 - a_1))) [])) fun r8 =>
                 bif (!(decide (r8 < 0))) then
                   bnd (qh a_1 b_2 ((b_2 - 1) - (r4.1 - a_1)) e7) fun r9 =>
                   ckB (decide (r9.2.length=e7.length)) <|
                   nx (r9.1,b_2,(limit_3 - 1),wasBalanced_10,wasPartitioned_11,r9.2)
                 else
                   bnd (q8 rec a_1 b_2 (limit_3 - 1) (b_2 - a_1) ((b_2 - 1) - (r4.1 - a_1)) e7) fun oe13 =>
                   lk oe13 (fun e13 =>
                     nx (e13.1,e13.2.1,(limit_3 - 1),e13.2.2.1,e13.2.2.2.1,e13.2.2.2.2)) (fun r=>rt r)
               else
                 bnd (q8 rec a_1 b_2 (limit_3 - 1) (b_2 - a_1) ((b_2 - 1) - (r4.1 - a_1)) e7) fun oe14 =>
                 lk oe14 (fun e14 =>
                   nx (e14.1,e14.2.1,(limit_3 - 1),e14.2.2.1,e14.2.2.2.1,e14.2.2.2.2)) (fun r=>rt r)) (fun r=>rt r)
           else
             bnd (qk rec a_1 b_2 (limit_3 - 1) wasBalanced_10 wasPartitioned_11 (b_2 - a_1) ((b_2 - 1) - (r4.1 - a_1)) false r5) fun oe15 =>
             lk oe15 (fun e15 =>
               bif decide ((0:Int) < a_1) then
                 ckB (inR .i64 (a_1 - 1)) <|
                 ckB (ix (a_1 - 1) e15.length) <|
                 ckB (ix (a_1 - 1) e15.length) <|
                 ckB (ix ((b_2 - 1) - (r4.1 - a_1)) e15.length) <|
                 ckB (ix ((b_2 - 1) - (r4.1 - a_1)) e15.length) <|
                 bnd (qj (e15.getD (Int.toNat (a_1 - 1)) []) (e15.getD (Int.toNat ((b_2 - 1) - (r4.1 - a_1))) [])) fun r16 =>
                 bif (!(decide (r16 < 0))) then
                   bnd (qh a_1 b_2 ((b_2 - 1) - (r4.1 - a_1)) e15) fun r17 =>
                   ckB (decide (r17.2.length=e15.length)) <|
                   nx (r17.1,b_2,(limit_3 - 1),wasBalanced_10,wasPartitioned_11,r17.2)
                 else
                   bnd (q8 rec a_1 b_2 (limit_3 - 1) (b_2 - a_1) ((b_2 - 1) - (r4.1 - a_1)) e15) fun oe18 =>
                   lk oe18 (fun e18 =>
                     nx (e18.1,e18.2.1,(limit_3 - 1),e18.2.2.1,e18.2.2.2.1,e18.2.2.2.2)) (fun r=>rt r)
               else
                 bnd (q8 rec a_1 b_2 (limit_3 - 1) (b_2 - a_1) ((b_2 - 1) - (r4.1 - a_1)) e15) fun oe19 =>
                 lk oe19 (fun e19 =>
                   nx (e19.1,e19.2.1,(limit_3 - 1),e19.2.2.1,e19.2.2.2.1,e19.2.2.2.2)) (fun r=>rt r)) (fun r=>rt r)
         else
           bnd (qk rec a_1 b_2 (limit_3 - 1) wasBalanced_10 wasPartitioned_11 (b_2 - a_1) ((b_2 - 1) - (r4.1 - a_1)) false r5) fun oe20 =>
           lk oe20 (fun e20 =>
             bif decide ((0:Int) < a_1) then
               ckB (inR .i64 (a_1 - 1)) <|
               ckB (ix (a_1 - 1) e20.length) <|
               ckB (ix (a_1 - 1) e20.length) <|
               ckB (ix ((b_2 - 1) - (r4.1 - a_1)) e20.length) <|
               ckB (ix ((b_2 - 1) - (r4.1 - a_1)) e20.length) <|
               bnd (qj (e20.getD (Int.toNat (a_1 - 1)) []) (e20.getD (Int.toNat ((b_2 - 1) - (r4.1 - a_1))) [])) fun r21 =>
               bif (!(decide (r21 < 0))) then
                 bnd (qh a_1 b_2 ((b_2 - 1) - (r4.1 - a_1)) e20) fun r22 =>
                 ckB (decide (r22.2.length=e20.length)) <|
                 nx (r22.1,b_2,(limit_3 - 1),wasBalanced_10,wasPartitioned_11,r22.2)
               else
                 bnd (q8 rec a_1 b_2 (limit_3 - 1) (b_2 - a_1) ((b_2 - 1) - (r4.1 - a_1)) e20) fun oe23 =>
                 lk oe23 (fun e23 =>
                   nx (e23.1,e23.2.1,(limit_3 - 1),e23.2.2.1,e23.2.2.2.1,e23.2.2.2.2)) (fun r=>rt r)
             else
               bnd (q8 rec a_1 b_2 (limit_3 - 1) (b_2 - a_1) ((b_2 - 1) - (r4.1 - a_1)) e20) fun oe24 =>
               lk oe24 (fun e24 =>
                 nx (e24.1,e24.2.1,(limit_3 - 1),e24.2.2.1,e24.2.2.2.1,e24.2.2.2.2)) (fun r=>rt r)) (fun r=>rt r)
       else
         bif wasBalanced_10 then
           bif wasPartitioned_11 then
             bnd (qk rec a_1 b_2 (limit_3 - 1) wasBalanced_10 wasPartitioned_11 (b_2 - a_1) r4.1 (decide (r4.2=1)) r3) fun oe25 =>
             lk oe25 (fun e25 =>
               bif decide ((0:Int) < a_1) then
                 ckB (inR .i64 (a_1 - 1)) <|
                 ckB (ix (a_1 - 1) e25.length) <|
                 ckB (ix (a_1 - 1) e25.length) <|
                 ckB (ix r4.1 e25.length) <|
                 ckB (ix r4.1 e25.length) <|
                 bnd (qj (e25.getD (Int.toNat (a_1 - 1)) []) (e25.getD (Int.toNat r4.1) [])) fun r26 =>
                 bif (!(decide (r26 < 0))) then
                   bnd (qh a_1 b_2 r4.1 e25) fun r27 =>
                   ckB (decide (r27.2.length=e25.length)) <|
                   nx (r27.1,b_2,(limit_3 - 1),wasBalanced_10,wasPartitioned_11,r27.2)
                 else
                   bnd (q8 rec a_1 b_2 (limit_3 - 1) (b_2 - a_1) r4.1 e25) fun oe28 =>
                   lk oe28 (fun e28 =>
                     nx (e28.1,e28.2.1,(limit_3 - 1),e28.2.2.1,e28.2.2.2.1,e28.2.2.2.2)) (fun r=>rt r)
               else
                 bnd (q8 rec a_1 b_2 (limit_3 - 1) (b_2 - a_1) r4.1 e25) fun oe29 =>
                 lk oe29 (fun e29 =>
                   nx (e29.1,e29.2.1,(limit_3 - 1),e29.2.2.1,e29.2.2.2.1,e29.2.2.2.2)) (fun r=>rt r)) (fun r=>rt r)
           else
             bnd (qk rec a_1 b_2 (limit_3 - 1) wasBalanced_10 wasPartitioned_11 (b_2 - a_1) r4.1 false r3) fun oe30 =>
             lk oe30 (fun e30 =>
               bif decide ((0:Int) < a_1) then
                 ckB (inR .i64 (a_1 - 1)) <|
                 ckB (ix (a_1 - 1) e30.length) <|
                 ckB (ix (a_1 - 1) e30.length) <|
                 ckB (ix r4.1 e30.length) <|
                 ckB (ix r4.1 e30.length) <|
                 bnd (qj (e30.getD (Int.toNat (a_1 - 1)) []) (e30.getD (Int.toNat r4.1) [])) fun r31 =>
                 bif (!(decide (r31 < 0))) then
                   bnd (qh a_1 b_2 r4.1 e30) fun r32 =>
                   ckB (decide (r32.2.length=e30.length)) <|
                   nx (r32.1,b_2,(limit_3 - 1),wasBalanced_10,wasPartitioned_11,r32.2)
                 else
                   bnd (q8 rec a_1 b_2 (limit_3 - 1) (b_2 - a_1) r4.1 e30) fun oe33 =>
                   lk oe33 (fun e33 =>
                     nx (e33.1,e33.2.1,(limit_3 - 1),e33.2.2.1,e33.2.2.2.1,e33.2.2.2.2)) (fun r=>rt r)
               else
                 bnd (q8 rec a_1 b_2 (limit_3 - 1) (b_2 - a_1) r4.1 e30) fun oe34 =>
                 lk oe34 (fun e34 =>
                   nx (e34.1,e34.2.1,(limit_3 - 1),e34.2.2.1,e34.2.2.2.1,e34.2.2.2.2)) (fun r=>rt r)) (fun r=>rt r)
         else
           bnd (qk rec a_1 b_2 (limit_3 - 1) wasBalanced_10 wasPartitioned_11 (b_2 - a_1) r4.1 false r3) fun oe35 =>
           lk oe35 (fun e35 =>
             bif decide ((0:Int) < a_1) then
               ckB (inR .i64 (a_1 - 1)) <|
               ckB (ix (a_1 - 1) e35.length) <|
               ckB (ix (a_1 - 1) e35.length) <|
               ckB (ix r4.1 e35.length) <|
               ckB (ix r4.1 e35.length) <|
               bnd (qj (e35.getD (Int.toNat (a_1 - 1)) []) (e35.getD (Int.toNat r4.1) [])) fun r36 =>
               bif (!(decide (r36 < 0))) then
                 bnd (qh a_1 b_2 r4.1 e35) fun r37 =>
                 ckB (decide (r37.2.length=e35.length)) <|
                 nx (r37.1,b_2,(limit_3 - 1),wasBalanced_10,wasPartitioned_11,r37.2)
               else
                 bnd (q8 rec a_1 b_2 (limit_3 - 1) (b_2 - a_1) r4.1 e35) fun oe38 =>
                 lk oe38 (fun e38 =>
                   nx (e38.1,e38.2.1,(limit_3 - 1),e38.2.2.1,e38.2.2.2.1,e38.2.2.2.2)) (fun r=>rt r)
             else
               bnd (q8 rec a_1 b_2 (limit_3 - 1) (b_2 - a_1) r4.1 e35) fun oe39 =>
               lk oe39 (fun e39 =>
                 nx (e39.1,e39.2.1,(limit_3 - 1),e39.2.2.1,e39.2.2.2.1,e39.2.2.2.2)) (fun r=>rt r)) (fun r=>rt r)
     else
       bnd (q3d data_0 a_1 b_2) fun r40 =>
       bif decide (r40.2=2) then
         bnd (q2z a_1 b_2 data_0) fun r41 =>
         ckB (decide (r41.length=data_0.length)) <|
         ckB (inR .i64 (b_2 - 1)) <|
         ckB (inR .i64 (r40.1 - a_1)) <|
         ckB (inR .i64 ((b_2 - 1) - (r40.1 - a_1))) <|
         bif wasBalanced_10 then
           bif wasPartitioned_11 then
             bnd (qk rec a_1 b_2 limit_3 wasBalanced_10 wasPartitioned_11 (b_2 - a_1) ((b_2 - 1) - (r40.1 - a_1)) (decide ((1:Int)=1)) r41) fun oe42 =>
             lk oe42 (fun e42 =>
               bif decide ((0:Int) < a_1) then
                 ckB (inR .i64 (a_1 - 1)) <|
                 ckB (ix (a_1 - 1) e42.length) <|
                 ckB (ix (a_1 - 1) e42.length) <|
                 ckB (ix ((b_2 - 1) - (r40.1 - a_1)) e42.length) <|
                 ckB (ix ((b_2 - 1) - (r40.1 - a_1)) e42.length) <|
                 bnd (qj (e42.getD (Int.toNat (a_1 - 1)) []) (e42.getD (Int.toNat ((b_2 - 1) - (r40.1 - a_1))) [])) fun r43 =>
                 bif (!(decide (r43 < 0))) then
                   bnd (qh a_1 b_2 ((b_2 - 1) - (r40.1 - a_1)) e42) fun r44 =>
                   ckB (decide (r44.2.length=e42.length)) <|
                   nx (r44.1,b_2,limit_3,wasBalanced_10,wasPartitioned_11,r44.2)
                 else
                   bnd (q8 rec a_1 b_2 limit_3 (b_2 - a_1) ((b_2 - 1) - (r40.1 - a_1)) e42) fun oe45 =>
                   lk oe45 (fun e45 =>
                     nx (e45.1,e45.2.1,limit_3,e45.2.2.1,e45.2.2.2.1,e45.2.2.2.2)) (fun r=>rt r)
               else
                 bnd (q8 rec a_1 b_2 limit_3 (b_2 - a_1) ((b_2 - 1) - (r40.1 - a_1)) e42) fun oe46 =>
                 lk oe46 (fun e46 =>
                   nx (e46.1,e46.2.1,limit_3,e46.2.2.1,e46.2.2.2.1,e46.2.2.2.2)) (fun r=>rt r)) (fun r=>rt r)
           else
             bnd (qk rec a_1 b_2 limit_3 wasBalanced_10 wasPartitioned_11 (b_2 - a_1) ((b_2 - 1) - (r40.1 - a_1)) false r41) fun oe47 =>
             lk oe47 (fun e47 =>
               bif decide ((0:Int) < a_1) then
                 ckB (inR .i64 (a_1 - 1)) <|
                 ckB (ix (a_1 - 1) e47.length) <|
                 ckB (ix (a_1 - 1) e47.length) <|
                 ckB (ix ((b_2 - 1) - (r40.1 - a_1)) e47.length) <|
                 ckB (ix ((b_2 - 1) - (r40.1 - a_1)) e47.length) <|
                 bnd (qj (e47.getD (Int.toNat (a_1 - 1)) []) (e47.getD (Int.toNat ((b_2 - 1) - (r40.1 - a_1))) [])) fun r48 =>
                 bif (!(decide (r48 < 0))) then
                   bnd (qh a_1 b_2 ((b_2 - 1) - (r40.1 - a_1)) e47) fun r49 =>
                   ckB (decide (r49.2.length=e47.length)) <|
                   nx (r49.1,b_2,limit_3,wasBalanced_10,wasPartitioned_11,r49.2)
                 else
                   bnd (q8 rec a_1 b_2 limit_3 (b_2 - a_1) ((b_2 - 1) - (r40.1 - a_1)) e47) fun oe50 =>
                   lk oe50 (fun e50 =>
                     nx (e50.1,e50.2.1,limit_3,e50.2.2.1,e50.2.2.2.1,e50.2.2.2.2)) (fun r=>rt r)
               else
                 bnd (q8 rec a_1 b_2 limit_3 (b_2 - a_1) ((b_2 - 1) - (r40.1 - a_1)) e47) fun oe51 =>
                 lk oe51 (fun e51 =>
                   nx (e51.1,e51.2.1,limit_3,e51.2.2.1,e51.2.2.2.1,e51.2.2.2.2)) (fun r=>rt r)) (fun r=>rt r)
         else
           bnd (qk rec a_1 b_2 limit_3 wasBalanced_10 wasPartitioned_11 (b_2 - a_1) ((b_2 - 1) - (r40.1 - a_1)) false r41) fun oe52 =>
           lk oe52 (fun e52 =>
             bif decide ((0:Int) < a_1) then
               ckB (inR .i64 (a_1 - 1)) <|
               ckB (ix (a_1 - 1) e52.length) <|
               ckB (ix (a_1 - 1) e52.length) <|
               ckB (ix ((b_2 - 1) - (r40.1 - a_1)) e52.length) <|
               ckB (ix ((b_2 - 1) - (r40.1 - a_1)) e52.length) <|
               bnd (qj (e52.getD (Int.toNat (a_1 - 1)) []) (e52.getD (Int.toNat ((b_2 - 1) - (r40.1 - a_1))) [])) fun r53 =>
               bif (!(decide (r53 < 0))) then
                 bnd (qh a_1 b_2 ((b_2 - 1) - (r40.1 - a_1)) e52) fun r54 =>
                 ckB (decide (r54.2.length=e52.length)) <|
                 nx (r54.1,b_2,limit_3,wasBalanced_10,wasPartitioned_11,r54.2)
               else
                 bnd (q8 rec a_1 b_2 limit_3 (b_2 - a_1) ((b_2 - 1) - (r40.1 - a_1)) e52) fun oe55 =>
                 lk oe55 (fun e55 =>
                   nx (e55.1,e55.2.1,limit_3,e55.2.2.1,e55.2.2.2.1,e55.2.2.2.2)) (fun r=>rt r)
             else
               bnd (q8 rec a_1 b_2 limit_3 (b_2 - a_1) ((b_2 - 1) - (r40.1 - a_1)) e52) fun oe56 =>
               lk oe56 (fun e56 =>
                 nx (e56.1,e56.2.1,limit_3,e56.2.2.1,e56.2.2.2.1,e56.2.2.2.2)) (fun r=>rt r)) (fun r=>rt r)
       else
         bif wasBalanced_10 then
           bif wasPartitioned_11 then
             bnd (qk rec a_1 b_2 limit_3 wasBalanced_10 wasPartitioned_11 (b_2 - a_1) r40.1 (decide (r40.2=1)) data_0) fun oe57 =>
             lk oe57 (fun e57 =>
               bif decide ((0:Int) < a_1) then
                 ckB (inR .i64 (a_1 - 1)) <|
                 ckB (ix (a_1 - 1) e57.length) <|
                 ckB (ix (a_1 - 1) e57.length) <|
                 ckB (ix r40.1 e57.length) <|
                 ckB (ix r40.1 e57.length) <|
                 bnd (qj (e57.getD (Int.toNat (a_1 - 1)) []) (e57.getD (Int.toNat r40.1) [])) fun r58 =>
                 bif (!(decide (r58 < 0))) then
                   bnd (qh a_1 b_2 r40.1 e57) fun r59 =>
                   ckB (decide (r59.2.length=e57.length)) <|
                   nx (r59.1,b_2,limit_3,wasBalanced_10,wasPartitioned_11,r59.2)
                 else
                   bnd (q8 rec a_1 b_2 limit_3 (b_2 - a_1) r40.1 e57) fun oe60 =>
                   lk oe60 (fun e60 =>
                     nx (e60.1,e60.2.1,limit_3,e60.2.2.1,e60.2.2.2.1,e60.2.2.2.2)) (fun r=>rt r)
               else
                 bnd (q8 rec a_1 b_2 limit_3 (b_2 - a_1) r40.1 e57) fun oe61 =>
                 lk oe61 (fun e61 =>
                   nx (e61.1,e61.2.1,limit_3,e61.2.2.1,e61.2.2.2.1,e61.2.2.2.2)) (fun r=>rt r)) (fun r=>rt r)
           else
             bnd (qk rec a_1 b_2 limit_3 wasBalanced_10 wasPartitioned_11 (b_2 - a_1) r40.1 false data_0) fun oe62 =>
             lk oe62 (fun e62 =>
               bif decide ((0:Int) < a_1) then
                 ckB (inR .i64 (a_1 - 1)) <|
                 ckB (ix (a_1 - 1) e62.length) <|
                 ckB (ix (a_1 - 1) e62.length) <|
                 ckB (ix r40.1 e62.length) <|
                 ckB (ix r40.1 e62.length) <|
                 bnd (qj (e62.getD (Int.toNat (a_1 - 1)) []) (e62.getD (Int.toNat r40.1) [])) fun r63 =>
                 bif (!(decide (r63 < 0))) then
                   bnd (qh a_1 b_2 r40.1 e62) fun r64 =>
                   ckB (decide (r64.2.length=e62.length)) <|
                   nx (r64.1,b_2,limit_3,wasBalanced_10,wasPartitioned_11,r64.2)
                 else
                   bnd (q8 rec a_1 b_2 limit_3 (b_2 - a_1) r40.1 e62) fun oe65 =>
                   lk oe65 (fun e65 =>
                     nx (e65.1,e65.2.1,limit_3,e65.2.2.1,e65.2.2.2.1,e65.2.2.2.2)) (fun r=>rt r)
               else
                 bnd (q8 rec a_1 b_2 limit_3 (b_2 - a_1) r40.1 e62) fun oe66 =>
                 lk oe66 (fun e66 =>
                   nx (e66.1,e66.2.1,limit_3,e66.2.2.1,e66.2.2.2.1,e66.2.2.2.2)) (fun r=>rt r)) (fun r=>rt r)
         else
           bnd (qk rec a_1 b_2 limit_3 wasBalanced_10 wasPartitioned_11 (b_2 - a_1) r40.1 false data_0) fun oe67 =>
           lk oe67 (fun e67 =>
             bif decide ((0:Int) < a_1) then
               ckB (inR .i64 (a_1 - 1)) <|
               ckB (ix (a_1 - 1) e67.length) <|
               ckB (ix (a_1 - 1) e67.length) <|
               ckB (ix r40.1 e67.length) <|
               ckB (ix r40.1 e67.length) <|
               bnd (qj (e67.getD (Int.toNat (a_1 - 1)) []) (e67.getD (Int.toNat r40.1) [])) fun r68 =>
               bif (!(decide (r68 < 0))) then
                 bnd (qh a_1 b_2 r40.1 e67) fun r69 =>
                 ckB (decide (r69.2.length=e67.length)) <|
                 nx (r69.1,b_2,limit_3,wasBalanced_10,wasPartitioned_11,r69.2)
               else
                 bnd (q8 rec a_1 b_2 limit_3 (b_2 - a_1) r40.1 e67) fun oe70 =>
                 lk oe70 (fun e70 =>
                   nx (e70.1,e70.2.1,limit_3,e70.2.2.1,e70.2.2.2.1,e70.2.2.2.2)) (fun r=>rt r)
             else
               bnd (q8 rec a_1 b_2 limit_3 (b_2 - a_1) r40.1 e67) fun oe71 =>
               lk oe71 (fun e71 =>
                 nx (e71.1,e71.2.1,limit_3,e71.2.2.1,e71.2.2.2.1,e71.2.2.2.2)) (fun r=>rt r)) (fun r=>rt r)
def qf4 (rec:((Unit×Int×Int×Int×(Unit)×Unit)×(qL2×Unit))→Option qL2)  (s0:(Int×Int×Int×Bool×Bool×qL2)):Option (Unit⊕qL2) :=
 loopM (fun a=>q7n rec  a.1 a.2.1 a.2.2.1 a.2.2.2.1 a.2.2.2.2.1 a.2.2.2.2.2 (fun a'=>some (.next a')) (fun e=>some (.done e)) (fun r=>some (.ret r))) s0
def q7e:Shp:=⟨[(0,.own 0),(1,.d true qT0),(2,.d true qT0),(3,.d true qT0),(4,.fn 49 .nil),(10,.d true .bool),(11,.d true .bool)],[.arr 34 (.fz true) [3] qT1]⟩
def q7c:Shp:=⟨[],[]⟩
def q4g (rec:((Unit×Int×Int×Int×(Unit)×Unit)×(qL2×Unit))→Option qL2) (a_1:Int) (b_2:Int) (limit_3:Int) (data_0:qL2):Option qL2 :=
 bnd (qf4 rec  (a_1,b_2,limit_3,true,true,data_0)) fun oe72 =>
 lk oe72 (fun e72 =>
   none) (fun r=>some r)
def q8o (a:((Unit×Int×Int×Int×(Unit)×Unit)×(qL2×Unit))):Option qL2 :=
 recM (fun (rec:((Unit×Int×Int×Int×(Unit)×Unit)×(qL2×Unit))→Option qL2) (a:((Unit×Int×Int×Int×(Unit)×Unit)×(qL2×Unit)))=>q4g rec a.1.2.1 a.1.2.2.1 a.1.2.2.2.1 a.2.1) many a
def qgc (a_1:Int) (b_2:Int) (limit_3:Int) (data_0:qL2):Option qL2 :=
 q8o (((),a_1,b_2,limit_3,(()),()),(data_0,()))
def qa0 (x_0:qL2):Option qL2 :=
 bnd (qrz (IntKind.wrap .u64 (x_0.length:Int))) fun r1 =>
 bnd (qgc 0 (x_0.length:Int) r1 x_0) fun r2 =>
 ckB (decide (r2.length=x_0.length)) <|
 some r2
def qi2 {R:Type} (s_6:Int) (v_18:qL1) (v_19:Int) (v_20:Int) (v_25:Int) (n_10:Int) (n_11:(List Trans)) (n_12:Int) (n_13:Int) (out_4:qL2) (v_26:Int) (l_7:qL1) (nx:(Int×qL1)→Option R) (dn:qL1→Option R) (rt:(Int×qL2)→Option R):Option R :=
 bif decide (v_26 < v_25) then
   ckB (decide (0≤v_26)) <|
   bif decide ((bitI .and .u32 (shrI .u32 s_6 v_26) 1)=1) then
     ckB (room (l_7.length+1) 8) <|
     ckB (inR .i64 (v_26+1)) <|
     nx ((v_26+1),(l_7++[v_26]))
   else
     ckB (inR .i64 (v_26+1)) <|
     nx ((v_26+1),l_7)
 else
   dn l_7
def qsb (s_6:Int) (v_18:qL1) (v_19:Int) (v_20:Int) (v_25:Int) (n_10:Int) (n_11:(List Trans)) (n_12:Int) (n_13:Int) (out_4:qL2) (s0:(Int×qL1)):Option (qL1⊕(Int×qL2)) :=
 loopM (fun a=>qi2 s_6 v_18 v_19 v_20 v_25 n_10 n_11 n_12 n_13 out_4 a.1 a.2 (fun a'=>some (.next a')) (fun e=>some (.done e)) (fun r=>some (.ret r))) s0
def qhv:Shp:=⟨[(1,.ptr 0),(4,.nl false (.own 1)),(6,.d true (.int .u32)),(7,.nl false (.own 2)),(18,.nl false (.d true (.slice (.int .u32)))),(19,.d true qT0),(20,.d true qT0),(25,.d true qT0),(26,.d true qT0)],[.cs 24 4 1 (.cons (.d true qT0) (.cons (.d false (.slice Trans.ty)) (.cons (.d true qT0) (.cons (.d true qT0) .nil)))),.arr 34 (.fz true) [3] qT1,.arr 3 (.fz true) [0] qT0]⟩
def qi9:Shp:=⟨[(1,.ptr 0),(4,.nl false (.own 1)),(7,.nl false (.own 2)),(18,.nl false (.d true (.slice (.int .u32)))),(19,.d true qT0),(20,.d true qT0)],[.cs 24 4 1 (.cons (.d true qT0) (.cons (.d false (.slice Trans.ty)) (.cons (.d true qT0) (.cons (.d true qT0) .nil)))),.arr 34 (.fz true) [3] qT1,.arr 3 (.fz true) [0] qT0]⟩
def qib {R:Type} (v_18:qL1) (v_19:Int) (n_10:Int) (n_11:(List Trans)) (n_12:Int) (n_13:Int) (v_20:Int) (out_4:qL2) (nx:(Int×qL2)→Option R) (dn:qL2→Option R) (rt:(Int×qL2)→Option R):Option R :=
 bif decide (v_20 < v_19) then
   ckB (ix v_20 v_18.length) <|
   ckB (ix v_20 v_18.length) <|
   bnd (qsb (v_18.getD (Int.toNat v_20) 0) v_18 v_19 v_20 n_10 n_10 n_11 n_12 n_13 out_4 (0,[])) fun oe3 =>
   lk oe3 (fun e3 =>
     ckB (room (out_4.length+1) 24) <|
     ckB (inR .i64 (v_20+1)) <|
     nx ((v_20+1),(out_4++[e3]))) (fun r=>rt r)
 else
   dn out_4
def qs1 (v_18:qL1) (v_19:Int) (n_10:Int) (n_11:(List Trans)) (n_12:Int) (n_13:Int) (s0:(Int×qL2)):Option (qL2⊕(Int×qL2)) :=
 loopM (fun a=>qib v_18 v_19 n_10 n_11 n_12 n_13 a.1 a.2 (fun a'=>some (.next a')) (fun e=>some (.done e)) (fun r=>some (.ret r))) s0
def qi3:Shp:=⟨[(1,.ptr 0),(4,.nl false (.own 1)),(18,.nl false (.d true (.slice (.int .u32)))),(19,.d true qT0),(20,.d true qT0)],[.cs 24 4 1 (.cons (.d true qT0) (.cons (.d false (.slice Trans.ty)) (.cons (.d true qT0) (.cons (.d true qT0) .nil)))),.arr 34 (.fz true) [3] qT1]⟩
def qhz:Shp:=⟨[(4,.nl false (.own 0))],[.arr 34 (.fz true) [3] qT1]⟩
def qmt (n_00:Int) (n_01:(List Trans)) (n_02:Int) (n_03:Int):Option (Int×qL2) :=
 bnd (qa1 (n_00,n_01,n_02,n_03,())) fun r1 =>
 bif (!r1) then
   some (1,[])
 else
   bif decide ((16:Int) < n_00) then
     some (13,[])
   else
     bnd (qme (n_00,n_01,n_02,n_03,())) fun r2 =>
     bnd (qs1 r2 (r2.length:Int) n_00 n_01 n_02 n_03 (0,[])) fun oe4 =>
     lk oe4 (fun e4 =>
       bnd (qa0 e4) fun r5 =>
       ckB (decide (r5.length=e4.length)) <|
       some (0,r5)) (fun r=>some r)
def q7s {R:Type} (l_1:qL1) (v_7:qL1) (v_8:Int) (n_20:Int) (n_21:(List Trans)) (n_22:Int) (n_23:Int) (v_9:Int) (nx:Int→Option R) (dn:Unit→Option R) (rt:Bool→Option R):Option R :=
 bif decide (v_9 < v_8) then
   ckB (ix v_9 v_7.length) <|
   ckB (ix v_9 v_7.length) <|
   bif decide ((v_7.getD (Int.toNat v_9) 0) < 0) then
     rt false
   else
     bif decide (n_20≤(v_7.getD (Int.toNat v_9) 0)) then
       rt false
     else
       bif decide ((0:Int) < v_9) then
         ckB (inR .i64 (v_9 - 1)) <|
         ckB (ix (v_9 - 1) l_1.length) <|
         ckB (ix (v_9 - 1) l_1.length) <|
         bif decide ((v_7.getD (Int.toNat v_9) 0)≤(l_1.getD (Int.toNat (v_9 - 1)) 0)) then
           rt false
         else
           ckB (inR .i64 (v_9+1)) <|
           nx (v_9+1)
       else
         ckB (inR .i64 (v_9+1)) <|
         nx (v_9+1)
 else
   dn ()
def qpz (l_1:qL1) (v_7:qL1) (v_8:Int) (n_20:Int) (n_21:(List Trans)) (n_22:Int) (n_23:Int) (s0:Int):Option (Unit⊕Bool) :=
 loopM (fun a=>q7s l_1 v_7 v_8 n_20 n_21 n_22 n_23 a (fun a'=>some (.next a')) (fun e=>some (.done e)) (fun r=>some (.ret r))) s0
def qou:Shp:=⟨[(1,.d false qT1),(2,.ptr 0),(7,.d false qT1),(8,.d true qT0),(9,.d true qT0)],[.cs 24 4 1 (.cons (.d true qT0) (.cons (.d false (.slice Trans.ty)) (.cons (.d true qT0) (.cons (.d true qT0) .nil))))]⟩
def qox:Shp:=⟨[],[]⟩
def qbl (n_0:Net) (l_1:qL1):Option Bool :=
 bnd (qpz l_1 l_1 (l_1.length:Int) n_0.1 n_0.2.1 n_0.2.2.1 n_0.2.2.2.1 0) fun oe1 =>
 lk oe1 (fun e1 =>
   some true) (fun r=>some r)
def qph (n_0:Net) (l_1:qL1):Option Int :=
 bnd (qa1 n_0) fun r1 =>
 bif (!r1) then
   some 1
 else
   bnd (qbl n_0 l_1) fun r2 =>
   bif (!r2) then
     some 2
   else
     some 0
def qr6 (t_0:Trans) (trap_1:Bool):Option (qL1×qL1) :=
 bif trap_1 then
   some (t_0.2.1,t_0.2.2.1)
 else
   some (t_0.2.2.1,t_0.2.1)
def qc2 {R:Type} (s_0:qL1) (v_1:Int) (v_7:Int) (v_8:Int) (nx:Int→Option R) (dn:Unit→Option R) (rt:Int→Option R):Option R :=
 bif decide (v_8 < v_7) then
   ckB (ix v_8 s_0.length) <|
   ckB (ix v_8 s_0.length) <|
   bif decide (v_1=(s_0.getD (Int.toNat v_8) 0)) then
     rt v_8
   else
     ckB (inR .i64 (v_8+1)) <|
     nx (v_8+1)
 else
   dn ()
def qm0 (s_0:qL1) (v_1:Int) (v_7:Int) (s0:Int):Option (Unit⊕Int) :=
 loopM (fun a=>qc2 s_0 v_1 v_7 a (fun a'=>some (.next a')) (fun e=>some (.done e)) (fun r=>some (.ret r))) s0
def qbz:Shp:=⟨[(0,.d false qT1),(1,.d true qT0),(7,.d true qT0),(8,.d true qT0)],[]⟩
def qbt:Shp:=⟨[],[]⟩
def qfp (s_0:qL1) (v_1:Int):Option Int :=
 bnd (qm0 s_0 v_1 (s_0.length:Int) 0) fun oe1 =>
 lk oe1 (fun e1 =>
   some (-1)) (fun r=>some r)
def qbu (s_0:qL1) (v_1:Int):Option Bool :=
 bnd (qfp s_0 v_1) fun r1 =>
 some (decide ((0:Int)≤r1))
def qm8 (p_0:Int) (p_1:qL1):Option Bool :=
 ckB (ix 0 1) <|
 bnd (qbu p_1 p_0) fun r1 =>
 some r1
def q79 {R:Type} (s_0:qL1) (f_1c0:qL1) (v_7:Int) (v_8:Int) (nx:Int→Option R) (dn:Unit→Option R) (rt:Int→Option R):Option R :=
 bif decide (v_8 < v_7) then
   ckB (ix v_8 s_0.length) <|
   ckB (ix v_8 s_0.length) <|
   bnd (qm8 (s_0.getD (Int.toNat v_8) 0) f_1c0) fun r1 =>
   bif r1 then
     rt v_8
   else
     ckB (inR .i64 (v_8+1)) <|
     nx (v_8+1)
 else
   dn ()
def qfm (s_0:qL1) (f_1c0:qL1) (v_7:Int) (s0:Int):Option (Unit⊕Int) :=
 loopM (fun a=>q79 s_0 f_1c0 v_7 a (fun a'=>some (.next a')) (fun e=>some (.done e)) (fun r=>some (.ret r))) s0
def q7k:Shp:=⟨[(0,.d false qT1),(1,.fn 109 (.cons (.rp false qT1) .nil)),(7,.d true qT0),(8,.d true qT0)],[]⟩
def q7b:Shp:=⟨[],[]⟩
def q96 (s_0:qL1) (f_1c0:qL1):Option Int :=
 bnd (qfm s_0 f_1c0 (s_0.length:Int) 0) fun oe2 =>
 lk oe2 (fun e2 =>
   some (-1)) (fun r=>some r)
def q7i (s_0:qL1) (f_1c0:qL1):Option Bool :=
 bnd (q96 s_0 f_1c0) fun r1 =>
 some (decide ((0:Int)≤r1))
def qk7 (a_0:qL1) (b_1:qL1):Option Bool :=
 bnd (q7i a_0 b_1) fun r1 =>
 some r1
def qkw (t_0:Trans) (p_1:Bool) (p_2:qL1):Option Bool :=
 ckB (ix 0 1) <|
 bnd (qr6 t_0 p_1) fun r1 =>
 ckB (ix 0 1) <|
 bnd (qk7 r1.1 p_2) fun r2 =>
 bif r2 then
   ckB (ix 0 1) <|
   bnd (qk7 r1.2 p_2) fun r3 =>
   some (!r3)
 else
   some false
def q3m {R:Type} (s_0:(List Trans)) (f_1c0:Bool) (f_1c1:qL1) (v_7:Int) (v_8:Int) (nx:Int→Option R) (dn:Unit→Option R) (rt:Int→Option R):Option R :=
 bif decide (v_8 < v_7) then
   ckB (ix v_8 s_0.length) <|
   ckB (ix v_8 s_0.length) <|
   bnd (qkw (s_0.getD (Int.toNat v_8) Trans.z) f_1c0 f_1c1) fun r1 =>
   bif r1 then
     rt v_8
   else
     ckB (inR .i64 (v_8+1)) <|
     nx (v_8+1)
 else
   dn ()
def q9m (s_0:(List Trans)) (f_1c0:Bool) (f_1c1:qL1) (v_7:Int) (s0:Int):Option (Unit⊕Int) :=
 loopM (fun a=>q3m s_0 f_1c0 f_1c1 v_7 a (fun a'=>some (.next a')) (fun e=>some (.done e)) (fun r=>some (.ret r))) s0
def q3i:Shp:=⟨[(0,.d false (.slice Trans.ty)),(1,.fn 92 (.cons (.rp false .bool) (.cons (.rp false qT1) .nil))),(7,.d true qT0),(8,.d true qT0)],[]⟩
def q3j:Shp:=⟨[],[]⟩
def q4a (s_0:(List Trans)) (f_1c0:Bool) (f_1c1:qL1):Option Int :=
 bnd (q9m s_0 f_1c0 f_1c1 (s_0.length:Int) 0) fun oe2 =>
 lk oe2 (fun e2 =>
   some (-1)) (fun r=>some r)
def q3g (s_0:(List Trans)) (f_1c0:Bool) (f_1c1:qL1):Option Bool :=
 bnd (q4a s_0 f_1c0 f_1c1) fun r1 =>
 some (decide ((0:Int)≤r1))
def qob (n_0:Net) (l_1:qL1) (trap_2:Bool):Option Bool :=
 bnd (q3g n_0.2.1 trap_2 l_1) fun r1 =>
 some (!r1)
def ql8 (n_00:Int) (n_01:(List Trans)) (n_02:Int) (n_03:Int) (l_1:qL1):Option (Bool×Int) :=
 bnd (qph (n_00,n_01,n_02,n_03,()) l_1) fun r1 =>
 bif (!decide (r1=0)) then
   some (false,r1)
 else
   bnd (qob (n_00,n_01,n_02,n_03,()) l_1 false) fun r2 =>
   some (r2,0)
def qev (k_0:Int):Option Bool :=
 bif decide (k_0 < 0) then
   some true
 else
   some (decide ((100:Int) < k_0))
def q1w {R:Type} (s_0:qL1) (v_7:Int) (v_8:Int) (nx:Int→Option R) (dn:Unit→Option R) (rt:Int→Option R):Option R :=
 bif decide (v_8 < v_7) then
   ckB (ix v_8 s_0.length) <|
   ckB (ix v_8 s_0.length) <|
   bnd (qev (s_0.getD (Int.toNat v_8) 0)) fun r1 =>
   bif r1 then
     rt v_8
   else
     ckB (inR .i64 (v_8+1)) <|
     nx (v_8+1)
 else
   dn ()
def q8m (s_0:qL1) (v_7:Int) (s0:Int):Option (Unit⊕Int) :=
 loopM (fun a=>q1w s_0 v_7 a (fun a'=>some (.next a')) (fun e=>some (.done e)) (fun r=>some (.ret r))) s0
def q86:Shp:=⟨[(0,.d false qT1),(1,.fn 93 .nil),(7,.d true qT0),(8,.d true qT0)],[]⟩
def q83:Shp:=⟨[],[]⟩
def q5h (s_0:qL1):Option Int :=
 bnd (q8m s_0 (s_0.length:Int) 0) fun oe2 =>
 lk oe2 (fun e2 =>
   some (-1)) (fun r=>some r)
def q1v (s_0:qL1):Option Bool :=
 bnd (q5h s_0) fun r1 =>
 some (decide ((0:Int)≤r1))
def q7t (n_0:Net) (m_1:qL1):Option Bool :=
 bnd (qa1 n_0) fun r1 =>
 bif r1 then
   bif decide ((m_1.length:Int)=n_0.1) then
     bnd (q1v m_1) fun r2 =>
     some (!r2)
   else
     some false
 else
   some false
def qeo (p_0:Int) (p_1:qL1):Option Bool :=
 ckB (ix 0 1) <|
 ckB (ix p_0 p_1.length) <|
 ckB (ix p_0 p_1.length) <|
 some (decide ((p_1.getD (Int.toNat p_0) 0)=0))
def q1u {R:Type} (s_0:qL1) (f_1c0:qL1) (v_7:Int) (v_8:Int) (nx:Int→Option R) (dn:Unit→Option R) (rt:Int→Option R):Option R :=
 bif decide (v_8 < v_7) then
   ckB (ix v_8 s_0.length) <|
   ckB (ix v_8 s_0.length) <|
   bnd (qeo (s_0.getD (Int.toNat v_8) 0) f_1c0) fun r1 =>
   bif r1 then
     rt v_8
   else
     ckB (inR .i64 (v_8+1)) <|
     nx (v_8+1)
 else
   dn ()
def q8k (s_0:qL1) (f_1c0:qL1) (v_7:Int) (s0:Int):Option (Unit⊕Int) :=
 loopM (fun a=>q1u s_0 f_1c0 v_7 a (fun a'=>some (.next a')) (fun e=>some (.done e)) (fun r=>some (.ret r))) s0
def q7z:Shp:=⟨[(0,.d false qT1),(1,.fn 95 (.cons (.rp false qT1) .nil)),(7,.d true qT0),(8,.d true qT0)],[]⟩
def q80:Shp:=⟨[],[]⟩
def q5f (s_0:qL1) (f_1c0:qL1):Option Int :=
 bnd (q8k s_0 f_1c0 (s_0.length:Int) 0) fun oe2 =>
 lk oe2 (fun e2 =>
   some (-1)) (fun r=>some r)
def q48 (s_0:qL1) (f_1c0:qL1):Option Bool :=
 bnd (q5f s_0 f_1c0) fun r1 =>
 some (decide ((0:Int)≤r1))
def q9z (t_0:Trans) (m_1:qL1):Option Bool :=
 bnd (q48 t_0.2.1 m_1) fun r1 =>
 some (!r1)
def q6u {R:Type} (m_1:qL1) (v_14:(List Trans)) (v_15:Int) (v_16:Int) (out_6:qL1) (nx:(Int×qL1)→Option R) (dn:qL1→Option R) (rt:(Int×qL1)→Option R):Option R :=
 bif decide (v_16 < v_15) then
   ckB (ix v_16 v_14.length) <|
   ckB (ix v_16 v_14.length) <|
   bnd (q9z (v_14.getD (Int.toNat v_16) Trans.z) m_1) fun r2 =>
   bif r2 then
     ckB (room (out_6.length+1) 8) <|
     ckB (inR .i64 (v_16+1)) <|
     nx ((v_16+1),(out_6++[v_16]))
   else
     ckB (inR .i64 (v_16+1)) <|
     nx ((v_16+1),out_6)
 else
   dn out_6
def qks (m_1:qL1) (v_14:(List Trans)) (v_15:Int) (s0:(Int×qL1)):Option (qL1⊕(Int×qL1)) :=
 loopM (fun a=>q6u m_1 v_14 v_15 a.1 a.2 (fun a'=>some (.next a')) (fun e=>some (.done e)) (fun r=>some (.ret r))) s0
def qjs:Shp:=⟨[(1,.d false qT1),(6,.nl false (.own 0)),(14,.d false (.slice Trans.ty)),(15,.d true qT0),(16,.d true qT0)],[.arr 3 (.fz true) [0] qT0]⟩
def qj7:Shp:=⟨[(6,.nl false (.own 0))],[.arr 3 (.fz true) [0] qT0]⟩
def qcz (n_0:Net) (m_1:qL1):Option (Int×qL1) :=
 bnd (q7t n_0 m_1) fun r1 =>
 bif (!r1) then
   some (1,[])
 else
   bnd (qks m_1 n_0.2.1 (n_0.2.1.length:Int) (0,[])) fun oe3 =>
   lk oe3 (fun e3 =>
     some (0,e3)) (fun r=>some r)
def qbb (n_0:Net) (m_1:qL1):Option Bool :=
 bnd (qcz n_0 m_1) fun r1 =>
 some (decide (r1.1=0))
def qfb (p_0:Int) (p_1:qL1):Option Bool :=
 ckB (ix 0 1) <|
 ckB (ix p_0 p_1.length) <|
 ckB (ix p_0 p_1.length) <|
 some (decide ((0:Int) < (p_1.getD (Int.toNat p_0) 0)))
def q1s {R:Type} (s_0:qL1) (f_1c0:qL1) (v_7:Int) (v_8:Int) (nx:Int→Option R) (dn:Unit→Option R) (rt:Int→Option R):Option R :=
 bif decide (v_8 < v_7) then
   ckB (ix v_8 s_0.length) <|
   ckB (ix v_8 s_0.length) <|
   bnd (qfb (s_0.getD (Int.toNat v_8) 0) f_1c0) fun r1 =>
   bif r1 then
     rt v_8
   else
     ckB (inR .i64 (v_8+1)) <|
     nx (v_8+1)
 else
   dn ()
def q8l (s_0:qL1) (f_1c0:qL1) (v_7:Int) (s0:Int):Option (Unit⊕Int) :=
 loopM (fun a=>q1s s_0 f_1c0 v_7 a (fun a'=>some (.next a')) (fun e=>some (.done e)) (fun r=>some (.ret r))) s0
def q7w:Shp:=⟨[(0,.d false qT1),(1,.fn 86 (.cons (.rp false qT1) .nil)),(7,.d true qT0),(8,.d true qT0)],[]⟩
def q7y:Shp:=⟨[],[]⟩
def q5i (s_0:qL1) (f_1c0:qL1):Option Int :=
 bnd (q8l s_0 f_1c0 (s_0.length:Int) 0) fun oe2 =>
 lk oe2 (fun e2 =>
   some (-1)) (fun r=>some r)
def q47 (s_0:qL1) (f_1c0:qL1):Option Bool :=
 bnd (q5i s_0 f_1c0) fun r1 =>
 some (decide ((0:Int)≤r1))
def q5y (l_0:qL1) (m_1:qL1):Option Bool :=
 bnd (q47 l_0 m_1) fun r1 =>
 some r1
def qct {R:Type} (v_6:qL1) (v_7:Int) (v_8:Int) (b_3:qL1) (nx:(Int×qL1)→Option R) (dn:qL1→Option R) (rt:ByteArray→Option R):Option R :=
 bif decide (v_8 < v_7) then
   ckB (ix v_8 v_6.length) <|
   ckB (ix v_8 v_6.length) <|
   ckB (room (b_3.length+1) 1) <|
   ckB (inR .i64 (v_8+1)) <|
   nx ((v_8+1),(b_3++[(IntKind.wrap .u8 (v_6.getD (Int.toNat v_8) 0))]))
 else
   dn b_3
def qpm (v_6:qL1) (v_7:Int) (s0:(Int×qL1)):Option (qL1⊕ByteArray) :=
 loopM (fun a=>qct v_6 v_7 a.1 a.2 (fun a'=>some (.next a')) (fun e=>some (.done e)) (fun r=>some (.ret r))) s0
def qom:Shp:=⟨[(3,.nl false (.own 0)),(6,.d false qT1),(7,.d true qT0),(8,.d true qT0)],[.arr 5 (.fz true) [0] (.int .u8)]⟩
def qoc:Shp:=⟨[(3,.nl false (.own 0))],[.arr 5 (.fz true) [0] (.int .u8)]⟩
def q64 (m_0:qL1):Option ByteArray :=
 bnd (qpm m_0 (m_0.length:Int) (0,[])) fun oe1 =>
 lk oe1 (fun e1 =>
   some (strOfNums e1)) (fun r=>some r)
def qcq (s_0:qL1):Option qL1 :=
 bif decide ((s_0.length:Int)=0) then
   some []
 else
   ckB (room (0+s_0.length) 8) <|
   some ([]++s_0)
def q5c (s_0:qL1):Option qL1 :=
 ckB (room (0+s_0.length) 8) <|
 some ([]++s_0)
def q1m (s_0:qL1):Option qL1:=q5c s_0
def q5v {R:Type} (x_0:qL1) (m_3:Int) (i_4:Int) (nx:(Int×Int)→Option R) (dn:Int→Option R) (rt:Int→Option R):Option R :=
 bif decide (i_4 < (x_0.length:Int)) then
   ckB (ix i_4 x_0.length) <|
   ckB (ix i_4 x_0.length) <|
   ckB (inR .i64 (i_4+1)) <|
   nx ((max m_3 (x_0.getD (Int.toNat i_4) 0)),(i_4+1))
 else
   dn m_3
def qfq (x_0:qL1) (s0:(Int×Int)):Option (Int⊕Int) :=
 loopM (fun a=>q5v x_0 a.1 a.2 (fun a'=>some (.next a')) (fun e=>some (.done e)) (fun r=>some (.ret r))) s0
def qe8:Shp:=⟨[(0,.d false qT1),(3,.d true qT0),(4,.d true qT0)],[]⟩
def qe0:Shp:=⟨[(3,.d true qT0)],[]⟩
def q81 (x_0:qL1):Option Int :=
 bif decide ((x_0.length:Int) < 1) then
   none
 else
   ckB (ix 0 x_0.length) <|
   ckB (ix 0 x_0.length) <|
   bnd (qfq x_0 ((x_0.getD 0 0),1)) fun oe1 =>
   lk oe1 (fun e1 =>
     some e1) (fun r=>some r)
def qcx {R:Type} (v_35:qL1) (v_36:Int) (x_80:ByteArray) (x_81:qL1) (x_82:qL1) (v_37:Int) (out_9:qL1) (nx:(Int×qL1)→Option R) (dn:qL1→Option R) (rt:(Int×qL1)→Option R):Option R :=
 bif decide (v_37 < v_36) then
   ckB (ix v_37 v_35.length) <|
   ckB (ix v_37 v_35.length) <|
   ckB (ix (v_35.getD (Int.toNat v_37) 0) out_9.length) <|
   ckB (ix (v_35.getD (Int.toNat v_37) 0) out_9.length) <|
   ckB (inR .i64 ((out_9.getD (Int.toNat (v_35.getD (Int.toNat v_37) 0)) 0) - 1)) <|
   ckB (ix (v_35.getD (Int.toNat v_37) 0) out_9.length) <|
   ckB (ix (v_35.getD (Int.toNat v_37) 0) out_9.length) <|
   ckB (inR .i64 (v_37+1)) <|
   nx ((v_37+1),(out_9.set (Int.toNat (v_35.getD (Int.toNat v_37) 0)) ((out_9.getD (Int.toNat (v_35.getD (Int.toNat v_37) 0)) 0) - 1)))
 else
   dn out_9
def qpb (v_35:qL1) (v_36:Int) (x_80:ByteArray) (x_81:qL1) (x_82:qL1) (s0:(Int×qL1)):Option (qL1⊕(Int×qL1)) :=
 loopM (fun a=>qcx v_35 v_36 x_80 x_81 x_82 a.1 a.2 (fun a'=>some (.next a')) (fun e=>some (.done e)) (fun r=>some (.ret r))) s0
def qot:Shp:=⟨[(8,.ptr 0),(9,.own 1),(35,.d false qT1),(36,.d true qT0),(37,.d true qT0)],[.cs 61 3 1 (.cons (.d true .str) (.cons (.d false qT1) (.cons (.d false qT1) .nil))),.arr 3 (.fz true) [0] qT0]⟩
def qoe:Shp:=⟨[(8,.ptr 0),(9,.own 1)],[.cs 61 3 1 (.cons (.d true .str) (.cons (.d false qT1) (.cons (.d false qT1) .nil))),.arr 3 (.fz true) [0] qT0]⟩
def qcy {R:Type} (v_49:qL1) (v_50:Int) (v_51:Int) (out_9:qL1) (nx:(Int×qL1)→Option R) (dn:qL1→Option R) (rt:(Int×qL1)→Option R):Option R :=
 bif decide (v_51 < v_50) then
   ckB (ix v_51 v_49.length) <|
   ckB (ix v_51 v_49.length) <|
   ckB (ix (v_49.getD (Int.toNat v_51) 0) out_9.length) <|
   ckB (ix (v_49.getD (Int.toNat v_51) 0) out_9.length) <|
   ckB (inR .i64 ((out_9.getD (Int.toNat (v_49.getD (Int.toNat v_51) 0)) 0)+1)) <|
   ckB (ix (v_49.getD (Int.toNat v_51) 0) out_9.length) <|
   ckB (ix (v_49.getD (Int.toNat v_51) 0) out_9.length) <|
   ckB (inR .i64 (v_51+1)) <|
   nx ((v_51+1),(out_9.set (Int.toNat (v_49.getD (Int.toNat v_51) 0)) ((out_9.getD (Int.toNat (v_49.getD (Int.toNat v_51) 0)) 0)+1)))
 else
   dn out_9
def qq3 (v_49:qL1) (v_50:Int) (s0:(Int×qL1)):Option (qL1⊕(Int×qL1)) :=
 loopM (fun a=>qcy v_49 v_50 a.1 a.2 (fun a'=>some (.next a')) (fun e=>some (.done e)) (fun r=>some (.ret r))) s0
def qon:Shp:=⟨[(9,.own 0),(49,.d false qT1),(50,.d true qT0),(51,.d true qT0)],[.arr 3 (.fz true) [0] qT0]⟩
def qok:Shp:=⟨[(9,.own 0)],[.arr 3 (.fz true) [0] qT0]⟩
def qo0 (n_0:Net) (m_1:qL1) (t_2:Int):Option (Int×qL1) :=
 bif decide (t_2 < 0) then
   some (2,[])
 else
   bif decide ((n_0.2.1.length:Int)≤t_2) then
     some (2,[])
   else
     ckB (ix t_2 n_0.2.1.length) <|
     ckB (ix t_2 n_0.2.1.length) <|
     bnd (q9z (n_0.2.1.getD (Int.toNat t_2) Trans.z) m_1) fun r1 =>
     bif (!r1) then
       some (12,[])
     else
       bnd (q1m m_1) fun r2 =>
       bnd (qpb (n_0.2.1.getD (Int.toNat t_2) Trans.z).2.1 ((n_0.2.1.getD (Int.toNat t_2) Trans.z).2.1.length:Int) (n_0.2.1.getD (Int.toNat t_2) Trans.z).1 (n_0.2.1.getD (Int.toNat t_2) Trans.z).2.1 (n_0.2.1.getD (Int.toNat t_2) Trans.z).2.2.1 (0,r2)) fun oe3 =>
       lk oe3 (fun e3 =>
         bnd (qq3 (n_0.2.1.getD (Int.toNat t_2) Trans.z).2.2.1 ((n_0.2.1.getD (Int.toNat t_2) Trans.z).2.2.1.length:Int) (0,e3)) fun oe4 =>
         lk oe4 (fun e4 =>
           bnd (q81 e4) fun r5 =>
           bif decide ((100:Int) < r5) then
             some (5,[])
           else
             some (0,e4)) (fun r=>some r)) (fun r=>some r)
def qbi (n_0:Net) (m_1:qL1) (t_2:Int):Option (Int×qL1) :=
 bnd (q7t n_0 m_1) fun r1 =>
 bif (!r1) then
   some (1,[])
 else
   bnd (qo0 n_0 m_1 t_2) fun r2 =>
   some (r2.1,r2.2)
def qi1 {R:Type} (l_2:qL1) (limit_3:Int) (i_12:Int) (v_52:Int) (n_40:Int) (n_41:(List Trans)) (n_42:Int) (n_43:Int) (v_53:Int) (seen_10:(List (ByteArray×Bool))) (queue_11:(List q5)) (nx:(Int×(List (ByteArray×Bool))×(List q5))→Option R) (dn:((List (ByteArray×Bool))×(List q5))→Option R) (rt:(Int×qL1)→Option R):Option R :=
 bif decide (v_53 < v_52) then
   ckB (ix i_12 queue_11.length) <|
   ckB (ix i_12 queue_11.length) <|
   bnd (qbi (n_40,n_41,n_42,n_43,()) (queue_11.getD (Int.toNat i_12) q5.z).1 v_53) fun r5 =>
   bif (!decide (r5.1=0)) then
     ckB (inR .i64 (v_53+1)) <|
     nx ((v_53+1),seen_10,queue_11)
   else
     bnd (q64 r5.2) fun r6 =>
     bif ((mfind .str r6 seen_10).getD false) then
       ckB (inR .i64 (v_53+1)) <|
       nx ((v_53+1),seen_10,queue_11)
     else
       bif decide ((queue_11.length:Int)=limit_3) then
         rt (13,[])
       else
         bnd (q64 r5.2) fun r7 =>
         ckB (ix i_12 queue_11.length) <|
         ckB (ix i_12 queue_11.length) <|
         bnd (q1m (queue_11.getD (Int.toNat i_12) q5.z).2.1) fun r8 =>
         ckB (room (r8.length+1) 8) <|
         bnd (q5y l_2 r5.2) fun r9 =>
         bif (!r9) then
           rt (0,(r8++[v_53]))
         else
           ckB (room (queue_11.length+1) 48) <|
           ckB (inR .i64 (v_53+1)) <|
           nx ((v_53+1),(mput .str r7 true seen_10),(queue_11++[(r5.2,(r8++[v_53]),())]))
 else
   dn (seen_10,queue_11)
def qs5 (l_2:qL1) (limit_3:Int) (i_12:Int) (v_52:Int) (n_40:Int) (n_41:(List Trans)) (n_42:Int) (n_43:Int) (s0:(Int×(List (ByteArray×Bool))×(List q5))):Option (((List (ByteArray×Bool))×(List q5))⊕(Int×qL1)) :=
 loopM (fun a=>qi1 l_2 limit_3 i_12 v_52 n_40 n_41 n_42 n_43 a.1 a.2.1 a.2.2 (fun a'=>some (.next a')) (fun e=>some (.done e)) (fun r=>some (.ret r))) s0
def qhy:Shp:=⟨[(2,.d false qT1),(3,.d true qT0),(4,.ptr 0),(10,.mp 1),(11,.own 2),(12,.d true qT0),(52,.d true qT0),(53,.d true qT0)],[.cs 24 4 1 (.cons (.d true qT0) (.cons (.d false (.slice Trans.ty)) (.cons (.d true qT0) (.cons (.d true qT0) .nil)))),.mp .str .bool,.arr 76 (.fz false) [3,3] q5.ty]⟩
def qi7:Shp:=⟨[(2,.d false qT1),(3,.d true qT0),(4,.ptr 0),(10,.mp 1),(11,.own 2),(12,.d true qT0)],[.cs 24 4 1 (.cons (.d true qT0) (.cons (.d false (.slice Trans.ty)) (.cons (.d true qT0) (.cons (.d true qT0) .nil)))),.mp .str .bool,.arr 76 (.fz false) [3,3] q5.ty]⟩
def qik {R:Type} (l_2:qL1) (limit_3:Int) (n_40:Int) (n_41:(List Trans)) (n_42:Int) (n_43:Int) (i_12:Int) (seen_10:(List (ByteArray×Bool))) (queue_11:(List q5)) (nx:(Int×(List (ByteArray×Bool))×(List q5))→Option R) (dn:Unit→Option R) (rt:(Int×qL1)→Option R):Option R :=
 bif decide (i_12 < (queue_11.length:Int)) then
   bnd (qs5 l_2 limit_3 i_12 (n_41.length:Int) n_40 n_41 n_42 n_43 (0,seen_10,queue_11)) fun oe10 =>
   lk oe10 (fun e10 =>
     ckB (inR .i64 (i_12+1)) <|
     nx ((i_12+1),e10.1,e10.2)) (fun r=>rt r)
 else
   dn ()
def qrf (l_2:qL1) (limit_3:Int) (n_40:Int) (n_41:(List Trans)) (n_42:Int) (n_43:Int) (s0:(Int×(List (ByteArray×Bool))×(List q5))):Option (Unit⊕(Int×qL1)) :=
 loopM (fun a=>qik l_2 limit_3 n_40 n_41 n_42 n_43 a.1 a.2.1 a.2.2 (fun a'=>some (.next a')) (fun e=>some (.done e)) (fun r=>some (.ret r))) s0
def qia:Shp:=⟨[(2,.d false qT1),(3,.d true qT0),(4,.ptr 0),(10,.mp 1),(11,.own 2),(12,.d true qT0)],[.cs 24 4 1 (.cons (.d true qT0) (.cons (.d false (.slice Trans.ty)) (.cons (.d true qT0) (.cons (.d true qT0) .nil)))),.mp .str .bool,.arr 76 (.fz false) [3,3] q5.ty]⟩
def qi5:Shp:=⟨[],[]⟩
def qml (n_00:Int) (n_01:(List Trans)) (n_02:Int) (n_03:Int) (m_1:qL1) (l_2:qL1) (limit_3:Int):Option (Int×qL1) :=
 bnd (qbb (n_00,n_01,n_02,n_03,()) m_1) fun r1 =>
 bif (!r1) then
   some (1,[])
 else
   bnd (qbl (n_00,n_01,n_02,n_03,()) l_2) fun r2 =>
   bif (!r2) then
     some (2,[])
   else
     bif decide (limit_3 < 1) then
       some (2,[])
     else
       bif decide ((2000:Int) < limit_3) then
         some (2,[])
       else
         bnd (q5y l_2 m_1) fun r3 =>
         bif (!r3) then
           some (0,[])
         else
           bnd (q64 m_1) fun r4 =>
           bnd (qrf l_2 limit_3 n_00 n_01 n_02 n_03 (0,(mput .str r4 true ([]:(List (ByteArray×Bool)))),[(m_1,[],())])) fun oe11 =>
           lk oe11 (fun e11 =>
             some (10,[])) (fun r=>some r)
def q6z {R:Type} (a_0:qL1) (b_1:qL1) (i_5:Int) (nx:Int→Option R) (dn:Unit→Option R) (rt:Bool→Option R):Option R :=
 bif decide (i_5 < (a_0.length:Int)) then
   ckB (ix i_5 a_0.length) <|
   ckB (ix i_5 a_0.length) <|
   ckB (ix i_5 b_1.length) <|
   ckB (ix i_5 b_1.length) <|
   bif (!decide ((a_0.getD (Int.toNat i_5) 0)=(b_1.getD (Int.toNat i_5) 0))) then
     rt false
   else
     ckB (inR .i64 (i_5+1)) <|
     nx (i_5+1)
 else
   dn ()
def qky (a_0:qL1) (b_1:qL1) (s0:Int):Option (Unit⊕Bool) :=
 loopM (fun a=>q6z a_0 b_1 a (fun a'=>some (.next a')) (fun e=>some (.done e)) (fun r=>some (.ret r))) s0
def qk0:Shp:=⟨[(0,.d false qT1),(1,.d false qT1),(5,.d true qT0)],[]⟩
def qj9:Shp:=⟨[],[]⟩
def q9x (a_0:qL1) (b_1:qL1):Option Bool :=
 bif (!decide ((a_0.length:Int)=(b_1.length:Int))) then
   some false
 else
   bnd (qky a_0 b_1 0) fun oe1 =>
   lk oe1 (fun e1 =>
     some true) (fun r=>some r)
def qos {R:Type} (a_0:qL2) (b_1:qL2) (i_5:Int) (nx:Int→Option R) (dn:Unit→Option R) (rt:Bool→Option R):Option R :=
 bif decide (i_5 < (a_0.length:Int)) then
   ckB (ix i_5 a_0.length) <|
   ckB (ix i_5 a_0.length) <|
   ckB (ix i_5 b_1.length) <|
   ckB (ix i_5 b_1.length) <|
   bnd (q9x (a_0.getD (Int.toNat i_5) []) (b_1.getD (Int.toNat i_5) [])) fun r1 =>
   bif (!r1) then
     rt false
   else
     ckB (inR .i64 (i_5+1)) <|
     nx (i_5+1)
 else
   dn ()
def qx8 (a_0:qL2) (b_1:qL2) (s0:Int):Option (Unit⊕Bool) :=
 loopM (fun a=>qos a_0 b_1 a (fun a'=>some (.next a')) (fun e=>some (.done e)) (fun r=>some (.ret r))) s0
def qop:Shp:=⟨[(0,.d false qT2),(1,.d false qT2),(5,.d true qT0)],[]⟩
def qp2:Shp:=⟨[],[]⟩
def qt4 (a_0:qL2) (b_1:qL2):Option Bool :=
 bif (!decide ((a_0.length:Int)=(b_1.length:Int))) then
   some false
 else
   bnd (qx8 a_0 b_1 0) fun oe2 =>
   lk oe2 (fun e2 =>
     some true) (fun r=>some r)
def q4l {R:Type} (s1_0:qL1) (s2_1:qL1) (v_12:Int) (v_13:Int) (nx:Int→Option R) (dn:Unit→Option R) (rt:Bool→Option R):Option R :=
 bif decide (v_13 < v_12) then
   ckB (ix v_13 s1_0.length) <|
   ckB (ix v_13 s1_0.length) <|
   ckB (ix v_13 s2_1.length) <|
   ckB (ix v_13 s2_1.length) <|
   bif (!decide ((s1_0.getD (Int.toNat v_13) 0)=(s2_1.getD (Int.toNat v_13) 0))) then
     rt false
   else
     ckB (inR .i64 (v_13+1)) <|
     nx (v_13+1)
 else
   dn ()
def qcp (s1_0:qL1) (s2_1:qL1) (v_12:Int) (s0:Int):Option (Unit⊕Bool) :=
 loopM (fun a=>q4l s1_0 s2_1 v_12 a (fun a'=>some (.next a')) (fun e=>some (.done e)) (fun r=>some (.ret r))) s0
def qbw:Shp:=⟨[(0,.d false qT1),(1,.d false qT1),(12,.d true qT0),(13,.d true qT0)],[]⟩
def qby:Shp:=⟨[],[]⟩
def q2e (s1_0:qL1) (s2_1:qL1):Option Bool :=
 bif (!decide ((s1_0.length:Int)=(s2_1.length:Int))) then
   some false
 else
   bnd (qcp s1_0 s2_1 (s1_0.length:Int) 0) fun oe1 =>
   lk oe1 (fun e1 =>
     some true) (fun r=>some r)
def qlh  : Option Bool :=
 bnd (qmt 2 [(⟨#[97]⟩,[0],[1],()),(⟨#[98]⟩,[1],[0],())] 0 1) fun r1 =>
 ckB (ix 1 2) <|
 bnd (ql8 2 [(⟨#[97]⟩,[0],[1],()),(⟨#[98]⟩,[1],[],())] 0 1 [0]) fun r2 =>
 bnd (qml 2 [(⟨#[97]⟩,[0],[1],()),(⟨#[98]⟩,[1],[],())] 0 1 [1,0] [0] 10) fun r3 =>
 bif decide (r1.1=0) then
   bnd (qt4 r1.2 [[0,1]]) fun r4 =>
   bif r4 then
     bif decide (r2.2=0) then
       bif r2.1 then
         bif decide (r3.1=0) then
           bnd (q2e r3.2 [0]) fun r5 =>
           some r5
         else
           some false
       else
         some false
     else
       some false
   else
     some false
 else
   some false
def qd0 (t_0:Trans):Option Bool :=
 bif decide ((50:Int) < (t_0.2.1.length:Int)) then
   some true
 else
   bif decide ((50:Int) < (t_0.2.2.1.length:Int)) then
     some true
   else
     some (decide ((200:Int) < (ByteArray.size t_0.1:Int)))
def q11 {R:Type} (s_0:(List Trans)) (v_7:Int) (v_8:Int) (nx:Int→Option R) (dn:Unit→Option R) (rt:Int→Option R):Option R :=
 bif decide (v_8 < v_7) then
   ckB (ix v_8 s_0.length) <|
   ckB (ix v_8 s_0.length) <|
   bnd (qd0 (s_0.getD (Int.toNat v_8) Trans.z)) fun r1 =>
   bif r1 then
     rt v_8
   else
     ckB (inR .i64 (v_8+1)) <|
     nx (v_8+1)
 else
   dn ()
def q3v (s_0:(List Trans)) (v_7:Int) (s0:Int):Option (Unit⊕Int) :=
 loopM (fun a=>q11 s_0 v_7 a (fun a'=>some (.next a')) (fun e=>some (.done e)) (fun r=>some (.ret r))) s0
def q3n:Shp:=⟨[(0,.d false (.slice Trans.ty)),(1,.fn 45 .nil),(7,.d true qT0),(8,.d true qT0)],[]⟩
def q3k:Shp:=⟨[],[]⟩
def q1q (s_0:(List Trans)):Option Int :=
 bnd (q3v s_0 (s_0.length:Int) 0) fun oe2 =>
 lk oe2 (fun e2 =>
   some (-1)) (fun r=>some r)
def qn (s_0:(List Trans)):Option Bool :=
 bnd (q1q s_0) fun r1 =>
 some (decide ((0:Int)≤r1))
def qgt (n_0:Net):Option Bool :=
 bif decide ((12:Int) < (n_0.2.1.length:Int)) then
   bif decide ((n_0.2.1.length:Int)≤60) then
     some true
   else
     bif decide ((100:Int) < (n_0.2.1.length:Int)) then
       some true
     else
       bif decide ((10:Int) < n_0.1) then
         bif decide (n_0.1≤16) then
           some true
         else
           bnd (qn n_0.2.1) fun r1 =>
           some r1
       else
         bnd (qn n_0.2.1) fun r2 =>
         some r2
 else
   bif decide ((100:Int) < (n_0.2.1.length:Int)) then
     some true
   else
     bif decide ((10:Int) < n_0.1) then
       bif decide (n_0.1≤16) then
         some true
       else
         bnd (qn n_0.2.1) fun r3 =>
         some r3
     else
       bnd (qn n_0.2.1) fun r4 =>
       some r4
def qb4 (c_0:Int):Option Bool :=
 bif decide ((97:Int)≤c_0) then
   bif decide (c_0≤122) then
     some true
   else
     bif decide ((65:Int)≤c_0) then
       some (decide (c_0≤90))
     else
       some false
 else
   bif decide ((65:Int)≤c_0) then
     some (decide (c_0≤90))
   else
     some false
def q87 {R:Type} (s_0:ByteArray) (i_3:Int) (nx:Int→Option R) (dn:Unit→Option R) (rt:Bool→Option R):Option R :=
 bif decide (i_3 < (ByteArray.size s_0:Int)) then
   ckB (ix i_3 (ByteArray.size s_0)) <|
   bnd (qb4 (((ByteArray.data s_0).getD (Int.toNat i_3) 0).toNat:Int)) fun r2 =>
   bif (!r2) then
     bif decide ((48:Int)≤(((ByteArray.data s_0).getD (Int.toNat i_3) 0).toNat:Int)) then
       bif (!(decide ((((ByteArray.data s_0).getD (Int.toNat i_3) 0).toNat:Int)≤57))) then
         bif (!decide ((((ByteArray.data s_0).getD (Int.toNat i_3) 0).toNat:Int)=95)) then
           bif (!decide ((((ByteArray.data s_0).getD (Int.toNat i_3) 0).toNat:Int)=45)) then
             bif (!decide ((((ByteArray.data s_0).getD (Int.toNat i_3) 0).toNat:Int)=46)) then
               rt false
             else
               ckB (inR .i64 (i_3+1)) <|
               nx (i_3+1)
           else
             ckB (inR .i64 (i_3+1)) <|
             nx (i_3+1)
         else
           ckB (inR .i64 (i_3+1)) <|
           nx (i_3+1)
       else
         ckB (inR .i64 (i_3+1)) <|
         nx (i_3+1)
     else
       bif (!decide ((((ByteArray.data s_0).getD (Int.toNat i_3) 0).toNat:Int)=95)) then
         bif (!decide ((((ByteArray.data s_0).getD (Int.toNat i_3) 0).toNat:Int)=45)) then
           bif (!decide ((((ByteArray.data s_0).getD (Int.toNat i_3) 0).toNat:Int)=46)) then
             rt false
           else
             ckB (inR .i64 (i_3+1)) <|
             nx (i_3+1)
         else
           ckB (inR .i64 (i_3+1)) <|
           nx (i_3+1)
       else
         ckB (inR .i64 (i_3+1)) <|
         nx (i_3+1)
   else
     ckB (inR .i64 (i_3+1)) <|
     nx (i_3+1)
 else
   dn ()
def qma (s_0:ByteArray) (s0:Int):Option (Unit⊕Bool) :=
 loopM (fun a=>q87 s_0 a (fun a'=>some (.next a')) (fun e=>some (.done e)) (fun r=>some (.ret r))) s0
def qkz:Shp:=⟨[(0,.d true .str),(3,.d true qT0)],[]⟩
def qkq:Shp:=⟨[],[]⟩
def qfl (s_0:ByteArray):Option Bool :=
 bif decide ((ByteArray.size s_0:Int) < 1) then
   some false
 else
   bif decide ((40:Int) < (ByteArray.size s_0:Int)) then
     some false
   else
     ckB (ix 0 (ByteArray.size s_0)) <|
     bnd (qb4 (((ByteArray.data s_0).getD 0 0).toNat:Int)) fun r1 =>
     bif (!r1) then
       some false
     else
       bnd (qma s_0 1) fun oe3 =>
       lk oe3 (fun e3 =>
         some true) (fun r=>some r)
def q5n {R:Type} (n_0:Int) (l_1:qL1) (i_5:Int) (nx:Int→Option R) (dn:Unit→Option R) (rt:Bool→Option R):Option R :=
 bif decide (i_5 < (l_1.length:Int)) then
   ckB (ix i_5 l_1.length) <|
   ckB (ix i_5 l_1.length) <|
   bif decide ((l_1.getD (Int.toNat i_5) 0) < 0) then
     rt false
   else
     ckB (ix i_5 l_1.length) <|
     ckB (ix i_5 l_1.length) <|
     bif decide (n_0≤(l_1.getD (Int.toNat i_5) 0)) then
       rt false
     else
       bif decide ((0:Int) < i_5) then
         ckB (inR .i64 (i_5 - 1)) <|
         ckB (ix (i_5 - 1) l_1.length) <|
         ckB (ix (i_5 - 1) l_1.length) <|
         ckB (ix i_5 l_1.length) <|
         ckB (ix i_5 l_1.length) <|
         bif decide ((l_1.getD (Int.toNat i_5) 0)≤(l_1.getD (Int.toNat (i_5 - 1)) 0)) then
           rt false
         else
           ckB (inR .i64 (i_5+1)) <|
           nx (i_5+1)
       else
         ckB (inR .i64 (i_5+1)) <|
         nx (i_5+1)
 else
   dn ()
def qn5 (n_0:Int) (l_1:qL1) (s0:Int):Option (Unit⊕Bool) :=
 loopM (fun a=>q5n n_0 l_1 a (fun a'=>some (.next a')) (fun e=>some (.done e)) (fun r=>some (.ret r))) s0
def qkp:Shp:=⟨[(0,.d true qT0),(1,.d false qT1),(5,.d true qT0)],[]⟩
def qkt:Shp:=⟨[],[]⟩
def q6s (n_0:Int) (l_1:qL1):Option Bool :=
 bnd (qn5 n_0 l_1 0) fun oe1 =>
 lk oe1 (fun e1 =>
   some true) (fun r=>some r)
def qbh {R:Type} (n_10:Int) (n_11:(List Trans)) (n_12:Int) (n_13:Int) (i_3:Int) (nx:Int→Option R) (dn:Unit→Option R) (rt:Bool→Option R):Option R :=
 bif decide (i_3 < (n_11.length:Int)) then
   ckB (ix i_3 n_11.length) <|
   ckB (ix i_3 n_11.length) <|
   bif (!(ByteArray.toList (n_11.getD (Int.toNat i_3) Trans.z).1 == ByteArray.toList ⟨#[]⟩)) then
     bnd (qfl (n_11.getD (Int.toNat i_3) Trans.z).1) fun r1 =>
     bif (!r1) then
       rt false
     else
       bnd (q6s n_10 (n_11.getD (Int.toNat i_3) Trans.z).2.1) fun r2 =>
       bif (!r2) then
         rt false
       else
         bnd (q6s n_10 (n_11.getD (Int.toNat i_3) Trans.z).2.2.1) fun r3 =>
         bif (!r3) then
           rt false
         else
           ckB (inR .i64 (i_3+1)) <|
           nx (i_3+1)
   else
     bnd (q6s n_10 (n_11.getD (Int.toNat i_3) Trans.z).2.1) fun r4 =>
     bif (!r4) then
       rt false
     else
       bnd (q6s n_10 (n_11.getD (Int.toNat i_3) Trans.z).2.2.1) fun r5 =>
       bif (!r5) then
         rt false
       else
         ckB (inR .i64 (i_3+1)) <|
         nx (i_3+1)
 else
   dn ()
def qp7 (n_10:Int) (n_11:(List Trans)) (n_12:Int) (n_13:Int) (s0:Int):Option (Unit⊕Bool) :=
 loopM (fun a=>qbh n_10 n_11 n_12 n_13 a (fun a'=>some (.next a')) (fun e=>some (.done e)) (fun r=>some (.ret r))) s0
def qmi:Shp:=⟨[(1,.ptr 0),(3,.d true qT0)],[.cs 24 4 1 (.cons (.d true qT0) (.cons (.d false (.slice Trans.ty)) (.cons (.d true qT0) (.cons (.d true qT0) .nil))))]⟩
def qn2:Shp:=⟨[],[]⟩
def qa2 (n_0:Net):Option Bool :=
 bif decide (n_0.1 < 1) then
   some false
 else
   bif decide ((40:Int) < n_0.1) then
     some false
   else
     bif decide ((60:Int) < (n_0.2.1.length:Int)) then
       some false
     else
       bif decide (n_0.2.2.1 < 0) then
         some false
       else
         bif decide (n_0.1≤n_0.2.2.1) then
           some false
         else
           bif decide (n_0.2.2.2.1 < 0) then
             some false
           else
             bif decide (n_0.1≤n_0.2.2.2.1) then
               some false
             else
               bnd (qp7 n_0.1 n_0.2.1 n_0.2.2.1 n_0.2.2.2.1 0) fun oe6 =>
               lk oe6 (fun e6 =>
                 some true) (fun r=>some r)
def q12 {R:Type} (l_2:qL1) (limit_3:Int) (i_12:Int) (v_52:Int) (n_40:Int) (n_41:(List Trans)) (n_42:Int) (n_43:Int) (v_53:Int) (seen_10:(List (ByteArray×Bool))) (queue_11:(List q5)) (nx:(Int×(List (ByteArray×Bool))×(List q5))→Option R) (dn:((List (ByteArray×Bool))×(List q5))→Option R) (rt:(Int×qL1)→Option R):Option R :=
 bif decide (v_53 < v_52) then
   ckB (ix i_12 queue_11.length) <|
   ckB (ix i_12 queue_11.length) <|
   bnd (qbi (n_40,n_41,n_42,n_43,()) (queue_11.getD (Int.toNat i_12) q5.z).1 v_53) fun r5 =>
   bif (!decide (r5.1=0)) then
     ckB (inR .i64 (v_53+1)) <|
     nx ((v_53+1),seen_10,queue_11)
   else
     bnd (q64 r5.2) fun r6 =>
     bif ((mfind .str r6 seen_10).getD false) then
       ckB (inR .i64 (v_53+1)) <|
       nx ((v_53+1),seen_10,queue_11)
     else
       bif decide ((queue_11.length:Int)=limit_3) then
         rt (13,[])
       else
         bnd (q64 r5.2) fun r7 =>
         ckB (ix i_12 queue_11.length) <|
         ckB (ix i_12 queue_11.length) <|
         bnd (q1m (queue_11.getD (Int.toNat i_12) q5.z).2.1) fun r8 =>
         ckB (room (r8.length+1) 8) <|
         bnd (q5y l_2 r5.2) fun r9 =>
         bif (!r9) then
           rt (0,(r8++[v_53]))
         else
           ckB (room (queue_11.length+1) 48) <|
           ckB (inR .i64 (v_53+1)) <|
           nx ((v_53+1),(mput .str r7 true seen_10),(queue_11++[(r5.2,(r8++[v_53]),())]))
 else
   dn (seen_10,queue_11)
def qi6 (l_2:qL1) (limit_3:Int) (i_12:Int) (v_52:Int) (n_40:Int) (n_41:(List Trans)) (n_42:Int) (n_43:Int) (s0:(Int×(List (ByteArray×Bool))×(List q5))):Option (((List (ByteArray×Bool))×(List q5))⊕(Int×qL1)) :=
 loopM (fun a=>q12 l_2 limit_3 i_12 v_52 n_40 n_41 n_42 n_43 a.1 a.2.1 a.2.2 (fun a'=>some (.next a')) (fun e=>some (.done e)) (fun r=>some (.ret r))) s0
def qh1:Shp:=⟨[(2,.d false qT1),(3,.d true qT0),(4,.ptr 0),(10,.mp 1),(11,.own 2),(12,.d true qT0),(52,.d true qT0),(53,.d true qT0)],[.cs 24 4 1 (.cons (.d true qT0) (.cons (.d false (.slice Trans.ty)) (.cons (.d true qT0) (.cons (.d true qT0) .nil)))),.mp .str .bool,.arr 76 (.fz false) [3,3] q5.ty]⟩
def qgw:Shp:=⟨[(2,.d false qT1),(3,.d true qT0),(4,.ptr 0),(10,.mp 1),(11,.own 2),(12,.d true qT0)],[.cs 24 4 1 (.cons (.d true qT0) (.cons (.d false (.slice Trans.ty)) (.cons (.d true qT0) (.cons (.d true qT0) .nil)))),.mp .str .bool,.arr 76 (.fz false) [3,3] q5.ty]⟩
def q3l {R:Type} (l_2:qL1) (limit_3:Int) (n_40:Int) (n_41:(List Trans)) (n_42:Int) (n_43:Int) (i_12:Int) (seen_10:(List (ByteArray×Bool))) (queue_11:(List q5)) (nx:(Int×(List (ByteArray×Bool))×(List q5))→Option R) (dn:Unit→Option R) (rt:(Int×qL1)→Option R):Option R :=
 bif decide (i_12 < (queue_11.length:Int)) then
   bnd (qi6 l_2 limit_3 i_12 (n_41.length:Int) n_40 n_41 n_42 n_43 (0,seen_10,queue_11)) fun oe10 =>
   lk oe10 (fun e10 =>
     ckB (inR .i64 (i_12+1)) <|
     nx ((i_12+1),e10.1,e10.2)) (fun r=>rt r)
 else
   dn ()
def qii (l_2:qL1) (limit_3:Int) (n_40:Int) (n_41:(List Trans)) (n_42:Int) (n_43:Int) (s0:(Int×(List (ByteArray×Bool))×(List q5))):Option (Unit⊕(Int×qL1)) :=
 loopM (fun a=>q3l l_2 limit_3 n_40 n_41 n_42 n_43 a.1 a.2.1 a.2.2 (fun a'=>some (.next a')) (fun e=>some (.done e)) (fun r=>some (.ret r))) s0
def qh3:Shp:=⟨[(2,.d false qT1),(3,.d true qT0),(4,.ptr 0),(10,.mp 1),(11,.own 2),(12,.d true qT0)],[.cs 24 4 1 (.cons (.d true qT0) (.cons (.d false (.slice Trans.ty)) (.cons (.d true qT0) (.cons (.d true qT0) .nil)))),.mp .str .bool,.arr 76 (.fz false) [3,3] q5.ty]⟩
def qgv:Shp:=⟨[],[]⟩
def qy (n_0:Net) (m_1:qL1) (l_2:qL1) (limit_3:Int):Option (Int×qL1) :=
 bnd (qbb n_0 m_1) fun r1 =>
 bif (!r1) then
   some (1,[])
 else
   bnd (qbl n_0 l_2) fun r2 =>
   bif (!r2) then
     some (2,[])
   else
     bif decide (limit_3 < 1) then
       some (2,[])
     else
       bif decide ((2000:Int) < limit_3) then
         some (2,[])
       else
         bnd (q5y l_2 m_1) fun r3 =>
         bif (!r3) then
           some (0,[])
         else
           bnd (q64 m_1) fun r4 =>
           bnd (qii l_2 limit_3 n_0.1 n_0.2.1 n_0.2.2.1 n_0.2.2.2.1 (0,(mput .str r4 true ([]:(List (ByteArray×Bool)))),[(m_1,[],())])) fun oe11 =>
           lk oe11 (fun e11 =>
             some (10,[])) (fun r=>some r)
def q9s {R:Type} (m_1:qL1) (i_5:Int) (nx:Int→Option R) (dn:Unit→Option R) (rt:Bool→Option R):Option R :=
 bif decide (i_5 < (m_1.length:Int)) then
   ckB (ix i_5 m_1.length) <|
   ckB (ix i_5 m_1.length) <|
   bif decide ((m_1.getD (Int.toNat i_5) 0) < 0) then
     rt false
   else
     ckB (ix i_5 m_1.length) <|
     ckB (ix i_5 m_1.length) <|
     bif decide ((100:Int) < (m_1.getD (Int.toNat i_5) 0)) then
       rt false
     else
       ckB (inR .i64 (i_5+1)) <|
       nx (i_5+1)
 else
   dn ()
def qlb (m_1:qL1) (s0:Int):Option (Unit⊕Bool) :=
 loopM (fun a=>q9s m_1 a (fun a'=>some (.next a')) (fun e=>some (.done e)) (fun r=>some (.ret r))) s0
def qjj:Shp:=⟨[(1,.d false qT1),(5,.d true qT0)],[]⟩
def qjl:Shp:=⟨[],[]⟩
def q5x (n_0:Net) (m_1:qL1):Option Bool :=
 bif (!decide ((m_1.length:Int)=n_0.1)) then
   some false
 else
   bnd (qlb m_1 0) fun oe1 =>
   lk oe1 (fun e1 =>
     some true) (fun r=>some r)
def q95 {R:Type} (l_1:qL1) (n_20:Int) (n_21:(List Trans)) (n_22:Int) (n_23:Int) (i_5:Int) (nx:Int→Option R) (dn:Unit→Option R) (rt:Bool→Option R):Option R :=
 bif decide (i_5 < (l_1.length:Int)) then
   ckB (ix i_5 l_1.length) <|
   ckB (ix i_5 l_1.length) <|
   bif decide ((l_1.getD (Int.toNat i_5) 0) < 0) then
     rt false
   else
     ckB (ix i_5 l_1.length) <|
     ckB (ix i_5 l_1.length) <|
     bif decide (n_20≤(l_1.getD (Int.toNat i_5) 0)) then
       rt false
     else
       bif decide ((0:Int) < i_5) then
         ckB (inR .i64 (i_5 - 1)) <|
         ckB (ix (i_5 - 1) l_1.length) <|
         ckB (ix (i_5 - 1) l_1.length) <|
         ckB (ix i_5 l_1.length) <|
         ckB (ix i_5 l_1.length) <|
         bif decide ((l_1.getD (Int.toNat i_5) 0)≤(l_1.getD (Int.toNat (i_5 - 1)) 0)) then
           rt false
         else
           ckB (inR .i64 (i_5+1)) <|
           nx (i_5+1)
       else
         ckB (inR .i64 (i_5+1)) <|
         nx (i_5+1)
 else
   dn ()
def qra (l_1:qL1) (n_20:Int) (n_21:(List Trans)) (n_22:Int) (n_23:Int) (s0:Int):Option (Unit⊕Bool) :=
 loopM (fun a=>q95 l_1 n_20 n_21 n_22 n_23 a (fun a'=>some (.next a')) (fun e=>some (.done e)) (fun r=>some (.ret r))) s0
def qpn:Shp:=⟨[(1,.d false qT1),(2,.ptr 0),(5,.d true qT0)],[.cs 24 4 1 (.cons (.d true qT0) (.cons (.d false (.slice Trans.ty)) (.cons (.d true qT0) (.cons (.d true qT0) .nil))))]⟩
def qpx:Shp:=⟨[],[]⟩
def qgz (n_0:Net) (l_1:qL1):Option Bool :=
 bnd (qra l_1 n_0.1 n_0.2.1 n_0.2.2.1 n_0.2.2.2.1 0) fun oe1 =>
 lk oe1 (fun e1 =>
   some true) (fun r=>some r)
def qac {R:Type} (m_0:qL1) (l_1:qL1) (i_5:Int) (nx:Int→Option R) (dn:Unit→Option R) (rt:Bool→Option R):Option R :=
 bif decide (i_5 < (l_1.length:Int)) then
   ckB (ix i_5 l_1.length) <|
   ckB (ix i_5 l_1.length) <|
   ckB (ix (l_1.getD (Int.toNat i_5) 0) m_0.length) <|
   ckB (ix (l_1.getD (Int.toNat i_5) 0) m_0.length) <|
   bif decide ((0:Int) < (m_0.getD (Int.toNat (l_1.getD (Int.toNat i_5) 0)) 0)) then
     rt true
   else
     ckB (inR .i64 (i_5+1)) <|
     nx (i_5+1)
 else
   dn ()
def qn1 (m_0:qL1) (l_1:qL1) (s0:Int):Option (Unit⊕Bool) :=
 loopM (fun a=>qac m_0 l_1 a (fun a'=>some (.next a')) (fun e=>some (.done e)) (fun r=>some (.ret r))) s0
def qlg:Shp:=⟨[(0,.d false qT1),(1,.d false qT1),(5,.d true qT0)],[]⟩
def ql5:Shp:=⟨[],[]⟩
def qaw (m_0:qL1) (l_1:qL1):Option Bool :=
 bnd (qn1 m_0 l_1 0) fun oe1 =>
 lk oe1 (fun e1 =>
   some false) (fun r=>some r)
def qb9 {R:Type} (m_1:qL1) (t_2:Int) (n_30:Int) (n_31:(List Trans)) (n_32:Int) (n_33:Int) (i_7:Int) (nx:Int→Option R) (dn:Unit→Option R) (rt:Bool→Option R):Option R :=
 ckB (ix t_2 n_31.length) <|
 ckB (ix t_2 n_31.length) <|
 bif decide (i_7 < ((n_31.getD (Int.toNat t_2) Trans.z).2.1.length:Int)) then
   ckB (ix t_2 n_31.length) <|
   ckB (ix t_2 n_31.length) <|
   ckB (ix i_7 (n_31.getD (Int.toNat t_2) Trans.z).2.1.length) <|
   ckB (ix i_7 (n_31.getD (Int.toNat t_2) Trans.z).2.1.length) <|
   ckB (ix ((n_31.getD (Int.toNat t_2) Trans.z).2.1.getD (Int.toNat i_7) 0) m_1.length) <|
   ckB (ix ((n_31.getD (Int.toNat t_2) Trans.z).2.1.getD (Int.toNat i_7) 0) m_1.length) <|
   bif decide ((m_1.getD (Int.toNat ((n_31.getD (Int.toNat t_2) Trans.z).2.1.getD (Int.toNat i_7) 0)) 0) < 1) then
     rt false
   else
     ckB (inR .i64 (i_7+1)) <|
     nx (i_7+1)
 else
   dn ()
def qr9 (m_1:qL1) (t_2:Int) (n_30:Int) (n_31:(List Trans)) (n_32:Int) (n_33:Int) (s0:Int):Option (Unit⊕Bool) :=
 loopM (fun a=>qb9 m_1 t_2 n_30 n_31 n_32 n_33 a (fun a'=>some (.next a')) (fun e=>some (.done e)) (fun r=>some (.ret r))) s0
def qpu:Shp:=⟨[(1,.d false qT1),(2,.d true qT0),(3,.ptr 0),(7,.d true qT0)],[.cs 24 4 1 (.cons (.d true qT0) (.cons (.d false (.slice Trans.ty)) (.cons (.d true qT0) (.cons (.d true qT0) .nil))))]⟩
def qpr:Shp:=⟨[],[]⟩
def qkr (n_0:Net) (m_1:qL1) (t_2:Int):Option Bool :=
 bnd (qr9 m_1 t_2 n_0.1 n_0.2.1 n_0.2.2.1 n_0.2.2.2.1 0) fun oe1 =>
 lk oe1 (fun e1 =>
   some true) (fun r=>some r)
def qcu {R:Type} (t_2:Int) (n_30:Int) (n_31:(List Trans)) (n_32:Int) (n_33:Int) (i_9:Int) (out_8:qL1) (nx:(Int×qL1)→Option R) (dn:qL1→Option R) (rt:(Int×qL1)→Option R):Option R :=
 ckB (ix t_2 n_31.length) <|
 ckB (ix t_2 n_31.length) <|
 bif decide (i_9 < ((n_31.getD (Int.toNat t_2) Trans.z).2.1.length:Int)) then
   ckB (ix t_2 n_31.length) <|
   ckB (ix t_2 n_31.length) <|
   ckB (ix i_9 (n_31.getD (Int.toNat t_2) Trans.z).2.1.length) <|
   ckB (ix i_9 (n_31.getD (Int.toNat t_2) Trans.z).2.1.length) <|
   ckB (ix t_2 n_31.length) <|
   ckB (ix t_2 n_31.length) <|
   ckB (ix i_9 (n_31.getD (Int.toNat t_2) Trans.z).2.1.length) <|
   ckB (ix i_9 (n_31.getD (Int.toNat t_2) Trans.z).2.1.length) <|
   ckB (ix ((n_31.getD (Int.toNat t_2) Trans.z).2.1.getD (Int.toNat i_9) 0) out_8.length) <|
   ckB (ix ((n_31.getD (Int.toNat t_2) Trans.z).2.1.getD (Int.toNat i_9) 0) out_8.length) <|
   ckB (inR .i64 ((out_8.getD (Int.toNat ((n_31.getD (Int.toNat t_2) Trans.z).2.1.getD (Int.toNat i_9) 0)) 0) - 1)) <|
   ckB (ix ((n_31.getD (Int.toNat t_2) Trans.z).2.1.getD (Int.toNat i_9) 0) out_8.length) <|
   ckB (ix ((n_31.getD (Int.toNat t_2) Trans.z).2.1.getD (Int.toNat i_9) 0) out_8.length) <|
   ckB (inR .i64 (i_9+1)) <|
   nx ((i_9+1),(out_8.set (Int.toNat ((n_31.getD (Int.toNat t_2) Trans.z).2.1.getD (Int.toNat i_9) 0)) ((out_8.getD (Int.toNat ((n_31.getD (Int.toNat t_2) Trans.z).2.1.getD (Int.toNat i_9) 0)) 0) - 1)))
 else
   dn out_8
def qq1 (t_2:Int) (n_30:Int) (n_31:(List Trans)) (n_32:Int) (n_33:Int) (s0:(Int×qL1)):Option (qL1⊕(Int×qL1)) :=
 loopM (fun a=>qcu t_2 n_30 n_31 n_32 n_33 a.1 a.2 (fun a'=>some (.next a')) (fun e=>some (.done e)) (fun r=>some (.ret r))) s0
def qow:Shp:=⟨[(2,.d true qT0),(3,.ptr 0),(8,.own 1),(9,.d true qT0)],[.cs 24 4 1 (.cons (.d true qT0) (.cons (.d false (.slice Trans.ty)) (.cons (.d true qT0) (.cons (.d true qT0) .nil)))),.arr 3 (.fz true) [0] qT0]⟩
def qol:Shp:=⟨[(2,.d true qT0),(3,.ptr 0),(8,.own 1)],[.cs 24 4 1 (.cons (.d true qT0) (.cons (.d false (.slice Trans.ty)) (.cons (.d true qT0) (.cons (.d true qT0) .nil)))),.arr 3 (.fz true) [0] qT0]⟩
def qd1 {R:Type} (t_2:Int) (n_30:Int) (n_31:(List Trans)) (n_32:Int) (n_33:Int) (i_10:Int) (out_8:qL1) (nx:(Int×qL1)→Option R) (dn:qL1→Option R) (rt:(Int×qL1)→Option R):Option R :=
 ckB (ix t_2 n_31.length) <|
 ckB (ix t_2 n_31.length) <|
 bif decide (i_10 < ((n_31.getD (Int.toNat t_2) Trans.z).2.2.1.length:Int)) then
   ckB (ix t_2 n_31.length) <|
   ckB (ix t_2 n_31.length) <|
   ckB (ix i_10 (n_31.getD (Int.toNat t_2) Trans.z).2.2.1.length) <|
   ckB (ix i_10 (n_31.getD (Int.toNat t_2) Trans.z).2.2.1.length) <|
   ckB (ix t_2 n_31.length) <|
   ckB (ix t_2 n_31.length) <|
   ckB (ix i_10 (n_31.getD (Int.toNat t_2) Trans.z).2.2.1.length) <|
   ckB (ix i_10 (n_31.getD (Int.toNat t_2) Trans.z).2.2.1.length) <|
   ckB (ix ((n_31.getD (Int.toNat t_2) Trans.z).2.2.1.getD (Int.toNat i_10) 0) out_8.length) <|
   ckB (ix ((n_31.getD (Int.toNat t_2) Trans.z).2.2.1.getD (Int.toNat i_10) 0) out_8.length) <|
   ckB (inR .i64 ((out_8.getD (Int.toNat ((n_31.getD (Int.toNat t_2) Trans.z).2.2.1.getD (Int.toNat i_10) 0)) 0)+1)) <|
   ckB (ix ((n_31.getD (Int.toNat t_2) Trans.z).2.2.1.getD (Int.toNat i_10) 0) out_8.length) <|
   ckB (ix ((n_31.getD (Int.toNat t_2) Trans.z).2.2.1.getD (Int.toNat i_10) 0) out_8.length) <|
   ckB (inR .i64 (i_10+1)) <|
   nx ((i_10+1),(out_8.set (Int.toNat ((n_31.getD (Int.toNat t_2) Trans.z).2.2.1.getD (Int.toNat i_10) 0)) ((out_8.getD (Int.toNat ((n_31.getD (Int.toNat t_2) Trans.z).2.2.1.getD (Int.toNat i_10) 0)) 0)+1)))
 else
   dn out_8
def qpp (t_2:Int) (n_30:Int) (n_31:(List Trans)) (n_32:Int) (n_33:Int) (s0:(Int×qL1)):Option (qL1⊕(Int×qL1)) :=
 loopM (fun a=>qd1 t_2 n_30 n_31 n_32 n_33 a.1 a.2 (fun a'=>some (.next a')) (fun e=>some (.done e)) (fun r=>some (.ret r))) s0
def qo8:Shp:=⟨[(2,.d true qT0),(3,.ptr 0),(8,.own 1),(10,.d true qT0)],[.cs 24 4 1 (.cons (.d true qT0) (.cons (.d false (.slice Trans.ty)) (.cons (.d true qT0) (.cons (.d true qT0) .nil)))),.arr 3 (.fz true) [0] qT0]⟩
def qp6:Shp:=⟨[(3,.ptr 0),(8,.own 1)],[.cs 24 4 1 (.cons (.d true qT0) (.cons (.d false (.slice Trans.ty)) (.cons (.d true qT0) (.cons (.d true qT0) .nil)))),.arr 3 (.fz true) [0] qT0]⟩
def qf9 (n_0:Net) (m_1:qL1) (t_2:Int):Option (Int×qL1) :=
 bnd (qa2 n_0) fun r1 =>
 bif (!r1) then
   some (1,[])
 else
   bnd (q5x n_0 m_1) fun r2 =>
   bif (!r2) then
     some (1,[])
   else
     bif decide (t_2 < 0) then
       some (2,[])
     else
       bif decide ((n_0.2.1.length:Int)≤t_2) then
         some (2,[])
       else
         bnd (qkr n_0 m_1 t_2) fun r3 =>
         bif (!r3) then
           some (12,[])
         else
           ckB (room (0+m_1.length) 8) <|
           bnd (qq1 t_2 n_0.1 n_0.2.1 n_0.2.2.1 n_0.2.2.2.1 (0,([]++m_1))) fun oe4 =>
           lk oe4 (fun e4 =>
             bnd (qpp t_2 n_0.1 n_0.2.1 n_0.2.2.1 n_0.2.2.2.1 (0,e4)) fun oe5 =>
             lk oe5 (fun e5 =>
               bnd (q5x n_0 e5) fun r6 =>
               bif (!r6) then
                 some (5,[])
               else
                 some (0,e5)) (fun r=>some r)) (fun r=>some r)
def qcw {R:Type} (l_0:qL2) (m_1:qL1) (i_5:Int) (nx:Int→Option R) (dn:Unit→Option R) (rt:Int→Option R):Option R :=
 bif decide (i_5 < (l_0.length:Int)) then
   ckB (ix i_5 l_0.length) <|
   ckB (ix i_5 l_0.length) <|
   bnd (q9x (l_0.getD (Int.toNat i_5) []) m_1) fun r1 =>
   bif r1 then
     rt i_5
   else
     ckB (inR .i64 (i_5+1)) <|
     nx (i_5+1)
 else
   dn ()
def qpl (l_0:qL2) (m_1:qL1) (s0:Int):Option (Unit⊕Int) :=
 loopM (fun a=>qcw l_0 m_1 a (fun a'=>some (.next a')) (fun e=>some (.done e)) (fun r=>some (.ret r))) s0
def qo7:Shp:=⟨[(0,.d false qT2),(1,.d false qT1),(5,.d true qT0)],[]⟩
def qoq:Shp:=⟨[],[]⟩
def qip (l_0:qL2) (m_1:qL1):Option Int :=
 bnd (qpl l_0 m_1 0) fun oe2 =>
 lk oe2 (fun e2 =>
   some (-1)) (fun r=>some r)
def q28 {R:Type} (l_2:qL1) (most_3:Int) (i_12:Int) (n_40:Int) (n_41:(List Trans)) (n_42:Int) (n_43:Int) (t_13:Int) (met_10:qL2) (runs_11:qL2) (nx:(Int×qL2×qL2)→Option R) (dn:(qL2×qL2)→Option R) (rt:(qL1×Int)→Option R):Option R :=
 bif decide (t_13 < (n_41.length:Int)) then
   bif decide ((met_10.length:Int)≤most_3) then
     ckB (ix i_12 met_10.length) <|
     ckB (ix i_12 met_10.length) <|
     bnd (qf9 (n_40,n_41,n_42,n_43,()) (met_10.getD (Int.toNat i_12) []) t_13) fun r2 =>
     bif decide (r2.1=0) then
       bnd (qip met_10 r2.2) fun r3 =>
       bif decide (r3 < 0) then
         ckB (room (met_10.length+1) 24) <|
         ckB (ix i_12 runs_11.length) <|
         ckB (ix i_12 runs_11.length) <|
         ckB (room (0+(runs_11.getD (Int.toNat i_12) []).length) 8) <|
         ckB (room (([]++(runs_11.getD (Int.toNat i_12) [])).length+1) 8) <|
         ckB (room (runs_11.length+1) 24) <|
         ckB (inR .i64 (t_13+1)) <|
         nx ((t_13+1),(met_10++[r2.2]),(runs_11++[(([]++(runs_11.getD (Int.toNat i_12) []))++[t_13])]))
       else
         ckB (inR .i64 (t_13+1)) <|
         nx ((t_13+1),met_10,runs_11)
     else
       ckB (inR .i64 (t_13+1)) <|
       nx ((t_13+1),met_10,runs_11)
   else
     dn (met_10,runs_11)
 else
   dn (met_10,runs_11)
def qfi (l_2:qL1) (most_3:Int) (i_12:Int) (n_40:Int) (n_41:(List Trans)) (n_42:Int) (n_43:Int) (s0:(Int×qL2×qL2)):Option ((qL2×qL2)⊕(qL1×Int)) :=
 loopM (fun a=>q28 l_2 most_3 i_12 n_40 n_41 n_42 n_43 a.1 a.2.1 a.2.2 (fun a'=>some (.next a')) (fun e=>some (.done e)) (fun r=>some (.ret r))) s0
def qjc:Shp:=⟨[(2,.d false qT1),(3,.d true qT0),(4,.ptr 0),(10,.own 1),(11,.own 2),(12,.d true qT0),(13,.d true qT0)],[.cs 24 4 1 (.cons (.d true qT0) (.cons (.d false (.slice Trans.ty)) (.cons (.d true qT0) (.cons (.d true qT0) .nil)))),.arr 34 (.fz false) [3] qT1,.arr 34 (.fz true) [3] qT1]⟩
def qji:Shp:=⟨[(2,.d false qT1),(3,.d true qT0),(4,.ptr 0),(10,.own 1),(11,.own 2),(12,.d true qT0)],[.cs 24 4 1 (.cons (.d true qT0) (.cons (.d false (.slice Trans.ty)) (.cons (.d true qT0) (.cons (.d true qT0) .nil)))),.arr 34 (.fz false) [3] qT1,.arr 34 (.fz true) [3] qT1]⟩
def q3e {R:Type} (l_2:qL1) (most_3:Int) (n_40:Int) (n_41:(List Trans)) (n_42:Int) (n_43:Int) (i_12:Int) (met_10:qL2) (runs_11:qL2) (nx:(Int×qL2×qL2)→Option R) (dn:qL2→Option R) (rt:(qL1×Int)→Option R):Option R :=
 bif decide (i_12 < (met_10.length:Int)) then
   bif decide (i_12 < most_3) then
     ckB (ix i_12 met_10.length) <|
     ckB (ix i_12 met_10.length) <|
     bnd (qaw (met_10.getD (Int.toNat i_12) []) l_2) fun r1 =>
     bif (!r1) then
       ckB (ix i_12 runs_11.length) <|
       ckB (ix i_12 runs_11.length) <|
       rt ((runs_11.getD (Int.toNat i_12) []),0)
     else
       bnd (qfi l_2 most_3 i_12 n_40 n_41 n_42 n_43 (0,met_10,runs_11)) fun oe4 =>
       lk oe4 (fun e4 =>
         ckB (inR .i64 (i_12+1)) <|
         nx ((i_12+1),e4.1,e4.2)) (fun r=>rt r)
   else
     dn met_10
 else
   dn met_10
def qku (l_2:qL1) (most_3:Int) (n_40:Int) (n_41:(List Trans)) (n_42:Int) (n_43:Int) (s0:(Int×qL2×qL2)):Option (qL2⊕(qL1×Int)) :=
 loopM (fun a=>q3e l_2 most_3 n_40 n_41 n_42 n_43 a.1 a.2.1 a.2.2 (fun a'=>some (.next a')) (fun e=>some (.done e)) (fun r=>some (.ret r))) s0
def qjz:Shp:=⟨[(2,.d false qT1),(3,.d true qT0),(4,.ptr 0),(10,.own 1),(11,.own 2),(12,.d true qT0)],[.cs 24 4 1 (.cons (.d true qT0) (.cons (.d false (.slice Trans.ty)) (.cons (.d true qT0) (.cons (.d true qT0) .nil)))),.arr 34 (.fz false) [3] qT1,.arr 34 (.fz true) [3] qT1]⟩
def qjf:Shp:=⟨[(3,.d true qT0),(10,.own 0)],[.arr 34 (.fz false) [3] qT1]⟩
def q7u (n_0:Net) (m_1:qL1) (l_2:qL1) (most_3:Int):Option (qL1×Int) :=
 bnd (qku l_2 most_3 n_0.1 n_0.2.1 n_0.2.2.1 n_0.2.2.2.1 (0,[m_1],[[]])) fun oe5 =>
 lk oe5 (fun e5 =>
   bif decide ((e5.length:Int)≤most_3) then
     some ([],10)
   else
     some ([],13)) (fun r=>some r)
def q8b {R:Type} (m_1:qL1) (l_2:qL1) (most_3:Int) (r_9:qL1) (e_10:Int) (v_43:Bool) (n_40:Int) (n_41:(List Trans)) (n_42:Int) (n_43:Int) (dn:Unit→Option R) (rt:Bool→Option R):Option R :=
 bif v_43 then
   bif decide (e_10=1) then
     rt (decide ((r_9.length:Int)=0))
   else
     rt false
 else
   bnd (qgz (n_40,n_41,n_42,n_43,()) l_2) fun r5 =>
   bif (!r5) then
     bif decide (e_10=2) then
       rt (decide ((r_9.length:Int)=0))
     else
       rt false
   else
     bif decide (most_3 < 1) then
       bif decide (e_10=2) then
         rt (decide ((r_9.length:Int)=0))
       else
         rt false
     else
       bif decide ((2000:Int) < most_3) then
         bif decide (e_10=2) then
           rt (decide ((r_9.length:Int)=0))
         else
           rt false
       else
         dn ()
def q5r (m_1:qL1) (l_2:qL1) (most_3:Int) (r_9:qL1) (e_10:Int) (v_43:Bool) (n_40:Int) (n_41:(List Trans)) (n_42:Int) (n_43:Int):Option (Unit⊕Bool) :=
 q8b m_1 l_2 most_3 r_9 e_10 v_43 n_40 n_41 n_42 n_43 (fun e=>some (.inl e)) (fun r=>some (.inr r))
def qcl:Shp:=⟨[(1,.d true qT1),(2,.d true qT1),(3,.d true qT0),(4,.ptr 0),(9,.d true qT1),(10,.d true qT0),(43,.d true .bool)],[.cs 24 4 1 (.cons (.d true qT0) (.cons (.d true (.slice Trans.ty)) (.cons (.d true qT0) (.cons (.d true qT0) .nil))))]⟩
def qcm:Shp:=⟨[(1,.d true qT1),(2,.d true qT1),(3,.d true qT0),(4,.ptr 0),(9,.d true qT1),(10,.d true qT0)],[.cs 24 4 1 (.cons (.d true qT0) (.cons (.d true (.slice Trans.ty)) (.cons (.d true qT0) (.cons (.d true qT0) .nil))))]⟩
def q8g {R:Type} (m_1:qL1) (l_2:qL1) (most_3:Int) (n_40:Int) (n_41:(List Trans)) (n_42:Int) (n_43:Int) (dn:Unit→Option R) (rt:Bool→Option R):Option R :=
 bnd (qy (n_40,n_41,n_42,n_43,()) m_1 l_2 most_3) fun r3 =>
 bnd (qa2 (n_40,n_41,n_42,n_43,())) fun r4 =>
 bif (!r4) then
   bnd (q5r m_1 l_2 most_3 r3.2 r3.1 true n_40 n_41 n_42 n_43) fun oe6 =>
   lk oe6 (fun e6 =>
     bnd (q7u (n_40,n_41,n_42,n_43,()) m_1 l_2 most_3) fun r7 =>
     bif decide (r3.1=r7.2) then
       bnd (q2e r3.2 r7.1) fun r8 =>
       rt r8
     else
       rt false) (fun r=>rt r)
 else
   bnd (q5x (n_40,n_41,n_42,n_43,()) m_1) fun r9 =>
   bnd (q5r m_1 l_2 most_3 r3.2 r3.1 (!r9) n_40 n_41 n_42 n_43) fun oe10 =>
   lk oe10 (fun e10 =>
     bnd (q7u (n_40,n_41,n_42,n_43,()) m_1 l_2 most_3) fun r11 =>
     bif decide (r3.1=r11.2) then
       bnd (q2e r3.2 r11.1) fun r12 =>
       rt r12
     else
       rt false) (fun r=>rt r)
def q5p (m_1:qL1) (l_2:qL1) (most_3:Int) (n_40:Int) (n_41:(List Trans)) (n_42:Int) (n_43:Int):Option (Unit⊕Bool) :=
 q8g m_1 l_2 most_3 n_40 n_41 n_42 n_43 (fun e=>some (.inl e)) (fun r=>some (.inr r))
def qck:Shp:=⟨[(1,.d true qT1),(2,.d true qT1),(3,.d true qT0),(4,.ptr 0)],[.cs 24 4 1 (.cons (.d true qT0) (.cons (.d true (.slice Trans.ty)) (.cons (.d true qT0) (.cons (.d true qT0) .nil))))]⟩
def qcc:Shp:=⟨[],[]⟩
def qa8 (n_0:Net) (m_1:qL1) (l_2:qL1) (most_3:Int):Option Bool :=
 bnd (qlh) fun r1 =>
 bif (!r1) then
   some false
 else
   bnd (qgt n_0) fun r2 =>
   bif r2 then
     some true
   else
     bif decide ((60:Int) < (m_1.length:Int)) then
       some true
     else
       bif decide ((60:Int) < (l_2.length:Int)) then
         some true
       else
         bif decide ((60:Int) < most_3) then
           bif decide (most_3≤2000) then
             some true
           else
             bnd (q5p m_1 l_2 most_3 n_0.1 n_0.2.1 n_0.2.2.1 n_0.2.2.2.1) fun oe13 =>
             lk oe13 (fun e13 =>
               none) (fun r=>some r)
         else
           bnd (q5p m_1 l_2 most_3 n_0.1 n_0.2.1 n_0.2.2.1 n_0.2.2.2.1) fun oe14 =>
           lk oe14 (fun e14 =>
             none) (fun r=>some r)
end Go.Proofs.Ytjhojmninmipcaa
