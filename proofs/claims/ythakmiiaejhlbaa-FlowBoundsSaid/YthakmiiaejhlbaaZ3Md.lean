/-
  What the functions compute, as plain functions of Lean. Made by program (mg3.py) out of the translation.
-/
import Derived.Test.YthakmiiaejhlbaaZ3KE
set_option linter.all false
set_option maxRecDepth 100000
namespace Go.Proofs.Ythakmiiaejhlbaa
open Go.K Go.M
abbrev qL1:Type:=List Int
abbrev qL2:Type:=List (List Int)
abbrev qT0:Ty:=.int .i64
abbrev qT1:Ty:=.slice qT0
abbrev qT2:Ty:=.slice qT1
abbrev Trans:Type:=ByteArray×qL1×qL1×Unit
abbrev Trans.z:Trans:=(⟨#[]⟩,[],[],())
def Trans.ty:Ty:=.struct (.cons .str (.cons qT1 (.cons qT1 .nil)))
abbrev Net:Type:=Int×(List Trans)×Int×Int×Unit
abbrev Net.z:Net:=(0,[],0,0,())
def Net.ty:Ty:=.struct (.cons qT0 (.cons (.slice Trans.ty) (.cons qT0 (.cons qT0 .nil))))
abbrev q0:Type:=qL1×qL1×Unit
abbrev q0.z:q0:=([],[],())
def q0.ty:Ty:=.struct (.cons qT1 (.cons qT1 .nil))
abbrev bytes0:ByteArray:=⟨#[0,1,2,2,3,3,3,3,4,4,4,4,4,4,4,4,5,5,5,5,5,5,5,5,5,5,5,5,5,5,5,5,6,6,6,6,6,6,6,6,6,6,6,6,6,6,6,6,6,6,6,6,6,6,6,6,6,6,6,6,6,6,6,6,7,7,7,7,7,7,7,7,7,7,7,7,7,7,7,7,7,7,7,7,7,7,7,7,7,7,7,7,7,7,7,7,7,7,7,7,7,7,7,7,7,7,7,7,7,7,7,7,7,7,7,7,7,7,7,7,7,7,7,7,7,7,7,7,8,8,8,8,8,8,8,8,8,8,8,8,8,8,8,8,8,8,8,8,8,8,8,8,8,8,8,8,8,8,8,8,8,8,8,8,8,8,8,8,8,8,8,8,8,8,8,8,8,8,8,8,8,8,8,8,8,8,8,8,8,8,8,8,8,8,8,8,8,8,8,8,8,8,8,8,8,8,8,8,8,8,8,8,8,8,8,8,8,8,8,8,8,8,8,8,8,8,8,8,8,8,8,8,8,8,8,8,8,8,8,8,8,8,8,8,8,8,8,8,8,8,8,8,8,8,8,8]⟩
def qdi (c_0:Int):Option Bool :=
 bif decide ((65:Int)≤c_0) then
   bif decide (c_0≤90) then
     some true
   else
     bif decide ((97:Int)≤c_0) then
       some (decide (c_0≤122))
     else
       some false
 else
   bif decide ((97:Int)≤c_0) then
     some (decide (c_0≤122))
   else
     some false
def qm9 (c_0:Int):Option Bool :=
 bnd (qdi c_0) fun r1 =>
 bif r1 then
   some true
 else
   bif decide ((48:Int)≤c_0) then
     bif decide (c_0≤57) then
       some true
     else
       bif decide (c_0=95) then
         some true
       else
         bif decide (c_0=45) then
           some true
         else
           some (decide (c_0=46))
   else
     bif decide (c_0=95) then
       some true
     else
       bif decide (c_0=45) then
         some true
       else
         some (decide (c_0=46))
def q9q {R:Type} (s_0:ByteArray) (v_19:Int) (v_20:Int) (nx:Int→Option R) (dn:Unit→Option R) (rt:Bool→Option R):Option R :=
 bif decide (v_20 < v_19) then
   ckB (ix v_20 (ByteArray.size s_0)) <|
   bnd (qm9 (((ByteArray.data s_0).getD (Int.toNat v_20) 0).toNat:Int)) fun r2 =>
   bif (!r2) then
     rt false
   else
     ckB (inR .i64 (v_20+1)) <|
     nx (v_20+1)
 else
   dn ()
def qrk (s_0:ByteArray) (v_19:Int) (s0:Int):Option (Unit⊕Bool) :=
 loopM (fun a=>q9q s_0 v_19 a (fun a'=>some (.next a')) (fun e=>some (.done e)) (fun r=>some (.ret r))) s0
def qou:Shp:=⟨[(0,.d true .str),(19,.d true qT0),(20,.d true qT0)],[]⟩
def qpb:Shp:=⟨[],[]⟩
def qhl (s_0:ByteArray):Option Bool :=
 bif decide ((ByteArray.size s_0:Int) < 1) then
   some false
 else
   bif decide ((40:Int) < (ByteArray.size s_0:Int)) then
     some false
   else
     ckB (ix 0 (ByteArray.size s_0)) <|
     bnd (qdi (((ByteArray.data s_0).getD 0 0).toNat:Int)) fun r1 =>
     bif (!r1) then
       some false
     else
       bnd (qrk s_0 (ByteArray.size s_0:Int) 0) fun oe3 =>
       lk oe3 (fun e3 =>
         some true) (fun r=>some r)
def q6k {R:Type} (l_1:qL1) (v_7:qL1) (v_8:Int) (n_20:Int) (n_21:(List Trans)) (n_22:Int) (n_23:Int) (v_9:Int) (nx:Int→Option R) (dn:Unit→Option R) (rt:Bool→Option R):Option R :=
 bif decide (v_9 < v_8) then
   ckB (ix v_9 v_7.length) <|
   ckB (ix v_9 v_7.length) <|
   bif decide ((v_7.getD (Int.toNat v_9) 0) < 0) then
     rt false
   else
     bif decide (n_20≤(v_7.getD (Int.toNat v_9) 0)) then
       rt false
     else
       bif decide ((0:Int) < v_9) then
         ckB (inR .i64 (v_9 - 1)) <|
         ckB (ix (v_9 - 1) l_1.length) <|
         ckB (ix (v_9 - 1) l_1.length) <|
         bif decide ((v_7.getD (Int.toNat v_9) 0)≤(l_1.getD (Int.toNat (v_9 - 1)) 0)) then
           rt false
         else
           ckB (inR .i64 (v_9+1)) <|
           nx (v_9+1)
       else
         ckB (inR .i64 (v_9+1)) <|
         nx (v_9+1)
 else
   dn ()
def qpm (l_1:qL1) (v_7:qL1) (v_8:Int) (n_20:Int) (n_21:(List Trans)) (n_22:Int) (n_23:Int) (s0:Int):Option (Unit⊕Bool) :=
 loopM (fun a=>q6k l_1 v_7 v_8 n_20 n_21 n_22 n_23 a (fun a'=>some (.next a')) (fun e=>some (.done e)) (fun r=>some (.ret r))) s0
def qmq:Shp:=⟨[(1,.d false qT1),(2,.ptr 0),(7,.d false qT1),(8,.d true qT0),(9,.d true qT0)],[.cs 24 4 1 (.cons (.d true qT0) (.cons (.d false (.slice Trans.ty)) (.cons (.d true qT0) (.cons (.d true qT0) .nil))))]⟩
def qmr:Shp:=⟨[],[]⟩
def q4u (n_0:Net) (l_1:qL1):Option Bool :=
 bnd (qpm l_1 l_1 (l_1.length:Int) n_0.1 n_0.2.1 n_0.2.2.1 n_0.2.2.2.1 0) fun oe1 =>
 lk oe1 (fun e1 =>
   some true) (fun r=>some r)
def qc6 {R:Type} (v_20:(List Trans)) (v_21:Int) (n_10:Int) (n_11:(List Trans)) (n_12:Int) (n_13:Int) (v_22:Int) (nx:Int→Option R) (dn:Unit→Option R) (rt:Bool→Option R):Option R :=
 bif decide (v_22 < v_21) then
   ckB (ix v_22 v_20.length) <|
   ckB (ix v_22 v_20.length) <|
   bif (!(ByteArray.toList (v_20.getD (Int.toNat v_22) Trans.z).1 == ByteArray.toList ⟨#[]⟩)) then
     bnd (qhl (v_20.getD (Int.toNat v_22) Trans.z).1) fun r1 =>
     bif (!r1) then
       rt false
     else
       bnd (q4u (n_10,n_11,n_12,n_13,()) (v_20.getD (Int.toNat v_22) Trans.z).2.1) fun r2 =>
       bif (!r2) then
         rt false
       else
         bnd (q4u (n_10,n_11,n_12,n_13,()) (v_20.getD (Int.toNat v_22) Trans.z).2.2.1) fun r3 =>
         bif (!r3) then
           rt false
         else
           ckB (inR .i64 (v_22+1)) <|
           nx (v_22+1)
   else
     bnd (q4u (n_10,n_11,n_12,n_13,()) (v_20.getD (Int.toNat v_22) Trans.z).2.1) fun r4 =>
     bif (!r4) then
       rt false
     else
       bnd (q4u (n_10,n_11,n_12,n_13,()) (v_20.getD (Int.toNat v_22) Trans.z).2.2.1) fun r5 =>
       bif (!r5) then
         rt false
       else
         ckB (inR .i64 (v_22+1)) <|
         nx (v_22+1)
 else
   dn ()
def qrg (v_20:(List Trans)) (v_21:Int) (n_10:Int) (n_11:(List Trans)) (n_12:Int) (n_13:Int) (s0:Int):Option (Unit⊕Bool) :=
 loopM (fun a=>qc6 v_20 v_21 n_10 n_11 n_12 n_13 a (fun a'=>some (.next a')) (fun e=>some (.done e)) (fun r=>some (.ret r))) s0
def qp3:Shp:=⟨[(1,.ptr 0),(20,.d false (.slice Trans.ty)),(21,.d true qT0),(22,.d true qT0)],[.cs 24 4 1 (.cons (.d true qT0) (.cons (.d false (.slice Trans.ty)) (.cons (.d true qT0) (.cons (.d true qT0) .nil))))]⟩
def qpf:Shp:=⟨[(1,.ptr 0)],[.cs 24 4 1 (.cons (.d true qT0) (.cons (.d false (.slice Trans.ty)) (.cons (.d true qT0) (.cons (.d true qT0) .nil))))]⟩
def q96 (n_0:Net):Option Bool :=
 bif decide (n_0.1 < 1) then
   some false
 else
   bif decide ((40:Int) < n_0.1) then
     some false
   else
     bif decide ((60:Int) < (n_0.2.1.length:Int)) then
       some false
     else
       bnd (qrg n_0.2.1 (n_0.2.1.length:Int) n_0.1 n_0.2.1 n_0.2.2.1 n_0.2.2.2.1 0) fun oe6 =>
       lk oe6 (fun e6 =>
         bnd (q4u n_0 [n_0.2.2.1]) fun r7 =>
         bif r7 then
           bnd (q4u n_0 [n_0.2.2.2.1]) fun r8 =>
           some r8
         else
           some false) (fun r=>some r)
def qch (n_0:Net):Option Bool :=
 bif decide ((20:Int) < n_0.1) then
   some true
 else
   some (decide ((20:Int) < (n_0.2.1.length:Int)))
def q5e {R:Type} (s_0:qL1) (v_1:Int) (v_7:Int) (v_8:Int) (nx:Int→Option R) (dn:Unit→Option R) (rt:Int→Option R):Option R :=
 bif decide (v_8 < v_7) then
   ckB (ix v_8 s_0.length) <|
   ckB (ix v_8 s_0.length) <|
   bif decide (v_1=(s_0.getD (Int.toNat v_8) 0)) then
     rt v_8
   else
     ckB (inR .i64 (v_8+1)) <|
     nx (v_8+1)
 else
   dn ()
def qd8 (s_0:qL1) (v_1:Int) (v_7:Int) (s0:Int):Option (Unit⊕Int) :=
 loopM (fun a=>q5e s_0 v_1 v_7 a (fun a'=>some (.next a')) (fun e=>some (.done e)) (fun r=>some (.ret r))) s0
def qcm:Shp:=⟨[(0,.d false qT1),(1,.d true qT0),(7,.d true qT0),(8,.d true qT0)],[]⟩
def qcn:Shp:=⟨[],[]⟩
def qag (s_0:qL1) (v_1:Int):Option Int :=
 bnd (qd8 s_0 v_1 (s_0.length:Int) 0) fun oe1 =>
 lk oe1 (fun e1 =>
   some (-1)) (fun r=>some r)
def q3m (s_0:qL1) (v_1:Int):Option Bool :=
 bnd (qag s_0 v_1) fun r1 =>
 some (decide ((0:Int)≤r1))
def qaq (t_0:Trans) (p_1:Int):Option Int :=
 bnd (q3m t_0.2.1 p_1) fun r1 =>
 bnd (q3m t_0.2.2.1 p_1) fun r2 =>
 bif r2 then
   bif (!r1) then
     some 1
   else
     bif r1 then
       bif (!r2) then
         some (-1)
       else
         some 0
     else
       some 0
 else
   bif r1 then
     bif (!r2) then
       some (-1)
     else
       some 0
   else
     some 0
def qd0 (s_0:qL1):Option qL1 :=
 bif decide ((s_0.length:Int)=0) then
   some []
 else
   ckB (room (0+s_0.length) 8) <|
   some ([]++s_0)
def q65 (s_0:qL1):Option qL1 :=
 ckB (room (0+s_0.length) 8) <|
 some ([]++s_0)
def q2n (s_0:qL1):Option qL1:=q65 s_0
def qd7 {R:Type} (v_6:qL1) (v_7:Int) (v_8:Int) (g_3:Int) (k_5:Int) (nx:(Int×Int)→Option R) (dn:Int→Option R) (rt:Int→Option R):Option R :=
 bif (!decide (k_5=0)) then
   ckB (!decide (k_5=0)) <|
   nx (k_5,(Int.tmod g_3 k_5))
 else
   dn g_3
def qqv (v_6:qL1) (v_7:Int) (v_8:Int) (s0:(Int×Int)):Option (Int⊕Int) :=
 loopM (fun a=>qd7 v_6 v_7 v_8 a.1 a.2 (fun a'=>some (.next a')) (fun e=>some (.done e)) (fun r=>some (.ret r))) s0
def quk:Shp:=⟨[(3,.d true qT0),(5,.d true qT0),(6,.d false qT1),(7,.d true qT0),(8,.d true qT0)],[]⟩
def qv6:Shp:=⟨[(3,.d true qT0),(6,.d false qT1),(7,.d true qT0),(8,.d true qT0)],[]⟩
def qd2 {R:Type} (v_6:qL1) (v_7:Int) (g_3:Int) (v_8:Int) (nx:(Int×Int)→Option R) (dn:Int→Option R) (rt:Int→Option R):Option R :=
 bif decide (v_8 < v_7) then
   ckB (ix v_8 v_6.length) <|
   ckB (ix v_8 v_6.length) <|
   bif decide ((v_6.getD (Int.toNat v_8) 0) < 0) then
     ckB (inR .i64 (0 - (v_6.getD (Int.toNat v_8) 0))) <|
     bnd (qqv v_6 v_7 v_8 (g_3,(0 - (v_6.getD (Int.toNat v_8) 0)))) fun oe1 =>
     lk oe1 (fun e1 =>
       ckB (inR .i64 (v_8+1)) <|
       nx (e1,(v_8+1))) (fun r=>rt r)
   else
     bnd (qqv v_6 v_7 v_8 (g_3,(v_6.getD (Int.toNat v_8) 0))) fun oe2 =>
     lk oe2 (fun e2 =>
       ckB (inR .i64 (v_8+1)) <|
       nx (e2,(v_8+1))) (fun r=>rt r)
 else
   dn g_3
def qwz (v_6:qL1) (v_7:Int) (s0:(Int×Int)):Option (Int⊕Int) :=
 loopM (fun a=>qd2 v_6 v_7 a.1 a.2 (fun a'=>some (.next a')) (fun e=>some (.done e)) (fun r=>some (.ret r))) s0
def que:Shp:=⟨[(3,.d true qT0),(6,.d false qT1),(7,.d true qT0),(8,.d true qT0)],[]⟩
def quw:Shp:=⟨[(3,.d true qT0)],[]⟩
def qks (l_0:qL1):Option Int :=
 bnd (qwz l_0 (l_0.length:Int) (0,0)) fun oe3 =>
 lk oe3 (fun e3 =>
   some e3) (fun r=>some r)
def qbu {R:Type} (v_6:qL1) (v_7:Int) (m_3:Int) (v_8:Int) (nx:(Int×Int)→Option R) (dn:Int→Option R) (rt:Int→Option R):Option R :=
 bif decide (v_8 < v_7) then
   ckB (ix v_8 v_6.length) <|
   ckB (ix v_8 v_6.length) <|
   bif (!decide ((v_6.getD (Int.toNat v_8) 0)=0)) then
     ckB (decide (0≤v_8)) <|
     ckB (inR .i64 (v_8+1)) <|
     nx ((bitI .or .u64 m_3 (shlI .u64 1 v_8)),(v_8+1))
   else
     ckB (inR .i64 (v_8+1)) <|
     nx (m_3,(v_8+1))
 else
   dn m_3
def qut (v_6:qL1) (v_7:Int) (s0:(Int×Int)):Option (Int⊕Int) :=
 loopM (fun a=>qbu v_6 v_7 a.1 a.2 (fun a'=>some (.next a')) (fun e=>some (.done e)) (fun r=>some (.ret r))) s0
def qss:Shp:=⟨[(3,.d true (.int .u64)),(6,.d false qT1),(7,.d true qT0),(8,.d true qT0)],[]⟩
def qs1:Shp:=⟨[(3,.d true (.int .u64))],[]⟩
def q69 (l_0:qL1):Option Int :=
 bnd (qut l_0 (l_0.length:Int) (0,0)) fun oe1 =>
 lk oe1 (fun e1 =>
   some e1) (fun r=>some r)
def qa9 {R:Type} (left_1:qL1) (made_2:qL1) (own_9:Int) (v_54:Int) (v_53:qL2) (r_00:qL2) (v_55:Int) (nx:Int→Option R) (dn:Unit→Option R) (rt:(qL2×qL2)→Option R):Option R :=
 bif decide (v_55 < v_54) then
   ckB (ix v_55 v_53.length) <|
   ckB (ix v_55 v_53.length) <|
   bnd (q69 (v_53.getD (Int.toNat v_55) [])) fun r4 =>
   bif decide ((bitI .andNot .u64 r4 own_9)=0) then
     rt (r_00,v_53)
   else
     ckB (inR .i64 (v_55+1)) <|
     nx (v_55+1)
 else
   dn ()
def qma (left_1:qL1) (made_2:qL1) (own_9:Int) (v_54:Int) (v_53:qL2) (r_00:qL2) (s0:Int):Option (Unit⊕(qL2×qL2)) :=
 loopM (fun a=>qa9 left_1 made_2 own_9 v_54 v_53 r_00 a (fun a'=>some (.next a')) (fun e=>some (.done e)) (fun r=>some (.ret r))) s0
def qki:Shp:=⟨[(0,.ptr 0),(1,.d true qT1),(2,.d true qT1),(9,.d true (.int .u64)),(53,.own 1),(54,.d true qT0),(55,.d true qT0)],[.cs 95 2 1 (.cons (.own 2) (.cons (.own 1) .nil)),.arr 25 (.fz true) [3] qT1,.arr 25 (.fz true) [3] qT1]⟩
def qkq:Shp:=⟨[(0,.ptr 0),(1,.d true qT1),(2,.d true qT1),(9,.d true (.int .u64))],[.cs 95 2 1 (.cons (.own 1) (.cons (.own 2) .nil)),.arr 25 (.fz true) [3] qT1,.arr 25 (.fz true) [3] qT1]⟩
def q7j {R:Type} (left_1:qL1) (made_2:qL1) (own_9:Int) (v_69:qL2) (v_70:Int) (r_00:qL2) (r_01:qL2) (v_71:Int) (keep_120:qL2) (keep_121:qL2) (nx:(Int×qL2×qL2)→Option R) (dn:(qL2×qL2)→Option R) (rt:(qL2×qL2)→Option R):Option R :=
 bif decide (v_71 < v_70) then
   ckB (ix v_71 v_69.length) <|
   ckB (ix v_71 v_69.length) <|
   bnd (q69 (v_69.getD (Int.toNat v_71) [])) fun r6 =>
   bif (!decide ((bitI .andNot .u64 own_9 r6)=0)) then
     ckB (ix v_71 r_00.length) <|
     ckB (ix v_71 r_00.length) <|
     ckB (room (keep_120.length+1) 24) <|
     ckB (room (keep_121.length+1) 24) <|
     ckB (inR .i64 (v_71+1)) <|
     nx ((v_71+1),(keep_120++[(r_00.getD (Int.toNat v_71) [])]),(keep_121++[(v_69.getD (Int.toNat v_71) [])]))
   else
     ckB (inR .i64 (v_71+1)) <|
     nx ((v_71+1),keep_120,keep_121)
 else
   dn (keep_120,keep_121)
def qnc (left_1:qL1) (made_2:qL1) (own_9:Int) (v_69:qL2) (v_70:Int) (r_00:qL2) (r_01:qL2) (s0:(Int×qL2×qL2)):Option ((qL2×qL2)⊕(qL2×qL2)) :=
 loopM (fun a=>q7j left_1 made_2 own_9 v_69 v_70 r_00 r_01 a.1 a.2.1 a.2.2 (fun a'=>some (.next a')) (fun e=>some (.done e)) (fun r=>some (.ret r))) s0
def qkv:Shp:=⟨[(0,.ptr 0),(1,.d true qT1),(2,.d true qT1),(9,.d true (.int .u64)),(12,.ptr 1),(69,.d true qT2),(70,.d true qT0),(71,.d true qT0)],[.cs 95 2 1 (.cons (.d true qT2) (.cons (.d true qT2) .nil)),.cs 95 2 1 (.cons (.own 2) (.cons (.own 3) .nil)),.arr 25 (.fz true) [3] qT1,.arr 25 (.fz true) [3] qT1]⟩
def qly:Shp:=⟨[(0,.ptr 0),(1,.d true qT1),(2,.d true qT1),(12,.ptr 1)],[.cs 95 2 1 (.cons (.d true qT2) (.cons (.d true qT2) .nil)),.cs 95 2 1 (.cons (.own 2) (.cons (.own 3) .nil)),.arr 25 (.fz true) [3] qT1,.arr 25 (.fz true) [3] qT1]⟩
def qdo (left_1:qL1) (made_2:qL1) (r_00:qL2) (r_01:qL2):Option (qL2×qL2) :=
 bnd (q2n left_1) fun r1 =>
 ckB (room (r1.length+made_2.length) 8) <|
 bnd (qks (r1++made_2)) fun r2 =>
 bif decide ((1:Int) < r2) then
   none
 else
   bnd (q69 made_2) fun r3 =>
   bnd (qma left_1 made_2 r3 (r_01.length:Int) r_01 r_00 0) fun oe5 =>
   lk oe5 (fun e5 =>
     bnd (qnc left_1 made_2 r3 r_01 (r_01.length:Int) r_00 r_01 (0,[],[])) fun oe7 =>
     lk oe7 (fun e7 =>
       ckB (room (e7.1.length+1) 24) <|
       ckB (room (e7.2.length+1) 24) <|
       some ((e7.1++[left_1]),(e7.2++[made_2]))) (fun r=>some r)) (fun r=>some r)
def qhi {R:Type} (x_0:Int) (a_1:qL1) (y_2:Int) (b_3:qL1) (v_15:Int) (v_16:Int) (out_9:qL1) (nx:(Int×qL1)→Option R) (dn:qL1→Option R) (rt:qL1→Option R):Option R :=
 bif decide (v_16 < v_15) then
   ckB (ix v_16 a_1.length) <|
   ckB (ix v_16 a_1.length) <|
   ckB (inR .i64 (x_0*(a_1.getD (Int.toNat v_16) 0))) <|
   ckB (ix v_16 b_3.length) <|
   ckB (ix v_16 b_3.length) <|
   ckB (inR .i64 (y_2*(b_3.getD (Int.toNat v_16) 0))) <|
   ckB (inR .i64 ((x_0*(a_1.getD (Int.toNat v_16) 0))+(y_2*(b_3.getD (Int.toNat v_16) 0)))) <|
   ckB (ix v_16 out_9.length) <|
   ckB (ix v_16 out_9.length) <|
   ckB (inR .i64 (v_16+1)) <|
   nx ((v_16+1),(out_9.set (Int.toNat v_16) ((x_0*(a_1.getD (Int.toNat v_16) 0))+(y_2*(b_3.getD (Int.toNat v_16) 0)))))
 else
   dn out_9
def qwd (x_0:Int) (a_1:qL1) (y_2:Int) (b_3:qL1) (v_15:Int) (s0:(Int×qL1)):Option (qL1⊕qL1) :=
 loopM (fun a=>qhi x_0 a_1 y_2 b_3 v_15 a.1 a.2 (fun a'=>some (.next a')) (fun e=>some (.done e)) (fun r=>some (.ret r))) s0
def qv1:Shp:=⟨[(0,.d true qT0),(1,.d false qT1),(2,.d true qT0),(3,.d false qT1),(9,.own 0),(15,.d true qT0),(16,.d true qT0)],[.arr 3 (.fz true) [0] qT0]⟩
def qum:Shp:=⟨[(9,.own 0)],[.arr 3 (.fz true) [0] qT0]⟩
def qe4 (x_0:Int) (a_1:qL1) (y_2:Int) (b_3:qL1):Option qL1 :=
 ckB (mkOk (a_1.length:Int) (a_1.length:Int) 8) <|
 bnd (qwd x_0 a_1 y_2 b_3 (a_1.length:Int) (0,(List.replicate (Int.toNat (a_1.length:Int)) (0:Int)))) fun oe1 =>
 lk oe1 (fun e1 =>
   some e1) (fun r=>some r)
def q9l {R:Type} (g_6:Int) (v_23:Int) (made_2:qL1) (r_00:qL2) (r_01:qL2) (v_24:Int) (left_1:qL1) (nx:(Int×qL1)→Option R) (dn:qL1→Option R) (rt:(qL2×qL2×qL1×qL1)→Option R):Option R :=
 bif decide (v_24 < v_23) then
   ckB (ix v_24 left_1.length) <|
   ckB (ix v_24 left_1.length) <|
   ckB (!decide (g_6=0)) <|
   ckB (inR .i64 (Int.tdiv (left_1.getD (Int.toNat v_24) 0) g_6)) <|
   ckB (ix v_24 left_1.length) <|
   ckB (ix v_24 left_1.length) <|
   ckB (inR .i64 (v_24+1)) <|
   nx ((v_24+1),(left_1.set (Int.toNat v_24) (Int.tdiv (left_1.getD (Int.toNat v_24) 0) g_6)))
 else
   dn left_1
def qli (g_6:Int) (v_23:Int) (made_2:qL1) (r_00:qL2) (r_01:qL2) (s0:(Int×qL1)):Option (qL1⊕(qL2×qL2×qL1×qL1)) :=
 loopM (fun a=>q9l g_6 v_23 made_2 r_00 r_01 a.1 a.2 (fun a'=>some (.next a')) (fun e=>some (.done e)) (fun r=>some (.ret r))) s0
def qjj:Shp:=⟨[(0,.ptr 0),(1,.own 1),(2,.own 2),(6,.d true qT0),(23,.d true qT0),(24,.d true qT0)],[.cs 95 2 1 (.cons (.own 3) (.cons (.own 4) .nil)),.arr 3 (.fz true) [0] qT0,.arr 3 (.fz true) [0] qT0,.arr 25 (.fz true) [3] qT1,.arr 25 (.fz true) [3] qT1]⟩
def qjp:Shp:=⟨[(0,.ptr 0),(1,.own 1),(2,.own 2),(6,.d true qT0)],[.cs 95 2 1 (.cons (.own 3) (.cons (.own 4) .nil)),.arr 3 (.fz true) [0] qT0,.arr 3 (.fz true) [0] qT0,.arr 25 (.fz true) [3] qT1,.arr 25 (.fz true) [3] qT1]⟩
def q9j {R:Type} (left_1:qL1) (g_6:Int) (v_36:Int) (r_00:qL2) (r_01:qL2) (v_37:Int) (made_2:qL1) (k4:qL1) (nx:(Int×qL1×qL1)→Option R) (dn:(qL1×qL1)→Option R) (rt:(qL2×qL2×qL1×qL1)→Option R):Option R :=
 bif decide (v_37 < v_36) then
   ckB (ix v_37 made_2.length) <|
   ckB (ix v_37 made_2.length) <|
   ckB (!decide (g_6=0)) <|
   ckB (inR .i64 (Int.tdiv (made_2.getD (Int.toNat v_37) 0) g_6)) <|
   ckB (ix v_37 made_2.length) <|
   ckB (ix v_37 made_2.length) <|
   ckB (inR .i64 (v_37+1)) <|
   nx ((v_37+1),(made_2.set (Int.toNat v_37) (Int.tdiv (made_2.getD (Int.toNat v_37) 0) g_6)),[])
 else
   dn (made_2,[])
def qlw (left_1:qL1) (g_6:Int) (v_36:Int) (r_00:qL2) (r_01:qL2) (s0:(Int×qL1×qL1)):Option ((qL1×qL1)⊕(qL2×qL2×qL1×qL1)) :=
 loopM (fun a=>q9j left_1 g_6 v_36 r_00 r_01 a.1 a.2.1 a.2.2 (fun a'=>some (.next a')) (fun e=>some (.done e)) (fun r=>some (.ret r))) s0
def qjg:Shp:=⟨[(0,.ptr 0),(1,.d true qT1),(2,.own 1),(6,.d true qT0),(36,.d true qT0),(37,.d true qT0)],[.cs 95 2 1 (.cons (.own 2) (.cons (.own 3) .nil)),.arr 3 (.fz true) [0] qT0,.arr 25 (.fz true) [3] qT1,.arr 25 (.fz true) [3] qT1,.arr 0 (.fz true) [] qT0]⟩
def qjo:Shp:=⟨[(0,.ptr 0),(1,.d true qT1),(2,.own 1)],[.cs 95 2 1 (.cons (.own 2) (.cons (.own 3) .nil)),.arr 3 (.fz true) [0] qT0,.arr 25 (.fz true) [3] qT1,.arr 25 (.fz true) [3] qT1,.arr 0 (.fz true) [] qT0]⟩
def q56 {R:Type} (left_1:qL1) (made_2:qL1) (own_9:Int) (v_54:Int) (v_53:qL2) (r_00:qL2) (v_55:Int) (k3:qL1) (k4:qL1) (nx:(Int×qL1×qL1)→Option R) (dn:(qL1×qL1)→Option R) (rt:(qL2×qL2×qL1×qL1)→Option R):Option R :=
 bif decide (v_55 < v_54) then
   ckB (ix v_55 v_53.length) <|
   ckB (ix v_55 v_53.length) <|
   bnd (q69 (v_53.getD (Int.toNat v_55) [])) fun r6 =>
   bif decide ((bitI .andNot .u64 r6 own_9)=0) then
     rt (r_00,v_53,[],[])
   else
     ckB (inR .i64 (v_55+1)) <|
     nx ((v_55+1),[],[])
 else
   dn ([],[])
def qkg (left_1:qL1) (made_2:qL1) (own_9:Int) (v_54:Int) (v_53:qL2) (r_00:qL2) (s0:(Int×qL1×qL1)):Option ((qL1×qL1)⊕(qL2×qL2×qL1×qL1)) :=
 loopM (fun a=>q56 left_1 made_2 own_9 v_54 v_53 r_00 a.1 a.2.1 a.2.2 (fun a'=>some (.next a')) (fun e=>some (.done e)) (fun r=>some (.ret r))) s0
def qji:Shp:=⟨[(0,.ptr 0),(1,.d true qT1),(2,.d true qT1),(9,.d true (.int .u64)),(53,.own 1),(54,.d true qT0),(55,.d true qT0)],[.cs 95 2 1 (.cons (.own 2) (.cons (.own 1) .nil)),.arr 25 (.fz true) [3] qT1,.arr 25 (.fz true) [3] qT1,.arr 0 (.fz true) [] qT0,.arr 0 (.fz true) [] qT0]⟩
def qjh:Shp:=⟨[(0,.ptr 0),(1,.d true qT1),(2,.d true qT1),(9,.d true (.int .u64))],[.cs 95 2 1 (.cons (.own 1) (.cons (.own 2) .nil)),.arr 25 (.fz true) [3] qT1,.arr 25 (.fz true) [3] qT1,.arr 0 (.fz true) [] qT0,.arr 0 (.fz true) [] qT0]⟩
def q71 {R:Type} (left_1:qL1) (made_2:qL1) (own_9:Int) (v_69:qL2) (v_70:Int) (r_00:qL2) (r_01:qL2) (v_71:Int) (keep_120:qL2) (keep_121:qL2) (k4:qL1) (nx:(Int×qL2×qL2×qL1)→Option R) (dn:(qL2×qL2×qL1)→Option R) (rt:(qL2×qL2×qL1×qL1)→Option R):Option R :=
 bif decide (v_71 < v_70) then
   ckB (ix v_71 v_69.length) <|
   ckB (ix v_71 v_69.length) <|
   bnd (q69 (v_69.getD (Int.toNat v_71) [])) fun r8 =>
   bif (!decide ((bitI .andNot .u64 own_9 r8)=0)) then
     ckB (ix v_71 r_00.length) <|
     ckB (ix v_71 r_00.length) <|
     ckB (room (keep_120.length+1) 24) <|
     ckB (room (keep_121.length+1) 24) <|
     ckB (inR .i64 (v_71+1)) <|
     nx ((v_71+1),(keep_120++[(r_00.getD (Int.toNat v_71) [])]),(keep_121++[(v_69.getD (Int.toNat v_71) [])]),[])
   else
     ckB (inR .i64 (v_71+1)) <|
     nx ((v_71+1),keep_120,keep_121,[])
 else
   dn (keep_120,keep_121,[])
def qkj (left_1:qL1) (made_2:qL1) (own_9:Int) (v_69:qL2) (v_70:Int) (r_00:qL2) (r_01:qL2) (s0:(Int×qL2×qL2×qL1)):Option ((qL2×qL2×qL1)⊕(qL2×qL2×qL1×qL1)) :=
 loopM (fun a=>q71 left_1 made_2 own_9 v_69 v_70 r_00 r_01 a.1 a.2.1 a.2.2.1 a.2.2.2 (fun a'=>some (.next a')) (fun e=>some (.done e)) (fun r=>some (.ret r))) s0
def qje:Shp:=⟨[(0,.ptr 0),(1,.d true qT1),(2,.d true qT1),(9,.d true (.int .u64)),(12,.ptr 1),(69,.d true qT2),(70,.d true qT0),(71,.d true qT0)],[.cs 95 2 1 (.cons (.d true qT2) (.cons (.d true qT2) .nil)),.cs 95 2 1 (.cons (.own 2) (.cons (.own 3) .nil)),.arr 25 (.fz true) [3] qT1,.arr 25 (.fz true) [3] qT1,.arr 0 (.fz true) [] qT0]⟩
def qj9:Shp:=⟨[(0,.ptr 0),(1,.d true qT1),(2,.d true qT1),(12,.ptr 1)],[.cs 95 2 1 (.cons (.d true qT2) (.cons (.d true qT2) .nil)),.cs 95 2 1 (.cons (.own 2) (.cons (.own 3) .nil)),.arr 25 (.fz true) [3] qT1,.arr 25 (.fz true) [3] qT1,.arr 0 (.fz true) [] qT0]⟩
def qcx {R:Type} (left_1:qL1) (made_2:qL1) (r_00:qL2) (r_01:qL2) (k3:qL1) (k4:qL1) (dn:(qL2×qL2×qL1×qL1)→Option R) (rt:(qL2×qL2×qL1×qL1)→Option R):Option R :=
 bnd (q69 made_2) fun r5 =>
 bnd (qkg left_1 made_2 r5 (r_01.length:Int) r_01 r_00 (0,[],[])) fun oe7 =>
 lk oe7 (fun e7 =>
   bnd (qkj left_1 made_2 r5 r_01 (r_01.length:Int) r_00 r_01 (0,[],[],[])) fun oe9 =>
   lk oe9 (fun e9 =>
     ckB (room (e9.1.length+1) 24) <|
     ckB (room (e9.2.1.length+1) 24) <|
     dn ((e9.1++[left_1]),(e9.2.1++[made_2]),[],[])) (fun r=>rt r)) (fun r=>rt r)
def qad (left_1:qL1) (made_2:qL1) (r_00:qL2) (r_01:qL2) (k3:qL1) (k4:qL1):Option ((qL2×qL2×qL1×qL1)⊕(qL2×qL2×qL1×qL1)) :=
 qcx left_1 made_2 r_00 r_01 k3 k4 (fun e=>some (.inl e)) (fun r=>some (.inr r))
def qjm:Shp:=⟨[(0,.ptr 0),(1,.d true qT1),(2,.d true qT1)],[.cs 95 2 1 (.cons (.own 1) (.cons (.own 2) .nil)),.arr 25 (.fz true) [3] qT1,.arr 25 (.fz true) [3] qT1,.arr 0 (.fz true) [] qT0,.arr 0 (.fz true) [] qT0]⟩
def qjf:Shp:=⟨[],[.cs 95 2 1 (.cons (.own 1) (.cons (.own 2) .nil)),.arr 25 (.fz true) [3] qT1,.arr 25 (.fz true) [3] qT1,.arr 0 (.fz true) [] qT0,.arr 0 (.fz true) [] qT0]⟩
def qcb (left_1:qL1) (made_2:qL1) (r_00:qL2) (r_01:qL2):Option (qL2×qL2×qL1×qL1) :=
 bnd (q2n left_1) fun r1 =>
 ckB (room (r1.length+made_2.length) 8) <|
 bnd (qks (r1++made_2)) fun r2 =>
 bif decide ((1:Int) < r2) then
   bnd (qli r2 (left_1.length:Int) made_2 r_00 r_01 (0,left_1)) fun oe3 =>
   lk oe3 (fun e3 =>
     bnd (qlw e3 r2 (made_2.length:Int) r_00 r_01 (0,made_2,[])) fun oe4 =>
     lk oe4 (fun e4 =>
       bnd (qad e3 e4.1 r_00 r_01 [] []) fun oe10 =>
       lk oe10 (fun e10 =>
         some (e10.1,e10.2.1,[],[])) (fun r=>some r)) (fun r=>some r)) (fun r=>some r)
 else
   bnd (qad left_1 made_2 r_00 r_01 [] []) fun oe11 =>
   lk oe11 (fun e11 =>
     some (e11.1,e11.2.1,[],[])) (fun r=>some r)
def q3w {R:Type} (c_1:Int) (v_17:Int) (r_00:qL2) (r_01:qL2) (v_18:Int) (next_50:qL2) (next_51:qL2) (nx:(Int×qL2×qL2)→Option R) (dn:(qL2×qL2)→Option R) (rt:(Bool×qL2×qL2)→Option R):Option R :=
 bif decide (v_18 < v_17) then
   ckB (ix v_18 r_00.length) <|
   ckB (ix v_18 r_00.length) <|
   ckB (ix c_1 (r_00.getD (Int.toNat v_18) []).length) <|
   ckB (ix c_1 (r_00.getD (Int.toNat v_18) []).length) <|
   bif decide (((r_00.getD (Int.toNat v_18) []).getD (Int.toNat c_1) 0)=0) then
     ckB (ix v_18 r_00.length) <|
     ckB (ix v_18 r_00.length) <|
     ckB (ix v_18 r_01.length) <|
     ckB (ix v_18 r_01.length) <|
     bnd (qdo (r_00.getD (Int.toNat v_18) []) (r_01.getD (Int.toNat v_18) []) next_50 next_51) fun r1 =>
     ckB (inR .i64 (v_18+1)) <|
     nx ((v_18+1),r1.1,r1.2)
   else
     ckB (inR .i64 (v_18+1)) <|
     nx ((v_18+1),next_50,next_51)
 else
   dn (next_50,next_51)
def qeh (c_1:Int) (v_17:Int) (r_00:qL2) (r_01:qL2) (s0:(Int×qL2×qL2)):Option ((qL2×qL2)⊕(Bool×qL2×qL2)) :=
 loopM (fun a=>q3w c_1 v_17 r_00 r_01 a.1 a.2.1 a.2.2 (fun a'=>some (.next a')) (fun e=>some (.done e)) (fun r=>some (.ret r))) s0
def qd1:Shp:=⟨[(0,.ptr 0),(1,.d true qT0),(5,.ptr 1),(17,.d true qT0),(18,.d true qT0)],[.cs 95 2 1 (.cons (.own 2) (.cons (.own 3) .nil)),.cs 95 2 1 (.cons (.own 4) (.cons (.own 5) .nil)),.arr 25 (.fz true) [3] qT1,.arr 25 (.fz true) [3] qT1,.arr 25 (.fz true) [3] qT1,.arr 25 (.fz true) [3] qT1]⟩
def qdc:Shp:=⟨[(0,.ptr 0),(1,.d true qT0),(5,.ptr 1)],[.cs 95 2 1 (.cons (.own 2) (.cons (.own 3) .nil)),.cs 95 2 1 (.cons (.own 4) (.cons (.own 5) .nil)),.arr 25 (.fz true) [3] qT1,.arr 25 (.fz true) [3] qT1,.arr 25 (.fz true) [3] qT1,.arr 25 (.fz true) [3] qT1]⟩
def q2s {R:Type} (c_1:Int) (i_7:Int) (v_53:Int) (v_54:Int) (v_61:Int) (r_00:qL2) (r_01:qL2) (v_62:Int) (next_50:qL2) (next_51:qL2) (nx:(Int×qL2×qL2)→Option R) (dn:(qL2×qL2)→Option R) (rt:(Bool×qL2×qL2)→Option R):Option R :=
 bif decide (v_62 < v_61) then
   ckB (ix i_7 r_00.length) <|
   ckB (ix i_7 r_00.length) <|
   ckB (ix c_1 (r_00.getD (Int.toNat i_7) []).length) <|
   ckB (ix c_1 (r_00.getD (Int.toNat i_7) []).length) <|
   ckB (ix v_62 r_00.length) <|
   ckB (ix v_62 r_00.length) <|
   ckB (ix c_1 (r_00.getD (Int.toNat v_62) []).length) <|
   ckB (ix c_1 (r_00.getD (Int.toNat v_62) []).length) <|
   bif decide (((r_00.getD (Int.toNat i_7) []).getD (Int.toNat c_1) 0)≤0) then
     ckB (inR .i64 (v_62+1)) <|
     nx ((v_62+1),next_50,next_51)
   else
     bif decide ((0:Int)≤((r_00.getD (Int.toNat v_62) []).getD (Int.toNat c_1) 0)) then
       ckB (inR .i64 (v_62+1)) <|
       nx ((v_62+1),next_50,next_51)
     else
       ckB (inR .i64 (0 - ((r_00.getD (Int.toNat v_62) []).getD (Int.toNat c_1) 0))) <|
       ckB (ix i_7 r_00.length) <|
       ckB (ix i_7 r_00.length) <|
       ckB (ix v_62 r_00.length) <|
       ckB (ix v_62 r_00.length) <|
       bnd (qe4 (0 - ((r_00.getD (Int.toNat v_62) []).getD (Int.toNat c_1) 0)) (r_00.getD (Int.toNat i_7) []) ((r_00.getD (Int.toNat i_7) []).getD (Int.toNat c_1) 0) (r_00.getD (Int.toNat v_62) [])) fun r3 =>
       ckB (inR .i64 (0 - ((r_00.getD (Int.toNat v_62) []).getD (Int.toNat c_1) 0))) <|
       ckB (ix i_7 r_01.length) <|
       ckB (ix i_7 r_01.length) <|
       ckB (ix v_62 r_01.length) <|
       ckB (ix v_62 r_01.length) <|
       bnd (qe4 (0 - ((r_00.getD (Int.toNat v_62) []).getD (Int.toNat c_1) 0)) (r_01.getD (Int.toNat i_7) []) ((r_00.getD (Int.toNat i_7) []).getD (Int.toNat c_1) 0) (r_01.getD (Int.toNat v_62) [])) fun r4 =>
       bnd (qcb r3 r4 next_50 next_51) fun r5 =>
       bif decide ((40000:Int) < (r5.2.1.length:Int)) then
         rt (false,r_00,r_01)
       else
         ckB (inR .i64 (v_62+1)) <|
         nx ((v_62+1),r5.1,r5.2.1)
 else
   dn (next_50,next_51)
def qen (c_1:Int) (i_7:Int) (v_53:Int) (v_54:Int) (v_61:Int) (r_00:qL2) (r_01:qL2) (s0:(Int×qL2×qL2)):Option ((qL2×qL2)⊕(Bool×qL2×qL2)) :=
 loopM (fun a=>q2s c_1 i_7 v_53 v_54 v_61 r_00 r_01 a.1 a.2.1 a.2.2 (fun a'=>some (.next a')) (fun e=>some (.done e)) (fun r=>some (.ret r))) s0
def qde:Shp:=⟨[(0,.ptr 0),(1,.d true qT0),(5,.ptr 1),(7,.d true qT0),(53,.d true qT0),(54,.d true qT0),(61,.d true qT0),(62,.d true qT0)],[.cs 95 2 1 (.cons (.own 2) (.cons (.own 3) .nil)),.cs 95 2 1 (.cons (.own 4) (.cons (.own 5) .nil)),.arr 25 (.fz true) [3] qT1,.arr 25 (.fz true) [3] qT1,.arr 25 (.fz true) [3] qT1,.arr 25 (.fz true) [3] qT1]⟩
def qdj:Shp:=⟨[(0,.ptr 0),(1,.d true qT0),(5,.ptr 1),(53,.d true qT0),(54,.d true qT0)],[.cs 95 2 1 (.cons (.own 2) (.cons (.own 3) .nil)),.cs 95 2 1 (.cons (.own 4) (.cons (.own 5) .nil)),.arr 25 (.fz true) [3] qT1,.arr 25 (.fz true) [3] qT1,.arr 25 (.fz true) [3] qT1,.arr 25 (.fz true) [3] qT1]⟩
def q66 {R:Type} (c_1:Int) (v_53:Int) (r_00:qL2) (r_01:qL2) (v_54:Int) (next_50:qL2) (next_51:qL2) (nx:(Int×qL2×qL2)→Option R) (dn:(qL2×qL2)→Option R) (rt:(Bool×qL2×qL2)→Option R):Option R :=
 bif decide (v_54 < v_53) then
   bnd (qen c_1 v_54 v_53 v_54 (r_00.length:Int) r_00 r_01 (0,next_50,next_51)) fun oe6 =>
   lk oe6 (fun e6 =>
     ckB (inR .i64 (v_54+1)) <|
     nx ((v_54+1),e6.1,e6.2)) (fun r=>rt r)
 else
   dn (next_50,next_51)
def qei (c_1:Int) (v_53:Int) (r_00:qL2) (r_01:qL2) (s0:(Int×qL2×qL2)):Option ((qL2×qL2)⊕(Bool×qL2×qL2)) :=
 loopM (fun a=>q66 c_1 v_53 r_00 r_01 a.1 a.2.1 a.2.2 (fun a'=>some (.next a')) (fun e=>some (.done e)) (fun r=>some (.ret r))) s0
def qd6:Shp:=⟨[(0,.ptr 0),(1,.d true qT0),(5,.ptr 1),(53,.d true qT0),(54,.d true qT0)],[.cs 95 2 1 (.cons (.own 2) (.cons (.own 3) .nil)),.cs 95 2 1 (.cons (.own 4) (.cons (.own 5) .nil)),.arr 25 (.fz true) [3] qT1,.arr 25 (.fz true) [3] qT1,.arr 25 (.fz true) [3] qT1,.arr 25 (.fz true) [3] qT1]⟩
def qd3:Shp:=⟨[(0,.ptr 0),(5,.ptr 1)],[.cs 95 2 1 (.cons (.own 2) (.cons (.own 3) .nil)),.cs 95 2 1 (.cons (.own 4) (.cons (.own 5) .nil)),.arr 25 (.fz true) [3] qT1,.arr 25 (.fz true) [3] qT1,.arr 25 (.fz true) [3] qT1,.arr 25 (.fz true) [3] qT1]⟩
def q81 (c_1:Int) (r_00:qL2) (r_01:qL2):Option (Bool×qL2×qL2) :=
 bnd (qeh c_1 (r_00.length:Int) r_00 r_01 (0,[],[])) fun oe2 =>
 lk oe2 (fun e2 =>
   bnd (qei c_1 (r_00.length:Int) r_00 r_01 (0,e2.1,e2.2)) fun oe7 =>
   lk oe7 (fun e7 =>
     some (true,e7.1,e7.2)) (fun r=>some r)) (fun r=>some r)
def qj5 {R:Type} (x_0:Int) (n_2:Int) (dn:Unit→Option R) (rt:Int→Option R):Option R :=
 bif decide ((256:Int)≤x_0) then
   ckB (decide (0≤(8:Int))) <|
   ckB (inR .i64 (n_2+8)) <|
   ckB (ix (IntKind.wrap .u8 (shrI .u64 x_0 8)) (ByteArray.size bytes0)) <|
   ckB (inR .i64 (((ByteArray.data bytes0).getD (Int.toNat (IntKind.wrap .u8 (shrI .u64 x_0 8))) 0).toNat:Int)) <|
   ckB (inR .i64 ((n_2+8)+(((ByteArray.data bytes0).getD (Int.toNat (IntKind.wrap .u8 (shrI .u64 x_0 8))) 0).toNat:Int))) <|
   rt ((n_2+8)+(((ByteArray.data bytes0).getD (Int.toNat (IntKind.wrap .u8 (shrI .u64 x_0 8))) 0).toNat:Int))
 else
   ckB (ix (IntKind.wrap .u8 x_0) (ByteArray.size bytes0)) <|
   ckB (inR .i64 (((ByteArray.data bytes0).getD (Int.toNat (IntKind.wrap .u8 x_0)) 0).toNat:Int)) <|
   ckB (inR .i64 (n_2+(((ByteArray.data bytes0).getD (Int.toNat (IntKind.wrap .u8 x_0)) 0).toNat:Int))) <|
   rt (n_2+(((ByteArray.data bytes0).getD (Int.toNat (IntKind.wrap .u8 x_0)) 0).toNat:Int))
def qbp (x_0:Int) (n_2:Int):Option (Unit⊕Int) :=
 qj5 x_0 n_2 (fun e=>some (.inl e)) (fun r=>some (.inr r))
def qrc:Shp:=⟨[(0,.d true (.int .u64)),(2,.d true qT0)],[]⟩
def qrj:Shp:=⟨[],[]⟩
def qpo (x_0:Int):Option Int :=
 bif decide ((4294967296:Int)≤x_0) then
   ckB (decide (0≤(32:Int))) <|
   bif decide ((65536:Int)≤(shrI .u64 x_0 32)) then
     ckB (decide (0≤(16:Int))) <|
     ckB (inR .i64 ((32:Int)+16)) <|
     bnd (qbp (shrI .u64 (shrI .u64 x_0 32) 16) ((32:Int)+16)) fun oe1 =>
     lk oe1 (fun e1 =>
       none) (fun r=>some r)
   else
     bnd (qbp (shrI .u64 x_0 32) 32) fun oe2 =>
     lk oe2 (fun e2 =>
       none) (fun r=>some r)
 else
   bif decide ((65536:Int)≤x_0) then
     ckB (decide (0≤(16:Int))) <|
     ckB (inR .i64 ((0:Int)+16)) <|
     bnd (qbp (shrI .u64 x_0 16) ((0:Int)+16)) fun oe3 =>
     lk oe3 (fun e3 =>
       none) (fun r=>some r)
   else
     bnd (qbp x_0 0) fun oe4 =>
     lk oe4 (fun e4 =>
       none) (fun r=>some r)
def qlk (x_0:Int):Option Int :=
 bnd (qpo x_0) fun r1 =>
 some r1
def q6y (x_0:Int):Option Bool :=
 some (!decide (x_0=x_0))
def qaz (x_0:Int) (y_1:Int):Option Int :=
 bnd (q6y x_0) fun r1 =>
 bnd (q6y y_1) fun r2 =>
 bif r1 then
   bif r2 then
     some 0
   else
     some (-1)
 else
   bif r2 then
     some 1
   else
     bif decide (x_0 < y_1) then
       some (-1)
     else
       bif decide (y_1 < x_0) then
         some 1
       else
         some 0
def q1p {R:Type} (s1_0:qL1) (s2_1:qL1) (v_9:qL1) (v_10:Int) (v_11:Int) (nx:Int→Option R) (dn:Unit→Option R) (rt:Int→Option R):Option R :=
 bif decide (v_11 < v_10) then
   ckB (ix v_11 v_9.length) <|
   ckB (ix v_11 v_9.length) <|
   bif decide ((s2_1.length:Int)≤v_11) then
     rt 1
   else
     ckB (ix v_11 s2_1.length) <|
     ckB (ix v_11 s2_1.length) <|
     bnd (qaz (v_9.getD (Int.toNat v_11) 0) (s2_1.getD (Int.toNat v_11) 0)) fun r1 =>
     bif (!decide (r1=0)) then
       rt r1
     else
       ckB (inR .i64 (v_11+1)) <|
       nx (v_11+1)
 else
   dn ()
def qbi (s1_0:qL1) (s2_1:qL1) (v_9:qL1) (v_10:Int) (s0:Int):Option (Unit⊕Int) :=
 loopM (fun a=>q1p s1_0 s2_1 v_9 v_10 a (fun a'=>some (.next a')) (fun e=>some (.done e)) (fun r=>some (.ret r))) s0
def qax:Shp:=⟨[(0,.d false qT1),(1,.d false qT1),(9,.d false qT1),(10,.d true qT0),(11,.d true qT0)],[]⟩
def qay:Shp:=⟨[(0,.d false qT1),(1,.d false qT1)],[]⟩
def qh (s1_0:qL1) (s2_1:qL1):Option Int :=
 bnd (qbi s1_0 s2_1 s1_0 (s1_0.length:Int) 0) fun oe2 =>
 lk oe2 (fun e2 =>
   bif decide ((s1_0.length:Int) < (s2_1.length:Int)) then
     some (-1)
   else
     some 0) (fun r=>some r)
def q12 {R:Type} (a_1:Int) (b_2:Int) (i_8:Int) (j_9:Int) (data_0:qL2) (nx:(Int×qL2)→Option R) (dn:qL2→Option R) (rt:qL2→Option R):Option R :=
 bif decide (a_1 < j_9) then
   ckB (ix j_9 data_0.length) <|
   ckB (ix j_9 data_0.length) <|
   ckB (inR .i64 (j_9 - 1)) <|
   ckB (ix (j_9 - 1) data_0.length) <|
   ckB (ix (j_9 - 1) data_0.length) <|
   bnd (qh (data_0.getD (Int.toNat j_9) []) (data_0.getD (Int.toNat (j_9 - 1)) [])) fun r1 =>
   bif decide (r1 < 0) then
     ckB (inR .i64 (j_9 - 1)) <|
     ckB (inR .i64 (j_9 - 1)) <|
     ckB (ix (j_9 - 1) data_0.length) <|
     ckB (ix (j_9 - 1) data_0.length) <|
     ckB (ix j_9 data_0.length) <|
     ckB (ix j_9 data_0.length) <|
     ckB (ix j_9 data_0.length) <|
     ckB (ix j_9 data_0.length) <|
     ckB (ix (j_9 - 1) (data_0.set (Int.toNat j_9) (data_0.getD (Int.toNat (j_9 - 1)) [])).length) <|
     ckB (ix (j_9 - 1) (data_0.set (Int.toNat j_9) (data_0.getD (Int.toNat (j_9 - 1)) [])).length) <|
     ckB (inR .i64 (j_9 - 1)) <|
     nx ((j_9 - 1),((data_0.set (Int.toNat j_9) (data_0.getD (Int.toNat (j_9 - 1)) [])).set (Int.toNat (j_9 - 1)) (data_0.getD (Int.toNat j_9) [])))
   else
     dn data_0
 else
   dn data_0
def q3e (a_1:Int) (b_2:Int) (i_8:Int) (s0:(Int×qL2)):Option (qL2⊕qL2) :=
 loopM (fun a=>q12 a_1 b_2 i_8 a.1 a.2 (fun a'=>some (.next a')) (fun e=>some (.done e)) (fun r=>some (.ret r))) s0
def q62:Shp:=⟨[(0,.own 0),(1,.d true qT0),(2,.d true qT0),(3,.fn 64 .nil),(8,.d true qT0),(9,.d true qT0)],[.arr 25 (.fz true) [3] qT1]⟩
def q5z:Shp:=⟨[(0,.own 0),(1,.d true qT0),(2,.d true qT0),(3,.fn 64 .nil),(8,.d true qT0)],[.arr 25 (.fz true) [3] qT1]⟩
def q1w {R:Type} (a_1:Int) (b_2:Int) (i_8:Int) (data_0:qL2) (nx:(Int×qL2)→Option R) (dn:qL2→Option R) (rt:qL2→Option R):Option R :=
 bif decide (i_8 < b_2) then
   bnd (q3e a_1 b_2 i_8 (i_8,data_0)) fun oe2 =>
   lk oe2 (fun e2 =>
     ckB (inR .i64 (i_8+1)) <|
     nx ((i_8+1),e2)) (fun r=>rt r)
 else
   dn data_0
def q6c (a_1:Int) (b_2:Int) (s0:(Int×qL2)):Option (qL2⊕qL2) :=
 loopM (fun a=>q1w a_1 b_2 a.1 a.2 (fun a'=>some (.next a')) (fun e=>some (.done e)) (fun r=>some (.ret r))) s0
def q61:Shp:=⟨[(0,.own 0),(1,.d true qT0),(2,.d true qT0),(3,.fn 64 .nil),(8,.d true qT0)],[.arr 25 (.fz true) [3] qT1]⟩
def q60:Shp:=⟨[],[.arr 25 (.fz true) [3] qT1]⟩
def q1m (a_1:Int) (b_2:Int) (data_0:qL2):Option qL2 :=
 ckB (inR .i64 (a_1+1)) <|
 bnd (q6c a_1 b_2 ((a_1+1),data_0)) fun oe3 =>
 lk oe3 (fun e3 =>
   some e3) (fun r=>some r)
def q4d {R:Type} (hi_2:Int) (first_3:Int) (root_10:Int) (child_11:Int) (data_0:qL2) (dn:qL2→Option R) (rt:qL2→Option R):Option R :=
 ckB (inR .i64 (first_3+root_10)) <|
 ckB (ix (first_3+root_10) data_0.length) <|
 ckB (ix (first_3+root_10) data_0.length) <|
 ckB (inR .i64 (first_3+child_11)) <|
 ckB (ix (first_3+child_11) data_0.length) <|
 ckB (ix (first_3+child_11) data_0.length) <|
 bnd (qh (data_0.getD (Int.toNat (first_3+root_10)) []) (data_0.getD (Int.toNat (first_3+child_11)) [])) fun r2 =>
 bif (!(decide (r2 < 0))) then
   rt data_0
 else
   ckB (inR .i64 (first_3+root_10)) <|
   ckB (inR .i64 (first_3+child_11)) <|
   ckB (inR .i64 (first_3+child_11)) <|
   ckB (ix (first_3+child_11) data_0.length) <|
   ckB (ix (first_3+child_11) data_0.length) <|
   ckB (inR .i64 (first_3+root_10)) <|
   ckB (ix (first_3+root_10) data_0.length) <|
   ckB (ix (first_3+root_10) data_0.length) <|
   ckB (ix (first_3+root_10) data_0.length) <|
   ckB (ix (first_3+root_10) data_0.length) <|
   ckB (ix (first_3+child_11) (data_0.set (Int.toNat (first_3+root_10)) (data_0.getD (Int.toNat (first_3+child_11)) [])).length) <|
   ckB (ix (first_3+child_11) (data_0.set (Int.toNat (first_3+root_10)) (data_0.getD (Int.toNat (first_3+child_11)) [])).length) <|
   dn ((data_0.set (Int.toNat (first_3+root_10)) (data_0.getD (Int.toNat (first_3+child_11)) [])).set (Int.toNat (first_3+child_11)) (data_0.getD (Int.toNat (first_3+root_10)) []))
def q1v (hi_2:Int) (first_3:Int) (root_10:Int) (child_11:Int) (data_0:qL2):Option (qL2⊕qL2) :=
 q4d hi_2 first_3 root_10 child_11 data_0 (fun e=>some (.inl e)) (fun r=>some (.inr r))
def q7y:Shp:=⟨[(0,.own 0),(2,.d true qT0),(3,.d true qT0),(4,.fn 64 .nil),(10,.d true qT0),(11,.d true qT0)],[.arr 25 (.fz true) [3] qT1]⟩
def q7r:Shp:=⟨[(0,.own 0),(2,.d true qT0),(3,.d true qT0),(4,.fn 64 .nil),(10,.d true qT0)],[.arr 25 (.fz true) [3] qT1]⟩
def qq {R:Type} (hi_2:Int) (first_3:Int) (root_10:Int) (data_0:qL2) (nx:(Int×qL2)→Option R) (dn:qL2→Option R) (rt:qL2→Option R):Option R :=
 ckB (inR .i64 ((2:Int)*root_10)) <|
 ckB (inR .i64 (((2:Int)*root_10)+1)) <|
 bif decide (hi_2≤(((2:Int)*root_10)+1)) then
   dn data_0
 else
   ckB (inR .i64 ((((2:Int)*root_10)+1)+1)) <|
   bif decide (((((2:Int)*root_10)+1)+1) < hi_2) then
     ckB (inR .i64 (first_3+(((2:Int)*root_10)+1))) <|
     ckB (ix (first_3+(((2:Int)*root_10)+1)) data_0.length) <|
     ckB (ix (first_3+(((2:Int)*root_10)+1)) data_0.length) <|
     ckB (inR .i64 (first_3+(((2:Int)*root_10)+1))) <|
     ckB (inR .i64 ((first_3+(((2:Int)*root_10)+1))+1)) <|
     ckB (ix ((first_3+(((2:Int)*root_10)+1))+1) data_0.length) <|
     ckB (ix ((first_3+(((2:Int)*root_10)+1))+1) data_0.length) <|
     bnd (qh (data_0.getD (Int.toNat (first_3+(((2:Int)*root_10)+1))) []) (data_0.getD (Int.toNat ((first_3+(((2:Int)*root_10)+1))+1)) [])) fun r1 =>
     bif decide (r1 < 0) then
       ckB (inR .i64 ((((2:Int)*root_10)+1)+1)) <|
       bnd (q1v hi_2 first_3 root_10 ((((2:Int)*root_10)+1)+1) data_0) fun oe3 =>
       lk oe3 (fun e3 =>
         nx (((((2:Int)*root_10)+1)+1),e3)) (fun r=>rt r)
     else
       bnd (q1v hi_2 first_3 root_10 (((2:Int)*root_10)+1) data_0) fun oe4 =>
       lk oe4 (fun e4 =>
         nx ((((2:Int)*root_10)+1),e4)) (fun r=>rt r)
   else
     bnd (q1v hi_2 first_3 root_10 (((2:Int)*root_10)+1) data_0) fun oe5 =>
     lk oe5 (fun e5 =>
       nx ((((2:Int)*root_10)+1),e5)) (fun r=>rt r)
def q85 (hi_2:Int) (first_3:Int) (s0:(Int×qL2)):Option (qL2⊕qL2) :=
 loopM (fun a=>qq hi_2 first_3 a.1 a.2 (fun a'=>some (.next a')) (fun e=>some (.done e)) (fun r=>some (.ret r))) s0
def q80:Shp:=⟨[(0,.own 0),(2,.d true qT0),(3,.d true qT0),(4,.fn 64 .nil),(10,.d true qT0)],[.arr 25 (.fz true) [3] qT1]⟩
def q7z:Shp:=⟨[],[.arr 25 (.fz true) [3] qT1]⟩
def q22 (lo_1:Int) (hi_2:Int) (first_3:Int) (data_0:qL2):Option qL2 :=
 bnd (q85 hi_2 first_3 (lo_1,data_0)) fun oe6 =>
 lk oe6 (fun e6 =>
   some e6) (fun r=>some r)
def q1r {R:Type} (first_8:Int) (lo_9:Int) (hi_10:Int) (i_11:Int) (data_0:qL2) (nx:(Int×qL2)→Option R) (dn:qL2→Option R) (rt:qL2→Option R):Option R :=
 bif decide ((0:Int)≤i_11) then
   bnd (q22 i_11 hi_10 first_8 data_0) fun r1 =>
   ckB (decide (r1.length=data_0.length)) <|
   ckB (inR .i64 (i_11 - 1)) <|
   nx ((i_11 - 1),r1)
 else
   dn data_0
def qf0 (first_8:Int) (lo_9:Int) (hi_10:Int) (s0:(Int×qL2)):Option (qL2⊕qL2) :=
 loopM (fun a=>q1r first_8 lo_9 hi_10 a.1 a.2 (fun a'=>some (.next a')) (fun e=>some (.done e)) (fun r=>some (.ret r))) s0
def q7i:Shp:=⟨[(0,.own 0),(3,.fn 64 .nil),(8,.d true qT0),(9,.d true qT0),(10,.d true qT0),(11,.d true qT0)],[.arr 25 (.fz true) [3] qT1]⟩
def q7t:Shp:=⟨[(0,.own 0),(3,.fn 64 .nil),(8,.d true qT0),(9,.d true qT0),(10,.d true qT0)],[.arr 25 (.fz true) [3] qT1]⟩
def q19 {R:Type} (first_8:Int) (lo_9:Int) (i_12:Int) (data_0:qL2) (nx:(Int×qL2)→Option R) (dn:qL2→Option R) (rt:qL2→Option R):Option R :=
 bif decide ((0:Int)≤i_12) then
   ckB (inR .i64 (first_8+i_12)) <|
   ckB (inR .i64 (first_8+i_12)) <|
   ckB (ix (first_8+i_12) data_0.length) <|
   ckB (ix (first_8+i_12) data_0.length) <|
   ckB (ix first_8 data_0.length) <|
   ckB (ix first_8 data_0.length) <|
   ckB (ix first_8 data_0.length) <|
   ckB (ix first_8 data_0.length) <|
   ckB (ix (first_8+i_12) (data_0.set (Int.toNat first_8) (data_0.getD (Int.toNat (first_8+i_12)) [])).length) <|
   ckB (ix (first_8+i_12) (data_0.set (Int.toNat first_8) (data_0.getD (Int.toNat (first_8+i_12)) [])).length) <|
   bnd (q22 lo_9 i_12 first_8 ((data_0.set (Int.toNat first_8) (data_0.getD (Int.toNat (first_8+i_12)) [])).set (Int.toNat (first_8+i_12)) (data_0.getD (Int.toNat first_8) []))) fun r3 =>
   ckB (decide (r3.length=((data_0.set (Int.toNat first_8) (data_0.getD (Int.toNat (first_8+i_12)) [])).set (Int.toNat (first_8+i_12)) (data_0.getD (Int.toNat first_8) [])).length)) <|
   ckB (inR .i64 (i_12 - 1)) <|
   nx ((i_12 - 1),r3)
 else
   dn data_0
def qew (first_8:Int) (lo_9:Int) (s0:(Int×qL2)):Option (qL2⊕qL2) :=
 loopM (fun a=>q19 first_8 lo_9 a.1 a.2 (fun a'=>some (.next a')) (fun e=>some (.done e)) (fun r=>some (.ret r))) s0
def q7h:Shp:=⟨[(0,.own 0),(3,.fn 64 .nil),(8,.d true qT0),(9,.d true qT0),(12,.d true qT0)],[.arr 25 (.fz true) [3] qT1]⟩
def q7f:Shp:=⟨[],[.arr 25 (.fz true) [3] qT1]⟩
def q23 (a_1:Int) (b_2:Int) (data_0:qL2):Option qL2 :=
 ckB (inR .i64 (b_2 - a_1)) <|
 ckB (inR .i64 ((b_2 - a_1) - 1)) <|
 ckB (!decide ((2:Int)=0)) <|
 ckB (inR .i64 (Int.tdiv ((b_2 - a_1) - 1) 2)) <|
 bnd (qf0 a_1 0 (b_2 - a_1) ((Int.tdiv ((b_2 - a_1) - 1) 2),data_0)) fun oe2 =>
 lk oe2 (fun e2 =>
   ckB (inR .i64 ((b_2 - a_1) - 1)) <|
   bnd (qew a_1 0 (((b_2 - a_1) - 1),e2)) fun oe4 =>
   lk oe4 (fun e4 =>
     some e4) (fun r=>some r)) (fun r=>some r)
def q6p (length_0:Int):Option Int :=
 bnd (qlk (IntKind.wrap .u64 length_0)) fun r1 =>
 ckB (decide (0≤r1)) <|
 some (shlI .u64 1 r1)
def qa8 (r_0:Int):Option (Int×Int) :=
 ckB (decide (0≤(13:Int))) <|
 ckB (decide (0≤(7:Int))) <|
 ckB (decide (0≤(17:Int))) <|
 some ((bitI .xor .u64 (bitI .xor .u64 (bitI .xor .u64 r_0 (shlI .u64 r_0 13)) (shrI .u64 (bitI .xor .u64 r_0 (shlI .u64 r_0 13)) 7)) (shlI .u64 (bitI .xor .u64 (bitI .xor .u64 r_0 (shlI .u64 r_0 13)) (shrI .u64 (bitI .xor .u64 r_0 (shlI .u64 r_0 13)) 7)) 17)),(bitI .xor .u64 (bitI .xor .u64 (bitI .xor .u64 r_0 (shlI .u64 r_0 13)) (shrI .u64 (bitI .xor .u64 r_0 (shlI .u64 r_0 13)) 7)) (shlI .u64 (bitI .xor .u64 (bitI .xor .u64 r_0 (shlI .u64 r_0 13)) (shrI .u64 (bitI .xor .u64 r_0 (shlI .u64 r_0 13)) 7)) 17)))
def q1a {R:Type} (a_1:Int) (length_8:Int) (modulus_10:Int) (idx_11:Int) (data_0:qL2) (random_9:Int) (nx:(Int×qL2×Int)→Option R) (dn:qL2→Option R) (rt:qL2→Option R):Option R :=
 ckB (!decide ((4:Int)=0)) <|
 ckB (inR .i64 (Int.tdiv length_8 4)) <|
 ckB (inR .i64 ((Int.tdiv length_8 4)*2)) <|
 ckB (inR .i64 (a_1+((Int.tdiv length_8 4)*2))) <|
 ckB (inR .i64 ((a_1+((Int.tdiv length_8 4)*2))+1)) <|
 bif decide (idx_11≤((a_1+((Int.tdiv length_8 4)*2))+1)) then
   bnd (qa8 random_9) fun r2 =>
   ckB (inR .i64 (bitI .and .u64 r2.1 (IntKind.wrap .u64 (modulus_10 - 1)))) <|
   bif decide (length_8≤(bitI .and .u64 r2.1 (IntKind.wrap .u64 (modulus_10 - 1)))) then
     ckB (inR .i64 ((bitI .and .u64 r2.1 (IntKind.wrap .u64 (modulus_10 - 1))) - length_8)) <|
     ckB (inR .i64 (a_1+((bitI .and .u64 r2.1 (IntKind.wrap .u64 (modulus_10 - 1))) - length_8))) <|
     ckB (inR .i64 (a_1+((bitI .and .u64 r2.1 (IntKind.wrap .u64 (modulus_10 - 1))) - length_8))) <|
     ckB (ix (a_1+((bitI .and .u64 r2.1 (IntKind.wrap .u64 (modulus_10 - 1))) - length_8)) data_0.length) <|
     ckB (ix (a_1+((bitI .and .u64 r2.1 (IntKind.wrap .u64 (modulus_10 - 1))) - length_8)) data_0.length) <|
     ckB (ix idx_11 data_0.length) <|
     ckB (ix idx_11 data_0.length) <|
     ckB (ix idx_11 data_0.length) <|
     ckB (ix idx_11 data_0.length) <|
     ckB (ix (a_1+((bitI .and .u64 r2.1 (IntKind.wrap .u64 (modulus_10 - 1))) - length_8)) (data_0.set (Int.toNat idx_11) (data_0.getD (Int.toNat (a_1+((bitI .and .u64 r2.1 (IntKind.wrap .u64 (modulus_10 - 1))) - length_8))) [])).length) <|
     ckB (ix (a_1+((bitI .and .u64 r2.1 (IntKind.wrap .u64 (modulus_10 - 1))) - length_8)) (data_0.set (Int.toNat idx_11) (data_0.getD (Int.toNat (a_1+((bitI .and .u64 r2.1 (IntKind.wrap .u64 (modulus_10 - 1))) - length_8))) [])).length) <|
     ckB (inR .i64 (idx_11+1)) <|
     nx ((idx_11+1),((data_0.set (Int.toNat idx_11) (data_0.getD (Int.toNat (a_1+((bitI .and .u64 r2.1 (IntKind.wrap .u64 (modulus_10 - 1))) - length_8))) [])).set (Int.toNat (a_1+((bitI .and .u64 r2.1 (IntKind.wrap .u64 (modulus_10 - 1))) - length_8))) (data_0.getD (Int.toNat idx_11) [])),r2.2)
   else
     ckB (inR .i64 (a_1+(bitI .and .u64 r2.1 (IntKind.wrap .u64 (modulus_10 - 1))))) <|
     ckB (inR .i64 (a_1+(bitI .and .u64 r2.1 (IntKind.wrap .u64 (modulus_10 - 1))))) <|
     ckB (ix (a_1+(bitI .and .u64 r2.1 (IntKind.wrap .u64 (modulus_10 - 1)))) data_0.length) <|
     ckB (ix (a_1+(bitI .and .u64 r2.1 (IntKind.wrap .u64 (modulus_10 - 1)))) data_0.length) <|
     ckB (ix idx_11 data_0.length) <|
     ckB (ix idx_11 data_0.length) <|
     ckB (ix idx_11 data_0.length) <|
     ckB (ix idx_11 data_0.length) <|
     ckB (ix (a_1+(bitI .and .u64 r2.1 (IntKind.wrap .u64 (modulus_10 - 1)))) (data_0.set (Int.toNat idx_11) (data_0.getD (Int.toNat (a_1+(bitI .and .u64 r2.1 (IntKind.wrap .u64 (modulus_10 - 1))))) [])).length) <|
     ckB (ix (a_1+(bitI .and .u64 r2.1 (IntKind.wrap .u64 (modulus_10 - 1)))) (data_0.set (Int.toNat idx_11) (data_0.getD (Int.toNat (a_1+(bitI .and .u64 r2.1 (IntKind.wrap .u64 (modulus_10 - 1))))) [])).length) <|
     ckB (inR .i64 (idx_11+1)) <|
     nx ((idx_11+1),((data_0.set (Int.toNat idx_11) (data_0.getD (Int.toNat (a_1+(bitI .and .u64 r2.1 (IntKind.wrap .u64 (modulus_10 - 1))))) [])).set (Int.toNat (a_1+(bitI .and .u64 r2.1 (IntKind.wrap .u64 (modulus_10 - 1))))) (data_0.getD (Int.toNat idx_11) [])),r2.2)
 else
   dn data_0
def q6e (a_1:Int) (length_8:Int) (modulus_10:Int) (s0:(Int×qL2×Int)):Option (qL2⊕qL2) :=
 loopM (fun a=>q1a a_1 length_8 modulus_10 a.1 a.2.1 a.2.2 (fun a'=>some (.next a')) (fun e=>some (.done e)) (fun r=>some (.ret r))) s0
def q64:Shp:=⟨[(0,.own 0),(1,.d true qT0),(8,.d true qT0),(9,.ptr 1),(10,.d true (.int .u64)),(11,.d true qT0)],[.arr 25 (.fz true) [3] qT1,.cs 123 1 1 (.cons (.d true (.int .u64)) .nil)]⟩
def q5x:Shp:=⟨[],[.arr 25 (.fz true) [3] qT1]⟩
def q1l (a_1:Int) (b_2:Int) (data_0:qL2):Option qL2 :=
 ckB (inR .i64 (b_2 - a_1)) <|
 bif decide ((8:Int)≤(b_2 - a_1)) then
   bnd (q6p (b_2 - a_1)) fun r1 =>
   ckB (!decide ((4:Int)=0)) <|
   ckB (inR .i64 (Int.tdiv (b_2 - a_1) 4)) <|
   ckB (inR .i64 ((Int.tdiv (b_2 - a_1) 4)*2)) <|
   ckB (inR .i64 (a_1+((Int.tdiv (b_2 - a_1) 4)*2))) <|
   ckB (inR .i64 ((a_1+((Int.tdiv (b_2 - a_1) 4)*2)) - 1)) <|
   bnd (q6e a_1 (b_2 - a_1) r1 (((a_1+((Int.tdiv (b_2 - a_1) 4)*2)) - 1),data_0,(IntKind.wrap .u64 (b_2 - a_1)))) fun oe3 =>
   lk oe3 (fun e3 =>
     some e3) (fun r=>some r)
 else
   some data_0
def q1e (data_0:qL2) (a_1:Int) (b_2:Int) (swaps_3:Int):Option (Int×Int×Int) :=
 ckB (ix b_2 data_0.length) <|
 ckB (ix b_2 data_0.length) <|
 ckB (ix a_1 data_0.length) <|
 ckB (ix a_1 data_0.length) <|
 bnd (qh (data_0.getD (Int.toNat b_2) []) (data_0.getD (Int.toNat a_1) [])) fun r1 =>
 bif decide (r1 < 0) then
   ckB (inR .i64 (swaps_3+1)) <|
   some (b_2,a_1,(swaps_3+1))
 else
   some (a_1,b_2,swaps_3)
def q1f (data_0:qL2) (a_1:Int) (b_2:Int) (c_3:Int) (swaps_4:Int):Option (Int×Int) :=
 bnd (q1e data_0 a_1 b_2 swaps_4) fun r1 =>
 bnd (q1e data_0 r1.2.1 c_3 r1.2.2) fun r2 =>
 bnd (q1e data_0 r1.1 r2.1 r2.2.2) fun r3 =>
 some (r3.2.1,r3.2.2)
def qu (data_0:qL2) (a_1:Int) (swaps_2:Int):Option (Int×Int) :=
 ckB (inR .i64 (a_1 - 1)) <|
 ckB (inR .i64 (a_1+1)) <|
 bnd (q1f data_0 (a_1 - 1) a_1 (a_1+1) swaps_2) fun r1 =>
 some (r1.1,r1.2)
def q3g {R:Type} (j_13:Int) (swaps_11:Int) (dn:Unit→Option R) (rt:(Int×Int)→Option R):Option R :=
 bif decide (swaps_11=0) then
   rt (j_13,1)
 else
   bif decide (swaps_11=12) then
     rt (j_13,2)
   else
     rt (j_13,0)
def q1n (j_13:Int) (swaps_11:Int):Option (Unit⊕(Int×Int)) :=
 q3g j_13 swaps_11 (fun e=>some (.inl e)) (fun r=>some (.inr r))
def q6r:Shp:=⟨[(11,.ptr 0),(13,.d true qT0)],[.cs 3 1 1 (.cons (.d true qT0) .nil)]⟩
def q6s:Shp:=⟨[],[]⟩
def q18 (data_0:qL2) (a_1:Int) (b_2:Int):Option (Int×Int) :=
 ckB (inR .i64 (b_2 - a_1)) <|
 ckB (!decide ((4:Int)=0)) <|
 ckB (inR .i64 (Int.tdiv (b_2 - a_1) 4)) <|
 ckB (inR .i64 ((Int.tdiv (b_2 - a_1) 4)*1)) <|
 ckB (inR .i64 (a_1+((Int.tdiv (b_2 - a_1) 4)*1))) <|
 ckB (!decide ((4:Int)=0)) <|
 ckB (inR .i64 (Int.tdiv (b_2 - a_1) 4)) <|
 ckB (inR .i64 ((Int.tdiv (b_2 - a_1) 4)*2)) <|
 ckB (inR .i64 (a_1+((Int.tdiv (b_2 - a_1) 4)*2))) <|
 ckB (!decide ((4:Int)=0)) <|
 ckB (inR .i64 (Int.tdiv (b_2 - a_1) 4)) <|
 ckB (inR .i64 ((Int.tdiv (b_2 - a_1) 4)*3)) <|
 ckB (inR .i64 (a_1+((Int.tdiv (b_2 - a_1) 4)*3))) <|
 bif decide ((8:Int)≤(b_2 - a_1)) then
   bif decide ((50:Int)≤(b_2 - a_1)) then
     bnd (qu data_0 (a_1+((Int.tdiv (b_2 - a_1) 4)*1)) 0) fun r1 =>
     bnd (qu data_0 (a_1+((Int.tdiv (b_2 - a_1) 4)*2)) r1.2) fun r2 =>
     bnd (qu data_0 (a_1+((Int.tdiv (b_2 - a_1) 4)*3)) r2.2) fun r3 =>
     bnd (q1f data_0 r1.1 r2.1 r3.1 r3.2) fun r4 =>
     bnd (q1n r4.1 r4.2) fun oe5 =>
     lk oe5 (fun e5 =>
       none) (fun r=>some r)
   else
     bnd (q1f data_0 (a_1+((Int.tdiv (b_2 - a_1) 4)*1)) (a_1+((Int.tdiv (b_2 - a_1) 4)*2)) (a_1+((Int.tdiv (b_2 - a_1) 4)*3)) 0) fun r6 =>
     bnd (q1n r6.1 r6.2) fun oe7 =>
     lk oe7 (fun e7 =>
       none) (fun r=>some r)
 else
   bnd (q1n (a_1+((Int.tdiv (b_2 - a_1) 4)*2)) 0) fun oe8 =>
   lk oe8 (fun e8 =>
     none) (fun r=>some r)
def q1x {R:Type}  (i_8:Int) (j_9:Int) (data_0:qL2) (nx:(Int×Int×qL2)→Option R) (dn:qL2→Option R) (rt:qL2→Option R):Option R :=
 bif decide (i_8 < j_9) then
   ckB (ix j_9 data_0.length) <|
   ckB (ix j_9 data_0.length) <|
   ckB (ix i_8 data_0.length) <|
   ckB (ix i_8 data_0.length) <|
   ckB (ix i_8 data_0.length) <|
   ckB (ix i_8 data_0.length) <|
   ckB (ix j_9 (data_0.set (Int.toNat i_8) (data_0.getD (Int.toNat j_9) [])).length) <|
   ckB (ix j_9 (data_0.set (Int.toNat i_8) (data_0.getD (Int.toNat j_9) [])).length) <|
   ckB (inR .i64 (i_8+1)) <|
   ckB (inR .i64 (j_9 - 1)) <|
   nx ((i_8+1),(j_9 - 1),((data_0.set (Int.toNat i_8) (data_0.getD (Int.toNat j_9) [])).set (Int.toNat j_9) (data_0.getD (Int.toNat i_8) [])))
 else
   dn data_0
def q6t  (s0:(Int×Int×qL2)):Option (qL2⊕qL2) :=
 loopM (fun a=>q1x  a.1 a.2.1 a.2.2 (fun a'=>some (.next a')) (fun e=>some (.done e)) (fun r=>some (.ret r))) s0
def q6f:Shp:=⟨[(0,.own 0),(8,.d true qT0),(9,.d true qT0)],[.arr 25 (.fz true) [3] qT1]⟩
def q6b:Shp:=⟨[],[.arr 25 (.fz true) [3] qT1]⟩
def q16 (a_1:Int) (b_2:Int) (data_0:qL2):Option qL2 :=
 ckB (inR .i64 (b_2 - 1)) <|
 bnd (q6t  (a_1,(b_2 - 1),data_0)) fun oe1 =>
 lk oe1 (fun e1 =>
   some e1) (fun r=>some r)
def qx {R:Type} (a_1:Int) (b_2:Int) (j_10:Int) (data_0:qL2) (i_9:Int) (nx:Int→Option R) (dn:Int→Option R) (rt:(Bool×qL2)→Option R):Option R :=
 bif decide (i_9 < b_2) then
   ckB (ix i_9 data_0.length) <|
   ckB (ix i_9 data_0.length) <|
   ckB (inR .i64 (i_9 - 1)) <|
   ckB (ix (i_9 - 1) data_0.length) <|
   ckB (ix (i_9 - 1) data_0.length) <|
   bnd (qh (data_0.getD (Int.toNat i_9) []) (data_0.getD (Int.toNat (i_9 - 1)) [])) fun r1 =>
   bif (!(decide (r1 < 0))) then
     ckB (inR .i64 (i_9+1)) <|
     nx (i_9+1)
   else
     dn i_9
 else
   dn i_9
def q29 (a_1:Int) (b_2:Int) (j_10:Int) (data_0:qL2) (s0:Int):Option (Int⊕(Bool×qL2)) :=
 loopM (fun a=>qx a_1 b_2 j_10 data_0 a (fun a'=>some (.next a')) (fun e=>some (.done e)) (fun r=>some (.ret r))) s0
def q3y:Shp:=⟨[(0,.own 0),(1,.d true qT0),(2,.d true qT0),(3,.fn 64 .nil),(9,.d true qT0),(10,.d true qT0)],[.arr 25 (.fz true) [3] qT1]⟩
def q45:Shp:=⟨[(0,.own 0),(1,.d true qT0),(2,.d true qT0),(3,.fn 64 .nil),(9,.d true qT0),(10,.d true qT0)],[.arr 25 (.fz true) [3] qT1]⟩
def qz {R:Type} (a_1:Int) (b_2:Int) (i_9:Int) (j_10:Int) (j_11:Int) (data_0:qL2) (nx:(Int×qL2)→Option R) (dn:qL2→Option R) (rt:(Bool×qL2)→Option R):Option R :=
 bif decide ((1:Int)≤j_11) then
   ckB (ix j_11 data_0.length) <|
   ckB (ix j_11 data_0.length) <|
   ckB (inR .i64 (j_11 - 1)) <|
   ckB (ix (j_11 - 1) data_0.length) <|
   ckB (ix (j_11 - 1) data_0.length) <|
   bnd (qh (data_0.getD (Int.toNat j_11) []) (data_0.getD (Int.toNat (j_11 - 1)) [])) fun r3 =>
   bif (!(decide (r3 < 0))) then
     dn data_0
   else
     ckB (inR .i64 (j_11 - 1)) <|
     ckB (inR .i64 (j_11 - 1)) <|
     ckB (ix (j_11 - 1) data_0.length) <|
     ckB (ix (j_11 - 1) data_0.length) <|
     ckB (ix j_11 data_0.length) <|
     ckB (ix j_11 data_0.length) <|
     ckB (ix j_11 data_0.length) <|
     ckB (ix j_11 data_0.length) <|
     ckB (ix (j_11 - 1) (data_0.set (Int.toNat j_11) (data_0.getD (Int.toNat (j_11 - 1)) [])).length) <|
     ckB (ix (j_11 - 1) (data_0.set (Int.toNat j_11) (data_0.getD (Int.toNat (j_11 - 1)) [])).length) <|
     ckB (inR .i64 (j_11 - 1)) <|
     nx ((j_11 - 1),((data_0.set (Int.toNat j_11) (data_0.getD (Int.toNat (j_11 - 1)) [])).set (Int.toNat (j_11 - 1)) (data_0.getD (Int.toNat j_11) [])))
 else
   dn data_0
def q28 (a_1:Int) (b_2:Int) (i_9:Int) (j_10:Int) (s0:(Int×qL2)):Option (qL2⊕(Bool×qL2)) :=
 loopM (fun a=>qz a_1 b_2 i_9 j_10 a.1 a.2 (fun a'=>some (.next a')) (fun e=>some (.done e)) (fun r=>some (.ret r))) s0
def q3x:Shp:=⟨[(0,.own 0),(1,.d true qT0),(2,.d true qT0),(3,.fn 64 .nil),(9,.d true qT0),(10,.d true qT0),(11,.d true qT0)],[.arr 25 (.fz true) [3] qT1]⟩
def q40:Shp:=⟨[(0,.own 0),(1,.d true qT0),(2,.d true qT0),(3,.fn 64 .nil),(9,.d true qT0),(10,.d true qT0)],[.arr 25 (.fz true) [3] qT1]⟩
def qy {R:Type} (a_1:Int) (b_2:Int) (i_9:Int) (j_10:Int) (j_12:Int) (data_0:qL2) (nx:(Int×qL2)→Option R) (dn:qL2→Option R) (rt:(Bool×qL2)→Option R):Option R :=
 bif decide (j_12 < b_2) then
   ckB (ix j_12 data_0.length) <|
   ckB (ix j_12 data_0.length) <|
   ckB (inR .i64 (j_12 - 1)) <|
   ckB (ix (j_12 - 1) data_0.length) <|
   ckB (ix (j_12 - 1) data_0.length) <|
   bnd (qh (data_0.getD (Int.toNat j_12) []) (data_0.getD (Int.toNat (j_12 - 1)) [])) fun r5 =>
   bif (!(decide (r5 < 0))) then
     dn data_0
   else
     ckB (inR .i64 (j_12 - 1)) <|
     ckB (inR .i64 (j_12 - 1)) <|
     ckB (ix (j_12 - 1) data_0.length) <|
     ckB (ix (j_12 - 1) data_0.length) <|
     ckB (ix j_12 data_0.length) <|
     ckB (ix j_12 data_0.length) <|
     ckB (ix j_12 data_0.length) <|
     ckB (ix j_12 data_0.length) <|
     ckB (ix (j_12 - 1) (data_0.set (Int.toNat j_12) (data_0.getD (Int.toNat (j_12 - 1)) [])).length) <|
     ckB (ix (j_12 - 1) (data_0.set (Int.toNat j_12) (data_0.getD (Int.toNat (j_12 - 1)) [])).length) <|
     ckB (inR .i64 (j_12+1)) <|
     nx ((j_12+1),((data_0.set (Int.toNat j_12) (data_0.getD (Int.toNat (j_12 - 1)) [])).set (Int.toNat (j_12 - 1)) (data_0.getD (Int.toNat j_12) [])))
 else
   dn data_0
def q25 (a_1:Int) (b_2:Int) (i_9:Int) (j_10:Int) (s0:(Int×qL2)):Option (qL2⊕(Bool×qL2)) :=
 loopM (fun a=>qy a_1 b_2 i_9 j_10 a.1 a.2 (fun a'=>some (.next a')) (fun e=>some (.done e)) (fun r=>some (.ret r))) s0
def q3t:Shp:=⟨[(0,.own 0),(1,.d true qT0),(2,.d true qT0),(3,.fn 64 .nil),(9,.d true qT0),(10,.d true qT0),(12,.d true qT0)],[.arr 25 (.fz true) [3] qT1]⟩
def q3u:Shp:=⟨[(0,.own 0),(1,.d true qT0),(2,.d true qT0),(3,.fn 64 .nil),(9,.d true qT0),(10,.d true qT0)],[.arr 25 (.fz true) [3] qT1]⟩
def q1b {R:Type} (a_1:Int) (b_2:Int) (i_9:Int) (j_10:Int) (data_0:qL2) (dn:qL2→Option R) (rt:(Bool×qL2)→Option R):Option R :=
 ckB (inR .i64 (b_2 - i_9)) <|
 bif decide ((2:Int)≤(b_2 - i_9)) then
   ckB (inR .i64 (i_9+1)) <|
   bnd (q25 a_1 b_2 i_9 j_10 ((i_9+1),data_0)) fun oe6 =>
   lk oe6 (fun e6 =>
     dn e6) (fun r=>rt r)
 else
   dn data_0
def q1h (a_1:Int) (b_2:Int) (i_9:Int) (j_10:Int) (data_0:qL2):Option (qL2⊕(Bool×qL2)) :=
 q1b a_1 b_2 i_9 j_10 data_0 (fun e=>some (.inl e)) (fun r=>some (.inr r))
def q42:Shp:=⟨[(0,.own 0),(1,.d true qT0),(2,.d true qT0),(3,.fn 64 .nil),(9,.d true qT0),(10,.d true qT0)],[.arr 25 (.fz true) [3] qT1]⟩
def q44:Shp:=⟨[(0,.own 0),(1,.d true qT0),(2,.d true qT0),(3,.fn 64 .nil),(9,.d true qT0),(10,.d true qT0)],[.arr 25 (.fz true) [3] qT1]⟩
def qo {R:Type} (a_1:Int) (b_2:Int) (i_9:Int) (j_10:Int) (data_0:qL2) (nx:(Int×Int×qL2)→Option R) (dn:qL2→Option R) (rt:(Bool×qL2)→Option R):Option R :=
 bif decide (j_10 < 5) then
   bnd (q29 a_1 b_2 j_10 data_0 i_9) fun oe2 =>
   lk oe2 (fun e2 =>
     bif decide (e2=b_2) then
       rt (true,data_0)
     else
       ckB (inR .i64 (b_2 - a_1)) <|
       bif decide ((b_2 - a_1) < 50) then
         rt (false,data_0)
       else
         ckB (inR .i64 (e2 - 1)) <|
         ckB (inR .i64 (e2 - 1)) <|
         ckB (ix (e2 - 1) data_0.length) <|
         ckB (ix (e2 - 1) data_0.length) <|
         ckB (ix e2 data_0.length) <|
         ckB (ix e2 data_0.length) <|
         ckB (ix e2 data_0.length) <|
         ckB (ix e2 data_0.length) <|
         ckB (ix (e2 - 1) (data_0.set (Int.toNat e2) (data_0.getD (Int.toNat (e2 - 1)) [])).length) <|
         ckB (ix (e2 - 1) (data_0.set (Int.toNat e2) (data_0.getD (Int.toNat (e2 - 1)) [])).length) <|
         ckB (inR .i64 (e2 - a_1)) <|
         bif decide ((2:Int)≤(e2 - a_1)) then
           ckB (inR .i64 (e2 - 1)) <|
           bnd (q28 a_1 b_2 e2 j_10 ((e2 - 1),((data_0.set (Int.toNat e2) (data_0.getD (Int.toNat (e2 - 1)) [])).set (Int.toNat (e2 - 1)) (data_0.getD (Int.toNat e2) [])))) fun oe4 =>
           lk oe4 (fun e4 =>
             bnd (q1h a_1 b_2 e2 j_10 e4) fun oe7 =>
             lk oe7 (fun e7 =>
               ckB (inR .i64 (j_10+1)) <|
               nx (e2,(j_10+1),e7)) (fun r=>rt r)) (fun r=>rt r)
         else
           bnd (q1h a_1 b_2 e2 j_10 ((data_0.set (Int.toNat e2) (data_0.getD (Int.toNat (e2 - 1)) [])).set (Int.toNat (e2 - 1)) (data_0.getD (Int.toNat e2) []))) fun oe8 =>
           lk oe8 (fun e8 =>
             ckB (inR .i64 (j_10+1)) <|
             nx (e2,(j_10+1),e8)) (fun r=>rt r)) (fun r=>rt r)
 else
   dn data_0
def q47 (a_1:Int) (b_2:Int) (s0:(Int×Int×qL2)):Option (qL2⊕(Bool×qL2)) :=
 loopM (fun a=>qo a_1 b_2 a.1 a.2.1 a.2.2 (fun a'=>some (.next a')) (fun e=>some (.done e)) (fun r=>some (.ret r))) s0
def q3v:Shp:=⟨[(0,.own 0),(1,.d true qT0),(2,.d true qT0),(3,.fn 64 .nil),(9,.d true qT0),(10,.d true qT0)],[.arr 25 (.fz true) [3] qT1]⟩
def q43:Shp:=⟨[],[.arr 25 (.fz true) [3] qT1]⟩
def q1k (a_1:Int) (b_2:Int) (data_0:qL2):Option (Bool×qL2) :=
 ckB (inR .i64 (a_1+1)) <|
 bnd (q47 a_1 b_2 ((a_1+1),0,data_0)) fun oe9 =>
 lk oe9 (fun e9 =>
   some (false,e9)) (fun r=>some r)
def q1s {R:Type} (a_1:Int) (j_12:Int) (data_0:qL2) (i_11:Int) (nx:Int→Option R) (dn:Int→Option R) (rt:(Int×qL2)→Option R):Option R :=
 bif decide (i_11≤j_12) then
   ckB (ix a_1 data_0.length) <|
   ckB (ix a_1 data_0.length) <|
   ckB (ix i_11 data_0.length) <|
   ckB (ix i_11 data_0.length) <|
   bnd (qh (data_0.getD (Int.toNat a_1) []) (data_0.getD (Int.toNat i_11) [])) fun r1 =>
   bif (!(decide (r1 < 0))) then
     ckB (inR .i64 (i_11+1)) <|
     nx (i_11+1)
   else
     dn i_11
 else
   dn i_11
def q5y (a_1:Int) (j_12:Int) (data_0:qL2) (s0:Int):Option (Int⊕(Int×qL2)) :=
 loopM (fun a=>q1s a_1 j_12 data_0 a (fun a'=>some (.next a')) (fun e=>some (.done e)) (fun r=>some (.ret r))) s0
def q5f:Shp:=⟨[(0,.own 0),(1,.d true qT0),(4,.fn 64 .nil),(11,.d true qT0),(12,.d true qT0)],[.arr 25 (.fz true) [3] qT1]⟩
def q5i:Shp:=⟨[(0,.own 0),(1,.d true qT0),(4,.fn 64 .nil),(11,.d true qT0),(12,.d true qT0)],[.arr 25 (.fz true) [3] qT1]⟩
def q1u {R:Type} (a_1:Int) (i_11:Int) (data_0:qL2) (j_12:Int) (nx:Int→Option R) (dn:Int→Option R) (rt:(Int×qL2)→Option R):Option R :=
 bif decide (i_11≤j_12) then
   ckB (ix a_1 data_0.length) <|
   ckB (ix a_1 data_0.length) <|
   ckB (ix j_12 data_0.length) <|
   ckB (ix j_12 data_0.length) <|
   bnd (qh (data_0.getD (Int.toNat a_1) []) (data_0.getD (Int.toNat j_12) [])) fun r3 =>
   bif decide (r3 < 0) then
     ckB (inR .i64 (j_12 - 1)) <|
     nx (j_12 - 1)
   else
     dn j_12
 else
   dn j_12
def q63 (a_1:Int) (i_11:Int) (data_0:qL2) (s0:Int):Option (Int⊕(Int×qL2)) :=
 loopM (fun a=>q1u a_1 i_11 data_0 a (fun a'=>some (.next a')) (fun e=>some (.done e)) (fun r=>some (.ret r))) s0
def q5h:Shp:=⟨[(0,.own 0),(1,.d true qT0),(4,.fn 64 .nil),(11,.d true qT0),(12,.d true qT0)],[.arr 25 (.fz true) [3] qT1]⟩
def q5k:Shp:=⟨[(0,.own 0),(1,.d true qT0),(4,.fn 64 .nil),(11,.d true qT0),(12,.d true qT0)],[.arr 25 (.fz true) [3] qT1]⟩
def q1t {R:Type} (a_1:Int) (i_11:Int) (j_12:Int) (data_0:qL2) (nx:(Int×Int×qL2)→Option R) (dn:(Int×qL2)→Option R) (rt:(Int×qL2)→Option R):Option R :=
 bnd (q5y a_1 j_12 data_0 i_11) fun oe2 =>
 lk oe2 (fun e2 =>
   bnd (q63 a_1 e2 data_0 j_12) fun oe4 =>
   lk oe4 (fun e4 =>
     bif decide (e4 < e2) then
       dn (e2,data_0)
     else
       ckB (ix e4 data_0.length) <|
       ckB (ix e4 data_0.length) <|
       ckB (ix e2 data_0.length) <|
       ckB (ix e2 data_0.length) <|
       ckB (ix e2 data_0.length) <|
       ckB (ix e2 data_0.length) <|
       ckB (ix e4 (data_0.set (Int.toNat e2) (data_0.getD (Int.toNat e4) [])).length) <|
       ckB (ix e4 (data_0.set (Int.toNat e2) (data_0.getD (Int.toNat e4) [])).length) <|
       ckB (inR .i64 (e2+1)) <|
       ckB (inR .i64 (e4 - 1)) <|
       nx ((e2+1),(e4 - 1),((data_0.set (Int.toNat e2) (data_0.getD (Int.toNat e4) [])).set (Int.toNat e4) (data_0.getD (Int.toNat e2) [])))) (fun r=>rt r)) (fun r=>rt r)
def q32 (a_1:Int) (s0:(Int×Int×qL2)):Option ((Int×qL2)⊕(Int×qL2)) :=
 loopM (fun a=>q1t a_1 a.1 a.2.1 a.2.2 (fun a'=>some (.next a')) (fun e=>some (.done e)) (fun r=>some (.ret r))) s0
def q5g:Shp:=⟨[(0,.own 0),(1,.d true qT0),(4,.fn 64 .nil),(11,.d true qT0),(12,.d true qT0)],[.arr 25 (.fz true) [3] qT1]⟩
def q5j:Shp:=⟨[(11,.d true qT0)],[.arr 25 (.fz true) [3] qT1]⟩
def qj (a_1:Int) (b_2:Int) (pivot_3:Int) (data_0:qL2):Option (Int×qL2) :=
 ckB (ix pivot_3 data_0.length) <|
 ckB (ix pivot_3 data_0.length) <|
 ckB (ix a_1 data_0.length) <|
 ckB (ix a_1 data_0.length) <|
 ckB (ix a_1 data_0.length) <|
 ckB (ix a_1 data_0.length) <|
 ckB (ix pivot_3 (data_0.set (Int.toNat a_1) (data_0.getD (Int.toNat pivot_3) [])).length) <|
 ckB (ix pivot_3 (data_0.set (Int.toNat a_1) (data_0.getD (Int.toNat pivot_3) [])).length) <|
 ckB (inR .i64 (a_1+1)) <|
 ckB (inR .i64 (b_2 - 1)) <|
 bnd (q32 a_1 ((a_1+1),(b_2 - 1),((data_0.set (Int.toNat a_1) (data_0.getD (Int.toNat pivot_3) [])).set (Int.toNat pivot_3) (data_0.getD (Int.toNat a_1) [])))) fun oe5 =>
 lk oe5 (fun e5 =>
   some (e5.1,e5.2)) (fun r=>some r)
def q2f {R:Type} (a_1:Int) (j_13:Int) (data_0:qL2) (i_12:Int) (nx:Int→Option R) (dn:Int→Option R) (rt:(Int×Bool×qL2)→Option R):Option R :=
 bif decide (i_12≤j_13) then
   ckB (ix i_12 data_0.length) <|
   ckB (ix i_12 data_0.length) <|
   ckB (ix a_1 data_0.length) <|
   ckB (ix a_1 data_0.length) <|
   bnd (qh (data_0.getD (Int.toNat i_12) []) (data_0.getD (Int.toNat a_1) [])) fun r1 =>
   bif decide (r1 < 0) then
     ckB (inR .i64 (i_12+1)) <|
     nx (i_12+1)
   else
     dn i_12
 else
   dn i_12
def q7o (a_1:Int) (j_13:Int) (data_0:qL2) (s0:Int):Option (Int⊕(Int×Bool×qL2)) :=
 loopM (fun a=>q2f a_1 j_13 data_0 a (fun a'=>some (.next a')) (fun e=>some (.done e)) (fun r=>some (.ret r))) s0
def q7e:Shp:=⟨[(0,.own 0),(1,.d true qT0),(4,.fn 64 .nil),(12,.d true qT0),(13,.d true qT0)],[.arr 25 (.fz true) [3] qT1]⟩
def q77:Shp:=⟨[(0,.own 0),(1,.d true qT0),(4,.fn 64 .nil),(12,.d true qT0),(13,.d true qT0)],[.arr 25 (.fz true) [3] qT1]⟩
def q2g {R:Type} (a_1:Int) (i_12:Int) (data_0:qL2) (j_13:Int) (nx:Int→Option R) (dn:Int→Option R) (rt:(Int×Bool×qL2)→Option R):Option R :=
 bif decide (i_12≤j_13) then
   ckB (ix j_13 data_0.length) <|
   ckB (ix j_13 data_0.length) <|
   ckB (ix a_1 data_0.length) <|
   ckB (ix a_1 data_0.length) <|
   bnd (qh (data_0.getD (Int.toNat j_13) []) (data_0.getD (Int.toNat a_1) [])) fun r3 =>
   bif (!(decide (r3 < 0))) then
     ckB (inR .i64 (j_13 - 1)) <|
     nx (j_13 - 1)
   else
     dn j_13
 else
   dn j_13
def q7q (a_1:Int) (i_12:Int) (data_0:qL2) (s0:Int):Option (Int⊕(Int×Bool×qL2)) :=
 loopM (fun a=>q2g a_1 i_12 data_0 a (fun a'=>some (.next a')) (fun e=>some (.done e)) (fun r=>some (.ret r))) s0
def q74:Shp:=⟨[(0,.own 0),(1,.d true qT0),(4,.fn 64 .nil),(12,.d true qT0),(13,.d true qT0)],[.arr 25 (.fz true) [3] qT1]⟩
def q79:Shp:=⟨[(0,.own 0),(1,.d true qT0),(4,.fn 64 .nil),(12,.d true qT0),(13,.d true qT0)],[.arr 25 (.fz true) [3] qT1]⟩
def q2e {R:Type} (a_1:Int) (j_13:Int) (data_0:qL2) (i_12:Int) (nx:Int→Option R) (dn:Int→Option R) (rt:(Int×Bool×qL2)→Option R):Option R :=
 bif decide (i_12≤j_13) then
   ckB (ix i_12 data_0.length) <|
   ckB (ix i_12 data_0.length) <|
   ckB (ix a_1 data_0.length) <|
   ckB (ix a_1 data_0.length) <|
   bnd (qh (data_0.getD (Int.toNat i_12) []) (data_0.getD (Int.toNat a_1) [])) fun r5 =>
   bif decide (r5 < 0) then
     ckB (inR .i64 (i_12+1)) <|
     nx (i_12+1)
   else
     dn i_12
 else
   dn i_12
def q7l (a_1:Int) (j_13:Int) (data_0:qL2) (s0:Int):Option (Int⊕(Int×Bool×qL2)) :=
 loopM (fun a=>q2e a_1 j_13 data_0 a (fun a'=>some (.next a')) (fun e=>some (.done e)) (fun r=>some (.ret r))) s0
def q7c:Shp:=⟨[(0,.own 0),(1,.d true qT0),(4,.fn 64 .nil),(12,.d true qT0),(13,.d true qT0)],[.arr 25 (.fz true) [3] qT1]⟩
def q75:Shp:=⟨[(0,.own 0),(1,.d true qT0),(4,.fn 64 .nil),(12,.d true qT0),(13,.d true qT0)],[.arr 25 (.fz true) [3] qT1]⟩
def q2h {R:Type} (a_1:Int) (i_12:Int) (data_0:qL2) (j_13:Int) (nx:Int→Option R) (dn:Int→Option R) (rt:(Int×Bool×qL2)→Option R):Option R :=
 bif decide (i_12≤j_13) then
   ckB (ix j_13 data_0.length) <|
   ckB (ix j_13 data_0.length) <|
   ckB (ix a_1 data_0.length) <|
   ckB (ix a_1 data_0.length) <|
   bnd (qh (data_0.getD (Int.toNat j_13) []) (data_0.getD (Int.toNat a_1) [])) fun r7 =>
   bif (!(decide (r7 < 0))) then
     ckB (inR .i64 (j_13 - 1)) <|
     nx (j_13 - 1)
   else
     dn j_13
 else
   dn j_13
def q7w (a_1:Int) (i_12:Int) (data_0:qL2) (s0:Int):Option (Int⊕(Int×Bool×qL2)) :=
 loopM (fun a=>q2h a_1 i_12 data_0 a (fun a'=>some (.next a')) (fun e=>some (.done e)) (fun r=>some (.ret r))) s0
def q7a:Shp:=⟨[(0,.own 0),(1,.d true qT0),(4,.fn 64 .nil),(12,.d true qT0),(13,.d true qT0)],[.arr 25 (.fz true) [3] qT1]⟩
def q78:Shp:=⟨[(0,.own 0),(1,.d true qT0),(4,.fn 64 .nil),(12,.d true qT0),(13,.d true qT0)],[.arr 25 (.fz true) [3] qT1]⟩
def q2i {R:Type} (a_1:Int) (i_12:Int) (j_13:Int) (data_0:qL2) (nx:(Int×Int×qL2)→Option R) (dn:(Int×qL2)→Option R) (rt:(Int×Bool×qL2)→Option R):Option R :=
 bnd (q7l a_1 j_13 data_0 i_12) fun oe6 =>
 lk oe6 (fun e6 =>
   bnd (q7w a_1 e6 data_0 j_13) fun oe8 =>
   lk oe8 (fun e8 =>
     bif decide (e8 < e6) then
       dn (e8,data_0)
     else
       ckB (ix e8 data_0.length) <|
       ckB (ix e8 data_0.length) <|
       ckB (ix e6 data_0.length) <|
       ckB (ix e6 data_0.length) <|
       ckB (ix e6 data_0.length) <|
       ckB (ix e6 data_0.length) <|
       ckB (ix e8 (data_0.set (Int.toNat e6) (data_0.getD (Int.toNat e8) [])).length) <|
       ckB (ix e8 (data_0.set (Int.toNat e6) (data_0.getD (Int.toNat e8) [])).length) <|
       ckB (inR .i64 (e6+1)) <|
       ckB (inR .i64 (e8 - 1)) <|
       nx ((e6+1),(e8 - 1),((data_0.set (Int.toNat e6) (data_0.getD (Int.toNat e8) [])).set (Int.toNat e8) (data_0.getD (Int.toNat e6) [])))) (fun r=>rt r)) (fun r=>rt r)
def q49 (a_1:Int) (s0:(Int×Int×qL2)):Option ((Int×qL2)⊕(Int×Bool×qL2)) :=
 loopM (fun a=>q2i a_1 a.1 a.2.1 a.2.2 (fun a'=>some (.next a')) (fun e=>some (.done e)) (fun r=>some (.ret r))) s0
def q7b:Shp:=⟨[(0,.own 0),(1,.d true qT0),(4,.fn 64 .nil),(12,.d true qT0),(13,.d true qT0)],[.arr 25 (.fz true) [3] qT1]⟩
def q76:Shp:=⟨[(0,.own 0),(1,.d true qT0),(13,.d true qT0)],[.arr 25 (.fz true) [3] qT1]⟩
def q2v (a_1:Int) (b_2:Int) (pivot_3:Int) (data_0:qL2):Option (Int×Bool×qL2) :=
 ckB (ix pivot_3 data_0.length) <|
 ckB (ix pivot_3 data_0.length) <|
 ckB (ix a_1 data_0.length) <|
 ckB (ix a_1 data_0.length) <|
 ckB (ix a_1 data_0.length) <|
 ckB (ix a_1 data_0.length) <|
 ckB (ix pivot_3 (data_0.set (Int.toNat a_1) (data_0.getD (Int.toNat pivot_3) [])).length) <|
 ckB (ix pivot_3 (data_0.set (Int.toNat a_1) (data_0.getD (Int.toNat pivot_3) [])).length) <|
 ckB (inR .i64 (a_1+1)) <|
 ckB (inR .i64 (b_2 - 1)) <|
 bnd (q7o a_1 (b_2 - 1) ((data_0.set (Int.toNat a_1) (data_0.getD (Int.toNat pivot_3) [])).set (Int.toNat pivot_3) (data_0.getD (Int.toNat a_1) [])) (a_1+1)) fun oe2 =>
 lk oe2 (fun e2 =>
   bnd (q7q a_1 e2 ((data_0.set (Int.toNat a_1) (data_0.getD (Int.toNat pivot_3) [])).set (Int.toNat pivot_3) (data_0.getD (Int.toNat a_1) [])) (b_2 - 1)) fun oe4 =>
   lk oe4 (fun e4 =>
     bif decide (e4 < e2) then
       ckB (ix a_1 ((data_0.set (Int.toNat a_1) (data_0.getD (Int.toNat pivot_3) [])).set (Int.toNat pivot_3) (data_0.getD (Int.toNat a_1) [])).length) <|
       ckB (ix a_1 ((data_0.set (Int.toNat a_1) (data_0.getD (Int.toNat pivot_3) [])).set (Int.toNat pivot_3) (data_0.getD (Int.toNat a_1) [])).length) <|
       ckB (ix e4 ((data_0.set (Int.toNat a_1) (data_0.getD (Int.toNat pivot_3) [])).set (Int.toNat pivot_3) (data_0.getD (Int.toNat a_1) [])).length) <|
       ckB (ix e4 ((data_0.set (Int.toNat a_1) (data_0.getD (Int.toNat pivot_3) [])).set (Int.toNat pivot_3) (data_0.getD (Int.toNat a_1) [])).length) <|
       ckB (ix e4 ((data_0.set (Int.toNat a_1) (data_0.getD (Int.toNat pivot_3) [])).set (Int.toNat pivot_3) (data_0.getD (Int.toNat a_1) [])).length) <|
       ckB (ix e4 ((data_0.set (Int.toNat a_1) (data_0.getD (Int.toNat pivot_3) [])).set (Int.toNat pivot_3) (data_0.getD (Int.toNat a_1) [])).length) <|
       ckB (ix a_1 (((data_0.set (Int.toNat a_1) (data_0.getD (Int.toNat pivot_3) [])).set (Int.toNat pivot_3) (data_0.getD (Int.toNat a_1) [])).set (Int.toNat e4) (((data_0.set (Int.toNat a_1) (data_0.getD (Int.toNat pivot_3) [])).set (Int.toNat pivot_3) (data_0.getD (Int.toNat a_1) [])).getD (Int.toNat a_1) [])).length) <|
       ckB (ix a_1 (((data_0.set (Int.toNat a_1) (data_0.getD (Int.toNat pivot_3) [])).set (Int.toNat pivot_3) (data_0.getD (Int.toNat a_1) [])).set (Int.toNat e4) (((data_0.set (Int.toNat a_1) (data_0.getD (Int.toNat pivot_3) [])).set (Int.toNat pivot_3) (data_0.getD (Int.toNat a_1) [])).getD (Int.toNat a_1) [])).length) <|
       some (e4,true,((((data_0.set (Int.toNat a_1) (data_0.getD (Int.toNat pivot_3) [])).set (Int.toNat pivot_3) (data_0.getD (Int.toNat a_1) [])).set (Int.toNat e4) (((data_0.set (Int.toNat a_1) (data_0.getD (Int.toNat pivot_3) [])).set (Int.toNat pivot_3) (data_0.getD (Int.toNat a_1) [])).getD (Int.toNat a_1) [])).set (Int.toNat a_1) (((data_0.set (Int.toNat a_1) (data_0.getD (Int.toNat pivot_3) [])).set (Int.toNat pivot_3) (data_0.getD (Int.toNat a_1) [])).getD (Int.toNat e4) [])))
     else
       ckB (ix e4 ((data_0.set (Int.toNat a_1) (data_0.getD (Int.toNat pivot_3) [])).set (Int.toNat pivot_3) (data_0.getD (Int.toNat a_1) [])).length) <|
       ckB (ix e4 ((data_0.set (Int.toNat a_1) (data_0.getD (Int.toNat pivot_3) [])).set (Int.toNat pivot_3) (data_0.getD (Int.toNat a_1) [])).length) <|
       ckB (ix e2 ((data_0.set (Int.toNat a_1) (data_0.getD (Int.toNat pivot_3) [])).set (Int.toNat pivot_3) (data_0.getD (Int.toNat a_1) [])).length) <|
       ckB (ix e2 ((data_0.set (Int.toNat a_1) (data_0.getD (Int.toNat pivot_3) [])).set (Int.toNat pivot_3) (data_0.getD (Int.toNat a_1) [])).length) <|
       ckB (ix e2 ((data_0.set (Int.toNat a_1) (data_0.getD (Int.toNat pivot_3) [])).set (Int.toNat pivot_3) (data_0.getD (Int.toNat a_1) [])).length) <|
       ckB (ix e2 ((data_0.set (Int.toNat a_1) (data_0.getD (Int.toNat pivot_3) [])).set (Int.toNat pivot_3) (data_0.getD (Int.toNat a_1) [])).length) <|
       ckB (ix e4 (((data_0.set (Int.toNat a_1) (data_0.getD (Int.toNat pivot_3) [])).set (Int.toNat pivot_3) (data_0.getD (Int.toNat a_1) [])).set (Int.toNat e2) (((data_0.set (Int.toNat a_1) (data_0.getD (Int.toNat pivot_3) [])).set (Int.toNat pivot_3) (data_0.getD (Int.toNat a_1) [])).getD (Int.toNat e4) [])).length) <|
       ckB (ix e4 (((data_0.set (Int.toNat a_1) (data_0.getD (Int.toNat pivot_3) [])).set (Int.toNat pivot_3) (data_0.getD (Int.toNat a_1) [])).set (Int.toNat e2) (((data_0.set (Int.toNat a_1) (data_0.getD (Int.toNat pivot_3) [])).set (Int.toNat pivot_3) (data_0.getD (Int.toNat a_1) [])).getD (Int.toNat e4) [])).length) <|
       ckB (inR .i64 (e2+1)) <|
       ckB (inR .i64 (e4 - 1)) <|
       bnd (q49 a_1 ((e2+1),(e4 - 1),((((data_0.set (Int.toNat a_1) (data_0.getD (Int.toNat pivot_3) [])).set (Int.toNat pivot_3) (data_0.getD (Int.toNat a_1) [])).set (Int.toNat e2) (((data_0.set (Int.toNat a_1) (data_0.getD (Int.toNat pivot_3) [])).set (Int.toNat pivot_3) (data_0.getD (Int.toNat a_1) [])).getD (Int.toNat e4) [])).set (Int.toNat e4) (((data_0.set (Int.toNat a_1) (data_0.getD (Int.toNat pivot_3) [])).set (Int.toNat pivot_3) (data_0.getD (Int.toNat a_1) [])).getD (Int.toNat e2) [])))) fun oe9 =>
       lk oe9 (fun e9 =>
         ckB (ix a_1 e9.2.length) <|
         ckB (ix a_1 e9.2.length) <|
         ckB (ix e9.1 e9.2.length) <|
         ckB (ix e9.1 e9.2.length) <|
         ckB (ix e9.1 e9.2.length) <|
         ckB (ix e9.1 e9.2.length) <|
         ckB (ix a_1 (e9.2.set (Int.toNat e9.1) (e9.2.getD (Int.toNat a_1) [])).length) <|
         ckB (ix a_1 (e9.2.set (Int.toNat e9.1) (e9.2.getD (Int.toNat a_1) [])).length) <|
         some (e9.1,false,((e9.2.set (Int.toNat e9.1) (e9.2.getD (Int.toNat a_1) [])).set (Int.toNat a_1) (e9.2.getD (Int.toNat e9.1) [])))) (fun r=>some r)) (fun r=>some r)) (fun r=>some r)
def q4q {R:Type} (rec:((Unit×Int×Int×Int×(Unit)×Unit)×(qL2×Unit))→Option qL2) (a_1:Int) (b_2:Int) (limit_3:Int) (wasBalanced_10:Bool) (wasPartitioned_11:Bool) (length_12:Int) (pivot_13:Int) (v_75:Bool) (data_0:qL2) (dn:qL2→Option R) (rt:qL2→Option R):Option R :=
 bif v_75 then
   bnd (q1k a_1 b_2 data_0) fun r6 =>
   ckB (decide (r6.2.length=data_0.length)) <|
   bif r6.1 then
     rt r6.2
   else
     dn r6.2
 else
   dn data_0
def ql (rec:((Unit×Int×Int×Int×(Unit)×Unit)×(qL2×Unit))→Option qL2) (a_1:Int) (b_2:Int) (limit_3:Int) (wasBalanced_10:Bool) (wasPartitioned_11:Bool) (length_12:Int) (pivot_13:Int) (v_75:Bool) (data_0:qL2):Option (qL2⊕qL2) :=
 q4q rec a_1 b_2 limit_3 wasBalanced_10 wasPartitioned_11 length_12 pivot_13 v_75 data_0 (fun e=>some (.inl e)) (fun r=>some (.inr r))
def q87:Shp:=⟨[(0,.own 0),(1,.d true qT0),(2,.d true qT0),(3,.d true qT0),(4,.fn 64 .nil),(10,.d true .bool),(11,.d true .bool),(12,.d true qT0),(13,.d true qT0),(75,.d true .bool)],[.arr 25 (.fz true) [3] qT1]⟩
def q88:Shp:=⟨[(0,.own 0),(1,.d true qT0),(2,.d true qT0),(3,.d true qT0),(4,.fn 64 .nil),(10,.d true .bool),(11,.d true .bool),(12,.d true qT0),(13,.d true qT0)],[.arr 25 (.fz true) [3] qT1]⟩
def q2r {R:Type} (rec:((Unit×Int×Int×Int×(Unit)×Unit)×(qL2×Unit))→Option qL2) (a_1:Int) (b_2:Int) (limit_3:Int) (length_12:Int) (pivot_13:Int) (data_0:qL2) (dn:(Int×Int×Bool×Bool×qL2)→Option R) (rt:qL2→Option R):Option R :=
 bnd (q2v a_1 b_2 pivot_13 data_0) fun r10 =>
 ckB (decide (r10.2.2.length=data_0.length)) <|
 ckB (inR .i64 (r10.1 - a_1)) <|
 ckB (inR .i64 (b_2 - r10.1)) <|
 ckB (!decide ((8:Int)=0)) <|
 ckB (inR .i64 (Int.tdiv length_12 8)) <|
 bif decide ((r10.1 - a_1) < (b_2 - r10.1)) then
   bnd (rec (((),a_1,r10.1,limit_3,(()),()),(r10.2.2,()))) fun r11 =>
   ckB (decide (r11.length=r10.2.2.length)) <|
   ckB (inR .i64 (r10.1+1)) <|
   dn ((r10.1+1),b_2,decide ((Int.tdiv length_12 8)≤(r10.1 - a_1)),r10.2.1,r11)
 else
   ckB (inR .i64 (r10.1+1)) <|
   bnd (rec (((),(r10.1+1),b_2,limit_3,(()),()),(r10.2.2,()))) fun r12 =>
   ckB (decide (r12.length=r10.2.2.length)) <|
   dn (a_1,r10.1,decide ((Int.tdiv length_12 8)≤(b_2 - r10.1)),r10.2.1,r12)
def qe (rec:((Unit×Int×Int×Int×(Unit)×Unit)×(qL2×Unit))→Option qL2) (a_1:Int) (b_2:Int) (limit_3:Int) (length_12:Int) (pivot_13:Int) (data_0:qL2):Option ((Int×Int×Bool×Bool×qL2)⊕qL2) :=
 q2r rec a_1 b_2 limit_3 length_12 pivot_13 data_0 (fun e=>some (.inl e)) (fun r=>some (.inr r))
def q8b:Shp:=⟨[(0,.own 0),(1,.d true qT0),(2,.d true qT0),(3,.d true qT0),(4,.fn 64 .nil),(12,.d true qT0),(13,.d true qT0)],[.arr 25 (.fz true) [3] qT1]⟩
def q83:Shp:=⟨[(0,.own 0),(1,.d true qT0),(2,.d true qT0),(3,.d true qT0),(4,.fn 64 .nil),(10,.d true .bool),(11,.d true .bool)],[.arr 25 (.fz true) [3] qT1]⟩
def q2q {R:Type} (rec:((Unit×Int×Int×Int×(Unit)×Unit)×(qL2×Unit))→Option qL2)  (a_1:Int) (b_2:Int) (limit_3:Int) (wasBalanced_10:Bool) (wasPartitioned_11:Bool) (data_0:qL2) (nx:(Int×Int×Int×Bool×Bool×qL2)→Option R) (dn:Unit→Option R) (rt:qL2→Option R):Option R :=
 ckB (inR .i64 (b_2 - a_1)) <|
 bif decide ((b_2 - a_1)≤12) then
   bnd (q1m a_1 b_2 data_0) fun r1 =>
   ckB (decide (r1.length=data_0.length)) <|
   rt r1
 else
   bif decide (limit_3=0) then
     bnd (q23 a_1 b_2 data_0) fun r2 =>
     ckB (decide (r2.length=data_0.length)) <|
     rt r2
   else
     bif (!wasBalanced_10) then
       bnd (q1l a_1 b_2 data_0) fun r3 =>
       ckB (decide (r3.length=data_0.length)) <|
       ckB (inR .i64 (limit_3 - 1)) <|
       bnd (q18 r3 a_1 b_2) fun r4 =>
       bif decide (r4.2=2) then
         bnd (q16 a_1 b_2 r3) fun r5 =>
         ckB (decide (r5.length=r3.length)) <|
         ckB (inR .i64 (b_2 - 1)) <|
         ckB (inR .i64 (r4.1 - a_1)) <|
         ckB (inR .i64 ((b_2 - 1) - (r4.1 - a_1))) <|
         bif wasBalanced_10 then
           bif wasPartitioned_11 then
             bnd (ql rec a_1 b_2 (limit_3 - 1) wasBalanced_10 wasPartitioned_11 (b_2 - a_1) ((b_2 - 1) - (r4.1 - a_1)) (decide ((1:Int)=1)) r5) fun oe7 =>
             lk oe7 (fun e7 =>
               bif decide ((0:Int) < a_1) then
                 ckB (inR .i64 (a_1 - 1)) <|
                 ckB (ix (a_1 - 1) e7.length) <|
                 ckB (ix (a_1 - 1) e7.length) <|
                 ckB (ix ((b_2 - 1) - (r4.1 - a_1)) e7.length) <|
                 ckB (ix ((b_2 - 1) - (r4.1 - a_1)) e7.length) <|
                 bnd (qh (e7.getD (Int.toNat (a_1 - 1)) []) (e7.getD (Int.toNat ((b_2 - 1) - (r4.1 - a_1))) [])) fun r8 =>
                 bif (!(decide (r8 < 0))) then
                   bnd (qj a_1 b_2 ((b_2 - 1) - (r4.1 - a_1)) e7) fun r9 =>
                   ckB (decide (r9.2.length=e7.length)) <|
                   nx (r9.1,b_2,(limit_3 - 1),wasBalanced_10,wasPartitioned_11,r9.2)
                 else
                   bnd (qe rec a_1 b_2 (limit_3 - 1) (b_2 - a_1) ((b_2 - 1) - (r4.1 - a_1)) e7) fun oe13 =>
                   lk oe13 (fun e13 =>
                     nx (e13.1,e13.2.1,(limit_3 - 1),e13.2.2.1,e13.2.2.2.1,e13.2.2.2.2)) (fun r=>rt r)
               else
                 bnd (qe rec a_1 b_2 (limit_3 - 1) (b_2 - a_1) ((b_2 - 1) - (r4.1 - a_1)) e7) fun oe14 =>
                 lk oe14 (fun e14 =>
                   nx (e14.1,e14.2.1,(limit_3 - 1),e14.2.2.1,e14.2.2.2.1,e14.2.2.2.2)) (fun r=>rt r)) (fun r=>rt r)
           else
             bnd (ql rec a_1 b_2 (limit_3 - 1) wasBalanced_10 wasPartitioned_11 (b_2 - a_1) ((b_2 - 1) - (r4.1 - a_1)) false r5) fun oe15 =>
             lk oe15 (fun e15 =>
               bif decide ((0:Int) < a_1) then
                 ckB (inR .i64 (a_1 - 1)) <|
                 ckB (ix (a_1 - 1) e15.length) <|
                 ckB (ix (a_1 - 1) e15.length) <|
                 ckB (ix ((b_2 - 1) - (r4.1 - a_1)) e15.length) <|
                 ckB (ix ((b_2 - 1) - (r4.1 - a_1)) e15.length) <|
                 bnd (qh (e15.getD (Int.toNat (a_1 - 1)) []) (e15.getD (Int.toNat ((b_2 - 1) - (r4.1 - a_1))) [])) fun r16 =>
                 bif (!(decide (r16 < 0))) then
                   bnd (qj a_1 b_2 ((b_2 - 1) - (r4.1 - a_1)) e15) fun r17 =>
                   ckB (decide (r17.2.length=e15.length)) <|
                   nx (r17.1,b_2,(limit_3 - 1),wasBalanced_10,wasPartitioned_11,r17.2)
                 else
                   bnd (qe rec a_1 b_2 (limit_3 - 1) (b_2 - a_1) ((b_2 - 1) - (r4.1 - a_1)) e15) fun oe18 =>
                   lk oe18 (fun e18 =>
                     nx (e18.1,e18.2.1,(limit_3 - 1),e18.2.2.1,e18.2.2.2.1,e18.2.2.2.2)) (fun r=>rt r)
               else
                 bnd (qe rec a_1 b_2 (limit_3 - 1) (b_2 - a_1) ((b_2 - 1) - (r4.1 - a_1)) e15) fun oe19 =>
                 lk oe19 (fun e19 =>
                   nx (e19.1,e19.2.1,(limit_3 - 1),e19.2.2.1,e19.2.2.2.1,e19.2.2.2.2)) (fun r=>rt r)) (fun r=>rt r)
         else
           bnd (ql rec a_1 b_2 (limit_3 - 1) wasBalanced_10 wasPartitioned_11 (b_2 - a_1) ((b_2 - 1) - (r4.1 - a_1)) false r5) fun oe20 =>
           lk oe20 (fun e20 =>
             bif decide ((0:Int) < a_1) then
               ckB (inR .i64 (a_1 - 1)) <|
               ckB (ix (a_1 - 1) e20.length) <|
               ckB (ix (a_1 - 1) e20.length) <|
               ckB (ix ((b_2 - 1) - (r4.1 - a_1)) e20.length) <|
               ckB (ix ((b_2 - 1) - (r4.1 - a_1)) e20.length) <|
               bnd (qh (e20.getD (Int.toNat (a_1 - 1)) []) (e20.getD (Int.toNat ((b_2 - 1) - (r4.1 - a_1))) [])) fun r21 =>
               bif (!(decide (r21 < 0))) then
                 bnd (qj a_1 b_2 ((b_2 - 1) - (r4.1 - a_1)) e20) fun r22 =>
                 ckB (decide (r22.2.length=e20.length)) <|
                 nx (r22.1,b_2,(limit_3 - 1),wasBalanced_10,wasPartitioned_11,r22.2)
               else
                 bnd (qe rec a_1 b_2 (limit_3 - 1) (b_2 - a_1) ((b_2 - 1) - (r4.1 - a_1)) e20) fun oe23 =>
                 lk oe23 (fun e23 =>
                   nx (e23.1,e23.2.1,(limit_3 - 1),e23.2.2.1,e23.2.2.2.1,e23.2.2.2.2)) (fun r=>rt r)
             else
               bnd (qe rec a_1 b_2 (limit_3 - 1) (b_2 - a_1) ((b_2 - 1) - (r4.1 - a_1)) e20) fun oe24 =>
               lk oe24 (fun e24 =>
                 nx (e24.1,e24.2.1,(limit_3 - 1),e24.2.2.1,e24.2.2.2.1,e24.2.2.2.2)) (fun r=>rt r)) (fun r=>rt r)
       else
         bif wasBalanced_10 then
           bif wasPartitioned_11 then
             bnd (ql rec a_1 b_2 (limit_3 - 1) wasBalanced_10 wasPartitioned_11 (b_2 - a_1) r4.1 (decide (r4.2=1)) r3) fun oe25 =>
             lk oe25 (fun e25 =>
               bif decide ((0:Int) < a_1) then
                 ckB (inR .i64 (a_1 - 1)) <|
                 ckB (ix (a_1 - 1) e25.length) <|
                 ckB (ix (a_1 - 1) e25.length) <|
                 ckB (ix r4.1 e25.length) <|
                 ckB (ix r4.1 e25.length) <|
                 bnd (qh (e25.getD (Int.toNat (a_1 - 1)) []) (e25.getD (Int.toNat r4.1) [])) fun r26 =>
                 bif (!(decide (r26 < 0))) then
                   bnd (qj a_1 b_2 r4.1 e25) fun r27 =>
                   ckB (decide (r27.2.length=e25.length)) <|
                   nx (r27.1,b_2,(limit_3 - 1),wasBalanced_10,wasPartitioned_11,r27.2)
                 else
                   bnd (qe rec a_1 b_2 (limit_3 - 1) (b_2 - a_1) r4.1 e25) fun oe28 =>
                   lk oe28 (fun e28 =>
                     nx (e28.1,e28.2.1,(limit_3 - 1),e28.2.2.1,e28.2.2.2.1,e28.2.2.2.2)) (fun r=>rt r)
               else
                 bnd (qe rec a_1 b_2 (limit_3 - 1) (b_2 - a_1) r4.1 e25) fun oe29 =>
                 lk oe29 (fun e29 =>
                   nx (e29.1,e29.2.1,(limit_3 - 1),e29.2.2.1,e29.2.2.2.1,e29.2.2.2.2)) (fun r=>rt r)) (fun r=>rt r)
           else
             bnd (ql rec a_1 b_2 (limit_3 - 1) wasBalanced_10 wasPartitioned_11 (b_2 - a_1) r4.1 false r3) fun oe30 =>
             lk oe30 (fun e30 =>
               bif decide ((0:Int) < a_1) then
                 ckB (inR .i64 (a_1 - 1)) <|
                 ckB (ix (a_1 - 1) e30.length) <|
                 ckB (ix (a_1 - 1) e30.length) <|
                 ckB (ix r4.1 e30.length) <|
                 ckB (ix r4.1 e30.length) <|
                 bnd (qh (e30.getD (Int.toNat (a_1 - 1)) []) (e30.getD (Int.toNat r4.1) [])) fun r31 =>
                 bif (!(decide (r31 < 0))) then
                   bnd (qj a_1 b_2 r4.1 e30) fun r32 =>
                   ckB (decide (r32.2.length=e30.length)) <|
                   nx (r32.1,b_2,(limit_3 - 1),wasBalanced_10,wasPartitioned_11,r32.2)
                 else
                   bnd (qe rec a_1 b_2 (limit_3 - 1) (b_2 - a_1) r4.1 e30) fun oe33 =>
                   lk oe33 (fun e33 =>
                     nx (e33.1,e33.2.1,(limit_3 - 1),e33.2.2.1,e33.2.2.2.1,e33.2.2.2.2)) (fun r=>rt r)
               else
                 bnd (qe rec a_1 b_2 (limit_3 - 1) (b_2 - a_1) r4.1 e30) fun oe34 =>
                 lk oe34 (fun e34 =>
                   nx (e34.1,e34.2.1,(limit_3 - 1),e34.2.2.1,e34.2.2.2.1,e34.2.2.2.2)) (fun r=>rt r)) (fun r=>rt r)
         else
           bnd (ql rec a_1 b_2 (limit_3 - 1) wasBalanced_10 wasPartitioned_11 (b_2 - a_1) r4.1 false r3) fun oe35 =>
           lk oe35 (fun e35 =>
             bif decide ((0:Int) < a_1) then
               ckB (inR .i64 (a_1 - 1)) <|
               ckB (ix (a_1 - 1) e35.length) <|
               ckB (ix (a_1 - 1) e35.length) <|
               ckB (ix r4.1 e35.length) <|
               ckB (ix r4.1 e35.length) <|
               bnd (qh (e35.getD (Int.toNat (a_1 - 1)) []) (e35.getD (Int.toNat r4.1) [])) fun r36 =>
               bif (!(decide (r36 < 0))) then
                 bnd (qj a_1 b_2 r4.1 e35) fun r37 =>
                 ckB (decide (r37.2.length=e35.length)) <|
                 nx (r37.1,b_2,(limit_3 - 1),wasBalanced_10,wasPartitioned_11,r37.2)
               else
                 bnd (qe rec a_1 b_2 (limit_3 - 1) (b_2 - a_1) r4.1 e35) fun oe38 =>
                 lk oe38 (fun e38 =>
                   nx (e38.1,e38.2.1,(limit_3 - 1),e38.2.2.1,e38.2.2.2.1,e38.2.2.2.2)) (fun r=>rt r)
             else
               bnd (qe rec a_1 b_2 (limit_3 - 1) (b_2 - a_1) r4.1 e35) fun oe39 =>
               lk oe39 (fun e39 =>
                 nx (e39.1,e39.2.1,(limit_3 - 1),e39.2.2.1,e39.2.2.2.1,e39.2.2.2.2)) (fun r=>rt r)) (fun r=>rt r)
     else
       bnd (q18 data_0 a_1 b_2) fun r40 =>
       bif decide (r40.2=2) then
         bnd (q16 a_1 b_2 data_0) fun r41 =>
         ckB (decide (r41.length=data_0.length)) <|
         ckB (inR .i64 (b_2 - 1)) <|
         ckB (inR .i64 (r40.1 - a_1)) <|
         ckB (inR .i64 ((b_2 - 1) - (r40.1 - a_1))) <|
         bif wasBalanced_10 then
           bif wasPartitioned_11 then
             bnd (ql rec a_1 b_2 limit_3 wasBalanced_10 wasPartitioned_11 (b_2 - a_1) ((b_2 - 1) - (r40.1 - a_1)) (decide ((1:Int)=1)) r41) fun oe42 =>
             lk oe42 (fun e42 =>
               bif decide ((0:Int) < a_1) then
                 ckB (inR .i64 (a_1 - 1)) <|
                 ckB (ix (a_1 - 1) e42.length) <|
                 ckB (ix (a_1 - 1) e42.length) <|
                 ckB (ix ((b_2 - 1) - (r40.1 - a_1)) e42.length) <|
                 ckB (ix ((b_2 - 1) - (r40.1 - a_1)) e42.length) <|
                 bnd (qh (e42.getD (Int.toNat (a_1 - 1)) []) (e42.getD (Int.toNat ((b_2 - 1) - (r40.1 - a_1))) [])) fun r43 =>
                 bif (!(decide (r43 < 0))) then
                   bnd (qj a_1 b_2 ((b_2 - 1) - (r40.1 - a_1)) e42) fun r44 =>
                   ckB (decide (r44.2.length=e42.length)) <|
                   nx (r44.1,b_2,limit_3,wasBalanced_10,wasPartitioned_11,r44.2)
                 else
                   bnd (qe rec a_1 b_2 limit_3 (b_2 - a_1) ((b_2 - 1) - (r40.1 - a_1)) e42) fun oe45 =>
                   lk oe45 (fun e45 =>
                     nx (e45.1,e45.2.1,limit_3,e45.2.2.1,e45.2.2.2.1,e45.2.2.2.2)) (fun r=>rt r)
               else
                 bnd (qe rec a_1 b_2 limit_3 (b_2 - a_1) ((b_2 - 1) - (r40.1 - a_1)) e42) fun oe46 =>
                 lk oe46 (fun e46 =>
                   nx (e46.1,e46.2.1,limit_3,e46.2.2.1,e46.2.2.2.1,e46.2.2.2.2)) (fun r=>rt r)) (fun r=>rt r)
           else
             bnd (ql rec a_1 b_2 limit_3 wasBalanced_10 wasPartitioned_11 (b_2 - a_1) ((b_2 - 1) - (r40.1 - a_1)) false r41) fun oe47 =>
             lk oe47 (fun e47 =>
               bif decide ((0:Int) < a_1) then
                 ckB (inR .i64 (a_1 - 1)) <|
                 ckB (ix (a_1 - 1) e47.length) <|
                 ckB (ix (a_1 - 1) e47.length) <|
                 ckB (ix ((b_2 - 1) - (r40.1 - a_1)) e47.length) <|
                 ckB (ix ((b_2 - 1) - (r40.1 - a_1)) e47.length) <|
                 bnd (qh (e47.getD (Int.toNat (a_1 - 1)) []) (e47.getD (Int.toNat ((b_2 - 1) - (r40.1 - a_1))) [])) fun r48 =>
                 bif (!(decide (r48 < 0))) then
                   bnd (qj a_1 b_2 ((b_2 - 1) - (r40.1 - a_1)) e47) fun r49 =>
                   ckB (decide (r49.2.length=e47.length)) <|
                   nx (r49.1,b_2,limit_3,wasBalanced_10,wasPartitioned_11,r49.2)
                 else
                   bnd (qe rec a_1 b_2 limit_3 (b_2 - a_1) ((b_2 - 1) - (r40.1 - a_1)) e47) fun oe50 =>
                   lk oe50 (fun e50 =>
                     nx (e50.1,e50.2.1,limit_3,e50.2.2.1,e50.2.2.2.1,e50.2.2.2.2)) (fun r=>rt r)
               else
                 bnd (qe rec a_1 b_2 limit_3 (b_2 - a_1) ((b_2 - 1) - (r40.1 - a_1)) e47) fun oe51 =>
                 lk oe51 (fun e51 =>
                   nx (e51.1,e51.2.1,limit_3,e51.2.2.1,e51.2.2.2.1,e51.2.2.2.2)) (fun r=>rt r)) (fun r=>rt r)
         else
           bnd (ql rec a_1 b_2 limit_3 wasBalanced_10 wasPartitioned_11 (b_2 - a_1) ((b_2 - 1) - (r40.1 - a_1)) false r41) fun oe52 =>
           lk oe52 (fun e52 =>
             bif decide ((0:Int) < a_1) then
               ckB (inR .i64 (a_1 - 1)) <|
               ckB (ix (a_1 - 1) e52.length) <|
               ckB (ix (a_1 - 1) e52.length) <|
               ckB (ix ((b_2 - 1) - (r40.1 - a_1)) e52.length) <|
               ckB (ix ((b_2 - 1) - (r40.1 - a_1)) e52.length) <|
               bnd (qh (e52.getD (Int.toNat (a_1 - 1)) []) (e52.getD (Int.toNat ((b_2 - 1) - (r40.1 - a_1))) [])) fun r53 =>
               bif (!(decide (r53 < 0))) then
                 bnd (qj a_1 b_2 ((b_2 - 1) - (r40.1 - a_1)) e52) fun r54 =>
                 ckB (decide (r54.2.length=e52.length)) <|
                 nx (r54.1,b_2,limit_3,wasBalanced_10,wasPartitioned_11,r54.2)
               else
                 bnd (qe rec a_1 b_2 limit_3 (b_2 - a_1) ((b_2 - 1) - (r40.1 - a_1)) e52) fun oe55 =>
                 lk oe55 (fun e55 =>
                   nx (e55.1,e55.2.1,limit_3,e55.2.2.1,e55.2.2.2.1,e55.2.2.2.2)) (fun r=>rt r)
             else
               bnd (qe rec a_1 b_2 limit_3 (b_2 - a_1) ((b_2 - 1) - (r40.1 - a_1)) e52) fun oe56 =>
               lk oe56 (fun e56 =>
                 nx (e56.1,e56.2.1,limit_3,e56.2.2.1,e56.2.2.2.1,e56.2.2.2.2)) (fun r=>rt r)) (fun r=>rt r)
       else
         bif wasBalanced_10 then
           bif wasPartitioned_11 then
             bnd (ql rec a_1 b_2 limit_3 wasBalanced_10 wasPartitioned_11 (b_2 - a_1) r40.1 (decide (r40.2=1)) data_0) fun oe57 =>
             lk oe57 (fun e57 =>
               bif decide ((0:Int) < a_1) then
                 ckB (inR .i64 (a_1 - 1)) <|
                 ckB (ix (a_1 - 1) e57.length) <|
                 ckB (ix (a_1 - 1) e57.length) <|
                 ckB (ix r40.1 e57.length) <|
                 ckB (ix r40.1 e57.length) <|
                 bnd (qh (e57.getD (Int.toNat (a_1 - 1)) []) (e57.getD (Int.toNat r40.1) [])) fun r58 =>
                 bif (!(decide (r58 < 0))) then
                   bnd (qj a_1 b_2 r40.1 e57) fun r59 =>
                   ckB (decide (r59.2.length=e57.length)) <|
                   nx (r59.1,b_2,limit_3,wasBalanced_10,wasPartitioned_11,r59.2)
                 else
                   bnd (qe rec a_1 b_2 limit_3 (b_2 - a_1) r40.1 e57) fun oe60 =>
                   lk oe60 (fun e60 =>
                     nx (e60.1,e60.2.1,limit_3,e60.2.2.1,e60.2.2.2.1,e60.2.2.2.2)) (fun r=>rt r)
               else
                 bnd (qe rec a_1 b_2 limit_3 (b_2 - a_1) r40.1 e57) fun oe61 =>
                 lk oe61 (fun e61 =>
                   nx (e61.1,e61.2.1,limit_3,e61.2.2.1,e61.2.2.2.1,e61.2.2.2.2)) (fun r=>rt r)) (fun r=>rt r)
           else
             bnd (ql rec a_1 b_2 limit_3 wasBalanced_10 wasPartitioned_11 (b_2 - a_1) r40.1 false data_0) fun oe62 =>
             lk oe62 (fun e62 =>
               bif decide ((0:Int) < a_1) then
                 ckB (inR .i64 (a_1 - 1)) <|
                 ckB (ix (a_1 - 1) e62.length) <|
                 ckB (ix (a_1 - 1) e62.length) <|
                 ckB (ix r40.1 e62.length) <|
                 ckB (ix r40.1 e62.length) <|
                 bnd (qh (e62.getD (Int.toNat (a_1 - 1)) []) (e62.getD (Int.toNat r40.1) [])) fun r63 =>
                 bif (!(decide (r63 < 0))) then
                   bnd (qj a_1 b_2 r40.1 e62) fun r64 =>
                   ckB (decide (r64.2.length=e62.length)) <|
                   nx (r64.1,b_2,limit_3,wasBalanced_10,wasPartitioned_11,r64.2)
                 else
                   bnd (qe rec a_1 b_2 limit_3 (b_2 - a_1) r40.1 e62) fun oe65 =>
                   lk oe65 (fun e65 =>
                     nx (e65.1,e65.2.1,limit_3,e65.2.2.1,e65.2.2.2.1,e65.2.2.2.2)) (fun r=>rt r)
               else
                 bnd (qe rec a_1 b_2 limit_3 (b_2 - a_1) r40.1 e62) fun oe66 =>
                 lk oe66 (fun e66 =>
                   nx (e66.1,e66.2.1,limit_3,e66.2.2.1,e66.2.2.2.1,e66.2.2.2.2)) (fun r=>rt r)) (fun r=>rt r)
         else
           bnd (ql rec a_1 b_2 limit_3 wasBalanced_10 wasPartitioned_11 (b_2 - a_1) r40.1 false data_0) fun oe67 =>
           lk oe67 (fun e67 =>
             bif decide ((0:Int) < a_1) then
               ckB (inR .i64 (a_1 - 1)) <|
               ckB (ix (a_1 - 1) e67.length) <|
               ckB (ix (a_1 - 1) e67.length) <|
               ckB (ix r40.1 e67.length) <|
               ckB (ix r40.1 e67.length) <|
               bnd (qh (e67.getD (Int.toNat (a_1 - 1)) []) (e67.getD (Int.toNat r40.1) [])) fun r68 =>
               bif (!(decide (r68 < 0))) then
                 bnd (qj a_1 b_2 r40.1 e67) fun r69 =>
                 ckB (decide (r69.2.length=e67.length)) <|
                 nx (r69.1,b_2,limit_3,wasBalanced_10,wasPartitioned_11,r69.2)
               else
                 bnd (qe rec a_1 b_2 limit_3 (b_2 - a_1) r40.1 e67) fun oe70 =>
                 lk oe70 (fun e70 =>
                   nx (e70.1,e70.2.1,limit_3,e70.2.2.1,e70.2.2.2.1,e70.2.2.2.2)) (fun r=>rt r)
             else
               bnd (qe rec a_1 b_2 limit_3 (b_2 - a_1) r40.1 e67) fun oe71 =>
               lk oe71 (fun e71 =>
                 nx (e71.1,e71.2.1,limit_3,e71.2.2.1,e71.2.2.2.1,e71.2.2.2.2)) (fun r=>rt r)) (fun r=>rt r)
def q8p (rec:((Unit×Int×Int×Int×(Unit)×Unit)×(qL2×Unit))→Option qL2)  (s0:(Int×Int×Int×Bool×Bool×qL2)):Option (Unit⊕qL2) :=
 loopM (fun a=>q2q rec  a.1 a.2.1 a.2.2.1 a.2.2.2.1 a.2.2.2.2.1 a.2.2.2.2.2 (fun a'=>some (.next a')) (fun e=>some (.done e)) (fun r=>some (.ret r))) s0
def q84:Shp:=⟨[(0,.own 0),(1,.d true qT0),(2,.d true qT0),(3,.d true qT0),(4,.fn 64 .nil),(10,.d true .bool),(11,.d true .bool)],[.arr 25 (.fz true) [3] qT1]⟩
def q82:Shp:=⟨[],[]⟩
def q1o (rec:((Unit×Int×Int×Int×(Unit)×Unit)×(qL2×Unit))→Option qL2) (a_1:Int) (b_2:Int) (limit_3:Int) (data_0:qL2):Option qL2 :=
 bnd (q8p rec  (a_1,b_2,limit_3,true,true,data_0)) fun oe72 =>
 lk oe72 (fun e72 =>
   none) (fun r=>some r)
def q9c (a:((Unit×Int×Int×Int×(Unit)×Unit)×(qL2×Unit))):Option qL2 :=
 recM (fun (rec:((Unit×Int×Int×Int×(Unit)×Unit)×(qL2×Unit))→Option qL2) (a:((Unit×Int×Int×Int×(Unit)×Unit)×(qL2×Unit)))=>q1o rec a.1.2.1 a.1.2.2.1 a.1.2.2.2.1 a.2.1) many a
def q5q (a_1:Int) (b_2:Int) (limit_3:Int) (data_0:qL2):Option qL2 :=
 q9c (((),a_1,b_2,limit_3,(()),()),(data_0,()))
def q46 (x_0:qL2):Option qL2 :=
 bnd (qlk (IntKind.wrap .u64 (x_0.length:Int))) fun r1 =>
 bnd (q5q 0 (x_0.length:Int) r1 x_0) fun r2 =>
 ckB (decide (r2.length=x_0.length)) <|
 some r2
def qgv (k_0:Int):Option Bool :=
 some (decide ((1048576:Int) < k_0))
def q2w {R:Type} (s_0:qL1) (v_7:Int) (v_8:Int) (nx:Int→Option R) (dn:Unit→Option R) (rt:Int→Option R):Option R :=
 bif decide (v_8 < v_7) then
   ckB (ix v_8 s_0.length) <|
   ckB (ix v_8 s_0.length) <|
   bnd (qgv (s_0.getD (Int.toNat v_8) 0)) fun r1 =>
   bif r1 then
     rt v_8
   else
     ckB (inR .i64 (v_8+1)) <|
     nx (v_8+1)
 else
   dn ()
def q9a (s_0:qL1) (v_7:Int) (s0:Int):Option (Unit⊕Int) :=
 loopM (fun a=>q2w s_0 v_7 a (fun a'=>some (.next a')) (fun e=>some (.done e)) (fun r=>some (.ret r))) s0
def q8g:Shp:=⟨[(0,.d false qT1),(1,.fn 79 .nil),(7,.d true qT0),(8,.d true qT0)],[]⟩
def q8i:Shp:=⟨[],[]⟩
def q6d (s_0:qL1):Option Int :=
 bnd (q9a s_0 (s_0.length:Int) 0) fun oe2 =>
 lk oe2 (fun e2 =>
   some (-1)) (fun r=>some r)
def q31 (s_0:qL1):Option Bool :=
 bnd (q6d s_0) fun r1 =>
 some (decide ((0:Int)≤r1))
def qb3 {R:Type} (matrix_0:qL2) (v_14:qL2) (v_15:Int) (v_16:Int) (r_40:qL2) (r_41:qL2) (nx:(Int×qL2×qL2)→Option R) (dn:(qL2×qL2)→Option R) (rt:(qL2×Int)→Option R):Option R :=
 bif decide (v_16 < v_15) then
   ckB (ix v_16 v_14.length) <|
   ckB (ix v_16 v_14.length) <|
   ckB (mkOk (matrix_0.length:Int) (matrix_0.length:Int) 8) <|
   ckB (ix v_16 (List.replicate (Int.toNat (matrix_0.length:Int)) (0:Int)).length) <|
   ckB (ix v_16 (List.replicate (Int.toNat (matrix_0.length:Int)) (0:Int)).length) <|
   bnd (q2n (v_14.getD (Int.toNat v_16) [])) fun r1 =>
   ckB (room (r_40.length+1) 24) <|
   ckB (room (r_41.length+1) 24) <|
   ckB (inR .i64 (v_16+1)) <|
   nx ((v_16+1),(r_40++[r1]),(r_41++[((List.replicate (Int.toNat (matrix_0.length:Int)) (0:Int)).set (Int.toNat v_16) 1)]))
 else
   dn (r_40,r_41)
def qp8 (matrix_0:qL2) (v_14:qL2) (v_15:Int) (s0:(Int×qL2×qL2)):Option ((qL2×qL2)⊕(qL2×Int)) :=
 loopM (fun a=>qb3 matrix_0 v_14 v_15 a.1 a.2.1 a.2.2 (fun a'=>some (.next a')) (fun e=>some (.done e)) (fun r=>some (.ret r))) s0
def qmd:Shp:=⟨[(0,.d false qT2),(4,.ptr 0),(14,.d false qT2),(15,.d true qT0),(16,.d true qT0)],[.cs 95 2 1 (.cons (.own 1) (.cons (.own 2) .nil)),.arr 25 (.fz true) [3] qT1,.arr 25 (.fz true) [3] qT1]⟩
def qmj:Shp:=⟨[(0,.d false qT2),(4,.ptr 0)],[.cs 95 2 1 (.cons (.own 1) (.cons (.own 2) .nil)),.arr 25 (.fz true) [3] qT1,.arr 25 (.fz true) [3] qT1]⟩
def qb1 {R:Type} (v_55:Int) (v_56:Int) (r_40:qL2) (r_41:qL2) (nx:(Int×qL2×qL2)→Option R) (dn:(qL2×qL2)→Option R) (rt:(qL2×Int)→Option R):Option R :=
 bif decide (v_56 < v_55) then
   bnd (q81 v_56 r_40 r_41) fun r3 =>
   bif (!r3.1) then
     rt ([],5)
   else
     ckB (inR .i64 (v_56+1)) <|
     nx ((v_56+1),r3.2.1,r3.2.2)
 else
   dn (r_40,r_41)
def qok (v_55:Int) (s0:(Int×qL2×qL2)):Option ((qL2×qL2)⊕(qL2×Int)) :=
 loopM (fun a=>qb1 v_55 a.1 a.2.1 a.2.2 (fun a'=>some (.next a')) (fun e=>some (.done e)) (fun r=>some (.ret r))) s0
def qnf:Shp:=⟨[(4,.ptr 0),(55,.d true qT0),(56,.d true qT0)],[.cs 95 2 1 (.cons (.own 1) (.cons (.own 2) .nil)),.arr 25 (.fz true) [3] qT1,.arr 25 (.fz true) [3] qT1]⟩
def qn2:Shp:=⟨[(4,.ptr 0)],[.cs 95 2 1 (.cons (.own 1) (.cons (.own 2) .nil)),.arr 25 (.fz true) [3] qT1,.arr 25 (.fz true) [3] qT1]⟩
def qb5 {R:Type} (out_9:qL2) (v_73:qL2) (v_74:Int) (v_75:Int) (nx:Int→Option R) (dn:Unit→Option R) (rt:(qL2×Int)→Option R):Option R :=
 bif decide (v_75 < v_74) then
   ckB (ix v_75 v_73.length) <|
   ckB (ix v_75 v_73.length) <|
   bnd (q31 (v_73.getD (Int.toNat v_75) [])) fun r6 =>
   bif r6 then
     rt ([],6)
   else
     ckB (inR .i64 (v_75+1)) <|
     nx (v_75+1)
 else
   dn ()
def qop (out_9:qL2) (v_73:qL2) (v_74:Int) (s0:Int):Option (Unit⊕(qL2×Int)) :=
 loopM (fun a=>qb5 out_9 v_73 v_74 a (fun a'=>some (.next a')) (fun e=>some (.done e)) (fun r=>some (.ret r))) s0
def qmf:Shp:=⟨[(9,.d true qT2),(73,.d true qT2),(74,.d true qT0),(75,.d true qT0)],[]⟩
def qmh:Shp:=⟨[(9,.d true qT2)],[]⟩
def qfq {R:Type} (r_40:qL2) (r_41:qL2) (dn:Unit→Option R) (rt:(qL2×Int)→Option R):Option R :=
 bnd (q46 r_41) fun r5 =>
 ckB (decide (r5.length=r_41.length)) <|
 bif decide ((1000:Int) < (r5.length:Int)) then
   rt ([],5)
 else
   bnd (qop r5 r5 (r5.length:Int) 0) fun oe7 =>
   lk oe7 (fun e7 =>
     rt (r5,0)) (fun r=>rt r)
def q9x (r_40:qL2) (r_41:qL2):Option (Unit⊕(qL2×Int)) :=
 qfq r_40 r_41 (fun e=>some (.inl e)) (fun r=>some (.inr r))
def qmw:Shp:=⟨[(4,.ptr 0)],[.cs 95 2 1 (.cons (.d true qT2) (.cons (.own 1) .nil)),.arr 25 (.fz true) [3] qT1]⟩
def qms:Shp:=⟨[],[]⟩
def q9m (matrix_0:qL2):Option (qL2×Int) :=
 bnd (qp8 matrix_0 matrix_0 (matrix_0.length:Int) (0,[],[])) fun oe2 =>
 lk oe2 (fun e2 =>
   bif decide ((0:Int) < (matrix_0.length:Int)) then
     ckB (ix 0 matrix_0.length) <|
     ckB (ix 0 matrix_0.length) <|
     bnd (qok ((matrix_0.getD 0 []).length:Int) (0,e2.1,e2.2)) fun oe4 =>
     lk oe4 (fun e4 =>
       bnd (q9x e4.1 e4.2) fun oe8 =>
       lk oe8 (fun e8 =>
         none) (fun r=>some r)) (fun r=>some r)
   else
     bnd (q9x e2.1 e2.2) fun oe9 =>
     lk oe9 (fun e9 =>
       none) (fun r=>some r)) (fun r=>some r)
def qcg {R:Type} (p_5:Int) (v_15:Int) (v_16:Int) (v_21:(List Trans)) (v_22:Int) (n_10:Int) (n_11:(List Trans)) (n_12:Int) (n_13:Int) (matrix_4:qL2) (v_23:Int) (row_6:qL1) (nx:(Int×qL1)→Option R) (dn:qL1→Option R) (rt:(qL2×Int)→Option R):Option R :=
 bif decide (v_23 < v_22) then
   ckB (ix v_23 v_21.length) <|
   ckB (ix v_23 v_21.length) <|
   bnd (qaq (v_21.getD (Int.toNat v_23) Trans.z) p_5) fun r3 =>
   ckB (room (row_6.length+1) 8) <|
   ckB (inR .i64 (v_23+1)) <|
   nx ((v_23+1),(row_6++[r3]))
 else
   dn row_6
def qr1 (p_5:Int) (v_15:Int) (v_16:Int) (v_21:(List Trans)) (v_22:Int) (n_10:Int) (n_11:(List Trans)) (n_12:Int) (n_13:Int) (matrix_4:qL2) (s0:(Int×qL1)):Option (qL1⊕(qL2×Int)) :=
 loopM (fun a=>qcg p_5 v_15 v_16 v_21 v_22 n_10 n_11 n_12 n_13 matrix_4 a.1 a.2 (fun a'=>some (.next a')) (fun e=>some (.done e)) (fun r=>some (.ret r))) s0
def qpa:Shp:=⟨[(1,.ptr 0),(4,.nl false (.own 1)),(5,.d true qT0),(6,.own 2),(15,.d true qT0),(16,.d true qT0),(21,.d false (.slice Trans.ty)),(22,.d true qT0),(23,.d true qT0)],[.cs 24 4 1 (.cons (.d true qT0) (.cons (.d false (.slice Trans.ty)) (.cons (.d true qT0) (.cons (.d true qT0) .nil)))),.arr 25 (.fz true) [3] qT1,.arr 3 (.fz true) [0] qT0]⟩
def qod:Shp:=⟨[(1,.ptr 0),(4,.nl false (.own 1)),(6,.own 2),(15,.d true qT0),(16,.d true qT0)],[.cs 24 4 1 (.cons (.d true qT0) (.cons (.d false (.slice Trans.ty)) (.cons (.d true qT0) (.cons (.d true qT0) .nil)))),.arr 25 (.fz true) [3] qT1,.arr 3 (.fz true) [0] qT0]⟩
def qcl {R:Type} (v_15:Int) (n_10:Int) (n_11:(List Trans)) (n_12:Int) (n_13:Int) (v_16:Int) (matrix_4:qL2) (nx:(Int×qL2)→Option R) (dn:qL2→Option R) (rt:(qL2×Int)→Option R):Option R :=
 bif decide (v_16 < v_15) then
   bnd (qr1 v_16 v_15 v_16 n_11 (n_11.length:Int) n_10 n_11 n_12 n_13 matrix_4 (0,[])) fun oe4 =>
   lk oe4 (fun e4 =>
     ckB (room (matrix_4.length+1) 24) <|
     ckB (inR .i64 (v_16+1)) <|
     nx ((v_16+1),(matrix_4++[e4]))) (fun r=>rt r)
 else
   dn matrix_4
def qr7 (v_15:Int) (n_10:Int) (n_11:(List Trans)) (n_12:Int) (n_13:Int) (s0:(Int×qL2)):Option (qL2⊕(qL2×Int)) :=
 loopM (fun a=>qcl v_15 n_10 n_11 n_12 n_13 a.1 a.2 (fun a'=>some (.next a')) (fun e=>some (.done e)) (fun r=>some (.ret r))) s0
def qos:Shp:=⟨[(1,.ptr 0),(4,.nl false (.own 1)),(15,.d true qT0),(16,.d true qT0)],[.cs 24 4 1 (.cons (.d true qT0) (.cons (.d false (.slice Trans.ty)) (.cons (.d true qT0) (.cons (.d true qT0) .nil)))),.arr 25 (.fz true) [3] qT1]⟩
def qpi:Shp:=⟨[(4,.nl false (.own 0))],[.arr 25 (.fz true) [3] qT1]⟩
def quq (n_00:Int) (n_01:(List Trans)) (n_02:Int) (n_03:Int):Option (qL2×Int) :=
 bnd (q96 (n_00,n_01,n_02,n_03,())) fun r1 =>
 bif (!r1) then
   some ([],1)
 else
   bnd (qch (n_00,n_01,n_02,n_03,())) fun r2 =>
   bif r2 then
     some ([],5)
   else
     bnd (qr7 n_00 n_00 n_01 n_02 n_03 (0,[])) fun oe5 =>
     lk oe5 (fun e5 =>
       bnd (q9m e5) fun r6 =>
       some (r6.1,r6.2)) (fun r=>some r)
def qg6 {R:Type} (v_15:(List Trans)) (v_16:Int) (v_17:Int) (v_23:Int) (n_10:Int) (n_11:(List Trans)) (n_12:Int) (n_13:Int) (matrix_4:qL2) (t_60:ByteArray) (t_61:qL1) (t_62:qL1) (v_24:Int) (row_7:qL1) (nx:(Int×qL1)→Option R) (dn:qL1→Option R) (rt:(qL2×Int)→Option R):Option R :=
 bif decide (v_24 < v_23) then
   bnd (qaq (t_60,t_61,t_62,()) v_24) fun r3 =>
   ckB (room (row_7.length+1) 8) <|
   ckB (inR .i64 (v_24+1)) <|
   nx ((v_24+1),(row_7++[r3]))
 else
   dn row_7
def qt1 (v_15:(List Trans)) (v_16:Int) (v_17:Int) (v_23:Int) (n_10:Int) (n_11:(List Trans)) (n_12:Int) (n_13:Int) (matrix_4:qL2) (t_60:ByteArray) (t_61:qL1) (t_62:qL1) (s0:(Int×qL1)):Option (qL1⊕(qL2×Int)) :=
 loopM (fun a=>qg6 v_15 v_16 v_17 v_23 n_10 n_11 n_12 n_13 matrix_4 t_60 t_61 t_62 a.1 a.2 (fun a'=>some (.next a')) (fun e=>some (.done e)) (fun r=>some (.ret r))) s0
def qg8:Shp:=⟨[(1,.ptr 0),(4,.nl false (.own 1)),(6,.ptr 2),(7,.own 3),(15,.d false (.slice Trans.ty)),(16,.d true qT0),(17,.d true qT0),(23,.d true qT0),(24,.d true qT0)],[.cs 24 4 1 (.cons (.d true qT0) (.cons (.d false (.slice Trans.ty)) (.cons (.d true qT0) (.cons (.d true qT0) .nil)))),.arr 25 (.fz true) [3] qT1,.cs 68 3 1 (.cons (.d true .str) (.cons (.d false qT1) (.cons (.d false qT1) .nil))),.arr 3 (.fz true) [0] qT0]⟩
def qg5:Shp:=⟨[(1,.ptr 0),(4,.nl false (.own 1)),(7,.own 2),(15,.d false (.slice Trans.ty)),(16,.d true qT0),(17,.d true qT0)],[.cs 24 4 1 (.cons (.d true qT0) (.cons (.d false (.slice Trans.ty)) (.cons (.d true qT0) (.cons (.d true qT0) .nil)))),.arr 25 (.fz true) [3] qT1,.arr 3 (.fz true) [0] qT0]⟩
def qga {R:Type} (v_15:(List Trans)) (v_16:Int) (n_10:Int) (n_11:(List Trans)) (n_12:Int) (n_13:Int) (v_17:Int) (matrix_4:qL2) (nx:(Int×qL2)→Option R) (dn:qL2→Option R) (rt:(qL2×Int)→Option R):Option R :=
 bif decide (v_17 < v_16) then
   ckB (ix v_17 v_15.length) <|
   ckB (ix v_17 v_15.length) <|
   bnd (qt1 v_15 v_16 v_17 n_10 n_10 n_11 n_12 n_13 matrix_4 (v_15.getD (Int.toNat v_17) Trans.z).1 (v_15.getD (Int.toNat v_17) Trans.z).2.1 (v_15.getD (Int.toNat v_17) Trans.z).2.2.1 (0,[])) fun oe4 =>
   lk oe4 (fun e4 =>
     ckB (room (matrix_4.length+1) 24) <|
     ckB (inR .i64 (v_17+1)) <|
     nx ((v_17+1),(matrix_4++[e4]))) (fun r=>rt r)
 else
   dn matrix_4
def qst (v_15:(List Trans)) (v_16:Int) (n_10:Int) (n_11:(List Trans)) (n_12:Int) (n_13:Int) (s0:(Int×qL2)):Option (qL2⊕(qL2×Int)) :=
 loopM (fun a=>qga v_15 v_16 n_10 n_11 n_12 n_13 a.1 a.2 (fun a'=>some (.next a')) (fun e=>some (.done e)) (fun r=>some (.ret r))) s0
def qg7:Shp:=⟨[(1,.ptr 0),(4,.nl false (.own 1)),(15,.d false (.slice Trans.ty)),(16,.d true qT0),(17,.d true qT0)],[.cs 24 4 1 (.cons (.d true qT0) (.cons (.d false (.slice Trans.ty)) (.cons (.d true qT0) (.cons (.d true qT0) .nil)))),.arr 25 (.fz true) [3] qT1]⟩
def qg9:Shp:=⟨[(4,.nl false (.own 0))],[.arr 25 (.fz true) [3] qT1]⟩
def qkm (n_00:Int) (n_01:(List Trans)) (n_02:Int) (n_03:Int):Option (qL2×Int) :=
 bnd (q96 (n_00,n_01,n_02,n_03,())) fun r1 =>
 bif (!r1) then
   some ([],1)
 else
   bnd (qch (n_00,n_01,n_02,n_03,())) fun r2 =>
   bif r2 then
     some ([],5)
   else
     bnd (qst n_01 (n_01.length:Int) n_00 n_01 n_02 n_03 (0,[])) fun oe5 =>
     lk oe5 (fun e5 =>
       bnd (q9m e5) fun r6 =>
       some (r6.1,r6.2)) (fun r=>some r)
def qf8 (k_0:Int):Option Bool :=
 bif decide (k_0 < 0) then
   some true
 else
   some (decide ((100:Int) < k_0))
def q30 {R:Type} (s_0:qL1) (v_7:Int) (v_8:Int) (nx:Int→Option R) (dn:Unit→Option R) (rt:Int→Option R):Option R :=
 bif decide (v_8 < v_7) then
   ckB (ix v_8 s_0.length) <|
   ckB (ix v_8 s_0.length) <|
   bnd (qf8 (s_0.getD (Int.toNat v_8) 0)) fun r1 =>
   bif r1 then
     rt v_8
   else
     ckB (inR .i64 (v_8+1)) <|
     nx (v_8+1)
 else
   dn ()
def q99 (s_0:qL1) (v_7:Int) (s0:Int):Option (Unit⊕Int) :=
 loopM (fun a=>q30 s_0 v_7 a (fun a'=>some (.next a')) (fun e=>some (.done e)) (fun r=>some (.ret r))) s0
def q90:Shp:=⟨[(0,.d false qT1),(1,.fn 89 .nil),(7,.d true qT0),(8,.d true qT0)],[]⟩
def q8n:Shp:=⟨[],[]⟩
def q6j (s_0:qL1):Option Int :=
 bnd (q99 s_0 (s_0.length:Int) 0) fun oe2 =>
 lk oe2 (fun e2 =>
   some (-1)) (fun r=>some r)
def q2z (s_0:qL1):Option Bool :=
 bnd (q6j s_0) fun r1 =>
 some (decide ((0:Int)≤r1))
def qdq (n_0:Net) (m_1:qL1):Option Bool :=
 bnd (q96 n_0) fun r1 =>
 bif r1 then
   bif decide ((m_1.length:Int)=n_0.1) then
     bnd (q2z m_1) fun r2 =>
     some (!r2)
   else
     some false
 else
   some false
def qfw (p_0:Int) (p_1:qL1):Option Bool :=
 ckB (ix 0 1) <|
 ckB (ix p_0 p_1.length) <|
 ckB (ix p_0 p_1.length) <|
 some (decide ((p_1.getD (Int.toNat p_0) 0)=0))
def q2y {R:Type} (s_0:qL1) (f_1c0:qL1) (v_7:Int) (v_8:Int) (nx:Int→Option R) (dn:Unit→Option R) (rt:Int→Option R):Option R :=
 bif decide (v_8 < v_7) then
   ckB (ix v_8 s_0.length) <|
   ckB (ix v_8 s_0.length) <|
   bnd (qfw (s_0.getD (Int.toNat v_8) 0) f_1c0) fun r1 =>
   bif r1 then
     rt v_8
   else
     ckB (inR .i64 (v_8+1)) <|
     nx (v_8+1)
 else
   dn ()
def q9b (s_0:qL1) (f_1c0:qL1) (v_7:Int) (s0:Int):Option (Unit⊕Int) :=
 loopM (fun a=>q2y s_0 f_1c0 v_7 a (fun a'=>some (.next a')) (fun e=>some (.done e)) (fun r=>some (.ret r))) s0
def q8l:Shp:=⟨[(0,.d false qT1),(1,.fn 90 (.cons (.rp false qT1) .nil)),(7,.d true qT0),(8,.d true qT0)],[]⟩
def q8j:Shp:=⟨[],[]⟩
def q6i (s_0:qL1) (f_1c0:qL1):Option Int :=
 bnd (q9b s_0 f_1c0 (s_0.length:Int) 0) fun oe2 =>
 lk oe2 (fun e2 =>
   some (-1)) (fun r=>some r)
def q4x (s_0:qL1) (f_1c0:qL1):Option Bool :=
 bnd (q6i s_0 f_1c0) fun r1 =>
 some (decide ((0:Int)≤r1))
def qdp (t_0:Trans) (m_1:qL1):Option Bool :=
 bnd (q4x t_0.2.1 m_1) fun r1 =>
 some (!r1)
def q7x {R:Type} (m_1:qL1) (v_14:(List Trans)) (v_15:Int) (v_16:Int) (out_6:qL1) (nx:(Int×qL1)→Option R) (dn:qL1→Option R) (rt:(Int×qL1)→Option R):Option R :=
 bif decide (v_16 < v_15) then
   ckB (ix v_16 v_14.length) <|
   ckB (ix v_16 v_14.length) <|
   bnd (qdp (v_14.getD (Int.toNat v_16) Trans.z) m_1) fun r2 =>
   bif r2 then
     ckB (room (out_6.length+1) 8) <|
     ckB (inR .i64 (v_16+1)) <|
     nx ((v_16+1),(out_6++[v_16]))
   else
     ckB (inR .i64 (v_16+1)) <|
     nx ((v_16+1),out_6)
 else
   dn out_6
def qm5 (m_1:qL1) (v_14:(List Trans)) (v_15:Int) (s0:(Int×qL1)):Option (qL1⊕(Int×qL1)) :=
 loopM (fun a=>q7x m_1 v_14 v_15 a.1 a.2 (fun a'=>some (.next a')) (fun e=>some (.done e)) (fun r=>some (.ret r))) s0
def qlu:Shp:=⟨[(1,.d false qT1),(6,.nl false (.own 0)),(14,.d false (.slice Trans.ty)),(15,.d true qT0),(16,.d true qT0)],[.arr 3 (.fz true) [0] qT0]⟩
def ql4:Shp:=⟨[(6,.nl false (.own 0))],[.arr 3 (.fz true) [0] qT0]⟩
def qdl (n_0:Net) (m_1:qL1):Option (Int×qL1) :=
 bnd (qdq n_0 m_1) fun r1 =>
 bif (!r1) then
   some (1,[])
 else
   bnd (qm5 m_1 n_0.2.1 (n_0.2.1.length:Int) (0,[])) fun oe3 =>
   lk oe3 (fun e3 =>
     some (0,e3)) (fun r=>some r)
def qbs (n_0:Net) (m_1:qL1):Option Bool :=
 bnd (qdl n_0 m_1) fun r1 =>
 some (decide (r1.1=0))
def qn4 {R:Type} (p_5:Int) (v_15:Int) (v_16:Int) (v_21:(List Trans)) (v_22:Int) (n_10:Int) (n_11:(List Trans)) (n_12:Int) (n_13:Int) (matrix_4:qL2) (v_23:Int) (row_6:qL1) (nx:(Int×qL1)→Option R) (dn:qL1→Option R) (rt:(qL2×Int)→Option R):Option R :=
 bif decide (v_23 < v_22) then
   ckB (ix v_23 v_21.length) <|
   ckB (ix v_23 v_21.length) <|
   bnd (qaq (v_21.getD (Int.toNat v_23) Trans.z) p_5) fun r3 =>
   ckB (room (row_6.length+1) 8) <|
   ckB (inR .i64 (v_23+1)) <|
   nx ((v_23+1),(row_6++[r3]))
 else
   dn row_6
def qxw (p_5:Int) (v_15:Int) (v_16:Int) (v_21:(List Trans)) (v_22:Int) (n_10:Int) (n_11:(List Trans)) (n_12:Int) (n_13:Int) (matrix_4:qL2) (s0:(Int×qL1)):Option (qL1⊕(qL2×Int)) :=
 loopM (fun a=>qn4 p_5 v_15 v_16 v_21 v_22 n_10 n_11 n_12 n_13 matrix_4 a.1 a.2 (fun a'=>some (.next a')) (fun e=>some (.done e)) (fun r=>some (.ret r))) s0
def qn0:Shp:=⟨[(1,.ptr 0),(4,.nl false (.own 1)),(5,.d true qT0),(6,.own 2),(15,.d true qT0),(16,.d true qT0),(21,.d false (.slice Trans.ty)),(22,.d true qT0),(23,.d true qT0)],[.cs 24 4 1 (.cons (.d true qT0) (.cons (.d false (.slice Trans.ty)) (.cons (.d true qT0) (.cons (.d true qT0) .nil)))),.arr 25 (.fz true) [3] qT1,.arr 3 (.fz true) [0] qT0]⟩
def qn5:Shp:=⟨[(1,.ptr 0),(4,.nl false (.own 1)),(6,.own 2),(15,.d true qT0),(16,.d true qT0)],[.cs 24 4 1 (.cons (.d true qT0) (.cons (.d false (.slice Trans.ty)) (.cons (.d true qT0) (.cons (.d true qT0) .nil)))),.arr 25 (.fz true) [3] qT1,.arr 3 (.fz true) [0] qT0]⟩
def qmb {R:Type} (v_15:Int) (n_10:Int) (n_11:(List Trans)) (n_12:Int) (n_13:Int) (v_16:Int) (matrix_4:qL2) (nx:(Int×qL2)→Option R) (dn:qL2→Option R) (rt:(qL2×Int)→Option R):Option R :=
 bif decide (v_16 < v_15) then
   bnd (qxw v_16 v_15 v_16 n_11 (n_11.length:Int) n_10 n_11 n_12 n_13 matrix_4 (0,[])) fun oe4 =>
   lk oe4 (fun e4 =>
     ckB (room (matrix_4.length+1) 24) <|
     ckB (inR .i64 (v_16+1)) <|
     nx ((v_16+1),(matrix_4++[e4]))) (fun r=>rt r)
 else
   dn matrix_4
def qp6 (v_15:Int) (n_10:Int) (n_11:(List Trans)) (n_12:Int) (n_13:Int) (s0:(Int×qL2)):Option (qL2⊕(qL2×Int)) :=
 loopM (fun a=>qmb v_15 n_10 n_11 n_12 n_13 a.1 a.2 (fun a'=>some (.next a')) (fun e=>some (.done e)) (fun r=>some (.ret r))) s0
def qmn:Shp:=⟨[(1,.ptr 0),(4,.nl false (.own 1)),(15,.d true qT0),(16,.d true qT0)],[.cs 24 4 1 (.cons (.d true qT0) (.cons (.d false (.slice Trans.ty)) (.cons (.d true qT0) (.cons (.d true qT0) .nil)))),.arr 25 (.fz true) [3] qT1]⟩
def qmg:Shp:=⟨[(4,.nl false (.own 0))],[.arr 25 (.fz true) [3] qT1]⟩
def qbl (n_0:Net):Option (qL2×Int) :=
 bnd (q96 n_0) fun r1 =>
 bif (!r1) then
   some ([],1)
 else
   bnd (qch n_0) fun r2 =>
   bif r2 then
     some ([],5)
   else
     bnd (qp6 n_0.1 n_0.1 n_0.2.1 n_0.2.2.1 n_0.2.2.2.1 (0,[])) fun oe5 =>
     lk oe5 (fun e5 =>
       bnd (q9m e5) fun r6 =>
       some (r6.1,r6.2)) (fun r=>some r)
def qhk {R:Type} (a_0:qL1) (b_1:qL1) (v_8:Int) (s_5:Int) (v_9:Int) (nx:(Int×Int)→Option R) (dn:Int→Option R) (rt:Int→Option R):Option R :=
 bif decide (v_9 < v_8) then
   ckB (ix v_9 a_0.length) <|
   ckB (ix v_9 a_0.length) <|
   ckB (ix v_9 b_1.length) <|
   ckB (ix v_9 b_1.length) <|
   ckB (inR .i64 ((a_0.getD (Int.toNat v_9) 0)*(b_1.getD (Int.toNat v_9) 0))) <|
   ckB (inR .i64 (s_5+((a_0.getD (Int.toNat v_9) 0)*(b_1.getD (Int.toNat v_9) 0)))) <|
   ckB (inR .i64 (v_9+1)) <|
   nx ((s_5+((a_0.getD (Int.toNat v_9) 0)*(b_1.getD (Int.toNat v_9) 0))),(v_9+1))
 else
   dn s_5
def qxb (a_0:qL1) (b_1:qL1) (v_8:Int) (s0:(Int×Int)):Option (Int⊕Int) :=
 loopM (fun a=>qhk a_0 b_1 v_8 a.1 a.2 (fun a'=>some (.next a')) (fun e=>some (.done e)) (fun r=>some (.ret r))) s0
def qur:Shp:=⟨[(0,.d false qT1),(1,.d false qT1),(5,.d true qT0),(8,.d true qT0),(9,.d true qT0)],[]⟩
def qv9:Shp:=⟨[(5,.d true qT0)],[]⟩
def qlb (a_0:qL1) (b_1:qL1):Option Int :=
 bnd (qxb a_0 b_1 (a_0.length:Int) (0,0)) fun oe1 =>
 lk oe1 (fun e1 =>
   some e1) (fun r=>some r)
def qqy {R:Type} (m_1:qL1) (place_2:Int) (v_34:qL2) (v_35:Int) (best_10:Int) (v_36:Int) (nx:(Int×Int)→Option R) (dn:Int→Option R) (rt:(Int×Int)→Option R):Option R :=
 bif decide (v_36 < v_35) then
   ckB (ix v_36 v_34.length) <|
   ckB (ix v_36 v_34.length) <|
   ckB (ix place_2 (v_34.getD (Int.toNat v_36) []).length) <|
   ckB (ix place_2 (v_34.getD (Int.toNat v_36) []).length) <|
   bif decide (((v_34.getD (Int.toNat v_36) []).getD (Int.toNat place_2) 0)=0) then
     ckB (inR .i64 (v_36+1)) <|
     nx (best_10,(v_36+1))
   else
     bnd (qlb (v_34.getD (Int.toNat v_36) []) m_1) fun r3 =>
     ckB (ix place_2 (v_34.getD (Int.toNat v_36) []).length) <|
     ckB (ix place_2 (v_34.getD (Int.toNat v_36) []).length) <|
     ckB (!decide (((v_34.getD (Int.toNat v_36) []).getD (Int.toNat place_2) 0)=0)) <|
     ckB (inR .i64 (Int.tdiv r3 ((v_34.getD (Int.toNat v_36) []).getD (Int.toNat place_2) 0))) <|
     bif decide (best_10 < 0) then
       ckB (inR .i64 (v_36+1)) <|
       nx ((Int.tdiv r3 ((v_34.getD (Int.toNat v_36) []).getD (Int.toNat place_2) 0)),(v_36+1))
     else
       bif decide ((Int.tdiv r3 ((v_34.getD (Int.toNat v_36) []).getD (Int.toNat place_2) 0)) < best_10) then
         ckB (inR .i64 (v_36+1)) <|
         nx ((Int.tdiv r3 ((v_34.getD (Int.toNat v_36) []).getD (Int.toNat place_2) 0)),(v_36+1))
       else
         ckB (inR .i64 (v_36+1)) <|
         nx (best_10,(v_36+1))
 else
   dn best_10
def q11d (m_1:qL1) (place_2:Int) (v_34:qL2) (v_35:Int) (s0:(Int×Int)):Option (Int⊕(Int×Int)) :=
 loopM (fun a=>qqy m_1 place_2 v_34 v_35 a.1 a.2 (fun a'=>some (.next a')) (fun e=>some (.done e)) (fun r=>some (.ret r))) s0
def qqx:Shp:=⟨[(1,.d false qT1),(2,.d true qT0),(10,.d true qT0),(34,.d true qT2),(35,.d true qT0),(36,.d true qT0)],[]⟩
def qr4:Shp:=⟨[(10,.d true qT0)],[]⟩
def qx9 (n_00:Int) (n_01:(List Trans)) (n_02:Int) (n_03:Int) (m_1:qL1) (place_2:Int):Option (Int×Int) :=
 bnd (qbs (n_00,n_01,n_02,n_03,()) m_1) fun r1 =>
 bif (!r1) then
   some (0,1)
 else
   bif decide (place_2 < 0) then
     some (0,2)
   else
     bif decide (n_00≤place_2) then
       some (0,2)
     else
       bnd (qbl (n_00,n_01,n_02,n_03,())) fun r2 =>
       bif (!decide (r2.2=0)) then
         some (0,r2.2)
       else
         bnd (q11d m_1 place_2 r2.1 (r2.1.length:Int) ((-1),0)) fun oe4 =>
         lk oe4 (fun e4 =>
           bif decide (e4 < 0) then
             some (0,30)
           else
             some (e4,0)) (fun r=>some r)
def qr8 {R:Type} (a_0:qL2) (b_1:qL2) (i_5:Int) (k_6:Int) (nx:Int→Option R) (dn:Unit→Option R) (rt:Bool→Option R):Option R :=
 ckB (ix i_5 a_0.length) <|
 ckB (ix i_5 a_0.length) <|
 bif decide (k_6 < ((a_0.getD (Int.toNat i_5) []).length:Int)) then
   ckB (ix i_5 a_0.length) <|
   ckB (ix i_5 a_0.length) <|
   ckB (ix k_6 (a_0.getD (Int.toNat i_5) []).length) <|
   ckB (ix k_6 (a_0.getD (Int.toNat i_5) []).length) <|
   ckB (ix i_5 b_1.length) <|
   ckB (ix i_5 b_1.length) <|
   ckB (ix k_6 (b_1.getD (Int.toNat i_5) []).length) <|
   ckB (ix k_6 (b_1.getD (Int.toNat i_5) []).length) <|
   bif (!decide (((a_0.getD (Int.toNat i_5) []).getD (Int.toNat k_6) 0)=((b_1.getD (Int.toNat i_5) []).getD (Int.toNat k_6) 0))) then
     rt false
   else
     ckB (inR .i64 (k_6+1)) <|
     nx (k_6+1)
 else
   dn ()
def q120 (a_0:qL2) (b_1:qL2) (i_5:Int) (s0:Int):Option (Unit⊕Bool) :=
 loopM (fun a=>qr8 a_0 b_1 i_5 a (fun a'=>some (.next a')) (fun e=>some (.done e)) (fun r=>some (.ret r))) s0
def qrf:Shp:=⟨[(0,.d false qT2),(1,.d false qT2),(5,.d true qT0),(6,.d true qT0)],[]⟩
def qr6:Shp:=⟨[(0,.d false qT2),(1,.d false qT2),(5,.d true qT0)],[]⟩
def qra {R:Type} (a_0:qL2) (b_1:qL2) (i_5:Int) (nx:Int→Option R) (dn:Unit→Option R) (rt:Bool→Option R):Option R :=
 bif decide (i_5 < (a_0.length:Int)) then
   ckB (ix i_5 a_0.length) <|
   ckB (ix i_5 a_0.length) <|
   ckB (ix i_5 b_1.length) <|
   ckB (ix i_5 b_1.length) <|
   bif (!decide (((a_0.getD (Int.toNat i_5) []).length:Int)=((b_1.getD (Int.toNat i_5) []).length:Int))) then
     rt false
   else
     bnd (q120 a_0 b_1 i_5 0) fun oe1 =>
     lk oe1 (fun e1 =>
       ckB (inR .i64 (i_5+1)) <|
       nx (i_5+1)) (fun r=>rt r)
 else
   dn ()
def q11g (a_0:qL2) (b_1:qL2) (s0:Int):Option (Unit⊕Bool) :=
 loopM (fun a=>qra a_0 b_1 a (fun a'=>some (.next a')) (fun e=>some (.done e)) (fun r=>some (.ret r))) s0
def qr9:Shp:=⟨[(0,.d false qT2),(1,.d false qT2),(5,.d true qT0)],[]⟩
def qr2:Shp:=⟨[],[]⟩
def qq7 (a_0:qL2) (b_1:qL2):Option Bool :=
 bif (!decide ((a_0.length:Int)=(b_1.length:Int))) then
   some false
 else
   bnd (q11g a_0 b_1 0) fun oe2 =>
   lk oe2 (fun e2 =>
     some true) (fun r=>some r)
def qns  : Option Bool :=
 bnd (quq 3 [(⟨#[97]⟩,[0],[1,2],()),(⟨#[98]⟩,[1,2],[0],())] 0 2) fun r1 =>
 bnd (qkm 3 [(⟨#[97]⟩,[0],[1,2],()),(⟨#[98]⟩,[1,2],[0],())] 0 2) fun r2 =>
 bnd (qx9 3 [(⟨#[97]⟩,[0],[1,2],()),(⟨#[98]⟩,[1,2],[0],())] 0 2 [1,0,0] 2) fun r3 =>
 bif decide (r1.2=0) then
   bnd (qq7 r1.1 [[1,0,1],[1,1,0]]) fun r4 =>
   bif r4 then
     bif decide (r2.2=0) then
       bnd (qq7 r2.1 [[1,1]]) fun r5 =>
       bif r5 then
         bif decide (r3.1=1) then
           some (decide (r3.2=0))
         else
           some false
       else
         some false
     else
       some false
   else
     some false
 else
   some false
def qhf (t_0:Trans):Option Bool :=
 bif decide ((45:Int) < (t_0.2.1.length:Int)) then
   some true
 else
   bif decide ((45:Int) < (t_0.2.2.1.length:Int)) then
     some true
   else
     some (decide ((100:Int) < (ByteArray.size t_0.1:Int)))
def q1i {R:Type} (s_0:(List Trans)) (v_7:Int) (v_8:Int) (nx:Int→Option R) (dn:Unit→Option R) (rt:Int→Option R):Option R :=
 bif decide (v_8 < v_7) then
   ckB (ix v_8 s_0.length) <|
   ckB (ix v_8 s_0.length) <|
   bnd (qhf (s_0.getD (Int.toNat v_8) Trans.z)) fun r1 =>
   bif r1 then
     rt v_8
   else
     ckB (inR .i64 (v_8+1)) <|
     nx (v_8+1)
 else
   dn ()
def q4r (s_0:(List Trans)) (v_7:Int) (s0:Int):Option (Unit⊕Int) :=
 loopM (fun a=>q1i s_0 v_7 a (fun a'=>some (.next a')) (fun e=>some (.done e)) (fun r=>some (.ret r))) s0
def q4h:Shp:=⟨[(0,.d false (.slice Trans.ty)),(1,.fn 39 .nil),(7,.d true qT0),(8,.d true qT0)],[]⟩
def q4j:Shp:=⟨[],[]⟩
def q2p (s_0:(List Trans)):Option Int :=
 bnd (q4r s_0 (s_0.length:Int) 0) fun oe2 =>
 lk oe2 (fun e2 =>
   some (-1)) (fun r=>some r)
def q1j (s_0:(List Trans)):Option Bool :=
 bnd (q2p s_0) fun r1 =>
 some (decide ((0:Int)≤r1))
def qn3 (n_0:Net):Option Bool :=
 bnd (q1j n_0.2.1) fun r1 =>
 bif r1 then
   some false
 else
   bif decide ((100:Int) < (n_0.2.1.length:Int)) then
     some false
   else
     bif decide (n_0.1≤12) then
       bif decide ((n_0.2.1.length:Int)≤14) then
         some true
       else
         bif decide ((20:Int) < n_0.1) then
           some true
         else
           some (decide ((20:Int) < (n_0.2.1.length:Int)))
     else
       bif decide ((20:Int) < n_0.1) then
         some true
       else
         some (decide ((20:Int) < (n_0.2.1.length:Int)))
def q5l {R:Type} (m_1:qL1) (place_2:Int) (v_34:qL2) (v_35:Int) (best_10:Int) (v_36:Int) (nx:(Int×Int)→Option R) (dn:Int→Option R) (rt:(Int×Int)→Option R):Option R :=
 bif decide (v_36 < v_35) then
   ckB (ix v_36 v_34.length) <|
   ckB (ix v_36 v_34.length) <|
   ckB (ix place_2 (v_34.getD (Int.toNat v_36) []).length) <|
   ckB (ix place_2 (v_34.getD (Int.toNat v_36) []).length) <|
   bif decide (((v_34.getD (Int.toNat v_36) []).getD (Int.toNat place_2) 0)=0) then
     ckB (inR .i64 (v_36+1)) <|
     nx (best_10,(v_36+1))
   else
     bnd (qlb (v_34.getD (Int.toNat v_36) []) m_1) fun r3 =>
     ckB (ix place_2 (v_34.getD (Int.toNat v_36) []).length) <|
     ckB (ix place_2 (v_34.getD (Int.toNat v_36) []).length) <|
     ckB (!decide (((v_34.getD (Int.toNat v_36) []).getD (Int.toNat place_2) 0)=0)) <|
     ckB (inR .i64 (Int.tdiv r3 ((v_34.getD (Int.toNat v_36) []).getD (Int.toNat place_2) 0))) <|
     bif decide (best_10 < 0) then
       ckB (inR .i64 (v_36+1)) <|
       nx ((Int.tdiv r3 ((v_34.getD (Int.toNat v_36) []).getD (Int.toNat place_2) 0)),(v_36+1))
     else
       bif decide ((Int.tdiv r3 ((v_34.getD (Int.toNat v_36) []).getD (Int.toNat place_2) 0)) < best_10) then
         ckB (inR .i64 (v_36+1)) <|
         nx ((Int.tdiv r3 ((v_34.getD (Int.toNat v_36) []).getD (Int.toNat place_2) 0)),(v_36+1))
       else
         ckB (inR .i64 (v_36+1)) <|
         nx (best_10,(v_36+1))
 else
   dn best_10
def qro (m_1:qL1) (place_2:Int) (v_34:qL2) (v_35:Int) (s0:(Int×Int)):Option (Int⊕(Int×Int)) :=
 loopM (fun a=>q5l m_1 place_2 v_34 v_35 a.1 a.2 (fun a'=>some (.next a')) (fun e=>some (.done e)) (fun r=>some (.ret r))) s0
def qot:Shp:=⟨[(1,.d false qT1),(2,.d true qT0),(10,.d true qT0),(34,.d true qT2),(35,.d true qT0),(36,.d true qT0)],[]⟩
def qov:Shp:=⟨[(10,.d true qT0)],[]⟩
def qhj (n_0:Net) (m_1:qL1) (place_2:Int):Option (Int×Int) :=
 bnd (qbs n_0 m_1) fun r1 =>
 bif (!r1) then
   some (0,1)
 else
   bif decide (place_2 < 0) then
     some (0,2)
   else
     bif decide (n_0.1≤place_2) then
       some (0,2)
     else
       bnd (qbl n_0) fun r2 =>
       bif (!decide (r2.2=0)) then
         some (0,r2.2)
       else
         bnd (qro m_1 place_2 r2.1 (r2.1.length:Int) ((-1),0)) fun oe4 =>
         lk oe4 (fun e4 =>
           bif decide (e4 < 0) then
             some (0,30)
           else
             some (e4,0)) (fun r=>some r)
def qbk (c_0:Int):Option Bool :=
 bif decide ((97:Int)≤c_0) then
   bif decide (c_0≤122) then
     some true
   else
     bif decide ((65:Int)≤c_0) then
       some (decide (c_0≤90))
     else
       some false
 else
   bif decide ((65:Int)≤c_0) then
     some (decide (c_0≤90))
   else
     some false
def q8o {R:Type} (s_0:ByteArray) (i_3:Int) (nx:Int→Option R) (dn:Unit→Option R) (rt:Bool→Option R):Option R :=
 bif decide (i_3 < (ByteArray.size s_0:Int)) then
   ckB (ix i_3 (ByteArray.size s_0)) <|
   bnd (qbk (((ByteArray.data s_0).getD (Int.toNat i_3) 0).toNat:Int)) fun r2 =>
   bif (!r2) then
     bif decide ((48:Int)≤(((ByteArray.data s_0).getD (Int.toNat i_3) 0).toNat:Int)) then
       bif (!(decide ((((ByteArray.data s_0).getD (Int.toNat i_3) 0).toNat:Int)≤57))) then
         bif (!decide ((((ByteArray.data s_0).getD (Int.toNat i_3) 0).toNat:Int)=95)) then
           bif (!decide ((((ByteArray.data s_0).getD (Int.toNat i_3) 0).toNat:Int)=45)) then
             bif (!decide ((((ByteArray.data s_0).getD (Int.toNat i_3) 0).toNat:Int)=46)) then
               rt false
             else
               ckB (inR .i64 (i_3+1)) <|
               nx (i_3+1)
           else
             ckB (inR .i64 (i_3+1)) <|
             nx (i_3+1)
         else
           ckB (inR .i64 (i_3+1)) <|
           nx (i_3+1)
       else
         ckB (inR .i64 (i_3+1)) <|
         nx (i_3+1)
     else
       bif (!decide ((((ByteArray.data s_0).getD (Int.toNat i_3) 0).toNat:Int)=95)) then
         bif (!decide ((((ByteArray.data s_0).getD (Int.toNat i_3) 0).toNat:Int)=45)) then
           bif (!decide ((((ByteArray.data s_0).getD (Int.toNat i_3) 0).toNat:Int)=46)) then
             rt false
           else
             ckB (inR .i64 (i_3+1)) <|
             nx (i_3+1)
         else
           ckB (inR .i64 (i_3+1)) <|
           nx (i_3+1)
       else
         ckB (inR .i64 (i_3+1)) <|
         nx (i_3+1)
   else
     ckB (inR .i64 (i_3+1)) <|
     nx (i_3+1)
 else
   dn ()
def qoh (s_0:ByteArray) (s0:Int):Option (Unit⊕Bool) :=
 loopM (fun a=>q8o s_0 a (fun a'=>some (.next a')) (fun e=>some (.done e)) (fun r=>some (.ret r))) s0
def qng:Shp:=⟨[(0,.d true .str),(3,.d true qT0)],[]⟩
def qnd:Shp:=⟨[],[]⟩
def qfo (s_0:ByteArray):Option Bool :=
 bif decide ((ByteArray.size s_0:Int) < 1) then
   some false
 else
   bif decide ((40:Int) < (ByteArray.size s_0:Int)) then
     some false
   else
     ckB (ix 0 (ByteArray.size s_0)) <|
     bnd (qbk (((ByteArray.data s_0).getD 0 0).toNat:Int)) fun r1 =>
     bif (!r1) then
       some false
     else
       bnd (qoh s_0 1) fun oe3 =>
       lk oe3 (fun e3 =>
         some true) (fun r=>some r)
def q6l {R:Type} (n_0:Int) (l_1:qL1) (i_5:Int) (nx:Int→Option R) (dn:Unit→Option R) (rt:Bool→Option R):Option R :=
 bif decide (i_5 < (l_1.length:Int)) then
   ckB (ix i_5 l_1.length) <|
   ckB (ix i_5 l_1.length) <|
   bif decide ((l_1.getD (Int.toNat i_5) 0) < 0) then
     rt false
   else
     ckB (ix i_5 l_1.length) <|
     ckB (ix i_5 l_1.length) <|
     bif decide (n_0≤(l_1.getD (Int.toNat i_5) 0)) then
       rt false
     else
       bif decide ((0:Int) < i_5) then
         ckB (inR .i64 (i_5 - 1)) <|
         ckB (ix (i_5 - 1) l_1.length) <|
         ckB (ix (i_5 - 1) l_1.length) <|
         ckB (ix i_5 l_1.length) <|
         ckB (ix i_5 l_1.length) <|
         bif decide ((l_1.getD (Int.toNat i_5) 0)≤(l_1.getD (Int.toNat (i_5 - 1)) 0)) then
           rt false
         else
           ckB (inR .i64 (i_5+1)) <|
           nx (i_5+1)
       else
         ckB (inR .i64 (i_5+1)) <|
         nx (i_5+1)
 else
   dn ()
def qpg (n_0:Int) (l_1:qL1) (s0:Int):Option (Unit⊕Bool) :=
 loopM (fun a=>q6l n_0 l_1 a (fun a'=>some (.next a')) (fun e=>some (.done e)) (fun r=>some (.ret r))) s0
def qne:Shp:=⟨[(0,.d true qT0),(1,.d false qT1),(5,.d true qT0)],[]⟩
def qmp:Shp:=⟨[],[]⟩
def q7u (n_0:Int) (l_1:qL1):Option Bool :=
 bnd (qpg n_0 l_1 0) fun oe1 =>
 lk oe1 (fun e1 =>
   some true) (fun r=>some r)
def qcj {R:Type} (n_10:Int) (n_11:(List Trans)) (n_12:Int) (n_13:Int) (i_3:Int) (nx:Int→Option R) (dn:Unit→Option R) (rt:Bool→Option R):Option R :=
 bif decide (i_3 < (n_11.length:Int)) then
   ckB (ix i_3 n_11.length) <|
   ckB (ix i_3 n_11.length) <|
   bif (!(ByteArray.toList (n_11.getD (Int.toNat i_3) Trans.z).1 == ByteArray.toList ⟨#[]⟩)) then
     bnd (qfo (n_11.getD (Int.toNat i_3) Trans.z).1) fun r1 =>
     bif (!r1) then
       rt false
     else
       bnd (q7u n_10 (n_11.getD (Int.toNat i_3) Trans.z).2.1) fun r2 =>
       bif (!r2) then
         rt false
       else
         bnd (q7u n_10 (n_11.getD (Int.toNat i_3) Trans.z).2.2.1) fun r3 =>
         bif (!r3) then
           rt false
         else
           ckB (inR .i64 (i_3+1)) <|
           nx (i_3+1)
   else
     bnd (q7u n_10 (n_11.getD (Int.toNat i_3) Trans.z).2.1) fun r4 =>
     bif (!r4) then
       rt false
     else
       bnd (q7u n_10 (n_11.getD (Int.toNat i_3) Trans.z).2.2.1) fun r5 =>
       bif (!r5) then
         rt false
       else
         ckB (inR .i64 (i_3+1)) <|
         nx (i_3+1)
 else
   dn ()
def qqz (n_10:Int) (n_11:(List Trans)) (n_12:Int) (n_13:Int) (s0:Int):Option (Unit⊕Bool) :=
 loopM (fun a=>qcj n_10 n_11 n_12 n_13 a (fun a'=>some (.next a')) (fun e=>some (.done e)) (fun r=>some (.ret r))) s0
def qox:Shp:=⟨[(1,.ptr 0),(3,.d true qT0)],[.cs 24 4 1 (.cons (.d true qT0) (.cons (.d false (.slice Trans.ty)) (.cons (.d true qT0) (.cons (.d true qT0) .nil))))]⟩
def qp2:Shp:=⟨[],[]⟩
def qd5 (n_0:Net):Option Bool :=
 bif decide (n_0.1 < 1) then
   some false
 else
   bif decide ((40:Int) < n_0.1) then
     some false
   else
     bif decide ((60:Int) < (n_0.2.1.length:Int)) then
       some false
     else
       bif decide (n_0.2.2.1 < 0) then
         some false
       else
         bif decide (n_0.1≤n_0.2.2.1) then
           some false
         else
           bif decide (n_0.2.2.2.1 < 0) then
             some false
           else
             bif decide (n_0.1≤n_0.2.2.2.1) then
               some false
             else
               bnd (qqz n_0.1 n_0.2.1 n_0.2.2.1 n_0.2.2.2.1 0) fun oe6 =>
               lk oe6 (fun e6 =>
                 some true) (fun r=>some r)
def qab {R:Type} (m_1:qL1) (i_5:Int) (nx:Int→Option R) (dn:Unit→Option R) (rt:Bool→Option R):Option R :=
 bif decide (i_5 < (m_1.length:Int)) then
   ckB (ix i_5 m_1.length) <|
   ckB (ix i_5 m_1.length) <|
   bif decide ((m_1.getD (Int.toNat i_5) 0) < 0) then
     rt false
   else
     ckB (ix i_5 m_1.length) <|
     ckB (ix i_5 m_1.length) <|
     bif decide ((100:Int) < (m_1.getD (Int.toNat i_5) 0)) then
       rt false
     else
       ckB (inR .i64 (i_5+1)) <|
       nx (i_5+1)
 else
   dn ()
def qnb (m_1:qL1) (s0:Int):Option (Unit⊕Bool) :=
 loopM (fun a=>qab m_1 a (fun a'=>some (.next a')) (fun e=>some (.done e)) (fun r=>some (.ret r))) s0
def qll:Shp:=⟨[(1,.d false qT1),(5,.d true qT0)],[]⟩
def qke:Shp:=⟨[],[]⟩
def qdn (n_0:Net) (m_1:qL1):Option Bool :=
 bif (!decide ((m_1.length:Int)=n_0.1)) then
   some false
 else
   bnd (qnb m_1 0) fun oe1 =>
   lk oe1 (fun e1 =>
     some true) (fun r=>some r)
def qhg (n_0:Net):Option Bool :=
 bif decide ((20:Int) < n_0.1) then
   some true
 else
   some (decide ((20:Int) < (n_0.2.1.length:Int)))
def qju (n_0:Int) (k_1:Int):Option qL1 :=
 ckB (mkOk n_0 n_0 8) <|
 ckB (ix k_1 (List.replicate (Int.toNat n_0) (0:Int)).length) <|
 ckB (ix k_1 (List.replicate (Int.toNat n_0) (0:Int)).length) <|
 some ((List.replicate (Int.toNat n_0) (0:Int)).set (Int.toNat k_1) 1)
def qfy {R:Type} (l_0:qL1) (k_1:Int) (i_5:Int) (nx:Int→Option R) (dn:Unit→Option R) (rt:Bool→Option R):Option R :=
 bif decide (i_5 < (l_0.length:Int)) then
   ckB (ix i_5 l_0.length) <|
   ckB (ix i_5 l_0.length) <|
   bif decide ((l_0.getD (Int.toNat i_5) 0)=k_1) then
     rt true
   else
     ckB (inR .i64 (i_5+1)) <|
     nx (i_5+1)
 else
   dn ()
def quu (l_0:qL1) (k_1:Int) (s0:Int):Option (Unit⊕Bool) :=
 loopM (fun a=>qfy l_0 k_1 a (fun a'=>some (.next a')) (fun e=>some (.done e)) (fun r=>some (.ret r))) s0
def qt6:Shp:=⟨[(0,.d false qT1),(1,.d true qT0),(5,.d true qT0)],[]⟩
def qsj:Shp:=⟨[],[]⟩
def qi1 (l_0:qL1) (k_1:Int):Option Bool :=
 bnd (quu l_0 k_1 0) fun oe1 =>
 lk oe1 (fun e1 =>
   some false) (fun r=>some r)
def qqu (t_0:Trans) (p_1:Int):Option Int :=
 bnd (qi1 t_0.2.1 p_1) fun r1 =>
 bnd (qi1 t_0.2.2.1 p_1) fun r2 =>
 bif r2 then
   bif (!r1) then
     some 1
   else
     bif r1 then
       bif (!r2) then
         some (-1)
       else
         some 0
     else
       some 0
 else
   bif r1 then
     bif (!r2) then
       some (-1)
     else
       some 0
   else
     some 0
def q6n {R:Type} (a_0:qL1) (b_1:qL1) (i_5:Int) (nx:Int→Option R) (dn:Unit→Option R) (rt:Bool→Option R):Option R :=
 bif decide (i_5 < (a_0.length:Int)) then
   ckB (ix i_5 a_0.length) <|
   ckB (ix i_5 a_0.length) <|
   bif (!decide ((a_0.getD (Int.toNat i_5) 0)=0)) then
     ckB (ix i_5 b_1.length) <|
     ckB (ix i_5 b_1.length) <|
     bif decide ((b_1.getD (Int.toNat i_5) 0)=0) then
       rt false
     else
       ckB (inR .i64 (i_5+1)) <|
       nx (i_5+1)
   else
     ckB (inR .i64 (i_5+1)) <|
     nx (i_5+1)
 else
   dn ()
def qpd (a_0:qL1) (b_1:qL1) (s0:Int):Option (Unit⊕Bool) :=
 loopM (fun a=>q6n a_0 b_1 a (fun a'=>some (.next a')) (fun e=>some (.done e)) (fun r=>some (.ret r))) s0
def qmi:Shp:=⟨[(0,.d false qT1),(1,.d false qT1),(5,.d true qT0)],[]⟩
def qm7:Shp:=⟨[],[]⟩
def q7g (a_0:qL1) (b_1:qL1):Option Bool :=
 bnd (qpd a_0 b_1 0) fun oe1 =>
 lk oe1 (fun e1 =>
   some true) (fun r=>some r)
def qfs {R:Type} (l_0:(List q0)) (x_30:qL1) (x_31:qL1) (i_5:Int) (nx:Int→Option R) (dn:Unit→Option R) (rt:(List q0)→Option R):Option R :=
 bif decide (i_5 < (l_0.length:Int)) then
   ckB (ix i_5 l_0.length) <|
   ckB (ix i_5 l_0.length) <|
   bnd (q7g (l_0.getD (Int.toNat i_5) q0.z).2.1 x_31) fun r1 =>
   bif r1 then
     rt l_0
   else
     ckB (inR .i64 (i_5+1)) <|
     nx (i_5+1)
 else
   dn ()
def qv5 (l_0:(List q0)) (x_30:qL1) (x_31:qL1) (s0:Int):Option (Unit⊕(List q0)) :=
 loopM (fun a=>qfs l_0 x_30 x_31 a (fun a'=>some (.next a')) (fun e=>some (.done e)) (fun r=>some (.ret r))) s0
def qrw:Shp:=⟨[(0,.own 0),(3,.ptr 1),(5,.d true qT0)],[.arr 78 (.fz true) [3,3] q0.ty,.cs 78 2 1 (.cons (.d true qT1) (.cons (.d true qT1) .nil))]⟩
def qsr:Shp:=⟨[(0,.own 0),(3,.ptr 1)],[.arr 78 (.fz true) [3,3] q0.ty,.cs 78 2 1 (.cons (.d true qT1) (.cons (.d true qT1) .nil))]⟩
def qc1 {R:Type} (l_0:(List q0)) (x_30:qL1) (x_31:qL1) (i_7:Int) (out_6:(List q0)) (nx:(Int×(List q0))→Option R) (dn:(List q0)→Option R) (rt:(List q0)→Option R):Option R :=
 bif decide (i_7 < (l_0.length:Int)) then
   ckB (ix i_7 l_0.length) <|
   ckB (ix i_7 l_0.length) <|
   bnd (q7g x_31 (l_0.getD (Int.toNat i_7) q0.z).2.1) fun r3 =>
   bif (!r3) then
     ckB (ix i_7 l_0.length) <|
     ckB (ix i_7 l_0.length) <|
     ckB (room (out_6.length+1) 48) <|
     ckB (inR .i64 (i_7+1)) <|
     nx ((i_7+1),(out_6++[(l_0.getD (Int.toNat i_7) q0.z)]))
   else
     ckB (inR .i64 (i_7+1)) <|
     nx ((i_7+1),out_6)
 else
   dn out_6
def qus (l_0:(List q0)) (x_30:qL1) (x_31:qL1) (s0:(Int×(List q0))):Option ((List q0)⊕(List q0)) :=
 loopM (fun a=>qc1 l_0 x_30 x_31 a.1 a.2 (fun a'=>some (.next a')) (fun e=>some (.done e)) (fun r=>some (.ret r))) s0
def qsb:Shp:=⟨[(0,.d true (.slice q0.ty)),(3,.ptr 0),(6,.nl false (.own 1)),(7,.d true qT0)],[.cs 78 2 1 (.cons (.d true qT1) (.cons (.d true qT1) .nil)),.arr 78 (.fz true) [3,3] q0.ty]⟩
def qs0:Shp:=⟨[(3,.ptr 0),(6,.nl false (.own 1))],[.cs 78 2 1 (.cons (.d true qT1) (.cons (.d true qT1) .nil)),.arr 78 (.fz true) [3,3] q0.ty]⟩
def qhw (x_1:q0) (l_0:(List q0)):Option (List q0) :=
 bnd (qv5 l_0 x_1.1 x_1.2.1 0) fun oe2 =>
 lk oe2 (fun e2 =>
   bnd (qus l_0 x_1.1 x_1.2.1 (0,[])) fun oe4 =>
   lk oe4 (fun e4 =>
     ckB (room (e4.length+1) 48) <|
     some (e4++[x_1])) (fun r=>some r)) (fun r=>some r)
def qk0 (n_0:Int):Option Int :=
 bif decide (n_0 < 0) then
   ckB (inR .i64 ((0:Int) - n_0)) <|
   some ((0:Int) - n_0)
 else
   some n_0
def qbf {R:Type}  (a_0:Int) (b_1:Int) (nx:(Int×Int)→Option R) (dn:Int→Option R) (rt:Int→Option R):Option R :=
 bif (!decide (b_1=0)) then
   ckB (!decide (b_1=0)) <|
   nx (b_1,(Int.tmod a_0 b_1))
 else
   dn a_0
def qva  (s0:(Int×Int)):Option (Int⊕Int) :=
 loopM (fun a=>qbf  a.1 a.2 (fun a'=>some (.next a')) (fun e=>some (.done e)) (fun r=>some (.ret r))) s0
def qsu:Shp:=⟨[(0,.d true qT0),(1,.d true qT0)],[]⟩
def qsf:Shp:=⟨[(0,.d true qT0)],[]⟩
def qn1 (a_0:Int) (b_1:Int):Option Int :=
 bnd (qva  (a_0,b_1)) fun oe1 =>
 lk oe1 (fun e1 =>
   some e1) (fun r=>some r)
def q8v {R:Type} (x_0:qL1) (g_3:Int) (i_4:Int) (nx:(Int×Int)→Option R) (dn:Int→Option R) (rt:qL1→Option R):Option R :=
 bif decide (i_4 < (x_0.length:Int)) then
   ckB (ix i_4 x_0.length) <|
   ckB (ix i_4 x_0.length) <|
   bnd (qk0 (x_0.getD (Int.toNat i_4) 0)) fun r1 =>
   bnd (qn1 g_3 r1) fun r2 =>
   ckB (inR .i64 (i_4+1)) <|
   nx (r2,(i_4+1))
 else
   dn g_3
def qjl (x_0:qL1) (s0:(Int×Int)):Option (Int⊕qL1) :=
 loopM (fun a=>q8v x_0 a.1 a.2 (fun a'=>some (.next a')) (fun e=>some (.done e)) (fun r=>some (.ret r))) s0
def qi6:Shp:=⟨[(0,.d false qT1),(3,.d true qT0),(4,.d true qT0)],[]⟩
def qi3:Shp:=⟨[(0,.d false qT1),(3,.d true qT0)],[]⟩
def q8u {R:Type} (x_0:qL1) (g_3:Int) (i_6:Int) (out_5:qL1) (nx:(Int×qL1)→Option R) (dn:qL1→Option R) (rt:qL1→Option R):Option R :=
 bif decide (i_6 < (x_0.length:Int)) then
   ckB (ix i_6 x_0.length) <|
   ckB (ix i_6 x_0.length) <|
   ckB (!decide (g_3=0)) <|
   ckB (inR .i64 (Int.tdiv (x_0.getD (Int.toNat i_6) 0) g_3)) <|
   ckB (ix i_6 out_5.length) <|
   ckB (ix i_6 out_5.length) <|
   ckB (inR .i64 (i_6+1)) <|
   nx ((i_6+1),(out_5.set (Int.toNat i_6) (Int.tdiv (x_0.getD (Int.toNat i_6) 0) g_3)))
 else
   dn out_5
def qjk (x_0:qL1) (g_3:Int) (s0:(Int×qL1)):Option (qL1⊕qL1) :=
 loopM (fun a=>q8u x_0 g_3 a.1 a.2 (fun a'=>some (.next a')) (fun e=>some (.done e)) (fun r=>some (.ret r))) s0
def qid:Shp:=⟨[(0,.d false qT1),(3,.d true qT0),(5,.own 0),(6,.d true qT0)],[.arr 3 (.fz true) [0] qT0]⟩
def qi8:Shp:=⟨[(5,.own 0)],[.arr 3 (.fz true) [0] qT0]⟩
def qb4 (x_0:qL1):Option qL1 :=
 bnd (qjl x_0 (0,0)) fun oe3 =>
 lk oe3 (fun e3 =>
   ckB (room (0+x_0.length) 8) <|
   bif decide ((1:Int) < e3) then
     bnd (qjk x_0 e3 (0,([]++x_0))) fun oe4 =>
     lk oe4 (fun e4 =>
       some e4) (fun r=>some r)
   else
     some ([]++x_0)) (fun r=>some r)
def qaa {R:Type} (x_1:Int) (y_3:Int) (a_40:qL1) (a_41:qL1) (b_60:qL1) (b_61:qL1) (v_80:qL1) (v_81:qL1) (i_10:Int) (all_9:qL1) (nx:(Int×qL1)→Option R) (dn:qL1→Option R) (rt:q0→Option R):Option R :=
 bif decide (i_10 < (a_40.length:Int)) then
   ckB (ix i_10 a_40.length) <|
   ckB (ix i_10 a_40.length) <|
   ckB (inR .i64 (x_1*(a_40.getD (Int.toNat i_10) 0))) <|
   ckB (ix i_10 b_60.length) <|
   ckB (ix i_10 b_60.length) <|
   ckB (inR .i64 (y_3*(b_60.getD (Int.toNat i_10) 0))) <|
   ckB (inR .i64 ((x_1*(a_40.getD (Int.toNat i_10) 0))+(y_3*(b_60.getD (Int.toNat i_10) 0)))) <|
   ckB (room (all_9.length+1) 8) <|
   ckB (inR .i64 (i_10+1)) <|
   nx ((i_10+1),(all_9++[((x_1*(a_40.getD (Int.toNat i_10) 0))+(y_3*(b_60.getD (Int.toNat i_10) 0)))]))
 else
   dn all_9
def qn6 (x_1:Int) (y_3:Int) (a_40:qL1) (a_41:qL1) (b_60:qL1) (b_61:qL1) (v_80:qL1) (v_81:qL1) (s0:(Int×qL1)):Option (qL1⊕q0) :=
 loopM (fun a=>qaa x_1 y_3 a_40 a_41 b_60 b_61 v_80 v_81 a.1 a.2 (fun a'=>some (.next a')) (fun e=>some (.done e)) (fun r=>some (.ret r))) s0
def qlf:Shp:=⟨[(1,.d true qT0),(3,.d true qT0),(4,.ptr 0),(6,.ptr 1),(8,.ptr 2),(9,.nl false (.own 3)),(10,.d true qT0)],[.cs 78 2 1 (.cons (.d false qT1) (.cons (.d false qT1) .nil)),.cs 78 2 1 (.cons (.d false qT1) (.cons (.d false qT1) .nil)),.cs 78 2 1 (.cons (.d true qT1) (.cons (.d true qT1) .nil)),.arr 3 (.fz true) [0] qT0]⟩
def qkd:Shp:=⟨[(1,.d true qT0),(3,.d true qT0),(4,.ptr 0),(6,.ptr 1),(8,.ptr 2),(9,.nl false (.own 3))],[.cs 78 2 1 (.cons (.d false qT1) (.cons (.d false qT1) .nil)),.cs 78 2 1 (.cons (.d false qT1) (.cons (.d false qT1) .nil)),.cs 78 2 1 (.cons (.d true qT1) (.cons (.d true qT1) .nil)),.arr 3 (.fz true) [0] qT0]⟩
def qaf {R:Type} (x_1:Int) (y_3:Int) (a_40:qL1) (a_41:qL1) (b_60:qL1) (b_61:qL1) (v_80:qL1) (v_81:qL1) (i_11:Int) (all_9:qL1) (nx:(Int×qL1)→Option R) (dn:qL1→Option R) (rt:q0→Option R):Option R :=
 bif decide (i_11 < (a_41.length:Int)) then
   ckB (ix i_11 a_41.length) <|
   ckB (ix i_11 a_41.length) <|
   ckB (inR .i64 (x_1*(a_41.getD (Int.toNat i_11) 0))) <|
   ckB (ix i_11 b_61.length) <|
   ckB (ix i_11 b_61.length) <|
   ckB (inR .i64 (y_3*(b_61.getD (Int.toNat i_11) 0))) <|
   ckB (inR .i64 ((x_1*(a_41.getD (Int.toNat i_11) 0))+(y_3*(b_61.getD (Int.toNat i_11) 0)))) <|
   ckB (room (all_9.length+1) 8) <|
   ckB (inR .i64 (i_11+1)) <|
   nx ((i_11+1),(all_9++[((x_1*(a_41.getD (Int.toNat i_11) 0))+(y_3*(b_61.getD (Int.toNat i_11) 0)))]))
 else
   dn all_9
def qm6 (x_1:Int) (y_3:Int) (a_40:qL1) (a_41:qL1) (b_60:qL1) (b_61:qL1) (v_80:qL1) (v_81:qL1) (s0:(Int×qL1)):Option (qL1⊕q0) :=
 loopM (fun a=>qaf x_1 y_3 a_40 a_41 b_60 b_61 v_80 v_81 a.1 a.2 (fun a'=>some (.next a')) (fun e=>some (.done e)) (fun r=>some (.ret r))) s0
def qkt:Shp:=⟨[(1,.d true qT0),(3,.d true qT0),(4,.ptr 0),(6,.ptr 1),(8,.ptr 2),(9,.nl false (.own 3)),(11,.d true qT0)],[.cs 78 2 1 (.cons (.d false qT1) (.cons (.d false qT1) .nil)),.cs 78 2 1 (.cons (.d false qT1) (.cons (.d false qT1) .nil)),.cs 78 2 1 (.cons (.d true qT1) (.cons (.d true qT1) .nil)),.arr 3 (.fz true) [0] qT0]⟩
def ql7:Shp:=⟨[(4,.ptr 0),(8,.ptr 1),(9,.nl false (.own 2))],[.cs 78 2 1 (.cons (.d false qT1) (.cons (.d false qT1) .nil)),.cs 78 2 1 (.cons (.d true qT1) (.cons (.d true qT1) .nil)),.arr 3 (.fz true) [0] qT0]⟩
def qan (a_0:q0) (x_1:Int) (b_2:q0) (y_3:Int):Option q0 :=
 bnd (qn6 x_1 y_3 a_0.1 a_0.2.1 b_2.1 b_2.2.1 [] [] (0,[])) fun oe1 =>
 lk oe1 (fun e1 =>
   bnd (qm6 x_1 y_3 a_0.1 a_0.2.1 b_2.1 b_2.2.1 [] [] (0,e1)) fun oe2 =>
   lk oe2 (fun e2 =>
     bnd (qb4 e2) fun r3 =>
     ckB (cut 0 (a_0.1.length:Int) r3.length) <|
     ckB (cut (a_0.1.length:Int) (r3.length:Int) r3.length) <|
     some (((r3.drop 0).take ((Int.toNat (a_0.1.length:Int)) - 0)),((r3.drop (Int.toNat (a_0.1.length:Int))).take ((Int.toNat (r3.length:Int)) - (Int.toNat (a_0.1.length:Int)))),())) (fun r=>some r)) (fun r=>some r)
def q6g {R:Type} (l_0:(List q0)) (columns_1:Int) (c_6:Int) (i_8:Int) (next_7:(List q0)) (nx:(Int×(List q0))→Option R) (dn:(List q0)→Option R) (rt:((List q0)×Bool×qL1)→Option R):Option R :=
 bif decide (i_8 < (l_0.length:Int)) then
   ckB (ix i_8 l_0.length) <|
   ckB (ix i_8 l_0.length) <|
   ckB (ix c_6 (l_0.getD (Int.toNat i_8) q0.z).1.length) <|
   ckB (ix c_6 (l_0.getD (Int.toNat i_8) q0.z).1.length) <|
   bif decide (((l_0.getD (Int.toNat i_8) q0.z).1.getD (Int.toNat c_6) 0)=0) then
     ckB (ix i_8 l_0.length) <|
     ckB (ix i_8 l_0.length) <|
     bnd (qhw (l_0.getD (Int.toNat i_8) q0.z) next_7) fun r1 =>
     ckB (inR .i64 (i_8+1)) <|
     nx ((i_8+1),r1)
   else
     ckB (inR .i64 (i_8+1)) <|
     nx ((i_8+1),next_7)
 else
   dn next_7
def qjc (l_0:(List q0)) (columns_1:Int) (c_6:Int) (s0:(Int×(List q0))):Option ((List q0)⊕((List q0)×Bool×qL1)) :=
 loopM (fun a=>q6g l_0 columns_1 c_6 a.1 a.2 (fun a'=>some (.next a')) (fun e=>some (.done e)) (fun r=>some (.ret r))) s0
def qi4:Shp:=⟨[(0,.d true (.slice q0.ty)),(1,.d true qT0),(6,.d true qT0),(7,.own 0),(8,.d true qT0)],[.arr 78 (.fz true) [3,3] q0.ty]⟩
def qic:Shp:=⟨[(0,.d true (.slice q0.ty)),(1,.d true qT0),(6,.d true qT0),(7,.own 0)],[.arr 78 (.fz true) [3,3] q0.ty]⟩
def q68 {R:Type} (l_0:(List q0)) (columns_1:Int) (c_6:Int) (i_9:Int) (k_10:Int) (v_68:Bool) (next_7:(List q0)) (dn:(List q0)→Option R) (rt:((List q0)×Bool×qL1)→Option R):Option R :=
 bif v_68 then
   ckB (ix i_9 l_0.length) <|
   ckB (ix i_9 l_0.length) <|
   ckB (ix k_10 l_0.length) <|
   ckB (ix k_10 l_0.length) <|
   ckB (ix c_6 (l_0.getD (Int.toNat k_10) q0.z).1.length) <|
   ckB (ix c_6 (l_0.getD (Int.toNat k_10) q0.z).1.length) <|
   ckB (inR .i64 (0 - ((l_0.getD (Int.toNat k_10) q0.z).1.getD (Int.toNat c_6) 0))) <|
   ckB (ix k_10 l_0.length) <|
   ckB (ix k_10 l_0.length) <|
   ckB (ix i_9 l_0.length) <|
   ckB (ix i_9 l_0.length) <|
   ckB (ix c_6 (l_0.getD (Int.toNat i_9) q0.z).1.length) <|
   ckB (ix c_6 (l_0.getD (Int.toNat i_9) q0.z).1.length) <|
   bnd (qan (l_0.getD (Int.toNat i_9) q0.z) (0 - ((l_0.getD (Int.toNat k_10) q0.z).1.getD (Int.toNat c_6) 0)) (l_0.getD (Int.toNat k_10) q0.z) ((l_0.getD (Int.toNat i_9) q0.z).1.getD (Int.toNat c_6) 0)) fun r3 =>
   bnd (qhw r3 next_7) fun r4 =>
   dn r4
 else
   dn next_7
def q70 (l_0:(List q0)) (columns_1:Int) (c_6:Int) (i_9:Int) (k_10:Int) (v_68:Bool) (next_7:(List q0)):Option ((List q0)⊕((List q0)×Bool×qL1)) :=
 q68 l_0 columns_1 c_6 i_9 k_10 v_68 next_7 (fun e=>some (.inl e)) (fun r=>some (.inr r))
def qhp:Shp:=⟨[(0,.d true (.slice q0.ty)),(1,.d true qT0),(6,.d true qT0),(7,.own 0),(9,.d true qT0),(10,.d true qT0),(68,.d true .bool)],[.arr 78 (.fz true) [3,3] q0.ty]⟩
def qht:Shp:=⟨[(0,.d true (.slice q0.ty)),(1,.d true qT0),(6,.d true qT0),(7,.own 0),(9,.d true qT0),(10,.d true qT0)],[.arr 78 (.fz true) [3,3] q0.ty]⟩
def q4i {R:Type} (l_0:(List q0)) (columns_1:Int) (c_6:Int) (i_9:Int) (k_10:Int) (next_7:(List q0)) (nx:(Int×(List q0))→Option R) (dn:(List q0)→Option R) (rt:((List q0)×Bool×qL1)→Option R):Option R :=
 bif decide (k_10 < (l_0.length:Int)) then
   ckB (ix i_9 l_0.length) <|
   ckB (ix i_9 l_0.length) <|
   ckB (ix c_6 (l_0.getD (Int.toNat i_9) q0.z).1.length) <|
   ckB (ix c_6 (l_0.getD (Int.toNat i_9) q0.z).1.length) <|
   bif decide ((0:Int) < ((l_0.getD (Int.toNat i_9) q0.z).1.getD (Int.toNat c_6) 0)) then
     ckB (ix k_10 l_0.length) <|
     ckB (ix k_10 l_0.length) <|
     ckB (ix c_6 (l_0.getD (Int.toNat k_10) q0.z).1.length) <|
     ckB (ix c_6 (l_0.getD (Int.toNat k_10) q0.z).1.length) <|
     bnd (q70 l_0 columns_1 c_6 i_9 k_10 (decide (((l_0.getD (Int.toNat k_10) q0.z).1.getD (Int.toNat c_6) 0) < 0)) next_7) fun oe5 =>
     lk oe5 (fun e5 =>
       ckB (inR .i64 (k_10+1)) <|
       nx ((k_10+1),e5)) (fun r=>rt r)
   else
     bnd (q70 l_0 columns_1 c_6 i_9 k_10 false next_7) fun oe6 =>
     lk oe6 (fun e6 =>
       ckB (inR .i64 (k_10+1)) <|
       nx ((k_10+1),e6)) (fun r=>rt r)
 else
   dn next_7
def qjn (l_0:(List q0)) (columns_1:Int) (c_6:Int) (i_9:Int) (s0:(Int×(List q0))):Option ((List q0)⊕((List q0)×Bool×qL1)) :=
 loopM (fun a=>q4i l_0 columns_1 c_6 i_9 a.1 a.2 (fun a'=>some (.next a')) (fun e=>some (.done e)) (fun r=>some (.ret r))) s0
def qhy:Shp:=⟨[(0,.d true (.slice q0.ty)),(1,.d true qT0),(6,.d true qT0),(7,.own 0),(9,.d true qT0),(10,.d true qT0)],[.arr 78 (.fz true) [3,3] q0.ty]⟩
def qhq:Shp:=⟨[(0,.d true (.slice q0.ty)),(1,.d true qT0),(6,.d true qT0),(7,.own 0),(9,.d true qT0)],[.arr 78 (.fz true) [3,3] q0.ty]⟩
def q8r {R:Type} (l_0:(List q0)) (columns_1:Int) (c_6:Int) (i_9:Int) (next_7:(List q0)) (nx:(Int×(List q0))→Option R) (dn:(List q0)→Option R) (rt:((List q0)×Bool×qL1)→Option R):Option R :=
 bif decide (i_9 < (l_0.length:Int)) then
   bnd (qjn l_0 columns_1 c_6 i_9 (0,next_7)) fun oe7 =>
   lk oe7 (fun e7 =>
     bif decide ((20000:Int) < (e7.length:Int)) then
       rt ([],false,[])
     else
       ckB (inR .i64 (i_9+1)) <|
       nx ((i_9+1),e7)) (fun r=>rt r)
 else
   dn next_7
def qjb (l_0:(List q0)) (columns_1:Int) (c_6:Int) (s0:(Int×(List q0))):Option ((List q0)⊕((List q0)×Bool×qL1)) :=
 loopM (fun a=>q8r l_0 columns_1 c_6 a.1 a.2 (fun a'=>some (.next a')) (fun e=>some (.done e)) (fun r=>some (.ret r))) s0
def qho:Shp:=⟨[(0,.d true (.slice q0.ty)),(1,.d true qT0),(6,.d true qT0),(7,.own 0),(9,.d true qT0)],[.arr 78 (.fz true) [3,3] q0.ty]⟩
def qi5:Shp:=⟨[(1,.d true qT0),(6,.d true qT0),(7,.own 0)],[.arr 78 (.fz true) [3,3] q0.ty]⟩
def q8k {R:Type} (columns_1:Int) (l_0:(List q0)) (c_6:Int) (k0:qL1) (nx:((List q0)×Int×qL1)→Option R) (dn:((List q0)×qL1)→Option R) (rt:((List q0)×Bool×qL1)→Option R):Option R :=
 bif decide (c_6 < columns_1) then
   bnd (qjc l_0 columns_1 c_6 (0,[])) fun oe2 =>
   lk oe2 (fun e2 =>
     bnd (qjb l_0 columns_1 c_6 (0,e2)) fun oe8 =>
     lk oe8 (fun e8 =>
       ckB (inR .i64 (c_6+1)) <|
       nx (e8,(c_6+1),[])) (fun r=>rt r)) (fun r=>rt r)
 else
   dn (l_0,[])
def qja (columns_1:Int) (s0:((List q0)×Int×qL1)):Option (((List q0)×qL1)⊕((List q0)×Bool×qL1)) :=
 loopM (fun a=>q8k columns_1 a.1 a.2.1 a.2.2 (fun a'=>some (.next a')) (fun e=>some (.done e)) (fun r=>some (.ret r))) s0
def qia:Shp:=⟨[(0,.d true (.slice q0.ty)),(1,.d true qT0),(6,.d true qT0)],[.arr 0 (.fz true) [] qT0]⟩
def qi7:Shp:=⟨[(0,.d true (.slice q0.ty))],[.arr 0 (.fz true) [] qT0]⟩
def q8s (columns_1:Int) (l_0:(List q0)):Option ((List q0)×Bool×qL1) :=
 bnd (qja columns_1 (l_0,0,[])) fun oe9 =>
 lk oe9 (fun e9 =>
   some (e9.1,true,[])) (fun r=>some r)
def qaj {R:Type} (a_0:qL1) (b_1:qL1) (i_5:Int) (nx:Int→Option R) (dn:Unit→Option R) (rt:Bool→Option R):Option R :=
 bif decide (i_5 < (a_0.length:Int)) then
   ckB (ix i_5 a_0.length) <|
   ckB (ix i_5 a_0.length) <|
   ckB (ix i_5 b_1.length) <|
   ckB (ix i_5 b_1.length) <|
   bif (!decide ((a_0.getD (Int.toNat i_5) 0)=(b_1.getD (Int.toNat i_5) 0))) then
     ckB (ix i_5 a_0.length) <|
     ckB (ix i_5 a_0.length) <|
     ckB (ix i_5 b_1.length) <|
     ckB (ix i_5 b_1.length) <|
     rt (decide ((a_0.getD (Int.toNat i_5) 0) < (b_1.getD (Int.toNat i_5) 0)))
   else
     ckB (inR .i64 (i_5+1)) <|
     nx (i_5+1)
 else
   dn ()
def qs9 (a_0:qL1) (b_1:qL1) (s0:Int):Option (Unit⊕Bool) :=
 loopM (fun a=>qaj a_0 b_1 a (fun a'=>some (.next a')) (fun e=>some (.done e)) (fun r=>some (.ret r))) s0
def qr5:Shp:=⟨[(0,.d false qT1),(1,.d false qT1),(5,.d true qT0)],[]⟩
def qrl:Shp:=⟨[],[]⟩
def qjr (a_0:qL1) (b_1:qL1):Option Bool :=
 bnd (qs9 a_0 b_1 0) fun oe1 =>
 lk oe1 (fun e1 =>
   some false) (fun r=>some r)
def qaw {R:Type} (l_0:(List q0)) (out_4:qL2) (i_5:Int) (k_6:Int) (nx:Int→Option R) (dn:Unit→Option R) (rt:(qL2×Int)→Option R):Option R :=
 ckB (ix i_5 l_0.length) <|
 ckB (ix i_5 l_0.length) <|
 bif decide (k_6 < ((l_0.getD (Int.toNat i_5) q0.z).2.1.length:Int)) then
   ckB (ix i_5 l_0.length) <|
   ckB (ix i_5 l_0.length) <|
   ckB (ix k_6 (l_0.getD (Int.toNat i_5) q0.z).2.1.length) <|
   ckB (ix k_6 (l_0.getD (Int.toNat i_5) q0.z).2.1.length) <|
   bif decide ((1048576:Int) < ((l_0.getD (Int.toNat i_5) q0.z).2.1.getD (Int.toNat k_6) 0)) then
     rt ([],6)
   else
     ckB (inR .i64 (k_6+1)) <|
     nx (k_6+1)
 else
   dn ()
def qoc (l_0:(List q0)) (out_4:qL2) (i_5:Int) (s0:Int):Option (Unit⊕(qL2×Int)) :=
 loopM (fun a=>qaw l_0 out_4 i_5 a (fun a'=>some (.next a')) (fun e=>some (.done e)) (fun r=>some (.ret r))) s0
def qnj:Shp:=⟨[(0,.d true (.slice q0.ty)),(4,.nl false (.d true qT2)),(5,.d true qT0),(6,.d true qT0)],[]⟩
def qmm:Shp:=⟨[(0,.d true (.slice q0.ty)),(4,.nl false (.d true qT2)),(5,.d true qT0)],[]⟩
def q8q {R:Type} (l_0:(List q0)) (out_4:qL2) (i_5:Int) (at_7:Int) (nx:Int→Option R) (dn:Int→Option R) (rt:(qL2×Int)→Option R):Option R :=
 bif decide (at_7 < (out_4.length:Int)) then
   ckB (ix at_7 out_4.length) <|
   ckB (ix at_7 out_4.length) <|
   ckB (ix i_5 l_0.length) <|
   ckB (ix i_5 l_0.length) <|
   bnd (qjr (out_4.getD (Int.toNat at_7) []) (l_0.getD (Int.toNat i_5) q0.z).2.1) fun r2 =>
   bif r2 then
     ckB (inR .i64 (at_7+1)) <|
     nx (at_7+1)
   else
     dn at_7
 else
   dn at_7
def qha (l_0:(List q0)) (out_4:qL2) (i_5:Int) (s0:Int):Option (Int⊕(qL2×Int)) :=
 loopM (fun a=>q8q l_0 out_4 i_5 a (fun a'=>some (.next a')) (fun e=>some (.done e)) (fun r=>some (.ret r))) s0
def qmv:Shp:=⟨[(0,.d true (.slice q0.ty)),(4,.nl false (.d true qT2)),(5,.d true qT0),(7,.d true qT0)],[]⟩
def qni:Shp:=⟨[(0,.d true (.slice q0.ty)),(4,.nl false (.d true qT2)),(5,.d true qT0),(7,.d true qT0)],[]⟩
def q8w {R:Type} (l_0:(List q0)) (out_4:qL2) (i_5:Int) (nx:(qL2×Int)→Option R) (dn:qL2→Option R) (rt:(qL2×Int)→Option R):Option R :=
 bif decide (i_5 < (l_0.length:Int)) then
   bnd (qoc l_0 out_4 i_5 0) fun oe1 =>
   lk oe1 (fun e1 =>
     bnd (qha l_0 out_4 i_5 0) fun oe3 =>
     lk oe3 (fun e3 =>
       ckB (cut 0 e3 out_4.length) <|
       ckB (room (out_4.take (Int.toNat e3)).length 24) <|
       ckB (ix i_5 l_0.length) <|
       ckB (ix i_5 l_0.length) <|
       ckB (room ((out_4.take (Int.toNat e3)).length+1) 24) <|
       ckB (cut e3 out_4.length out_4.length) <|
       ckB (room (((out_4.take (Int.toNat e3))++[(l_0.getD (Int.toNat i_5) q0.z).2.1]).length+(out_4.drop (Int.toNat e3)).length) 24) <|
       ckB (inR .i64 (i_5+1)) <|
       nx ((((out_4.take (Int.toNat e3))++[(l_0.getD (Int.toNat i_5) q0.z).2.1])++(out_4.drop (Int.toNat e3))),(i_5+1))) (fun r=>rt r)) (fun r=>rt r)
 else
   dn out_4
def qpe (l_0:(List q0)) (s0:(qL2×Int)):Option (qL2⊕(qL2×Int)) :=
 loopM (fun a=>q8w l_0 a.1 a.2 (fun a'=>some (.next a')) (fun e=>some (.done e)) (fun r=>some (.ret r))) s0
def qnh:Shp:=⟨[(0,.d true (.slice q0.ty)),(4,.nl false (.d true qT2)),(5,.d true qT0)],[]⟩
def qnk:Shp:=⟨[(4,.nl false (.d true qT2))],[]⟩
def qfk (l_0:(List q0)):Option (qL2×Int) :=
 bif decide ((1000:Int) < (l_0.length:Int)) then
   some ([],5)
 else
   bnd (qpe l_0 ([],0)) fun oe4 =>
   lk oe4 (fun e4 =>
     some (e4,0)) (fun r=>some r)
def qb0 {R:Type} (p_5:Int) (n_10:Int) (n_11:(List Trans)) (n_12:Int) (n_13:Int) (l_4:(List q0)) (x_61:qL1) (t_7:Int) (x_60:qL1) (nx:(Int×qL1)→Option R) (dn:qL1→Option R) (rt:(qL2×Int)→Option R):Option R :=
 bif decide (t_7 < (n_11.length:Int)) then
   ckB (ix t_7 n_11.length) <|
   ckB (ix t_7 n_11.length) <|
   bnd (qqu (n_11.getD (Int.toNat t_7) Trans.z) p_5) fun r4 =>
   ckB (room (x_60.length+1) 8) <|
   ckB (inR .i64 (t_7+1)) <|
   nx ((t_7+1),(x_60++[r4]))
 else
   dn x_60
def qoq (p_5:Int) (n_10:Int) (n_11:(List Trans)) (n_12:Int) (n_13:Int) (l_4:(List q0)) (x_61:qL1) (s0:(Int×qL1)):Option (qL1⊕(qL2×Int)) :=
 loopM (fun a=>qb0 p_5 n_10 n_11 n_12 n_13 l_4 x_61 a.1 a.2 (fun a'=>some (.next a')) (fun e=>some (.done e)) (fun r=>some (.ret r))) s0
def qmx:Shp:=⟨[(1,.ptr 0),(4,.nl false (.own 1)),(5,.d true qT0),(6,.ptr 2),(7,.d true qT0)],[.cs 24 4 1 (.cons (.d true qT0) (.cons (.d false (.slice Trans.ty)) (.cons (.d true qT0) (.cons (.d true qT0) .nil)))),.arr 78 (.fz true) [3,3] q0.ty,.cs 78 2 1 (.cons (.own 3) (.cons (.d true qT1) .nil)),.arr 3 (.fz true) [0] qT0]⟩
def qmt:Shp:=⟨[(1,.ptr 0),(4,.nl false (.own 1)),(5,.d true qT0),(6,.ptr 2)],[.cs 24 4 1 (.cons (.d true qT0) (.cons (.d false (.slice Trans.ty)) (.cons (.d true qT0) (.cons (.d true qT0) .nil)))),.arr 78 (.fz true) [3,3] q0.ty,.cs 78 2 1 (.cons (.own 3) (.cons (.d true qT1) .nil)),.arr 3 (.fz true) [0] qT0]⟩
def qav {R:Type} (n_10:Int) (n_11:(List Trans)) (n_12:Int) (n_13:Int) (p_5:Int) (l_4:(List q0)) (nx:(Int×(List q0))→Option R) (dn:(List q0)→Option R) (rt:(qL2×Int)→Option R):Option R :=
 bif decide (p_5 < n_10) then
   bnd (qju n_10 p_5) fun r3 =>
   bnd (qoq p_5 n_10 n_11 n_12 n_13 l_4 r3 (0,[])) fun oe5 =>
   lk oe5 (fun e5 =>
     ckB (room (l_4.length+1) 48) <|
     ckB (inR .i64 (p_5+1)) <|
     nx ((p_5+1),(l_4++[(e5,r3,())]))) (fun r=>rt r)
 else
   dn l_4
def qgm (n_10:Int) (n_11:(List Trans)) (n_12:Int) (n_13:Int) (s0:(Int×(List q0))):Option ((List q0)⊕(qL2×Int)) :=
 loopM (fun a=>qav n_10 n_11 n_12 n_13 a.1 a.2 (fun a'=>some (.next a')) (fun e=>some (.done e)) (fun r=>some (.ret r))) s0
def qn8:Shp:=⟨[(1,.ptr 0),(4,.nl false (.own 1)),(5,.d true qT0)],[.cs 24 4 1 (.cons (.d true qT0) (.cons (.d false (.slice Trans.ty)) (.cons (.d true qT0) (.cons (.d true qT0) .nil)))),.arr 78 (.fz true) [3,3] q0.ty]⟩
def qme:Shp:=⟨[(1,.ptr 0),(4,.nl false (.own 1))],[.cs 24 4 1 (.cons (.d true qT0) (.cons (.d false (.slice Trans.ty)) (.cons (.d true qT0) (.cons (.d true qT0) .nil)))),.arr 78 (.fz true) [3,3] q0.ty]⟩
def qfz (n_0:Net):Option (qL2×Int) :=
 bnd (qd5 n_0) fun r1 =>
 bif (!r1) then
   some ([],1)
 else
   bnd (qhg n_0) fun r2 =>
   bif r2 then
     some ([],5)
   else
     bnd (qgm n_0.1 n_0.2.1 n_0.2.2.1 n_0.2.2.2.1 (0,[])) fun oe6 =>
     lk oe6 (fun e6 =>
       bnd (q8s (n_0.2.1.length:Int) e6) fun r7 =>
       bif (!r7.2.1) then
         some ([],5)
       else
         bnd (qfk r7.1) fun r8 =>
         some (r8.1,r8.2)) (fun r=>some r)
def qfh {R:Type} (a_0:qL1) (b_1:qL1) (sum_5:Int) (i_6:Int) (nx:(Int×Int)→Option R) (dn:Int→Option R) (rt:Int→Option R):Option R :=
 bif decide (i_6 < (a_0.length:Int)) then
   ckB (ix i_6 a_0.length) <|
   ckB (ix i_6 a_0.length) <|
   ckB (ix i_6 b_1.length) <|
   ckB (ix i_6 b_1.length) <|
   ckB (inR .i64 ((a_0.getD (Int.toNat i_6) 0)*(b_1.getD (Int.toNat i_6) 0))) <|
   ckB (inR .i64 (sum_5+((a_0.getD (Int.toNat i_6) 0)*(b_1.getD (Int.toNat i_6) 0)))) <|
   ckB (inR .i64 (i_6+1)) <|
   nx ((sum_5+((a_0.getD (Int.toNat i_6) 0)*(b_1.getD (Int.toNat i_6) 0))),(i_6+1))
 else
   dn sum_5
def quj (a_0:qL1) (b_1:qL1) (s0:(Int×Int)):Option (Int⊕Int) :=
 loopM (fun a=>qfh a_0 b_1 a.1 a.2 (fun a'=>some (.next a')) (fun e=>some (.done e)) (fun r=>some (.ret r))) s0
def qsk:Shp:=⟨[(0,.d false qT1),(1,.d false qT1),(5,.d true qT0),(6,.d true qT0)],[]⟩
def qsx:Shp:=⟨[(5,.d true qT0)],[]⟩
def qmk (a_0:qL1) (b_1:qL1):Option Int :=
 bnd (quj a_0 b_1 (0,0)) fun oe1 =>
 lk oe1 (fun e1 =>
   some e1) (fun r=>some r)
def q5m {R:Type} (m_1:qL1) (place_2:Int) (l_8:qL2) (least_10:Int) (some_11:Bool) (i_12:Int) (nx:(Int×Bool×Int)→Option R) (dn:(Int×Bool)→Option R) (rt:(Int×Int)→Option R):Option R :=
 bif decide (i_12 < (l_8.length:Int)) then
   ckB (ix i_12 l_8.length) <|
   ckB (ix i_12 l_8.length) <|
   ckB (ix place_2 (l_8.getD (Int.toNat i_12) []).length) <|
   ckB (ix place_2 (l_8.getD (Int.toNat i_12) []).length) <|
   bif decide (((l_8.getD (Int.toNat i_12) []).getD (Int.toNat place_2) 0)=0) then
     ckB (inR .i64 (i_12+1)) <|
     nx (least_10,some_11,(i_12+1))
   else
     ckB (ix i_12 l_8.length) <|
     ckB (ix i_12 l_8.length) <|
     bnd (qmk (l_8.getD (Int.toNat i_12) []) m_1) fun r4 =>
     ckB (ix i_12 l_8.length) <|
     ckB (ix i_12 l_8.length) <|
     ckB (ix place_2 (l_8.getD (Int.toNat i_12) []).length) <|
     ckB (ix place_2 (l_8.getD (Int.toNat i_12) []).length) <|
     ckB (!decide (((l_8.getD (Int.toNat i_12) []).getD (Int.toNat place_2) 0)=0)) <|
     ckB (inR .i64 (Int.tdiv r4 ((l_8.getD (Int.toNat i_12) []).getD (Int.toNat place_2) 0))) <|
     bif (!some_11) then
       ckB (inR .i64 (i_12+1)) <|
       nx ((Int.tdiv r4 ((l_8.getD (Int.toNat i_12) []).getD (Int.toNat place_2) 0)),true,(i_12+1))
     else
       bif decide ((Int.tdiv r4 ((l_8.getD (Int.toNat i_12) []).getD (Int.toNat place_2) 0)) < least_10) then
         ckB (inR .i64 (i_12+1)) <|
         nx ((Int.tdiv r4 ((l_8.getD (Int.toNat i_12) []).getD (Int.toNat place_2) 0)),true,(i_12+1))
       else
         ckB (inR .i64 (i_12+1)) <|
         nx (least_10,some_11,(i_12+1))
 else
   dn (least_10,some_11)
def qre (m_1:qL1) (place_2:Int) (l_8:qL2) (s0:(Int×Bool×Int)):Option ((Int×Bool)⊕(Int×Int)) :=
 loopM (fun a=>q5m m_1 place_2 l_8 a.1 a.2.1 a.2.2 (fun a'=>some (.next a')) (fun e=>some (.done e)) (fun r=>some (.ret r))) s0
def qp1:Shp:=⟨[(1,.d false qT1),(2,.d true qT0),(8,.nl false (.d true qT2)),(10,.d true qT0),(11,.d true .bool),(12,.d true qT0)],[]⟩
def qol:Shp:=⟨[(10,.d true qT0),(11,.d true .bool)],[]⟩
def qhh (n_0:Net) (m_1:qL1) (place_2:Int):Option (Int×Int) :=
 bnd (qd5 n_0) fun r1 =>
 bif (!r1) then
   some (0,1)
 else
   bnd (qdn n_0 m_1) fun r2 =>
   bif (!r2) then
     some (0,1)
   else
     bif decide (place_2 < 0) then
       some (0,2)
     else
       bif decide (n_0.1≤place_2) then
         some (0,2)
       else
         bnd (qfz n_0) fun r3 =>
         bif (!decide (r3.2=0)) then
           some (0,r3.2)
         else
           bnd (qre m_1 place_2 r3.1 (0,false,0)) fun oe5 =>
           lk oe5 (fun e5 =>
             bif (!e5.2) then
               some (0,30)
             else
               some (e5.1,0)) (fun r=>some r)
def qe9 (n_0:Net) (m_1:qL1) (place_2:Int):Option Bool :=
 bnd (qns) fun r1 =>
 bif (!r1) then
   some false
 else
   bnd (qn3 n_0) fun r2 =>
   bif (!r2) then
     some true
   else
     bif decide ((60:Int) < (m_1.length:Int)) then
       some true
     else
       bnd (qhj n_0 m_1 place_2) fun r3 =>
       bnd (qhh n_0 m_1 place_2) fun r4 =>
       bif decide (r3.1=r4.1) then
         some (decide (r3.2=r4.2))
       else
         some false
end Go.Proofs.Ythakmiiaejhlbaa
