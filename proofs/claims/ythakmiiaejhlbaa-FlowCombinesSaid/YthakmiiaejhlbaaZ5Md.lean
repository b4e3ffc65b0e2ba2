/-
  What the functions compute, as plain functions of Lean. Made by program (mg3.py) out of the translation.
-/
import Derived.Test.YthakmiiaejhlbaaZ5KE
set_option linter.all false
set_option maxRecDepth 100000
namespace Go.Proofs.Ythakmiiaejhlbaa
open Go.K Go.M
abbrev qL1:Type:=List Int
abbrev qL2:Type:=List (List Int)
abbrev qT0:Ty:=.int .i64
abbrev qT1:Ty:=.slice qT0
abbrev qT2:Ty:=.slice qT1
abbrev Trans:Type:=ByteArray×qL1×qL1×Unit
abbrev Trans.z:Trans:=(⟨#[]⟩,[],[],())
def Trans.ty:Ty:=.struct (.cons .str (.cons qT1 (.cons qT1 .nil)))
abbrev Net:Type:=Int×(List Trans)×Int×Int×Unit
abbrev Net.z:Net:=(0,[],0,0,())
def Net.ty:Ty:=.struct (.cons qT0 (.cons (.slice Trans.ty) (.cons qT0 (.cons qT0 .nil))))
abbrev qfl:Type:=qL1×qL1×Unit
abbrev qfl.z:qfl:=([],[],())
def qfl.ty:Ty:=.struct (.cons qT1 (.cons qT1 .nil))
abbrev bytes0:ByteArray:=⟨#[0,1,2,2,3,3,3,3,4,4,4,4,4,4,4,4,5,5,5,5,5,5,5,5,5,5,5,5,5,5,5,5,6,6,6,6,6,6,6,6,6,6,6,6,6,6,6,6,6,6,6,6,6,6,6,6,6,6,6,6,6,6,6,6,7,7,7,7,7,7,7,7,7,7,7,7,7,7,7,7,7,7,7,7,7,7,7,7,7,7,7,7,7,7,7,7,7,7,7,7,7,7,7,7,7,7,7,7,7,7,7,7,7,7,7,7,7,7,7,7,7,7,7,7,7,7,7,7,8,8,8,8,8,8,8,8,8,8,8,8,8,8,8,8,8,8,8,8,8,8,8,8,8,8,8,8,8,8,8,8,8,8,8,8,8,8,8,8,8,8,8,8,8,8,8,8,8,8,8,8,8,8,8,8,8,8,8,8,8,8,8,8,8,8,8,8,8,8,8,8,8,8,8,8,8,8,8,8,8,8,8,8,8,8,8,8,8,8,8,8,8,8,8,8,8,8,8,8,8,8,8,8,8,8,8,8,8,8,8,8,8,8,8,8,8,8,8,8,8,8,8,8,8,8,8,8]⟩
def qef (c_0:Int):Option Bool :=
 bif decide ((65:Int)≤c_0) then
   bif decide (c_0≤90) then
     some true
   else
     bif decide ((97:Int)≤c_0) then
       some (decide (c_0≤122))
     else
       some false
 else
   bif decide ((97:Int)≤c_0) then
     some (decide (c_0≤122))
   else
     some false
def qmc (c_0:Int):Option Bool :=
 bnd (qef c_0) fun r1 =>
 bif r1 then
   some true
 else
   bif decide ((48:Int)≤c_0) then
     bif decide (c_0≤57) then
       some true
     else
       bif decide (c_0=95) then
         some true
       else
         bif decide (c_0=45) then
           some true
         else
           some (decide (c_0=46))
   else
     bif decide (c_0=95) then
       some true
     else
       bif decide (c_0=45) then
         some true
       else
         some (decide (c_0=46))
def qax {R:Type} (s_0:ByteArray) (v_19:Int) (v_20:Int) (nx:Int→Option R) (dn:Unit→Option R) (rt:Bool→Option R):Option R :=
 bif decide (v_20 < v_19) then
   ckB (ix v_20 (ByteArray.size s_0)) <|
   bnd (qmc (((ByteArray.data s_0).getD (Int.toNat v_20) 0).toNat:Int)) fun r2 =>
   bif (!r2) then
     rt false
   else
     ckB (inR .i64 (v_20+1)) <|
     nx (v_20+1)
 else
   dn ()
def qqv (s_0:ByteArray) (v_19:Int) (s0:Int):Option (Unit⊕Bool) :=
 loopM (fun a=>qax s_0 v_19 a (fun a'=>some (.next a')) (fun e=>some (.done e)) (fun r=>some (.ret r))) s0
def qp7:Shp:=⟨[(0,.d true .str),(19,.d true qT0),(20,.d true qT0)],[]⟩
def qo8:Shp:=⟨[],[]⟩
def qj0 (s_0:ByteArray):Option Bool :=
 bif decide ((ByteArray.size s_0:Int) < 1) then
   some false
 else
   bif decide ((40:Int) < (ByteArray.size s_0:Int)) then
     some false
   else
     ckB (ix 0 (ByteArray.size s_0)) <|
     bnd (qef (((ByteArray.data s_0).getD 0 0).toNat:Int)) fun r1 =>
     bif (!r1) then
       some false
     else
       bnd (qqv s_0 (ByteArray.size s_0:Int) 0) fun oe3 =>
       lk oe3 (fun e3 =>
         some true) (fun r=>some r)
def q7g {R:Type} (l_1:qL1) (v_7:qL1) (v_8:Int) (n_20:Int) (n_21:(List Trans)) (n_22:Int) (n_23:Int) (v_9:Int) (nx:Int→Option R) (dn:Unit→Option R) (rt:Bool→Option R):Option R :=
 bif decide (v_9 < v_8) then
   ckB (ix v_9 v_7.length) <|
   ckB (ix v_9 v_7.length) <|
   bif decide ((v_7.getD (Int.toNat v_9) 0) < 0) then
     rt false
   else
     bif decide (n_20≤(v_7.getD (Int.toNat v_9) 0)) then
       rt false
     else
       bif decide ((0:Int) < v_9) then
         ckB (inR .i64 (v_9 - 1)) <|
         ckB (ix (v_9 - 1) l_1.length) <|
         ckB (ix (v_9 - 1) l_1.length) <|
         bif decide ((v_7.getD (Int.toNat v_9) 0)≤(l_1.getD (Int.toNat (v_9 - 1)) 0)) then
           rt false
         else
           ckB (inR .i64 (v_9+1)) <|
           nx (v_9+1)
       else
         ckB (inR .i64 (v_9+1)) <|
         nx (v_9+1)
 else
   dn ()
def qo5 (l_1:qL1) (v_7:qL1) (v_8:Int) (n_20:Int) (n_21:(List Trans)) (n_22:Int) (n_23:Int) (s0:Int):Option (Unit⊕Bool) :=
 loopM (fun a=>q7g l_1 v_7 v_8 n_20 n_21 n_22 n_23 a (fun a'=>some (.next a')) (fun e=>some (.done e)) (fun r=>some (.ret r))) s0
def qn7:Shp:=⟨[(1,.d false qT1),(2,.ptr 0),(7,.d false qT1),(8,.d true qT0),(9,.d true qT0)],[.cs 24 4 1 (.cons (.d true qT0) (.cons (.d false (.slice Trans.ty)) (.cons (.d true qT0) (.cons (.d true qT0) .nil))))]⟩
def qmx:Shp:=⟨[],[]⟩
def q5b (n_0:Net) (l_1:qL1):Option Bool :=
 bnd (qo5 l_1 l_1 (l_1.length:Int) n_0.1 n_0.2.1 n_0.2.2.1 n_0.2.2.2.1 0) fun oe1 =>
 lk oe1 (fun e1 =>
   some true) (fun r=>some r)
def qdi {R:Type} (v_20:(List Trans)) (v_21:Int) (n_10:Int) (n_11:(List Trans)) (n_12:Int) (n_13:Int) (v_22:Int) (nx:Int→Option R) (dn:Unit→Option R) (rt:Bool→Option R):Option R :=
 bif decide (v_22 < v_21) then
   ckB (ix v_22 v_20.length) <|
   ckB (ix v_22 v_20.length) <|
   bif (!(ByteArray.toList (v_20.getD (Int.toNat v_22) Trans.z).1 == ByteArray.toList ⟨#[]⟩)) then
     bnd (qj0 (v_20.getD (Int.toNat v_22) Trans.z).1) fun r1 =>
     bif (!r1) then
       rt false
     else
       bnd (q5b (n_10,n_11,n_12,n_13,()) (v_20.getD (Int.toNat v_22) Trans.z).2.1) fun r2 =>
       bif (!r2) then
         rt false
       else
         bnd (q5b (n_10,n_11,n_12,n_13,()) (v_20.getD (Int.toNat v_22) Trans.z).2.2.1) fun r3 =>
         bif (!r3) then
           rt false
         else
           ckB (inR .i64 (v_22+1)) <|
           nx (v_22+1)
   else
     bnd (q5b (n_10,n_11,n_12,n_13,()) (v_20.getD (Int.toNat v_22) Trans.z).2.1) fun r4 =>
     bif (!r4) then
       rt false
     else
       bnd (q5b (n_10,n_11,n_12,n_13,()) (v_20.getD (Int.toNat v_22) Trans.z).2.2.1) fun r5 =>
       bif (!r5) then
         rt false
       else
         ckB (inR .i64 (v_22+1)) <|
         nx (v_22+1)
 else
   dn ()
def qqi (v_20:(List Trans)) (v_21:Int) (n_10:Int) (n_11:(List Trans)) (n_12:Int) (n_13:Int) (s0:Int):Option (Unit⊕Bool) :=
 loopM (fun a=>qdi v_20 v_21 n_10 n_11 n_12 n_13 a (fun a'=>some (.next a')) (fun e=>some (.done e)) (fun r=>some (.ret r))) s0
def qot:Shp:=⟨[(1,.ptr 0),(20,.d false (.slice Trans.ty)),(21,.d true qT0),(22,.d true qT0)],[.cs 24 4 1 (.cons (.d true qT0) (.cons (.d false (.slice Trans.ty)) (.cons (.d true qT0) (.cons (.d true qT0) .nil))))]⟩
def qoj:Shp:=⟨[(1,.ptr 0)],[.cs 24 4 1 (.cons (.d true qT0) (.cons (.d false (.slice Trans.ty)) (.cons (.d true qT0) (.cons (.d true qT0) .nil))))]⟩
def q59 (n_0:Net):Option Bool :=
 bif decide (n_0.1 < 1) then
   some false
 else
   bif decide ((40:Int) < n_0.1) then
     some false
   else
     bif decide ((60:Int) < (n_0.2.1.length:Int)) then
       some false
     else
       bnd (qqi n_0.2.1 (n_0.2.1.length:Int) n_0.1 n_0.2.1 n_0.2.2.1 n_0.2.2.2.1 0) fun oe6 =>
       lk oe6 (fun e6 =>
         bnd (q5b n_0 [n_0.2.2.1]) fun r7 =>
         bif r7 then
           bnd (q5b n_0 [n_0.2.2.2.1]) fun r8 =>
           some r8
         else
           some false) (fun r=>some r)
def qbn (n_0:Net):Option Bool :=
 bif decide ((20:Int) < n_0.1) then
   some true
 else
   some (decide ((20:Int) < (n_0.2.1.length:Int)))
def q60 {R:Type} (s_0:qL1) (v_1:Int) (v_7:Int) (v_8:Int) (nx:Int→Option R) (dn:Unit→Option R) (rt:Int→Option R):Option R :=
 bif decide (v_8 < v_7) then
   ckB (ix v_8 s_0.length) <|
   ckB (ix v_8 s_0.length) <|
   bif decide (v_1=(s_0.getD (Int.toNat v_8) 0)) then
     rt v_8
   else
     ckB (inR .i64 (v_8+1)) <|
     nx (v_8+1)
 else
   dn ()
def qek (s_0:qL1) (v_1:Int) (v_7:Int) (s0:Int):Option (Unit⊕Int) :=
 loopM (fun a=>q60 s_0 v_1 v_7 a (fun a'=>some (.next a')) (fun e=>some (.done e)) (fun r=>some (.ret r))) s0
def qdt:Shp:=⟨[(0,.d false qT1),(1,.d true qT0),(7,.d true qT0),(8,.d true qT0)],[]⟩
def qe1:Shp:=⟨[],[]⟩
def qbt (s_0:qL1) (v_1:Int):Option Int :=
 bnd (qek s_0 v_1 (s_0.length:Int) 0) fun oe1 =>
 lk oe1 (fun e1 =>
   some (-1)) (fun r=>some r)
def q3u (s_0:qL1) (v_1:Int):Option Bool :=
 bnd (qbt s_0 v_1) fun r1 =>
 some (decide ((0:Int)≤r1))
def q3k (t_0:Trans) (p_1:Int):Option Int :=
 bnd (q3u t_0.2.1 p_1) fun r1 =>
 bnd (q3u t_0.2.2.1 p_1) fun r2 =>
 bif r2 then
   bif (!r1) then
     some 1
   else
     bif r1 then
       bif (!r2) then
         some (-1)
       else
         some 0
     else
       some 0
 else
   bif r1 then
     bif (!r2) then
       some (-1)
     else
       some 0
   else
     some 0
def qeu (s_0:qL1):Option qL1 :=
 bif decide ((s_0.length:Int)=0) then
   some []
 else
   ckB (room (0+s_0.length) 8) <|
   some ([]++s_0)
def q6y (s_0:qL1):Option qL1 :=
 ckB (room (0+s_0.length) 8) <|
 some ([]++s_0)
def q2r (s_0:qL1):Option qL1:=q6y s_0
def qee {R:Type} (v_6:qL1) (v_7:Int) (v_8:Int) (g_3:Int) (k_5:Int) (nx:(Int×Int)→Option R) (dn:Int→Option R) (rt:Int→Option R):Option R :=
 bif (!decide (k_5=0)) then
   ckB (!decide (k_5=0)) <|
   nx (k_5,(Int.tmod g_3 k_5))
 else
   dn g_3
def qpb (v_6:qL1) (v_7:Int) (v_8:Int) (s0:(Int×Int)):Option (Int⊕Int) :=
 loopM (fun a=>qee v_6 v_7 v_8 a.1 a.2 (fun a'=>some (.next a')) (fun e=>some (.done e)) (fun r=>some (.ret r))) s0
def qtk:Shp:=⟨[(3,.d true qT0),(5,.d true qT0),(6,.d false qT1),(7,.d true qT0),(8,.d true qT0)],[]⟩
def qtp:Shp:=⟨[(3,.d true qT0),(6,.d false qT1),(7,.d true qT0),(8,.d true qT0)],[]⟩
def qeg {R:Type} (v_6:qL1) (v_7:Int) (g_3:Int) (v_8:Int) (nx:(Int×Int)→Option R) (dn:Int→Option R) (rt:Int→Option R):Option R :=
 bif decide (v_8 < v_7) then
   ckB (ix v_8 v_6.length) <|
   ckB (ix v_8 v_6.length) <|
   bif decide ((v_6.getD (Int.toNat v_8) 0) < 0) then
     ckB (inR .i64 (0 - (v_6.getD (Int.toNat v_8) 0))) <|
     bnd (qpb v_6 v_7 v_8 (g_3,(0 - (v_6.getD (Int.toNat v_8) 0)))) fun oe1 =>
     lk oe1 (fun e1 =>
       ckB (inR .i64 (v_8+1)) <|
       nx (e1,(v_8+1))) (fun r=>rt r)
   else
     bnd (qpb v_6 v_7 v_8 (g_3,(v_6.getD (Int.toNat v_8) 0))) fun oe2 =>
     lk oe2 (fun e2 =>
       ckB (inR .i64 (v_8+1)) <|
       nx (e2,(v_8+1))) (fun r=>rt r)
 else
   dn g_3
def qvr (v_6:qL1) (v_7:Int) (s0:(Int×Int)):Option (Int⊕Int) :=
 loopM (fun a=>qeg v_6 v_7 a.1 a.2 (fun a'=>some (.next a')) (fun e=>some (.done e)) (fun r=>some (.ret r))) s0
def qtr:Shp:=⟨[(3,.d true qT0),(6,.d false qT1),(7,.d true qT0),(8,.d true qT0)],[]⟩
def qt7:Shp:=⟨[(3,.d true qT0)],[]⟩
def qlj (l_0:qL1):Option Int :=
 bnd (qvr l_0 (l_0.length:Int) (0,0)) fun oe3 =>
 lk oe3 (fun e3 =>
   some e3) (fun r=>some r)
def qcr {R:Type} (v_6:qL1) (v_7:Int) (m_3:Int) (v_8:Int) (nx:(Int×Int)→Option R) (dn:Int→Option R) (rt:Int→Option R):Option R :=
 bif decide (v_8 < v_7) then
   ckB (ix v_8 v_6.length) <|
   ckB (ix v_8 v_6.length) <|
   bif (!decide ((v_6.getD (Int.toNat v_8) 0)=0)) then
     ckB (decide (0≤v_8)) <|
     ckB (inR .i64 (v_8+1)) <|
     nx ((bitI .or .u64 m_3 (shlI .u64 1 v_8)),(v_8+1))
   else
     ckB (inR .i64 (v_8+1)) <|
     nx (m_3,(v_8+1))
 else
   dn m_3
def qth (v_6:qL1) (v_7:Int) (s0:(Int×Int)):Option (Int⊕Int) :=
 loopM (fun a=>qcr v_6 v_7 a.1 a.2 (fun a'=>some (.next a')) (fun e=>some (.done e)) (fun r=>some (.ret r))) s0
def qro:Shp:=⟨[(3,.d true (.int .u64)),(6,.d false qT1),(7,.d true qT0),(8,.d true qT0)],[]⟩
def qsk:Shp:=⟨[(3,.d true (.int .u64))],[]⟩
def q7a (l_0:qL1):Option Int :=
 bnd (qth l_0 (l_0.length:Int) (0,0)) fun oe1 =>
 lk oe1 (fun e1 =>
   some e1) (fun r=>some r)
def qbs {R:Type} (left_1:qL1) (made_2:qL1) (own_9:Int) (v_54:Int) (v_53:qL2) (r_00:qL2) (v_55:Int) (nx:Int→Option R) (dn:Unit→Option R) (rt:(qL2×qL2)→Option R):Option R :=
 bif decide (v_55 < v_54) then
   ckB (ix v_55 v_53.length) <|
   ckB (ix v_55 v_53.length) <|
   bnd (q7a (v_53.getD (Int.toNat v_55) [])) fun r4 =>
   bif decide ((bitI .andNot .u64 r4 own_9)=0) then
     rt (r_00,v_53)
   else
     ckB (inR .i64 (v_55+1)) <|
     nx (v_55+1)
 else
   dn ()
def qmg (left_1:qL1) (made_2:qL1) (own_9:Int) (v_54:Int) (v_53:qL2) (r_00:qL2) (s0:Int):Option (Unit⊕(qL2×qL2)) :=
 loopM (fun a=>qbs left_1 made_2 own_9 v_54 v_53 r_00 a (fun a'=>some (.next a')) (fun e=>some (.done e)) (fun r=>some (.ret r))) s0
def qm0:Shp:=⟨[(0,.ptr 0),(1,.d true qT1),(2,.d true qT1),(9,.d true (.int .u64)),(53,.own 1),(54,.d true qT0),(55,.d true qT0)],[.cs 95 2 1 (.cons (.own 2) (.cons (.own 1) .nil)),.arr 25 (.fz true) [3] qT1,.arr 25 (.fz true) [3] qT1]⟩
def qli:Shp:=⟨[(0,.ptr 0),(1,.d true qT1),(2,.d true qT1),(9,.d true (.int .u64))],[.cs 95 2 1 (.cons (.own 1) (.cons (.own 2) .nil)),.arr 25 (.fz true) [3] qT1,.arr 25 (.fz true) [3] qT1]⟩
def q8g {R:Type} (left_1:qL1) (made_2:qL1) (own_9:Int) (v_69:qL2) (v_70:Int) (r_00:qL2) (r_01:qL2) (v_71:Int) (keep_120:qL2) (keep_121:qL2) (nx:(Int×qL2×qL2)→Option R) (dn:(qL2×qL2)→Option R) (rt:(qL2×qL2)→Option R):Option R :=
 bif decide (v_71 < v_70) then
   ckB (ix v_71 v_69.length) <|
   ckB (ix v_71 v_69.length) <|
   bnd (q7a (v_69.getD (Int.toNat v_71) [])) fun r6 =>
   bif (!decide ((bitI .andNot .u64 own_9 r6)=0)) then
     ckB (ix v_71 r_00.length) <|
     ckB (ix v_71 r_00.length) <|
     ckB (room (keep_120.length+1) 24) <|
     ckB (room (keep_121.length+1) 24) <|
     ckB (inR .i64 (v_71+1)) <|
     nx ((v_71+1),(keep_120++[(r_00.getD (Int.toNat v_71) [])]),(keep_121++[(v_69.getD (Int.toNat v_71) [])]))
   else
     ckB (inR .i64 (v_71+1)) <|
     nx ((v_71+1),keep_120,keep_121)
 else
   dn (keep_120,keep_121)
def qn1 (left_1:qL1) (made_2:qL1) (own_9:Int) (v_69:qL2) (v_70:Int) (r_00:qL2) (r_01:qL2) (s0:(Int×qL2×qL2)):Option ((qL2×qL2)⊕(qL2×qL2)) :=
 loopM (fun a=>q8g left_1 made_2 own_9 v_69 v_70 r_00 r_01 a.1 a.2.1 a.2.2 (fun a'=>some (.next a')) (fun e=>some (.done e)) (fun r=>some (.ret r))) s0
def qm1:Shp:=⟨[(0,.ptr 0),(1,.d true qT1),(2,.d true qT1),(9,.d true (.int .u64)),(12,.ptr 1),(69,.d true qT2),(70,.d true qT0),(71,.d true qT0)],[.cs 95 2 1 (.cons (.d true qT2) (.cons (.d true qT2) .nil)),.cs 95 2 1 (.cons (.own 2) (.cons (.own 3) .nil)),.arr 25 (.fz true) [3] qT1,.arr 25 (.fz true) [3] qT1]⟩
def qlo:Shp:=⟨[(0,.ptr 0),(1,.d true qT1),(2,.d true qT1),(12,.ptr 1)],[.cs 95 2 1 (.cons (.d true qT2) (.cons (.d true qT2) .nil)),.cs 95 2 1 (.cons (.own 2) (.cons (.own 3) .nil)),.arr 25 (.fz true) [3] qT1,.arr 25 (.fz true) [3] qT1]⟩
def qez (left_1:qL1) (made_2:qL1) (r_00:qL2) (r_01:qL2):Option (qL2×qL2) :=
 bnd (q2r left_1) fun r1 =>
 ckB (room (r1.length+made_2.length) 8) <|
 bnd (qlj (r1++made_2)) fun r2 =>
 bif decide ((1:Int) < r2) then
   none
 else
   bnd (q7a made_2) fun r3 =>
   bnd (qmg left_1 made_2 r3 (r_01.length:Int) r_01 r_00 0) fun oe5 =>
   lk oe5 (fun e5 =>
     bnd (qn1 left_1 made_2 r3 r_01 (r_01.length:Int) r_00 r_01 (0,[],[])) fun oe7 =>
     lk oe7 (fun e7 =>
       ckB (room (e7.1.length+1) 24) <|
       ckB (room (e7.2.length+1) 24) <|
       some ((e7.1++[left_1]),(e7.2++[made_2]))) (fun r=>some r)) (fun r=>some r)
def qj3 {R:Type} (x_0:Int) (a_1:qL1) (y_2:Int) (b_3:qL1) (v_15:Int) (v_16:Int) (out_9:qL1) (nx:(Int×qL1)→Option R) (dn:qL1→Option R) (rt:qL1→Option R):Option R :=
 bif decide (v_16 < v_15) then
   ckB (ix v_16 a_1.length) <|
   ckB (ix v_16 a_1.length) <|
   ckB (inR .i64 (x_0*(a_1.getD (Int.toNat v_16) 0))) <|
   ckB (ix v_16 b_3.length) <|
   ckB (ix v_16 b_3.length) <|
   ckB (inR .i64 (y_2*(b_3.getD (Int.toNat v_16) 0))) <|
   ckB (inR .i64 ((x_0*(a_1.getD (Int.toNat v_16) 0))+(y_2*(b_3.getD (Int.toNat v_16) 0)))) <|
   ckB (ix v_16 out_9.length) <|
   ckB (ix v_16 out_9.length) <|
   ckB (inR .i64 (v_16+1)) <|
   nx ((v_16+1),(out_9.set (Int.toNat v_16) ((x_0*(a_1.getD (Int.toNat v_16) 0))+(y_2*(b_3.getD (Int.toNat v_16) 0)))))
 else
   dn out_9
def qvl (x_0:Int) (a_1:qL1) (y_2:Int) (b_3:qL1) (v_15:Int) (s0:(Int×qL1)):Option (qL1⊕qL1) :=
 loopM (fun a=>qj3 x_0 a_1 y_2 b_3 v_15 a.1 a.2 (fun a'=>some (.next a')) (fun e=>some (.done e)) (fun r=>some (.ret r))) s0
def qta:Shp:=⟨[(0,.d true qT0),(1,.d false qT1),(2,.d true qT0),(3,.d false qT1),(9,.own 0),(15,.d true qT0),(16,.d true qT0)],[.arr 3 (.fz true) [0] qT0]⟩
def qtc:Shp:=⟨[(9,.own 0)],[.arr 3 (.fz true) [0] qT0]⟩
def qf5 (x_0:Int) (a_1:qL1) (y_2:Int) (b_3:qL1):Option qL1 :=
 ckB (mkOk (a_1.length:Int) (a_1.length:Int) 8) <|
 bnd (qvl x_0 a_1 y_2 b_3 (a_1.length:Int) (0,(List.replicate (Int.toNat (a_1.length:Int)) (0:Int)))) fun oe1 =>
 lk oe1 (fun e1 =>
   some e1) (fun r=>some r)
def qao {R:Type} (g_6:Int) (v_23:Int) (made_2:qL1) (r_00:qL2) (r_01:qL2) (v_24:Int) (left_1:qL1) (nx:(Int×qL1)→Option R) (dn:qL1→Option R) (rt:(qL2×qL2×qL1×qL1)→Option R):Option R :=
 bif decide (v_24 < v_23) then
   ckB (ix v_24 left_1.length) <|
   ckB (ix v_24 left_1.length) <|
   ckB (!decide (g_6=0)) <|
   ckB (inR .i64 (Int.tdiv (left_1.getD (Int.toNat v_24) 0) g_6)) <|
   ckB (ix v_24 left_1.length) <|
   ckB (ix v_24 left_1.length) <|
   ckB (inR .i64 (v_24+1)) <|
   nx ((v_24+1),(left_1.set (Int.toNat v_24) (Int.tdiv (left_1.getD (Int.toNat v_24) 0) g_6)))
 else
   dn left_1
def qkz (g_6:Int) (v_23:Int) (made_2:qL1) (r_00:qL2) (r_01:qL2) (s0:(Int×qL1)):Option (qL1⊕(qL2×qL2×qL1×qL1)) :=
 loopM (fun a=>qao g_6 v_23 made_2 r_00 r_01 a.1 a.2 (fun a'=>some (.next a')) (fun e=>some (.done e)) (fun r=>some (.ret r))) s0
def qk0:Shp:=⟨[(0,.ptr 0),(1,.own 1),(2,.own 2),(6,.d true qT0),(23,.d true qT0),(24,.d true qT0)],[.cs 95 2 1 (.cons (.own 3) (.cons (.own 4) .nil)),.arr 3 (.fz true) [0] qT0,.arr 3 (.fz true) [0] qT0,.arr 25 (.fz true) [3] qT1,.arr 25 (.fz true) [3] qT1]⟩
def qk6:Shp:=⟨[(0,.ptr 0),(1,.own 1),(2,.own 2),(6,.d true qT0)],[.cs 95 2 1 (.cons (.own 3) (.cons (.own 4) .nil)),.arr 3 (.fz true) [0] qT0,.arr 3 (.fz true) [0] qT0,.arr 25 (.fz true) [3] qT1,.arr 25 (.fz true) [3] qT1]⟩
def qap {R:Type} (left_1:qL1) (g_6:Int) (v_36:Int) (r_00:qL2) (r_01:qL2) (v_37:Int) (made_2:qL1) (k4:qL1) (nx:(Int×qL1×qL1)→Option R) (dn:(qL1×qL1)→Option R) (rt:(qL2×qL2×qL1×qL1)→Option R):Option R :=
 bif decide (v_37 < v_36) then
   ckB (ix v_37 made_2.length) <|
   ckB (ix v_37 made_2.length) <|
   ckB (!decide (g_6=0)) <|
   ckB (inR .i64 (Int.tdiv (made_2.getD (Int.toNat v_37) 0) g_6)) <|
   ckB (ix v_37 made_2.length) <|
   ckB (ix v_37 made_2.length) <|
   ckB (inR .i64 (v_37+1)) <|
   nx ((v_37+1),(made_2.set (Int.toNat v_37) (Int.tdiv (made_2.getD (Int.toNat v_37) 0) g_6)),[])
 else
   dn (made_2,[])
def qm2 (left_1:qL1) (g_6:Int) (v_36:Int) (r_00:qL2) (r_01:qL2) (s0:(Int×qL1×qL1)):Option ((qL1×qL1)⊕(qL2×qL2×qL1×qL1)) :=
 loopM (fun a=>qap left_1 g_6 v_36 r_00 r_01 a.1 a.2.1 a.2.2 (fun a'=>some (.next a')) (fun e=>some (.done e)) (fun r=>some (.ret r))) s0
def qk3:Shp:=⟨[(0,.ptr 0),(1,.d true qT1),(2,.own 1),(6,.d true qT0),(36,.d true qT0),(37,.d true qT0)],[.cs 95 2 1 (.cons (.own 2) (.cons (.own 3) .nil)),.arr 3 (.fz true) [0] qT0,.arr 25 (.fz true) [3] qT1,.arr 25 (.fz true) [3] qT1,.arr 0 (.fz true) [] qT0]⟩
def qjy:Shp:=⟨[(0,.ptr 0),(1,.d true qT1),(2,.own 1)],[.cs 95 2 1 (.cons (.own 2) (.cons (.own 3) .nil)),.arr 3 (.fz true) [0] qT0,.arr 25 (.fz true) [3] qT1,.arr 25 (.fz true) [3] qT1,.arr 0 (.fz true) [] qT0]⟩
def q5q {R:Type} (left_1:qL1) (made_2:qL1) (own_9:Int) (v_54:Int) (v_53:qL2) (r_00:qL2) (v_55:Int) (k3:qL1) (k4:qL1) (nx:(Int×qL1×qL1)→Option R) (dn:(qL1×qL1)→Option R) (rt:(qL2×qL2×qL1×qL1)→Option R):Option R :=
 bif decide (v_55 < v_54) then
   ckB (ix v_55 v_53.length) <|
   ckB (ix v_55 v_53.length) <|
   bnd (q7a (v_53.getD (Int.toNat v_55) [])) fun r6 =>
   bif decide ((bitI .andNot .u64 r6 own_9)=0) then
     rt (r_00,v_53,[],[])
   else
     ckB (inR .i64 (v_55+1)) <|
     nx ((v_55+1),[],[])
 else
   dn ([],[])
def qlh (left_1:qL1) (made_2:qL1) (own_9:Int) (v_54:Int) (v_53:qL2) (r_00:qL2) (s0:(Int×qL1×qL1)):Option ((qL1×qL1)⊕(qL2×qL2×qL1×qL1)) :=
 loopM (fun a=>q5q left_1 made_2 own_9 v_54 v_53 r_00 a.1 a.2.1 a.2.2 (fun a'=>some (.next a')) (fun e=>some (.done e)) (fun r=>some (.ret r))) s0
def qk1:Shp:=⟨[(0,.ptr 0),(1,.d true qT1),(2,.d true qT1),(9,.d true (.int .u64)),(53,.own 1),(54,.d true qT0),(55,.d true qT0)],[.cs 95 2 1 (.cons (.own 2) (.cons (.own 1) .nil)),.arr 25 (.fz true) [3] qT1,.arr 25 (.fz true) [3] qT1,.arr 0 (.fz true) [] qT0,.arr 0 (.fz true) [] qT0]⟩
def qk7:Shp:=⟨[(0,.ptr 0),(1,.d true qT1),(2,.d true qT1),(9,.d true (.int .u64))],[.cs 95 2 1 (.cons (.own 1) (.cons (.own 2) .nil)),.arr 25 (.fz true) [3] qT1,.arr 25 (.fz true) [3] qT1,.arr 0 (.fz true) [] qT0,.arr 0 (.fz true) [] qT0]⟩
def q7t {R:Type} (left_1:qL1) (made_2:qL1) (own_9:Int) (v_69:qL2) (v_70:Int) (r_00:qL2) (r_01:qL2) (v_71:Int) (keep_120:qL2) (keep_121:qL2) (k4:qL1) (nx:(Int×qL2×qL2×qL1)→Option R) (dn:(qL2×qL2×qL1)→Option R) (rt:(qL2×qL2×qL1×qL1)→Option R):Option R :=
 bif decide (v_71 < v_70) then
   ckB (ix v_71 v_69.length) <|
   ckB (ix v_71 v_69.length) <|
   bnd (q7a (v_69.getD (Int.toNat v_71) [])) fun r8 =>
   bif (!decide ((bitI .andNot .u64 own_9 r8)=0)) then
     ckB (ix v_71 r_00.length) <|
     ckB (ix v_71 r_00.length) <|
     ckB (room (keep_120.length+1) 24) <|
     ckB (room (keep_121.length+1) 24) <|
     ckB (inR .i64 (v_71+1)) <|
     nx ((v_71+1),(keep_120++[(r_00.getD (Int.toNat v_71) [])]),(keep_121++[(v_69.getD (Int.toNat v_71) [])]),[])
   else
     ckB (inR .i64 (v_71+1)) <|
     nx ((v_71+1),keep_120,keep_121,[])
 else
   dn (keep_120,keep_121,[])
def qlt (left_1:qL1) (made_2:qL1) (own_9:Int) (v_69:qL2) (v_70:Int) (r_00:qL2) (r_01:qL2) (s0:(Int×qL2×qL2×qL1)):Option ((qL2×qL2×qL1)⊕(qL2×qL2×qL1×qL1)) :=
 loopM (fun a=>q7t left_1 made_2 own_9 v_69 v_70 r_00 r_01 a.1 a.2.1 a.2.2.1 a.2.2.2 (fun a'=>some (.next a')) (fun e=>some (.done e)) (fun r=>some (.ret r))) s0
def qk4:Shp:=⟨[(0,.ptr 0),(1,.d true qT1),(2,.d true qT1),(9,.d true (.int .u64)),(12,.ptr 1),(69,.d true qT2),(70,.d true qT0),(71,.d true qT0)],[.cs 95 2 1 (.cons (.d true qT2) (.cons (.d true qT2) .nil)),.cs 95 2 1 (.cons (.own 2) (.cons (.own 3) .nil)),.arr 25 (.fz true) [3] qT1,.arr 25 (.fz true) [3] qT1,.arr 0 (.fz true) [] qT0]⟩
def qjz:Shp:=⟨[(0,.ptr 0),(1,.d true qT1),(2,.d true qT1),(12,.ptr 1)],[.cs 95 2 1 (.cons (.d true qT2) (.cons (.d true qT2) .nil)),.cs 95 2 1 (.cons (.own 2) (.cons (.own 3) .nil)),.arr 25 (.fz true) [3] qT1,.arr 25 (.fz true) [3] qT1,.arr 0 (.fz true) [] qT0]⟩
def qe6 {R:Type} (left_1:qL1) (made_2:qL1) (r_00:qL2) (r_01:qL2) (k3:qL1) (k4:qL1) (dn:(qL2×qL2×qL1×qL1)→Option R) (rt:(qL2×qL2×qL1×qL1)→Option R):Option R :=
 bnd (q7a made_2) fun r5 =>
 bnd (qlh left_1 made_2 r5 (r_01.length:Int) r_01 r_00 (0,[],[])) fun oe7 =>
 lk oe7 (fun e7 =>
   bnd (qlt left_1 made_2 r5 r_01 (r_01.length:Int) r_00 r_01 (0,[],[],[])) fun oe9 =>
   lk oe9 (fun e9 =>
     ckB (room (e9.1.length+1) 24) <|
     ckB (room (e9.2.1.length+1) 24) <|
     dn ((e9.1++[left_1]),(e9.2.1++[made_2]),[],[])) (fun r=>rt r)) (fun r=>rt r)
def qbq (left_1:qL1) (made_2:qL1) (r_00:qL2) (r_01:qL2) (k3:qL1) (k4:qL1):Option ((qL2×qL2×qL1×qL1)⊕(qL2×qL2×qL1×qL1)) :=
 qe6 left_1 made_2 r_00 r_01 k3 k4 (fun e=>some (.inl e)) (fun r=>some (.inr r))
def qk5:Shp:=⟨[(0,.ptr 0),(1,.d true qT1),(2,.d true qT1)],[.cs 95 2 1 (.cons (.own 1) (.cons (.own 2) .nil)),.arr 25 (.fz true) [3] qT1,.arr 25 (.fz true) [3] qT1,.arr 0 (.fz true) [] qT0,.arr 0 (.fz true) [] qT0]⟩
def qk2:Shp:=⟨[],[.cs 95 2 1 (.cons (.own 1) (.cons (.own 2) .nil)),.arr 25 (.fz true) [3] qT1,.arr 25 (.fz true) [3] qT1,.arr 0 (.fz true) [] qT0,.arr 0 (.fz true) [] qT0]⟩
def qdl (left_1:qL1) (made_2:qL1) (r_00:qL2) (r_01:qL2):Option (qL2×qL2×qL1×qL1) :=
 bnd (q2r left_1) fun r1 =>
 ckB (room (r1.length+made_2.length) 8) <|
 bnd (qlj (r1++made_2)) fun r2 =>
 bif decide ((1:Int) < r2) then
   bnd (qkz r2 (left_1.length:Int) made_2 r_00 r_01 (0,left_1)) fun oe3 =>
   lk oe3 (fun e3 =>
     bnd (qm2 e3 r2 (made_2.length:Int) r_00 r_01 (0,made_2,[])) fun oe4 =>
     lk oe4 (fun e4 =>
       bnd (qbq e3 e4.1 r_00 r_01 [] []) fun oe10 =>
       lk oe10 (fun e10 =>
         some (e10.1,e10.2.1,[],[])) (fun r=>some r)) (fun r=>some r)) (fun r=>some r)
 else
   bnd (qbq left_1 made_2 r_00 r_01 [] []) fun oe11 =>
   lk oe11 (fun e11 =>
     some (e11.1,e11.2.1,[],[])) (fun r=>some r)
def q4c {R:Type} (c_1:Int) (v_17:Int) (r_00:qL2) (r_01:qL2) (v_18:Int) (next_50:qL2) (next_51:qL2) (nx:(Int×qL2×qL2)→Option R) (dn:(qL2×qL2)→Option R) (rt:(Bool×qL2×qL2)→Option R):Option R :=
 bif decide (v_18 < v_17) then
   ckB (ix v_18 r_00.length) <|
   ckB (ix v_18 r_00.length) <|
   ckB (ix c_1 (r_00.getD (Int.toNat v_18) []).length) <|
   ckB (ix c_1 (r_00.getD (Int.toNat v_18) []).length) <|
   bif decide (((r_00.getD (Int.toNat v_18) []).getD (Int.toNat c_1) 0)=0) then
     ckB (ix v_18 r_00.length) <|
     ckB (ix v_18 r_00.length) <|
     ckB (ix v_18 r_01.length) <|
     ckB (ix v_18 r_01.length) <|
     bnd (qez (r_00.getD (Int.toNat v_18) []) (r_01.getD (Int.toNat v_18) []) next_50 next_51) fun r1 =>
     ckB (inR .i64 (v_18+1)) <|
     nx ((v_18+1),r1.1,r1.2)
   else
     ckB (inR .i64 (v_18+1)) <|
     nx ((v_18+1),next_50,next_51)
 else
   dn (next_50,next_51)
def qg4 (c_1:Int) (v_17:Int) (r_00:qL2) (r_01:qL2) (s0:(Int×qL2×qL2)):Option ((qL2×qL2)⊕(Bool×qL2×qL2)) :=
 loopM (fun a=>q4c c_1 v_17 r_00 r_01 a.1 a.2.1 a.2.2 (fun a'=>some (.next a')) (fun e=>some (.done e)) (fun r=>some (.ret r))) s0
def qeo:Shp:=⟨[(0,.ptr 0),(1,.d true qT0),(5,.ptr 1),(17,.d true qT0),(18,.d true qT0)],[.cs 95 2 1 (.cons (.own 2) (.cons (.own 3) .nil)),.cs 95 2 1 (.cons (.own 4) (.cons (.own 5) .nil)),.arr 25 (.fz true) [3] qT1,.arr 25 (.fz true) [3] qT1,.arr 25 (.fz true) [3] qT1,.arr 25 (.fz true) [3] qT1]⟩
def qem:Shp:=⟨[(0,.ptr 0),(1,.d true qT0),(5,.ptr 1)],[.cs 95 2 1 (.cons (.own 2) (.cons (.own 3) .nil)),.cs 95 2 1 (.cons (.own 4) (.cons (.own 5) .nil)),.arr 25 (.fz true) [3] qT1,.arr 25 (.fz true) [3] qT1,.arr 25 (.fz true) [3] qT1,.arr 25 (.fz true) [3] qT1]⟩
def q2v {R:Type} (c_1:Int) (i_7:Int) (v_53:Int) (v_54:Int) (v_61:Int) (r_00:qL2) (r_01:qL2) (v_62:Int) (next_50:qL2) (next_51:qL2) (nx:(Int×qL2×qL2)→Option R) (dn:(qL2×qL2)→Option R) (rt:(Bool×qL2×qL2)→Option R):Option R :=
 bif decide (v_62 < v_61) then
   ckB (ix i_7 r_00.length) <|
   ckB (ix i_7 r_00.length) <|
   ckB (ix c_1 (r_00.getD (Int.toNat i_7) []).length) <|
   ckB (ix c_1 (r_00.getD (Int.toNat i_7) []).length) <|
   ckB (ix v_62 r_00.length) <|
   ckB (ix v_62 r_00.length) <|
   ckB (ix c_1 (r_00.getD (Int.toNat v_62) []).length) <|
   ckB (ix c_1 (r_00.getD (Int.toNat v_62) []).length) <|
   bif decide (((r_00.getD (Int.toNat i_7) []).getD (Int.toNat c_1) 0)≤0) then
     ckB (inR .i64 (v_62+1)) <|
     nx ((v_62+1),next_50,next_51)
   else
     bif decide ((0:Int)≤((r_00.getD (Int.toNat v_62) []).getD (Int.toNat c_1) 0)) then
       ckB (inR .i64 (v_62+1)) <|
       nx ((v_62+1),next_50,next_51)
     else
       ckB (inR .i64 (0 - ((r_00.getD (Int.toNat v_62) []).getD (Int.toNat c_1) 0))) <|
       ckB (ix i_7 r_00.length) <|
       ckB (ix i_7 r_00.length) <|
       ckB (ix v_62 r_00.length) <|
       ckB (ix v_62 r_00.length) <|
       bnd (qf5 (0 - ((r_00.getD (Int.toNat v_62) []).getD (Int.toNat c_1) 0)) (r_00.getD (Int.toNat i_7) []) ((r_00.getD (Int.toNat i_7) []).getD (Int.toNat c_1) 0) (r_00.getD (Int.toNat v_62) [])) fun r3 =>
       ckB (inR .i64 (0 - ((r_00.getD (Int.toNat v_62) []).getD (Int.toNat c_1) 0))) <|
       ckB (ix i_7 r_01.length) <|
       ckB (ix i_7 r_01.length) <|
       ckB (ix v_62 r_01.length) <|
       ckB (ix v_62 r_01.length) <|
       bnd (qf5 (0 - ((r_00.getD (Int.toNat v_62) []).getD (Int.toNat c_1) 0)) (r_01.getD (Int.toNat i_7) []) ((r_00.getD (Int.toNat i_7) []).getD (Int.toNat c_1) 0) (r_01.getD (Int.toNat v_62) [])) fun r4 =>
       bnd (qdl r3 r4 next_50 next_51) fun r5 =>
       bif decide ((40000:Int) < (r5.2.1.length:Int)) then
         rt (false,r_00,r_01)
       else
         ckB (inR .i64 (v_62+1)) <|
         nx ((v_62+1),r5.1,r5.2.1)
 else
   dn (next_50,next_51)
def qg6 (c_1:Int) (i_7:Int) (v_53:Int) (v_54:Int) (v_61:Int) (r_00:qL2) (r_01:qL2) (s0:(Int×qL2×qL2)):Option ((qL2×qL2)⊕(Bool×qL2×qL2)) :=
 loopM (fun a=>q2v c_1 i_7 v_53 v_54 v_61 r_00 r_01 a.1 a.2.1 a.2.2 (fun a'=>some (.next a')) (fun e=>some (.done e)) (fun r=>some (.ret r))) s0
def qex:Shp:=⟨[(0,.ptr 0),(1,.d true qT0),(5,.ptr 1),(7,.d true qT0),(53,.d true qT0),(54,.d true qT0),(61,.d true qT0),(62,.d true qT0)],[.cs 95 2 1 (.cons (.own 2) (.cons (.own 3) .nil)),.cs 95 2 1 (.cons (.own 4) (.cons (.own 5) .nil)),.arr 25 (.fz true) [3] qT1,.arr 25 (.fz true) [3] qT1,.arr 25 (.fz true) [3] qT1,.arr 25 (.fz true) [3] qT1]⟩
def qel:Shp:=⟨[(0,.ptr 0),(1,.d true qT0),(5,.ptr 1),(53,.d true qT0),(54,.d true qT0)],[.cs 95 2 1 (.cons (.own 2) (.cons (.own 3) .nil)),.cs 95 2 1 (.cons (.own 4) (.cons (.own 5) .nil)),.arr 25 (.fz true) [3] qT1,.arr 25 (.fz true) [3] qT1,.arr 25 (.fz true) [3] qT1,.arr 25 (.fz true) [3] qT1]⟩
def q6z {R:Type} (c_1:Int) (v_53:Int) (r_00:qL2) (r_01:qL2) (v_54:Int) (next_50:qL2) (next_51:qL2) (nx:(Int×qL2×qL2)→Option R) (dn:(qL2×qL2)→Option R) (rt:(Bool×qL2×qL2)→Option R):Option R :=
 bif decide (v_54 < v_53) then
   bnd (qg6 c_1 v_54 v_53 v_54 (r_00.length:Int) r_00 r_01 (0,next_50,next_51)) fun oe6 =>
   lk oe6 (fun e6 =>
     ckB (inR .i64 (v_54+1)) <|
     nx ((v_54+1),e6.1,e6.2)) (fun r=>rt r)
 else
   dn (next_50,next_51)
def qg5 (c_1:Int) (v_53:Int) (r_00:qL2) (r_01:qL2) (s0:(Int×qL2×qL2)):Option ((qL2×qL2)⊕(Bool×qL2×qL2)) :=
 loopM (fun a=>q6z c_1 v_53 r_00 r_01 a.1 a.2.1 a.2.2 (fun a'=>some (.next a')) (fun e=>some (.done e)) (fun r=>some (.ret r))) s0
def qer:Shp:=⟨[(0,.ptr 0),(1,.d true qT0),(5,.ptr 1),(53,.d true qT0),(54,.d true qT0)],[.cs 95 2 1 (.cons (.own 2) (.cons (.own 3) .nil)),.cs 95 2 1 (.cons (.own 4) (.cons (.own 5) .nil)),.arr 25 (.fz true) [3] qT1,.arr 25 (.fz true) [3] qT1,.arr 25 (.fz true) [3] qT1,.arr 25 (.fz true) [3] qT1]⟩
def qei:Shp:=⟨[(0,.ptr 0),(5,.ptr 1)],[.cs 95 2 1 (.cons (.own 2) (.cons (.own 3) .nil)),.cs 95 2 1 (.cons (.own 4) (.cons (.own 5) .nil)),.arr 25 (.fz true) [3] qT1,.arr 25 (.fz true) [3] qT1,.arr 25 (.fz true) [3] qT1,.arr 25 (.fz true) [3] qT1]⟩
def q8w (c_1:Int) (r_00:qL2) (r_01:qL2):Option (Bool×qL2×qL2) :=
 bnd (qg4 c_1 (r_00.length:Int) r_00 r_01 (0,[],[])) fun oe2 =>
 lk oe2 (fun e2 =>
   bnd (qg5 c_1 (r_00.length:Int) r_00 r_01 (0,e2.1,e2.2)) fun oe7 =>
   lk oe7 (fun e7 =>
     some (true,e7.1,e7.2)) (fun r=>some r)) (fun r=>some r)
def qjo {R:Type} (x_0:Int) (n_2:Int) (dn:Unit→Option R) (rt:Int→Option R):Option R :=
 bif decide ((256:Int)≤x_0) then
   ckB (decide (0≤(8:Int))) <|
   ckB (inR .i64 (n_2+8)) <|
   ckB (ix (IntKind.wrap .u8 (shrI .u64 x_0 8)) (ByteArray.size bytes0)) <|
   ckB (inR .i64 (((ByteArray.data bytes0).getD (Int.toNat (IntKind.wrap .u8 (shrI .u64 x_0 8))) 0).toNat:Int)) <|
   ckB (inR .i64 ((n_2+8)+(((ByteArray.data bytes0).getD (Int.toNat (IntKind.wrap .u8 (shrI .u64 x_0 8))) 0).toNat:Int))) <|
   rt ((n_2+8)+(((ByteArray.data bytes0).getD (Int.toNat (IntKind.wrap .u8 (shrI .u64 x_0 8))) 0).toNat:Int))
 else
   ckB (ix (IntKind.wrap .u8 x_0) (ByteArray.size bytes0)) <|
   ckB (inR .i64 (((ByteArray.data bytes0).getD (Int.toNat (IntKind.wrap .u8 x_0)) 0).toNat:Int)) <|
   ckB (inR .i64 (n_2+(((ByteArray.data bytes0).getD (Int.toNat (IntKind.wrap .u8 x_0)) 0).toNat:Int))) <|
   rt (n_2+(((ByteArray.data bytes0).getD (Int.toNat (IntKind.wrap .u8 x_0)) 0).toNat:Int))
def qda (x_0:Int) (n_2:Int):Option (Unit⊕Int) :=
 qjo x_0 n_2 (fun e=>some (.inl e)) (fun r=>some (.inr r))
def qqt:Shp:=⟨[(0,.d true (.int .u64)),(2,.d true qT0)],[]⟩
def qr0:Shp:=⟨[],[]⟩
def qpt (x_0:Int):Option Int :=
 bif decide ((4294967296:Int)≤x_0) then
   ckB (decide (0≤(32:Int))) <|
   bif decide ((65536:Int)≤(shrI .u64 x_0 32)) then
     ckB (decide (0≤(16:Int))) <|
     ckB (inR .i64 ((32:Int)+16)) <|
     bnd (qda (shrI .u64 (shrI .u64 x_0 32) 16) ((32:Int)+16)) fun oe1 =>
     lk oe1 (fun e1 =>
       none) (fun r=>some r)
   else
     bnd (qda (shrI .u64 x_0 32) 32) fun oe2 =>
     lk oe2 (fun e2 =>
       none) (fun r=>some r)
 else
   bif decide ((65536:Int)≤x_0) then
     ckB (decide (0≤(16:Int))) <|
     ckB (inR .i64 ((0:Int)+16)) <|
     bnd (qda (shrI .u64 x_0 16) ((0:Int)+16)) fun oe3 =>
     lk oe3 (fun e3 =>
       none) (fun r=>some r)
   else
     bnd (qda x_0 0) fun oe4 =>
     lk oe4 (fun e4 =>
       none) (fun r=>some r)
def ql0 (x_0:Int):Option Int :=
 bnd (qpt x_0) fun r1 =>
 some r1
def q7p (x_0:Int):Option Bool :=
 some (!decide (x_0=x_0))
def qcb (x_0:Int) (y_1:Int):Option Int :=
 bnd (q7p x_0) fun r1 =>
 bnd (q7p y_1) fun r2 =>
 bif r1 then
   bif r2 then
     some 0
   else
     some (-1)
 else
   bif r2 then
     some 1
   else
     bif decide (x_0 < y_1) then
       some (-1)
     else
       bif decide (y_1 < x_0) then
         some 1
       else
         some 0
def q1n {R:Type} (s1_0:qL1) (s2_1:qL1) (v_9:qL1) (v_10:Int) (v_11:Int) (nx:Int→Option R) (dn:Unit→Option R) (rt:Int→Option R):Option R :=
 bif decide (v_11 < v_10) then
   ckB (ix v_11 v_9.length) <|
   ckB (ix v_11 v_9.length) <|
   bif decide ((s2_1.length:Int)≤v_11) then
     rt 1
   else
     ckB (ix v_11 s2_1.length) <|
     ckB (ix v_11 s2_1.length) <|
     bnd (qcb (v_9.getD (Int.toNat v_11) 0) (s2_1.getD (Int.toNat v_11) 0)) fun r1 =>
     bif (!decide (r1=0)) then
       rt r1
     else
       ckB (inR .i64 (v_11+1)) <|
       nx (v_11+1)
 else
   dn ()
def qct (s1_0:qL1) (s2_1:qL1) (v_9:qL1) (v_10:Int) (s0:Int):Option (Unit⊕Int) :=
 loopM (fun a=>q1n s1_0 s2_1 v_9 v_10 a (fun a'=>some (.next a')) (fun e=>some (.done e)) (fun r=>some (.ret r))) s0
def qce:Shp:=⟨[(0,.d false qT1),(1,.d false qT1),(9,.d false qT1),(10,.d true qT0),(11,.d true qT0)],[]⟩
def qcc:Shp:=⟨[(0,.d false qT1),(1,.d false qT1)],[]⟩
def qf (s1_0:qL1) (s2_1:qL1):Option Int :=
 bnd (qct s1_0 s2_1 s1_0 (s1_0.length:Int) 0) fun oe2 =>
 lk oe2 (fun e2 =>
   bif decide ((s1_0.length:Int) < (s2_1.length:Int)) then
     some (-1)
   else
     some 0) (fun r=>some r)
def q10 {R:Type} (a_1:Int) (b_2:Int) (i_8:Int) (j_9:Int) (data_0:qL2) (nx:(Int×qL2)→Option R) (dn:qL2→Option R) (rt:qL2→Option R):Option R :=
 bif decide (a_1 < j_9) then
   ckB (ix j_9 data_0.length) <|
   ckB (ix j_9 data_0.length) <|
   ckB (inR .i64 (j_9 - 1)) <|
   ckB (ix (j_9 - 1) data_0.length) <|
   ckB (ix (j_9 - 1) data_0.length) <|
   bnd (qf (data_0.getD (Int.toNat j_9) []) (data_0.getD (Int.toNat (j_9 - 1)) [])) fun r1 =>
   bif decide (r1 < 0) then
     ckB (inR .i64 (j_9 - 1)) <|
     ckB (inR .i64 (j_9 - 1)) <|
     ckB (ix (j_9 - 1) data_0.length) <|
     ckB (ix (j_9 - 1) data_0.length) <|
     ckB (ix j_9 data_0.length) <|
     ckB (ix j_9 data_0.length) <|
     ckB (ix j_9 data_0.length) <|
     ckB (ix j_9 data_0.length) <|
     ckB (ix (j_9 - 1) (data_0.set (Int.toNat j_9) (data_0.getD (Int.toNat (j_9 - 1)) [])).length) <|
     ckB (ix (j_9 - 1) (data_0.set (Int.toNat j_9) (data_0.getD (Int.toNat (j_9 - 1)) [])).length) <|
     ckB (inR .i64 (j_9 - 1)) <|
     nx ((j_9 - 1),((data_0.set (Int.toNat j_9) (data_0.getD (Int.toNat (j_9 - 1)) [])).set (Int.toNat (j_9 - 1)) (data_0.getD (Int.toNat j_9) [])))
   else
     dn data_0
 else
   dn data_0
def q3c (a_1:Int) (b_2:Int) (i_8:Int) (s0:(Int×qL2)):Option (qL2⊕qL2) :=
 loopM (fun a=>q10 a_1 b_2 i_8 a.1 a.2 (fun a'=>some (.next a')) (fun e=>some (.done e)) (fun r=>some (.ret r))) s0
def q6s:Shp:=⟨[(0,.own 0),(1,.d true qT0),(2,.d true qT0),(3,.fn 64 .nil),(8,.d true qT0),(9,.d true qT0)],[.arr 25 (.fz true) [3] qT1]⟩
def q6v:Shp:=⟨[(0,.own 0),(1,.d true qT0),(2,.d true qT0),(3,.fn 64 .nil),(8,.d true qT0)],[.arr 25 (.fz true) [3] qT1]⟩
def q1v {R:Type} (a_1:Int) (b_2:Int) (i_8:Int) (data_0:qL2) (nx:(Int×qL2)→Option R) (dn:qL2→Option R) (rt:qL2→Option R):Option R :=
 bif decide (i_8 < b_2) then
   bnd (q3c a_1 b_2 i_8 (i_8,data_0)) fun oe2 =>
   lk oe2 (fun e2 =>
     ckB (inR .i64 (i_8+1)) <|
     nx ((i_8+1),e2)) (fun r=>rt r)
 else
   dn data_0
def q7d (a_1:Int) (b_2:Int) (s0:(Int×qL2)):Option (qL2⊕qL2) :=
 loopM (fun a=>q1v a_1 b_2 a.1 a.2 (fun a'=>some (.next a')) (fun e=>some (.done e)) (fun r=>some (.ret r))) s0
def q6q:Shp:=⟨[(0,.own 0),(1,.d true qT0),(2,.d true qT0),(3,.fn 64 .nil),(8,.d true qT0)],[.arr 25 (.fz true) [3] qT1]⟩
def q6x:Shp:=⟨[],[.arr 25 (.fz true) [3] qT1]⟩
def q1k (a_1:Int) (b_2:Int) (data_0:qL2):Option qL2 :=
 ckB (inR .i64 (a_1+1)) <|
 bnd (q7d a_1 b_2 ((a_1+1),data_0)) fun oe3 =>
 lk oe3 (fun e3 =>
   some e3) (fun r=>some r)
def q4n {R:Type} (hi_2:Int) (first_3:Int) (root_10:Int) (child_11:Int) (data_0:qL2) (dn:qL2→Option R) (rt:qL2→Option R):Option R :=
 ckB (inR .i64 (first_3+root_10)) <|
 ckB (ix (first_3+root_10) data_0.length) <|
 ckB (ix (first_3+root_10) data_0.length) <|
 ckB (inR .i64 (first_3+child_11)) <|
 ckB (ix (first_3+child_11) data_0.length) <|
 ckB (ix (first_3+child_11) data_0.length) <|
 bnd (qf (data_0.getD (Int.toNat (first_3+root_10)) []) (data_0.getD (Int.toNat (first_3+child_11)) [])) fun r2 =>
 bif (!(decide (r2 < 0))) then
   rt data_0
 else
   ckB (inR .i64 (first_3+root_10)) <|
   ckB (inR .i64 (first_3+child_11)) <|
   ckB (inR .i64 (first_3+child_11)) <|
   ckB (ix (first_3+child_11) data_0.length) <|
   ckB (ix (first_3+child_11) data_0.length) <|
   ckB (inR .i64 (first_3+root_10)) <|
   ckB (ix (first_3+root_10) data_0.length) <|
   ckB (ix (first_3+root_10) data_0.length) <|
   ckB (ix (first_3+root_10) data_0.length) <|
   ckB (ix (first_3+root_10) data_0.length) <|
   ckB (ix (first_3+child_11) (data_0.set (Int.toNat (first_3+root_10)) (data_0.getD (Int.toNat (first_3+child_11)) [])).length) <|
   ckB (ix (first_3+child_11) (data_0.set (Int.toNat (first_3+root_10)) (data_0.getD (Int.toNat (first_3+child_11)) [])).length) <|
   dn ((data_0.set (Int.toNat (first_3+root_10)) (data_0.getD (Int.toNat (first_3+child_11)) [])).set (Int.toNat (first_3+child_11)) (data_0.getD (Int.toNat (first_3+root_10)) []))
def q1u (hi_2:Int) (first_3:Int) (root_10:Int) (child_11:Int) (data_0:qL2):Option (qL2⊕qL2) :=
 q4n hi_2 first_3 root_10 child_11 data_0 (fun e=>some (.inl e)) (fun r=>some (.inr r))
def q8r:Shp:=⟨[(0,.own 0),(2,.d true qT0),(3,.d true qT0),(4,.fn 64 .nil),(10,.d true qT0),(11,.d true qT0)],[.arr 25 (.fz true) [3] qT1]⟩
def q8o:Shp:=⟨[(0,.own 0),(2,.d true qT0),(3,.d true qT0),(4,.fn 64 .nil),(10,.d true qT0)],[.arr 25 (.fz true) [3] qT1]⟩
def qp {R:Type} (hi_2:Int) (first_3:Int) (root_10:Int) (data_0:qL2) (nx:(Int×qL2)→Option R) (dn:qL2→Option R) (rt:qL2→Option R):Option R :=
 ckB (inR .i64 ((2:Int)*root_10)) <|
 ckB (inR .i64 (((2:Int)*root_10)+1)) <|
 bif decide (hi_2≤(((2:Int)*root_10)+1)) then
   dn data_0
 else
   ckB (inR .i64 ((((2:Int)*root_10)+1)+1)) <|
   bif decide (((((2:Int)*root_10)+1)+1) < hi_2) then
     ckB (inR .i64 (first_3+(((2:Int)*root_10)+1))) <|
     ckB (ix (first_3+(((2:Int)*root_10)+1)) data_0.length) <|
     ckB (ix (first_3+(((2:Int)*root_10)+1)) data_0.length) <|
     ckB (inR .i64 (first_3+(((2:Int)*root_10)+1))) <|
     ckB (inR .i64 ((first_3+(((2:Int)*root_10)+1))+1)) <|
     ckB (ix ((first_3+(((2:Int)*root_10)+1))+1) data_0.length) <|
     ckB (ix ((first_3+(((2:Int)*root_10)+1))+1) data_0.length) <|
     bnd (qf (data_0.getD (Int.toNat (first_3+(((2:Int)*root_10)+1))) []) (data_0.getD (Int.toNat ((first_3+(((2:Int)*root_10)+1))+1)) [])) fun r1 =>
     bif decide (r1 < 0) then
       ckB (inR .i64 ((((2:Int)*root_10)+1)+1)) <|
       bnd (q1u hi_2 first_3 root_10 ((((2:Int)*root_10)+1)+1) data_0) fun oe3 =>
       lk oe3 (fun e3 =>
         nx (((((2:Int)*root_10)+1)+1),e3)) (fun r=>rt r)
     else
       bnd (q1u hi_2 first_3 root_10 (((2:Int)*root_10)+1) data_0) fun oe4 =>
       lk oe4 (fun e4 =>
         nx ((((2:Int)*root_10)+1),e4)) (fun r=>rt r)
   else
     bnd (q1u hi_2 first_3 root_10 (((2:Int)*root_10)+1) data_0) fun oe5 =>
     lk oe5 (fun e5 =>
       nx ((((2:Int)*root_10)+1),e5)) (fun r=>rt r)
def q93 (hi_2:Int) (first_3:Int) (s0:(Int×qL2)):Option (qL2⊕qL2) :=
 loopM (fun a=>qp hi_2 first_3 a.1 a.2 (fun a'=>some (.next a')) (fun e=>some (.done e)) (fun r=>some (.ret r))) s0
def q8c:Shp:=⟨[(0,.own 0),(2,.d true qT0),(3,.d true qT0),(4,.fn 64 .nil),(10,.d true qT0)],[.arr 25 (.fz true) [3] qT1]⟩
def q8d:Shp:=⟨[],[.arr 25 (.fz true) [3] qT1]⟩
def q22 (lo_1:Int) (hi_2:Int) (first_3:Int) (data_0:qL2):Option qL2 :=
 bnd (q93 hi_2 first_3 (lo_1,data_0)) fun oe6 =>
 lk oe6 (fun e6 =>
   some e6) (fun r=>some r)
def q1p {R:Type} (first_8:Int) (lo_9:Int) (hi_10:Int) (i_11:Int) (data_0:qL2) (nx:(Int×qL2)→Option R) (dn:qL2→Option R) (rt:qL2→Option R):Option R :=
 bif decide ((0:Int)≤i_11) then
   bnd (q22 i_11 hi_10 first_8 data_0) fun r1 =>
   ckB (decide (r1.length=data_0.length)) <|
   ckB (inR .i64 (i_11 - 1)) <|
   nx ((i_11 - 1),r1)
 else
   dn data_0
def qgn (first_8:Int) (lo_9:Int) (hi_10:Int) (s0:(Int×qL2)):Option (qL2⊕qL2) :=
 loopM (fun a=>q1p first_8 lo_9 hi_10 a.1 a.2 (fun a'=>some (.next a')) (fun e=>some (.done e)) (fun r=>some (.ret r))) s0
def q8j:Shp:=⟨[(0,.own 0),(3,.fn 64 .nil),(8,.d true qT0),(9,.d true qT0),(10,.d true qT0),(11,.d true qT0)],[.arr 25 (.fz true) [3] qT1]⟩
def q8t:Shp:=⟨[(0,.own 0),(3,.fn 64 .nil),(8,.d true qT0),(9,.d true qT0),(10,.d true qT0)],[.arr 25 (.fz true) [3] qT1]⟩
def q17 {R:Type} (first_8:Int) (lo_9:Int) (i_12:Int) (data_0:qL2) (nx:(Int×qL2)→Option R) (dn:qL2→Option R) (rt:qL2→Option R):Option R :=
 bif decide ((0:Int)≤i_12) then
   ckB (inR .i64 (first_8+i_12)) <|
   ckB (inR .i64 (first_8+i_12)) <|
   ckB (ix (first_8+i_12) data_0.length) <|
   ckB (ix (first_8+i_12) data_0.length) <|
   ckB (ix first_8 data_0.length) <|
   ckB (ix first_8 data_0.length) <|
   ckB (ix first_8 data_0.length) <|
   ckB (ix first_8 data_0.length) <|
   ckB (ix (first_8+i_12) (data_0.set (Int.toNat first_8) (data_0.getD (Int.toNat (first_8+i_12)) [])).length) <|
   ckB (ix (first_8+i_12) (data_0.set (Int.toNat first_8) (data_0.getD (Int.toNat (first_8+i_12)) [])).length) <|
   bnd (q22 lo_9 i_12 first_8 ((data_0.set (Int.toNat first_8) (data_0.getD (Int.toNat (first_8+i_12)) [])).set (Int.toNat (first_8+i_12)) (data_0.getD (Int.toNat first_8) []))) fun r3 =>
   ckB (decide (r3.length=((data_0.set (Int.toNat first_8) (data_0.getD (Int.toNat (first_8+i_12)) [])).set (Int.toNat (first_8+i_12)) (data_0.getD (Int.toNat first_8) [])).length)) <|
   ckB (inR .i64 (i_12 - 1)) <|
   nx ((i_12 - 1),r3)
 else
   dn data_0
def qgk (first_8:Int) (lo_9:Int) (s0:(Int×qL2)):Option (qL2⊕qL2) :=
 loopM (fun a=>q17 first_8 lo_9 a.1 a.2 (fun a'=>some (.next a')) (fun e=>some (.done e)) (fun r=>some (.ret r))) s0
def q8m:Shp:=⟨[(0,.own 0),(3,.fn 64 .nil),(8,.d true qT0),(9,.d true qT0),(12,.d true qT0)],[.arr 25 (.fz true) [3] qT1]⟩
def q8p:Shp:=⟨[],[.arr 25 (.fz true) [3] qT1]⟩
def q24 (a_1:Int) (b_2:Int) (data_0:qL2):Option qL2 :=
 ckB (inR .i64 (b_2 - a_1)) <|
 ckB (inR .i64 ((b_2 - a_1) - 1)) <|
 ckB (!decide ((2:Int)=0)) <|
 ckB (inR .i64 (Int.tdiv ((b_2 - a_1) - 1) 2)) <|
 bnd (qgn a_1 0 (b_2 - a_1) ((Int.tdiv ((b_2 - a_1) - 1) 2),data_0)) fun oe2 =>
 lk oe2 (fun e2 =>
   ckB (inR .i64 ((b_2 - a_1) - 1)) <|
   bnd (qgk a_1 0 (((b_2 - a_1) - 1),e2)) fun oe4 =>
   lk oe4 (fun e4 =>
     some e4) (fun r=>some r)) (fun r=>some r)
def q7f (length_0:Int):Option Int :=
 bnd (ql0 (IntKind.wrap .u64 length_0)) fun r1 =>
 ckB (decide (0≤r1)) <|
 some (shlI .u64 1 r1)
def qbm (r_0:Int):Option (Int×Int) :=
 ckB (decide (0≤(13:Int))) <|
 ckB (decide (0≤(7:Int))) <|
 ckB (decide (0≤(17:Int))) <|
 some ((bitI .xor .u64 (bitI .xor .u64 (bitI .xor .u64 r_0 (shlI .u64 r_0 13)) (shrI .u64 (bitI .xor .u64 r_0 (shlI .u64 r_0 13)) 7)) (shlI .u64 (bitI .xor .u64 (bitI .xor .u64 r_0 (shlI .u64 r_0 13)) (shrI .u64 (bitI .xor .u64 r_0 (shlI .u64 r_0 13)) 7)) 17)),(bitI .xor .u64 (bitI .xor .u64 (bitI .xor .u64 r_0 (shlI .u64 r_0 13)) (shrI .u64 (bitI .xor .u64 r_0 (shlI .u64 r_0 13)) 7)) (shlI .u64 (bitI .xor .u64 (bitI .xor .u64 r_0 (shlI .u64 r_0 13)) (shrI .u64 (bitI .xor .u64 r_0 (shlI .u64 r_0 13)) 7)) 17)))
def q18 {R:Type} (a_1:Int) (length_8:Int) (modulus_10:Int) (idx_11:Int) (data_0:qL2) (random_9:Int) (nx:(Int×qL2×Int)→Option R) (dn:qL2→Option R) (rt:qL2→Option R):Option R :=
 ckB (!decide ((4:Int)=0)) <|
 ckB (inR .i64 (Int.tdiv length_8 4)) <|
 ckB (inR .i64 ((Int.tdiv length_8 4)*2)) <|
 ckB (inR .i64 (a_1+((Int.tdiv length_8 4)*2))) <|
 ckB (inR .i64 ((a_1+((Int.tdiv length_8 4)*2))+1)) <|
 bif decide (idx_11≤((a_1+((Int.tdiv length_8 4)*2))+1)) then
   bnd (qbm random_9) fun r2 =>
   ckB (inR .i64 (bitI .and .u64 r2.1 (IntKind.wrap .u64 (modulus_10 - 1)))) <|
   bif decide (length_8≤(bitI .and .u64 r2.1 (IntKind.wrap .u64 (modulus_10 - 1)))) then
     ckB (inR .i64 ((bitI .and .u64 r2.1 (IntKind.wrap .u64 (modulus_10 - 1))) - length_8)) <|
     ckB (inR .i64 (a_1+((bitI .and .u64 r2.1 (IntKind.wrap .u64 (modulus_10 - 1))) - length_8))) <|
     ckB (inR .i64 (a_1+((bitI .and .u64 r2.1 (IntKind.wrap .u64 (modulus_10 - 1))) - length_8))) <|
     ckB (ix (a_1+((bitI .and .u64 r2.1 (IntKind.wrap .u64 (modulus_10 - 1))) - length_8)) data_0.length) <|
     ckB (ix (a_1+((bitI .and .u64 r2.1 (IntKind.wrap .u64 (modulus_10 - 1))) - length_8)) data_0.length) <|
     ckB (ix idx_11 data_0.length) <|
     ckB (ix idx_11 data_0.length) <|
     ckB (ix idx_11 data_0.length) <|
     ckB (ix idx_11 data_0.length) <|
     ckB (ix (a_1+((bitI .and .u64 r2.1 (IntKind.wrap .u64 (modulus_10 - 1))) - length_8)) (data_0.set (Int.toNat idx_11) (data_0.getD (Int.toNat (a_1+((bitI .and .u64 r2.1 (IntKind.wrap .u64 (modulus_10 - 1))) - length_8))) [])).length) <|
     ckB (ix (a_1+((bitI .and .u64 r2.1 (IntKind.wrap .u64 (modulus_10 - 1))) - length_8)) (data_0.set (Int.toNat idx_11) (data_0.getD (Int.toNat (a_1+((bitI .and .u64 r2.1 (IntKind.wrap .u64 (modulus_10 - 1))) - length_8))) [])).length) <|
     ckB (inR .i64 (idx_11+1)) <|
     nx ((idx_11+1),((data_0.set (Int.toNat idx_11) (data_0.getD (Int.toNat (a_1+((bitI .and .u64 r2.1 (IntKind.wrap .u64 (modulus_10 - 1))) - length_8))) [])).set (Int.toNat (a_1+((bitI .and .u64 r2.1 (IntKind.wrap .u64 (modulus_10 - 1))) - length_8))) (data_0.getD (Int.toNat idx_11) [])),r2.2)
   else
     ckB (inR .i64 (a_1+(bitI .and .u64 r2.1 (IntKind.wrap .u64 (modulus_10 - 1))))) <|
     ckB (inR .i64 (a_1+(bitI .and .u64 r2.1 (IntKind.wrap .u64 (modulus_10 - 1))))) <|
     ckB (ix (a_1+(bitI .and .u64 r2.1 (IntKind.wrap .u64 (modulus_10 - 1)))) data_0.length) <|
     ckB (ix (a_1+(bitI .and .u64 r2.1 (IntKind.wrap .u64 (modulus_10 - 1)))) data_0.length) <|
     ckB (ix idx_11 data_0.length) <|
     ckB (ix idx_11 data_0.length) <|
     ckB (ix idx_11 data_0.length) <|
     ckB (ix idx_11 data_0.length) <|
     ckB (ix (a_1+(bitI .and .u64 r2.1 (IntKind.wrap .u64 (modulus_10 - 1)))) (data_0.set (Int.toNat idx_11) (data_0.getD (Int.toNat (a_1+(bitI .and .u64 r2.1 (IntKind.wrap .u64 (modulus_10 - 1))))) [])).length) <|
     ckB (ix (a_1+(bitI .and .u64 r2.1 (IntKind.wrap .u64 (modulus_10 - 1)))) (data_0.set (Int.toNat idx_11) (data_0.getD (Int.toNat (a_1+(bitI .and .u64 r2.1 (IntKind.wrap .u64 (modulus_10 - 1))))) [])).length) <|
     ckB (inR .i64 (idx_11+1)) <|
     nx ((idx_11+1),((data_0.set (Int.toNat idx_11) (data_0.getD (Int.toNat (a_1+(bitI .and .u64 r2.1 (IntKind.wrap .u64 (modulus_10 - 1))))) [])).set (Int.toNat (a_1+(bitI .and .u64 r2.1 (IntKind.wrap .u64 (modulus_10 - 1))))) (data_0.getD (Int.toNat idx_11) [])),r2.2)
 else
   dn data_0
def q74 (a_1:Int) (length_8:Int) (modulus_10:Int) (s0:(Int×qL2×Int)):Option (qL2⊕qL2) :=
 loopM (fun a=>q18 a_1 length_8 modulus_10 a.1 a.2.1 a.2.2 (fun a'=>some (.next a')) (fun e=>some (.done e)) (fun r=>some (.ret r))) s0
def q6w:Shp:=⟨[(0,.own 0),(1,.d true qT0),(8,.d true qT0),(9,.ptr 1),(10,.d true (.int .u64)),(11,.d true qT0)],[.arr 25 (.fz true) [3] qT1,.cs 123 1 1 (.cons (.d true (.int .u64)) .nil)]⟩
def q6t:Shp:=⟨[],[.arr 25 (.fz true) [3] qT1]⟩
def q1i (a_1:Int) (b_2:Int) (data_0:qL2):Option qL2 :=
 ckB (inR .i64 (b_2 - a_1)) <|
 bif decide ((8:Int)≤(b_2 - a_1)) then
   bnd (q7f (b_2 - a_1)) fun r1 =>
   ckB (!decide ((4:Int)=0)) <|
   ckB (inR .i64 (Int.tdiv (b_2 - a_1) 4)) <|
   ckB (inR .i64 ((Int.tdiv (b_2 - a_1) 4)*2)) <|
   ckB (inR .i64 (a_1+((Int.tdiv (b_2 - a_1) 4)*2))) <|
   ckB (inR .i64 ((a_1+((Int.tdiv (b_2 - a_1) 4)*2)) - 1)) <|
   bnd (q74 a_1 (b_2 - a_1) r1 (((a_1+((Int.tdiv (b_2 - a_1) 4)*2)) - 1),data_0,(IntKind.wrap .u64 (b_2 - a_1)))) fun oe3 =>
   lk oe3 (fun e3 =>
     some e3) (fun r=>some r)
 else
   some data_0
def q1b (data_0:qL2) (a_1:Int) (b_2:Int) (swaps_3:Int):Option (Int×Int×Int) :=
 ckB (ix b_2 data_0.length) <|
 ckB (ix b_2 data_0.length) <|
 ckB (ix a_1 data_0.length) <|
 ckB (ix a_1 data_0.length) <|
 bnd (qf (data_0.getD (Int.toNat b_2) []) (data_0.getD (Int.toNat a_1) [])) fun r1 =>
 bif decide (r1 < 0) then
   ckB (inR .i64 (swaps_3+1)) <|
   some (b_2,a_1,(swaps_3+1))
 else
   some (a_1,b_2,swaps_3)
def q1c (data_0:qL2) (a_1:Int) (b_2:Int) (c_3:Int) (swaps_4:Int):Option (Int×Int) :=
 bnd (q1b data_0 a_1 b_2 swaps_4) fun r1 =>
 bnd (q1b data_0 r1.2.1 c_3 r1.2.2) fun r2 =>
 bnd (q1b data_0 r1.1 r2.1 r2.2.2) fun r3 =>
 some (r3.2.1,r3.2.2)
def qt (data_0:qL2) (a_1:Int) (swaps_2:Int):Option (Int×Int) :=
 ckB (inR .i64 (a_1 - 1)) <|
 ckB (inR .i64 (a_1+1)) <|
 bnd (q1c data_0 (a_1 - 1) a_1 (a_1+1) swaps_2) fun r1 =>
 some (r1.1,r1.2)
def q3q {R:Type} (j_13:Int) (swaps_11:Int) (dn:Unit→Option R) (rt:(Int×Int)→Option R):Option R :=
 bif decide (swaps_11=0) then
   rt (j_13,1)
 else
   bif decide (swaps_11=12) then
     rt (j_13,2)
   else
     rt (j_13,0)
def q1j (j_13:Int) (swaps_11:Int):Option (Unit⊕(Int×Int)) :=
 q3q j_13 swaps_11 (fun e=>some (.inl e)) (fun r=>some (.inr r))
def q7k:Shp:=⟨[(11,.ptr 0),(13,.d true qT0)],[.cs 3 1 1 (.cons (.d true qT0) .nil)]⟩
def q7n:Shp:=⟨[],[]⟩
def q16 (data_0:qL2) (a_1:Int) (b_2:Int):Option (Int×Int) :=
 ckB (inR .i64 (b_2 - a_1)) <|
 ckB (!decide ((4:Int)=0)) <|
 ckB (inR .i64 (Int.tdiv (b_2 - a_1) 4)) <|
 ckB (inR .i64 ((Int.tdiv (b_2 - a_1) 4)*1)) <|
 ckB (inR .i64 (a_1+((Int.tdiv (b_2 - a_1) 4)*1))) <|
 ckB (!decide ((4:Int)=0)) <|
 ckB (inR .i64 (Int.tdiv (b_2 - a_1) 4)) <|
 ckB (inR .i64 ((Int.tdiv (b_2 - a_1) 4)*2)) <|
 ckB (inR .i64 (a_1+((Int.tdiv (b_2 - a_1) 4)*2))) <|
 ckB (!decide ((4:Int)=0)) <|
 ckB (inR .i64 (Int.tdiv (b_2 - a_1) 4)) <|
 ckB (inR .i64 ((Int.tdiv (b_2 - a_1) 4)*3)) <|
 ckB (inR .i64 (a_1+((Int.tdiv (b_2 - a_1) 4)*3))) <|
 bif decide ((8:Int)≤(b_2 - a_1)) then
   bif decide ((50:Int)≤(b_2 - a_1)) then
     bnd (qt data_0 (a_1+((Int.tdiv (b_2 - a_1) 4)*1)) 0) fun r1 =>
     bnd (qt data_0 (a_1+((Int.tdiv (b_2 - a_1) 4)*2)) r1.2) fun r2 =>
     bnd (qt data_0 (a_1+((Int.tdiv (b_2 - a_1) 4)*3)) r2.2) fun r3 =>
     bnd (q1c data_0 r1.1 r2.1 r3.1 r3.2) fun r4 =>
     bnd (q1j r4.1 r4.2) fun oe5 =>
     lk oe5 (fun e5 =>
       none) (fun r=>some r)
   else
     bnd (q1c data_0 (a_1+((Int.tdiv (b_2 - a_1) 4)*1)) (a_1+((Int.tdiv (b_2 - a_1) 4)*2)) (a_1+((Int.tdiv (b_2 - a_1) 4)*3)) 0) fun r6 =>
     bnd (q1j r6.1 r6.2) fun oe7 =>
     lk oe7 (fun e7 =>
       none) (fun r=>some r)
 else
   bnd (q1j (a_1+((Int.tdiv (b_2 - a_1) 4)*2)) 0) fun oe8 =>
   lk oe8 (fun e8 =>
     none) (fun r=>some r)
def q1w {R:Type}  (i_8:Int) (j_9:Int) (data_0:qL2) (nx:(Int×Int×qL2)→Option R) (dn:qL2→Option R) (rt:qL2→Option R):Option R :=
 bif decide (i_8 < j_9) then
   ckB (ix j_9 data_0.length) <|
   ckB (ix j_9 data_0.length) <|
   ckB (ix i_8 data_0.length) <|
   ckB (ix i_8 data_0.length) <|
   ckB (ix i_8 data_0.length) <|
   ckB (ix i_8 data_0.length) <|
   ckB (ix j_9 (data_0.set (Int.toNat i_8) (data_0.getD (Int.toNat j_9) [])).length) <|
   ckB (ix j_9 (data_0.set (Int.toNat i_8) (data_0.getD (Int.toNat j_9) [])).length) <|
   ckB (inR .i64 (i_8+1)) <|
   ckB (inR .i64 (j_9 - 1)) <|
   nx ((i_8+1),(j_9 - 1),((data_0.set (Int.toNat i_8) (data_0.getD (Int.toNat j_9) [])).set (Int.toNat j_9) (data_0.getD (Int.toNat i_8) [])))
 else
   dn data_0
def q7o  (s0:(Int×Int×qL2)):Option (qL2⊕qL2) :=
 loopM (fun a=>q1w  a.1 a.2.1 a.2.2 (fun a'=>some (.next a')) (fun e=>some (.done e)) (fun r=>some (.ret r))) s0
def q76:Shp:=⟨[(0,.own 0),(8,.d true qT0),(9,.d true qT0)],[.arr 25 (.fz true) [3] qT1]⟩
def q7e:Shp:=⟨[],[.arr 25 (.fz true) [3] qT1]⟩
def q15 (a_1:Int) (b_2:Int) (data_0:qL2):Option qL2 :=
 ckB (inR .i64 (b_2 - 1)) <|
 bnd (q7o  (a_1,(b_2 - 1),data_0)) fun oe1 =>
 lk oe1 (fun e1 =>
   some e1) (fun r=>some r)
def qz {R:Type} (a_1:Int) (b_2:Int) (j_10:Int) (data_0:qL2) (i_9:Int) (nx:Int→Option R) (dn:Int→Option R) (rt:(Bool×qL2)→Option R):Option R :=
 bif decide (i_9 < b_2) then
   ckB (ix i_9 data_0.length) <|
   ckB (ix i_9 data_0.length) <|
   ckB (inR .i64 (i_9 - 1)) <|
   ckB (ix (i_9 - 1) data_0.length) <|
   ckB (ix (i_9 - 1) data_0.length) <|
   bnd (qf (data_0.getD (Int.toNat i_9) []) (data_0.getD (Int.toNat (i_9 - 1)) [])) fun r1 =>
   bif (!(decide (r1 < 0))) then
     ckB (inR .i64 (i_9+1)) <|
     nx (i_9+1)
   else
     dn i_9
 else
   dn i_9
def q27 (a_1:Int) (b_2:Int) (j_10:Int) (data_0:qL2) (s0:Int):Option (Int⊕(Bool×qL2)) :=
 loopM (fun a=>qz a_1 b_2 j_10 data_0 a (fun a'=>some (.next a')) (fun e=>some (.done e)) (fun r=>some (.ret r))) s0
def q4a:Shp:=⟨[(0,.own 0),(1,.d true qT0),(2,.d true qT0),(3,.fn 64 .nil),(9,.d true qT0),(10,.d true qT0)],[.arr 25 (.fz true) [3] qT1]⟩
def q48:Shp:=⟨[(0,.own 0),(1,.d true qT0),(2,.d true qT0),(3,.fn 64 .nil),(9,.d true qT0),(10,.d true qT0)],[.arr 25 (.fz true) [3] qT1]⟩
def qw {R:Type} (a_1:Int) (b_2:Int) (i_9:Int) (j_10:Int) (j_11:Int) (data_0:qL2) (nx:(Int×qL2)→Option R) (dn:qL2→Option R) (rt:(Bool×qL2)→Option R):Option R :=
 bif decide ((1:Int)≤j_11) then
   ckB (ix j_11 data_0.length) <|
   ckB (ix j_11 data_0.length) <|
   ckB (inR .i64 (j_11 - 1)) <|
   ckB (ix (j_11 - 1) data_0.length) <|
   ckB (ix (j_11 - 1) data_0.length) <|
   bnd (qf (data_0.getD (Int.toNat j_11) []) (data_0.getD (Int.toNat (j_11 - 1)) [])) fun r3 =>
   bif (!(decide (r3 < 0))) then
     dn data_0
   else
     ckB (inR .i64 (j_11 - 1)) <|
     ckB (inR .i64 (j_11 - 1)) <|
     ckB (ix (j_11 - 1) data_0.length) <|
     ckB (ix (j_11 - 1) data_0.length) <|
     ckB (ix j_11 data_0.length) <|
     ckB (ix j_11 data_0.length) <|
     ckB (ix j_11 data_0.length) <|
     ckB (ix j_11 data_0.length) <|
     ckB (ix (j_11 - 1) (data_0.set (Int.toNat j_11) (data_0.getD (Int.toNat (j_11 - 1)) [])).length) <|
     ckB (ix (j_11 - 1) (data_0.set (Int.toNat j_11) (data_0.getD (Int.toNat (j_11 - 1)) [])).length) <|
     ckB (inR .i64 (j_11 - 1)) <|
     nx ((j_11 - 1),((data_0.set (Int.toNat j_11) (data_0.getD (Int.toNat (j_11 - 1)) [])).set (Int.toNat (j_11 - 1)) (data_0.getD (Int.toNat j_11) [])))
 else
   dn data_0
def q28 (a_1:Int) (b_2:Int) (i_9:Int) (j_10:Int) (s0:(Int×qL2)):Option (qL2⊕(Bool×qL2)) :=
 loopM (fun a=>qw a_1 b_2 i_9 j_10 a.1 a.2 (fun a'=>some (.next a')) (fun e=>some (.done e)) (fun r=>some (.ret r))) s0
def q49:Shp:=⟨[(0,.own 0),(1,.d true qT0),(2,.d true qT0),(3,.fn 64 .nil),(9,.d true qT0),(10,.d true qT0),(11,.d true qT0)],[.arr 25 (.fz true) [3] qT1]⟩
def q4e:Shp:=⟨[(0,.own 0),(1,.d true qT0),(2,.d true qT0),(3,.fn 64 .nil),(9,.d true qT0),(10,.d true qT0)],[.arr 25 (.fz true) [3] qT1]⟩
def qy {R:Type} (a_1:Int) (b_2:Int) (i_9:Int) (j_10:Int) (j_12:Int) (data_0:qL2) (nx:(Int×qL2)→Option R) (dn:qL2→Option R) (rt:(Bool×qL2)→Option R):Option R :=
 bif decide (j_12 < b_2) then
   ckB (ix j_12 data_0.length) <|
   ckB (ix j_12 data_0.length) <|
   ckB (inR .i64 (j_12 - 1)) <|
   ckB (ix (j_12 - 1) data_0.length) <|
   ckB (ix (j_12 - 1) data_0.length) <|
   bnd (qf (data_0.getD (Int.toNat j_12) []) (data_0.getD (Int.toNat (j_12 - 1)) [])) fun r5 =>
   bif (!(decide (r5 < 0))) then
     dn data_0
   else
     ckB (inR .i64 (j_12 - 1)) <|
     ckB (inR .i64 (j_12 - 1)) <|
     ckB (ix (j_12 - 1) data_0.length) <|
     ckB (ix (j_12 - 1) data_0.length) <|
     ckB (ix j_12 data_0.length) <|
     ckB (ix j_12 data_0.length) <|
     ckB (ix j_12 data_0.length) <|
     ckB (ix j_12 data_0.length) <|
     ckB (ix (j_12 - 1) (data_0.set (Int.toNat j_12) (data_0.getD (Int.toNat (j_12 - 1)) [])).length) <|
     ckB (ix (j_12 - 1) (data_0.set (Int.toNat j_12) (data_0.getD (Int.toNat (j_12 - 1)) [])).length) <|
     ckB (inR .i64 (j_12+1)) <|
     nx ((j_12+1),((data_0.set (Int.toNat j_12) (data_0.getD (Int.toNat (j_12 - 1)) [])).set (Int.toNat (j_12 - 1)) (data_0.getD (Int.toNat j_12) [])))
 else
   dn data_0
def q29 (a_1:Int) (b_2:Int) (i_9:Int) (j_10:Int) (s0:(Int×qL2)):Option (qL2⊕(Bool×qL2)) :=
 loopM (fun a=>qy a_1 b_2 i_9 j_10 a.1 a.2 (fun a'=>some (.next a')) (fun e=>some (.done e)) (fun r=>some (.ret r))) s0
def q46:Shp:=⟨[(0,.own 0),(1,.d true qT0),(2,.d true qT0),(3,.fn 64 .nil),(9,.d true qT0),(10,.d true qT0),(12,.d true qT0)],[.arr 25 (.fz true) [3] qT1]⟩
def q4d:Shp:=⟨[(0,.own 0),(1,.d true qT0),(2,.d true qT0),(3,.fn 64 .nil),(9,.d true qT0),(10,.d true qT0)],[.arr 25 (.fz true) [3] qT1]⟩
def q19 {R:Type} (a_1:Int) (b_2:Int) (i_9:Int) (j_10:Int) (data_0:qL2) (dn:qL2→Option R) (rt:(Bool×qL2)→Option R):Option R :=
 ckB (inR .i64 (b_2 - i_9)) <|
 bif decide ((2:Int)≤(b_2 - i_9)) then
   ckB (inR .i64 (i_9+1)) <|
   bnd (q29 a_1 b_2 i_9 j_10 ((i_9+1),data_0)) fun oe6 =>
   lk oe6 (fun e6 =>
     dn e6) (fun r=>rt r)
 else
   dn data_0
def q1e (a_1:Int) (b_2:Int) (i_9:Int) (j_10:Int) (data_0:qL2):Option (qL2⊕(Bool×qL2)) :=
 q19 a_1 b_2 i_9 j_10 data_0 (fun e=>some (.inl e)) (fun r=>some (.inr r))
def q43:Shp:=⟨[(0,.own 0),(1,.d true qT0),(2,.d true qT0),(3,.fn 64 .nil),(9,.d true qT0),(10,.d true qT0)],[.arr 25 (.fz true) [3] qT1]⟩
def q44:Shp:=⟨[(0,.own 0),(1,.d true qT0),(2,.d true qT0),(3,.fn 64 .nil),(9,.d true qT0),(10,.d true qT0)],[.arr 25 (.fz true) [3] qT1]⟩
def qn {R:Type} (a_1:Int) (b_2:Int) (i_9:Int) (j_10:Int) (data_0:qL2) (nx:(Int×Int×qL2)→Option R) (dn:qL2→Option R) (rt:(Bool×qL2)→Option R):Option R :=
 bif decide (j_10 < 5) then
   bnd (q27 a_1 b_2 j_10 data_0 i_9) fun oe2 =>
   lk oe2 (fun e2 =>
     bif decide (e2=b_2) then
       rt (true,data_0)
     else
       ckB (inR .i64 (b_2 - a_1)) <|
       bif decide ((b_2 - a_1) < 50) then
         rt (false,data_0)
       else
         ckB (inR .i64 (e2 - 1)) <|
         ckB (inR .i64 (e2 - 1)) <|
         ckB (ix (e2 - 1) data_0.length) <|
         ckB (ix (e2 - 1) data_0.length) <|
         ckB (ix e2 data_0.length) <|
         ckB (ix e2 data_0.length) <|
         ckB (ix e2 data_0.length) <|
         ckB (ix e2 data_0.length) <|
         ckB (ix (e2 - 1) (data_0.set (Int.toNat e2) (data_0.getD (Int.toNat (e2 - 1)) [])).length) <|
         ckB (ix (e2 - 1) (data_0.set (Int.toNat e2) (data_0.getD (Int.toNat (e2 - 1)) [])).length) <|
         ckB (inR .i64 (e2 - a_1)) <|
         bif decide ((2:Int)≤(e2 - a_1)) then
           ckB (inR .i64 (e2 - 1)) <|
           bnd (q28 a_1 b_2 e2 j_10 ((e2 - 1),((data_0.set (Int.toNat e2) (data_0.getD (Int.toNat (e2 - 1)) [])).set (Int.toNat (e2 - 1)) (data_0.getD (Int.toNat e2) [])))) fun oe4 =>
           lk oe4 (fun e4 =>
             bnd (q1e a_1 b_2 e2 j_10 e4) fun oe7 =>
             lk oe7 (fun e7 =>
               ckB (inR .i64 (j_10+1)) <|
               nx (e2,(j_10+1),e7)) (fun r=>rt r)) (fun r=>rt r)
         else
           bnd (q1e a_1 b_2 e2 j_10 ((data_0.set (Int.toNat e2) (data_0.getD (Int.toNat (e2 - 1)) [])).set (Int.toNat (e2 - 1)) (data_0.getD (Int.toNat e2) []))) fun oe8 =>
           lk oe8 (fun e8 =>
             ckB (inR .i64 (j_10+1)) <|
             nx (e2,(j_10+1),e8)) (fun r=>rt r)) (fun r=>rt r)
 else
   dn data_0
def q4i (a_1:Int) (b_2:Int) (s0:(Int×Int×qL2)):Option (qL2⊕(Bool×qL2)) :=
 loopM (fun a=>qn a_1 b_2 a.1 a.2.1 a.2.2 (fun a'=>some (.next a')) (fun e=>some (.done e)) (fun r=>some (.ret r))) s0
def q47:Shp:=⟨[(0,.own 0),(1,.d true qT0),(2,.d true qT0),(3,.fn 64 .nil),(9,.d true qT0),(10,.d true qT0)],[.arr 25 (.fz true) [3] qT1]⟩
def q45:Shp:=⟨[],[.arr 25 (.fz true) [3] qT1]⟩
def q1h (a_1:Int) (b_2:Int) (data_0:qL2):Option (Bool×qL2) :=
 ckB (inR .i64 (a_1+1)) <|
 bnd (q4i a_1 b_2 ((a_1+1),0,data_0)) fun oe9 =>
 lk oe9 (fun e9 =>
   some (false,e9)) (fun r=>some r)
def q1t {R:Type} (a_1:Int) (j_12:Int) (data_0:qL2) (i_11:Int) (nx:Int→Option R) (dn:Int→Option R) (rt:(Int×qL2)→Option R):Option R :=
 bif decide (i_11≤j_12) then
   ckB (ix a_1 data_0.length) <|
   ckB (ix a_1 data_0.length) <|
   ckB (ix i_11 data_0.length) <|
   ckB (ix i_11 data_0.length) <|
   bnd (qf (data_0.getD (Int.toNat a_1) []) (data_0.getD (Int.toNat i_11) [])) fun r1 =>
   bif (!(decide (r1 < 0))) then
     ckB (inR .i64 (i_11+1)) <|
     nx (i_11+1)
   else
     dn i_11
 else
   dn i_11
def q6u (a_1:Int) (j_12:Int) (data_0:qL2) (s0:Int):Option (Int⊕(Int×qL2)) :=
 loopM (fun a=>q1t a_1 j_12 data_0 a (fun a'=>some (.next a')) (fun e=>some (.done e)) (fun r=>some (.ret r))) s0
def q62:Shp:=⟨[(0,.own 0),(1,.d true qT0),(4,.fn 64 .nil),(11,.d true qT0),(12,.d true qT0)],[.arr 25 (.fz true) [3] qT1]⟩
def q63:Shp:=⟨[(0,.own 0),(1,.d true qT0),(4,.fn 64 .nil),(11,.d true qT0),(12,.d true qT0)],[.arr 25 (.fz true) [3] qT1]⟩
def q1s {R:Type} (a_1:Int) (i_11:Int) (data_0:qL2) (j_12:Int) (nx:Int→Option R) (dn:Int→Option R) (rt:(Int×qL2)→Option R):Option R :=
 bif decide (i_11≤j_12) then
   ckB (ix a_1 data_0.length) <|
   ckB (ix a_1 data_0.length) <|
   ckB (ix j_12 data_0.length) <|
   ckB (ix j_12 data_0.length) <|
   bnd (qf (data_0.getD (Int.toNat a_1) []) (data_0.getD (Int.toNat j_12) [])) fun r3 =>
   bif decide (r3 < 0) then
     ckB (inR .i64 (j_12 - 1)) <|
     nx (j_12 - 1)
   else
     dn j_12
 else
   dn j_12
def q6r (a_1:Int) (i_11:Int) (data_0:qL2) (s0:Int):Option (Int⊕(Int×qL2)) :=
 loopM (fun a=>q1s a_1 i_11 data_0 a (fun a'=>some (.next a')) (fun e=>some (.done e)) (fun r=>some (.ret r))) s0
def q64:Shp:=⟨[(0,.own 0),(1,.d true qT0),(4,.fn 64 .nil),(11,.d true qT0),(12,.d true qT0)],[.arr 25 (.fz true) [3] qT1]⟩
def q65:Shp:=⟨[(0,.own 0),(1,.d true qT0),(4,.fn 64 .nil),(11,.d true qT0),(12,.d true qT0)],[.arr 25 (.fz true) [3] qT1]⟩
def q1r {R:Type} (a_1:Int) (i_11:Int) (j_12:Int) (data_0:qL2) (nx:(Int×Int×qL2)→Option R) (dn:(Int×qL2)→Option R) (rt:(Int×qL2)→Option R):Option R :=
 bnd (q6u a_1 j_12 data_0 i_11) fun oe2 =>
 lk oe2 (fun e2 =>
   bnd (q6r a_1 e2 data_0 j_12) fun oe4 =>
   lk oe4 (fun e4 =>
     bif decide (e4 < e2) then
       dn (e2,data_0)
     else
       ckB (ix e4 data_0.length) <|
       ckB (ix e4 data_0.length) <|
       ckB (ix e2 data_0.length) <|
       ckB (ix e2 data_0.length) <|
       ckB (ix e2 data_0.length) <|
       ckB (ix e2 data_0.length) <|
       ckB (ix e4 (data_0.set (Int.toNat e2) (data_0.getD (Int.toNat e4) [])).length) <|
       ckB (ix e4 (data_0.set (Int.toNat e2) (data_0.getD (Int.toNat e4) [])).length) <|
       ckB (inR .i64 (e2+1)) <|
       ckB (inR .i64 (e4 - 1)) <|
       nx ((e2+1),(e4 - 1),((data_0.set (Int.toNat e2) (data_0.getD (Int.toNat e4) [])).set (Int.toNat e4) (data_0.getD (Int.toNat e2) [])))) (fun r=>rt r)) (fun r=>rt r)
def q37 (a_1:Int) (s0:(Int×Int×qL2)):Option ((Int×qL2)⊕(Int×qL2)) :=
 loopM (fun a=>q1r a_1 a.1 a.2.1 a.2.2 (fun a'=>some (.next a')) (fun e=>some (.done e)) (fun r=>some (.ret r))) s0
def q66:Shp:=⟨[(0,.own 0),(1,.d true qT0),(4,.fn 64 .nil),(11,.d true qT0),(12,.d true qT0)],[.arr 25 (.fz true) [3] qT1]⟩
def q68:Shp:=⟨[(11,.d true qT0)],[.arr 25 (.fz true) [3] qT1]⟩
def qh (a_1:Int) (b_2:Int) (pivot_3:Int) (data_0:qL2):Option (Int×qL2) :=
 ckB (ix pivot_3 data_0.length) <|
 ckB (ix pivot_3 data_0.length) <|
 ckB (ix a_1 data_0.length) <|
 ckB (ix a_1 data_0.length) <|
 ckB (ix a_1 data_0.length) <|
 ckB (ix a_1 data_0.length) <|
 ckB (ix pivot_3 (data_0.set (Int.toNat a_1) (data_0.getD (Int.toNat pivot_3) [])).length) <|
 ckB (ix pivot_3 (data_0.set (Int.toNat a_1) (data_0.getD (Int.toNat pivot_3) [])).length) <|
 ckB (inR .i64 (a_1+1)) <|
 ckB (inR .i64 (b_2 - 1)) <|
 bnd (q37 a_1 ((a_1+1),(b_2 - 1),((data_0.set (Int.toNat a_1) (data_0.getD (Int.toNat pivot_3) [])).set (Int.toNat pivot_3) (data_0.getD (Int.toNat a_1) [])))) fun oe5 =>
 lk oe5 (fun e5 =>
   some (e5.1,e5.2)) (fun r=>some r)
def q2h {R:Type} (a_1:Int) (j_13:Int) (data_0:qL2) (i_12:Int) (nx:Int→Option R) (dn:Int→Option R) (rt:(Int×Bool×qL2)→Option R):Option R :=
 bif decide (i_12≤j_13) then
   ckB (ix i_12 data_0.length) <|
   ckB (ix i_12 data_0.length) <|
   ckB (ix a_1 data_0.length) <|
   ckB (ix a_1 data_0.length) <|
   bnd (qf (data_0.getD (Int.toNat i_12) []) (data_0.getD (Int.toNat a_1) [])) fun r1 =>
   bif decide (r1 < 0) then
     ckB (inR .i64 (i_12+1)) <|
     nx (i_12+1)
   else
     dn i_12
 else
   dn i_12
def q8b (a_1:Int) (j_13:Int) (data_0:qL2) (s0:Int):Option (Int⊕(Int×Bool×qL2)) :=
 loopM (fun a=>q2h a_1 j_13 data_0 a (fun a'=>some (.next a')) (fun e=>some (.done e)) (fun r=>some (.ret r))) s0
def q85:Shp:=⟨[(0,.own 0),(1,.d true qT0),(4,.fn 64 .nil),(12,.d true qT0),(13,.d true qT0)],[.arr 25 (.fz true) [3] qT1]⟩
def q84:Shp:=⟨[(0,.own 0),(1,.d true qT0),(4,.fn 64 .nil),(12,.d true qT0),(13,.d true qT0)],[.arr 25 (.fz true) [3] qT1]⟩
def q2i {R:Type} (a_1:Int) (i_12:Int) (data_0:qL2) (j_13:Int) (nx:Int→Option R) (dn:Int→Option R) (rt:(Int×Bool×qL2)→Option R):Option R :=
 bif decide (i_12≤j_13) then
   ckB (ix j_13 data_0.length) <|
   ckB (ix j_13 data_0.length) <|
   ckB (ix a_1 data_0.length) <|
   ckB (ix a_1 data_0.length) <|
   bnd (qf (data_0.getD (Int.toNat j_13) []) (data_0.getD (Int.toNat a_1) [])) fun r3 =>
   bif (!(decide (r3 < 0))) then
     ckB (inR .i64 (j_13 - 1)) <|
     nx (j_13 - 1)
   else
     dn j_13
 else
   dn j_13
def q8h (a_1:Int) (i_12:Int) (data_0:qL2) (s0:Int):Option (Int⊕(Int×Bool×qL2)) :=
 loopM (fun a=>q2i a_1 i_12 data_0 a (fun a'=>some (.next a')) (fun e=>some (.done e)) (fun r=>some (.ret r))) s0
def q87:Shp:=⟨[(0,.own 0),(1,.d true qT0),(4,.fn 64 .nil),(12,.d true qT0),(13,.d true qT0)],[.arr 25 (.fz true) [3] qT1]⟩
def q82:Shp:=⟨[(0,.own 0),(1,.d true qT0),(4,.fn 64 .nil),(12,.d true qT0),(13,.d true qT0)],[.arr 25 (.fz true) [3] qT1]⟩
def q2g {R:Type} (a_1:Int) (j_13:Int) (data_0:qL2) (i_12:Int) (nx:Int→Option R) (dn:Int→Option R) (rt:(Int×Bool×qL2)→Option R):Option R :=
 bif decide (i_12≤j_13) then
   ckB (ix i_12 data_0.length) <|
   ckB (ix i_12 data_0.length) <|
   ckB (ix a_1 data_0.length) <|
   ckB (ix a_1 data_0.length) <|
   bnd (qf (data_0.getD (Int.toNat i_12) []) (data_0.getD (Int.toNat a_1) [])) fun r5 =>
   bif decide (r5 < 0) then
     ckB (inR .i64 (i_12+1)) <|
     nx (i_12+1)
   else
     dn i_12
 else
   dn i_12
def q8q (a_1:Int) (j_13:Int) (data_0:qL2) (s0:Int):Option (Int⊕(Int×Bool×qL2)) :=
 loopM (fun a=>q2g a_1 j_13 data_0 a (fun a'=>some (.next a')) (fun e=>some (.done e)) (fun r=>some (.ret r))) s0
def q81:Shp:=⟨[(0,.own 0),(1,.d true qT0),(4,.fn 64 .nil),(12,.d true qT0),(13,.d true qT0)],[.arr 25 (.fz true) [3] qT1]⟩
def q7z:Shp:=⟨[(0,.own 0),(1,.d true qT0),(4,.fn 64 .nil),(12,.d true qT0),(13,.d true qT0)],[.arr 25 (.fz true) [3] qT1]⟩
def q2j {R:Type} (a_1:Int) (i_12:Int) (data_0:qL2) (j_13:Int) (nx:Int→Option R) (dn:Int→Option R) (rt:(Int×Bool×qL2)→Option R):Option R :=
 bif decide (i_12≤j_13) then
   ckB (ix j_13 data_0.length) <|
   ckB (ix j_13 data_0.length) <|
   ckB (ix a_1 data_0.length) <|
   ckB (ix a_1 data_0.length) <|
   bnd (qf (data_0.getD (Int.toNat j_13) []) (data_0.getD (Int.toNat a_1) [])) fun r7 =>
   bif (!(decide (r7 < 0))) then
     ckB (inR .i64 (j_13 - 1)) <|
     nx (j_13 - 1)
   else
     dn j_13
 else
   dn j_13
def q8e (a_1:Int) (i_12:Int) (data_0:qL2) (s0:Int):Option (Int⊕(Int×Bool×qL2)) :=
 loopM (fun a=>q2j a_1 i_12 data_0 a (fun a'=>some (.next a')) (fun e=>some (.done e)) (fun r=>some (.ret r))) s0
def q83:Shp:=⟨[(0,.own 0),(1,.d true qT0),(4,.fn 64 .nil),(12,.d true qT0),(13,.d true qT0)],[.arr 25 (.fz true) [3] qT1]⟩
def q88:Shp:=⟨[(0,.own 0),(1,.d true qT0),(4,.fn 64 .nil),(12,.d true qT0),(13,.d true qT0)],[.arr 25 (.fz true) [3] qT1]⟩
def q2k {R:Type} (a_1:Int) (i_12:Int) (j_13:Int) (data_0:qL2) (nx:(Int×Int×qL2)→Option R) (dn:(Int×qL2)→Option R) (rt:(Int×Bool×qL2)→Option R):Option R :=
 bnd (q8q a_1 j_13 data_0 i_12) fun oe6 =>
 lk oe6 (fun e6 =>
   bnd (q8e a_1 e6 data_0 j_13) fun oe8 =>
   lk oe8 (fun e8 =>
     bif decide (e8 < e6) then
       dn (e8,data_0)
     else
       ckB (ix e8 data_0.length) <|
       ckB (ix e8 data_0.length) <|
       ckB (ix e6 data_0.length) <|
       ckB (ix e6 data_0.length) <|
       ckB (ix e6 data_0.length) <|
       ckB (ix e6 data_0.length) <|
       ckB (ix e8 (data_0.set (Int.toNat e6) (data_0.getD (Int.toNat e8) [])).length) <|
       ckB (ix e8 (data_0.set (Int.toNat e6) (data_0.getD (Int.toNat e8) [])).length) <|
       ckB (inR .i64 (e6+1)) <|
       ckB (inR .i64 (e8 - 1)) <|
       nx ((e6+1),(e8 - 1),((data_0.set (Int.toNat e6) (data_0.getD (Int.toNat e8) [])).set (Int.toNat e8) (data_0.getD (Int.toNat e6) [])))) (fun r=>rt r)) (fun r=>rt r)
def q4s (a_1:Int) (s0:(Int×Int×qL2)):Option ((Int×qL2)⊕(Int×Bool×qL2)) :=
 loopM (fun a=>q2k a_1 a.1 a.2.1 a.2.2 (fun a'=>some (.next a')) (fun e=>some (.done e)) (fun r=>some (.ret r))) s0
def q7y:Shp:=⟨[(0,.own 0),(1,.d true qT0),(4,.fn 64 .nil),(12,.d true qT0),(13,.d true qT0)],[.arr 25 (.fz true) [3] qT1]⟩
def q86:Shp:=⟨[(0,.own 0),(1,.d true qT0),(13,.d true qT0)],[.arr 25 (.fz true) [3] qT1]⟩
def q2z (a_1:Int) (b_2:Int) (pivot_3:Int) (data_0:qL2):Option (Int×Bool×qL2) :=
 ckB (ix pivot_3 data_0.length) <|
 ckB (ix pivot_3 data_0.length) <|
 ckB (ix a_1 data_0.length) <|
 ckB (ix a_1 data_0.length) <|
 ckB (ix a_1 data_0.length) <|
 ckB (ix a_1 data_0.length) <|
 ckB (ix pivot_3 (data_0.set (Int.toNat a_1) (data_0.getD (Int.toNat pivot_3) [])).length) <|
 ckB (ix pivot_3 (data_0.set (Int.toNat a_1) (data_0.getD (Int.toNat pivot_3) [])).length) <|
 ckB (inR .i64 (a_1+1)) <|
 ckB (inR .i64 (b_2 - 1)) <|
 bnd (q8b a_1 (b_2 - 1) ((data_0.set (Int.toNat a_1) (data_0.getD (Int.toNat pivot_3) [])).set (Int.toNat pivot_3) (data_0.getD (Int.toNat a_1) [])) (a_1+1)) fun oe2 =>
 lk oe2 (fun e2 =>
   bnd (q8h a_1 e2 ((data_0.set (Int.toNat a_1) (data_0.getD (Int.toNat pivot_3) [])).set (Int.toNat pivot_3) (data_0.getD (Int.toNat a_1) [])) (b_2 - 1)) fun oe4 =>
   lk oe4 (fun e4 =>
     bif decide (e4 < e2) then
       ckB (ix a_1 ((data_0.set (Int.toNat a_1) (data_0.getD (Int.toNat pivot_3) [])).set (Int.toNat pivot_3) (data_0.getD (Int.toNat a_1) [])).length) <|
       ckB (ix a_1 ((data_0.set (Int.toNat a_1) (data_0.getD (Int.toNat pivot_3) [])).set (Int.toNat pivot_3) (data_0.getD (Int.toNat a_1) [])).length) <|
       ckB (ix e4 ((data_0.set (Int.toNat a_1) (data_0.getD (Int.toNat pivot_3) [])).set (Int.toNat pivot_3) (data_0.getD (Int.toNat a_1) [])).length) <|
       ckB (ix e4 ((data_0.set (Int.toNat a_1) (data_0.getD (Int.toNat pivot_3) [])).set (Int.toNat pivot_3) (data_0.getD (Int.toNat a_1) [])).length) <|
       ckB (ix e4 ((data_0.set (Int.toNat a_1) (data_0.getD (Int.toNat pivot_3) [])).set (Int.toNat pivot_3) (data_0.getD (Int.toNat a_1) [])).length) <|
       ckB (ix e4 ((data_0.set (Int.toNat a_1) (data_0.getD (Int.toNat pivot_3) [])).set (Int.toNat pivot_3) (data_0.getD (Int.toNat a_1) [])).length) <|
       ckB (ix a_1 (((data_0.set (Int.toNat a_1) (data_0.getD (Int.toNat pivot_3) [])).set (Int.toNat pivot_3) (data_0.getD (Int.toNat a_1) [])).set (Int.toNat e4) (((data_0.set (Int.toNat a_1) (data_0.getD (Int.toNat pivot_3) [])).set (Int.toNat pivot_3) (data_0.getD (Int.toNat a_1) [])).getD (Int.toNat a_1) [])).length) <|
       ckB (ix a_1 (((data_0.set (Int.toNat a_1) (data_0.getD (Int.toNat pivot_3) [])).set (Int.toNat pivot_3) (data_0.getD (Int.toNat a_1) [])).set (Int.toNat e4) (((data_0.set (Int.toNat a_1) (data_0.getD (Int.toNat pivot_3) [])).set (Int.toNat pivot_3) (data_0.getD (Int.toNat a_1) [])).getD (Int.toNat a_1) [])).length) <|
       some (e4,true,((((data_0.set (Int.toNat a_1) (data_0.getD (Int.toNat pivot_3) [])).set (Int.toNat pivot_3) (data_0.getD (Int.toNat a_1) [])).set (Int.toNat e4) (((data_0.set (Int.toNat a_1) (data_0.getD (Int.toNat pivot_3) [])).set (Int.toNat pivot_3) (data_0.getD (Int.toNat a_1) [])).getD (Int.toNat a_1) [])).set (Int.toNat a_1) (((data_0.set (Int.toNat a_1) (data_0.getD (Int.toNat pivot_3) [])).set (Int.toNat pivot_3) (data_0.getD (Int.toNat a_1) [])).getD (Int.toNat e4) [])))
     else
       ckB (ix e4 ((data_0.set (Int.toNat a_1) (data_0.getD (Int.toNat pivot_3) [])).set (Int.toNat pivot_3) (data_0.getD (Int.toNat a_1) [])).length) <|
       ckB (ix e4 ((data_0.set (Int.toNat a_1) (data_0.getD (Int.toNat pivot_3) [])).set (Int.toNat pivot_3) (data_0.getD (Int.toNat a_1) [])).length) <|
       ckB (ix e2 ((data_0.set (Int.toNat a_1) (data_0.getD (Int.toNat pivot_3) [])).set (Int.toNat pivot_3) (data_0.getD (Int.toNat a_1) [])).length) <|
       ckB (ix e2 ((data_0.set (Int.toNat a_1) (data_0.getD (Int.toNat pivot_3) [])).set (Int.toNat pivot_3) (data_0.getD (Int.toNat a_1) [])).length) <|
       ckB (ix e2 ((data_0.set (Int.toNat a_1) (data_0.getD (Int.toNat pivot_3) [])).set (Int.toNat pivot_3) (data_0.getD (Int.toNat a_1) [])).length) <|
       ckB (ix e2 ((data_0.set (Int.toNat a_1) (data_0.getD (Int.toNat pivot_3) [])).set (Int.toNat pivot_3) (data_0.getD (Int.toNat a_1) [])).length) <|
       ckB (ix e4 (((data_0.set (Int.toNat a_1) (data_0.getD (Int.toNat pivot_3) [])).set (Int.toNat pivot_3) (data_0.getD (Int.toNat a_1) [])).set (Int.toNat e2) (((data_0.set (Int.toNat a_1) (data_0.getD (Int.toNat pivot_3) [])).set (Int.toNat pivot_3) (data_0.getD (Int.toNat a_1) [])).getD (Int.toNat e4) [])).length) <|
       ckB (ix e4 (((data_0.set (Int.toNat a_1) (data_0.getD (Int.toNat pivot_3) [])).set (Int.toNat pivot_3) (data_0.getD (Int.toNat a_1) [])).set (Int.toNat e2) (((data_0.set (Int.toNat a_1) (data_0.getD (Int.toNat pivot_3) [])).set (Int.toNat pivot_3) (data_0.getD (Int.toNat a_1) [])).getD (Int.toNat e4) [])).length) <|
       ckB (inR .i64 (e2+1)) <|
       ckB (inR .i64 (e4 - 1)) <|
       bnd (q4s a_1 ((e2+1),(e4 - 1),((((data_0.set (Int.toNat a_1) (data_0.getD (Int.toNat pivot_3) [])).set (Int.toNat pivot_3) (data_0.getD (Int.toNat a_1) [])).set (Int.toNat e2) (((data_0.set (Int.toNat a_1) (data_0.getD (Int.toNat pivot_3) [])).set (Int.toNat pivot_3) (data_0.getD (Int.toNat a_1) [])).getD (Int.toNat e4) [])).set (Int.toNat e4) (((data_0.set (Int.toNat a_1) (data_0.getD (Int.toNat pivot_3) [])).set (Int.toNat pivot_3) (data_0.getD (Int.toNat a_1) [])).getD (Int.toNat e2) [])))) fun oe9 =>
       lk oe9 (fun e9 =>
         ckB (ix a_1 e9.2.length) <|
         ckB (ix a_1 e9.2.length) <|
         ckB (ix e9.1 e9.2.length) <|
         ckB (ix e9.1 e9.2.length) <|
         ckB (ix e9.1 e9.2.length) <|
         ckB (ix e9.1 e9.2.length) <|
         ckB (ix a_1 (e9.2.set (Int.toNat e9.1) (e9.2.getD (Int.toNat a_1) [])).length) <|
         ckB (ix a_1 (e9.2.set (Int.toNat e9.1) (e9.2.getD (Int.toNat a_1) [])).length) <|
         some (e9.1,false,((e9.2.set (Int.toNat e9.1) (e9.2.getD (Int.toNat a_1) [])).set (Int.toNat a_1) (e9.2.getD (Int.toNat e9.1) [])))) (fun r=>some r)) (fun r=>some r)) (fun r=>some r)
def q52 {R:Type} (rec:((Unit×Int×Int×Int×(Unit)×Unit)×(qL2×Unit))→Option qL2) (a_1:Int) (b_2:Int) (limit_3:Int) (wasBalanced_10:Bool) (wasPartitioned_11:Bool) (length_12:Int) (pivot_13:Int) (v_75:Bool) (data_0:qL2) (dn:qL2→Option R) (rt:qL2→Option R):Option R :=
 bif v_75 then
   bnd (q1h a_1 b_2 data_0) fun r6 =>
   ckB (decide (r6.2.length=data_0.length)) <|
   bif r6.1 then
     rt r6.2
   else
     dn r6.2
 else
   dn data_0
def qj (rec:((Unit×Int×Int×Int×(Unit)×Unit)×(qL2×Unit))→Option qL2) (a_1:Int) (b_2:Int) (limit_3:Int) (wasBalanced_10:Bool) (wasPartitioned_11:Bool) (length_12:Int) (pivot_13:Int) (v_75:Bool) (data_0:qL2):Option (qL2⊕qL2) :=
 q52 rec a_1 b_2 limit_3 wasBalanced_10 wasPartitioned_11 length_12 pivot_13 v_75 data_0 (fun e=>some (.inl e)) (fun r=>some (.inr r))
def q9a:Shp:=⟨[(0,.own 0),(1,.d true qT0),(2,.d true qT0),(3,.d true qT0),(4,.fn 64 .nil),(10,.d true .bool),(11,.d true .bool),(12,.d true qT0),(13,.d true qT0),(75,.d true .bool)],[.arr 25 (.fz true) [3] qT1]⟩
def q94:Shp:=⟨[(0,.own 0),(1,.d true qT0),(2,.d true qT0),(3,.d true qT0),(4,.fn 64 .nil),(10,.d true .bool),(11,.d true .bool),(12,.d true qT0),(13,.d true qT0)],[.arr 25 (.fz true) [3] qT1]⟩
def q2u {R:Type} (rec:((Unit×Int×Int×Int×(Unit)×Unit)×(qL2×Unit))→Option qL2) (a_1:Int) (b_2:Int) (limit_3:Int) (length_12:Int) (pivot_13:Int) (data_0:qL2) (dn:(Int×Int×Bool×Bool×qL2)→Option R) (rt:qL2→Option R):Option R :=
 bnd (q2z a_1 b_2 pivot_13 data_0) fun r10 =>
 ckB (decide (r10.2.2.length=data_0.length)) <|
 ckB (inR .i64 (r10.1 - a_1)) <|
 ckB (inR .i64 (b_2 - r10.1)) <|
 ckB (!decide ((8:Int)=0)) <|
 ckB (inR .i64 (Int.tdiv length_12 8)) <|
 bif decide ((r10.1 - a_1) < (b_2 - r10.1)) then
   bnd (rec (((),a_1,r10.1,limit_3,(()),()),(r10.2.2,()))) fun r11 =>
   ckB (decide (r11.length=r10.2.2.length)) <|
   ckB (inR .i64 (r10.1+1)) <|
   dn ((r10.1+1),b_2,decide ((Int.tdiv length_12 8)≤(r10.1 - a_1)),r10.2.1,r11)
 else
   ckB (inR .i64 (r10.1+1)) <|
   bnd (rec (((),(r10.1+1),b_2,limit_3,(()),()),(r10.2.2,()))) fun r12 =>
   ckB (decide (r12.length=r10.2.2.length)) <|
   dn (a_1,r10.1,decide ((Int.tdiv length_12 8)≤(b_2 - r10.1)),r10.2.1,r12)
def qd (rec:((Unit×Int×Int×Int×(Unit)×Unit)×(qL2×Unit))→Option qL2) (a_1:Int) (b_2:Int) (limit_3:Int) (length_12:Int) (pivot_13:Int) (data_0:qL2):Option ((Int×Int×Bool×Bool×qL2)⊕qL2) :=
 q2u rec a_1 b_2 limit_3 length_12 pivot_13 data_0 (fun e=>some (.inl e)) (fun r=>some (.inr r))
def q95:Shp:=⟨[(0,.own 0),(1,.d true qT0),(2,.d true qT0),(3,.d true qT0),(4,.fn 64 .nil),(12,.d true qT0),(13,.d true qT0)],[.arr 25 (.fz true) [3] qT1]⟩
def q8z:Shp:=⟨[(0,.own 0),(1,.d true qT0),(2,.d true qT0),(3,.d true qT0),(4,.fn 64 .nil),(10,.d true .bool),(11,.d true .bool)],[.arr 25 (.fz true) [3] qT1]⟩
def q2t {R:Type} (rec:((Unit×Int×Int×Int×(Unit)×Unit)×(qL2×Unit))→Option qL2)  (a_1:Int) (b_2:Int) (limit_3:Int) (wasBalanced_10:Bool) (wasPartitioned_11:Bool) (data_0:qL2) (nx:(Int×Int×Int×Bool×Bool×qL2)→Option R) (dn:Unit→Option R) (rt:qL2→Option R):Option R :=
 ckB (inR .i64 (b_2 - a_1)) <|
 bif decide ((b_2 - a_1)≤12) then
   bnd (q1k a_1 b_2 data_0) fun r1 =>
   ckB (decide (r1.length=data_0.length)) <|
   rt r1
 else
   bif decide (limit_3=0) then
     bnd (q24 a_1 b_2 data_0) fun r2 =>
     ckB (decide (r2.length=data_0.length)) <|
     rt r2
   else
     bif (!wasBalanced_10) then
       bnd (q1i a_1 b_2 data_0) fun r3 =>
       ckB (decide (r3.length=data_0.length)) <|
       ckB (inR .i64 (limit_3 - 1)) <|
       bnd (q16 r3 a_1 b_2) fun r4 =>
       bif decide (r4.2=2) then
         bnd (q15 a_1 b_2 r3) fun r5 =>
         ckB (decide (r5.length=r3.length)) <|
         ckB (inR .i64 (b_2 - 1)) <|
         ckB (inR .i64 (r4.1 - a_1)) <|
         ckB (inR .i64 ((b_2 - 1) - (r4.1 - a_1))) <|
         bif wasBalanced_10 then
           bif wasPartitioned_11 then
             bnd (qj rec a_1 b_2 (limit_3 - 1) wasBalanced_10 wasPartitioned_11 (b_2 - a_1) ((b_2 - 1) - (r4.1 - a_1)) (decide ((1:Int)=1)) r5) fun oe7 =>
             lk oe7 (fun e7 =>
               bif decide ((0:Int) < a_1) then
                 ckB (inR .i64 (a_1 - 1)) <|
                 ckB (ix (a_1 - 1) e7.length) <|
                 ckB (ix (a_1 - 1) e7.length) <|
                 ckB (ix ((b_2 - 1) - (r4.1 - a_1)) e7.length) <|
                 ckB (ix ((b_2 - 1) - (r4.1 - a_1)) e7.length) <|
                 bnd (qf (e7.getD (Int.toNat (a_1 - 1)) []) (e7.getD (Int.toNat ((b_2 - 1) - (r4.1 - a_1))) [])) fun r8 =>
                 bif (!(decide (r8 < 0))) then
                   bnd (qh a_1 b_2 ((b_2 - 1) - (r4.1 - a_1)) e7) fun r9 =>
                   ckB (decide (r9.2.length=e7.length)) <|
                   nx (r9.1,b_2,(limit_3 - 1),wasBalanced_10,wasPartitioned_11,r9.2)
                 else
                   bnd (qd rec a_1 b_2 (limit_3 - 1) (b_2 - a_1) ((b_2 - 1) - (r4.1 - a_1)) e7) fun oe13 =>
                   lk oe13 (fun e13 =>
                     nx (e13.1,e13.2.1,(limit_3 - 1),e13.2.2.1,e13.2.2.2.1,e13.2.2.2.2)) (fun r=>rt r)
               else
                 bnd (qd rec a_1 b_2 (limit_3 - 1) (b_2 - a_1) ((b_2 - 1) - (r4.1 - a_1)) e7) fun oe14 =>
                 lk oe14 (fun e14 =>
                   nx (e14.1,e14.2.1,(limit_3 - 1),e14.2.2.1,e14.2.2.2.1,e14.2.2.2.2)) (fun r=>rt r)) (fun r=>rt r)
           else
             bnd (qj rec a_1 b_2 (limit_3 - 1) wasBalanced_10 wasPartitioned_11 (b_2 - a_1) ((b_2 - 1) - (r4.1 - a_1)) false r5) fun oe15 =>
             lk oe15 (fun e15 =>
               bif decide ((0:Int) < a_1) then
                 ckB (inR .i64 (a_1 - 1)) <|
                 ckB (ix (a_1 - 1) e15.length) <|
                 ckB (ix (a_1 - 1) e15.length) <|
                 ckB (ix ((b_2 - 1) - (r4.1 - a_1)) e15.length) <|
                 ckB (ix ((b_2 - 1) - (r4.1 - a_1)) e15.length) <|
                 bnd (qf (e15.getD (Int.toNat (a_1 - 1)) []) (e15.getD (Int.toNat ((b_2 - 1) - (r4.1 - a_1))) [])) fun r16 =>
                 bif (!(decide (r16 < 0))) then
                   bnd (qh a_1 b_2 ((b_2 - 1) - (r4.1 - a_1)) e15) fun r17 =>
                   ckB (decide (r17.2.length=e15.length)) <|
                   nx (r17.1,b_2,(limit_3 - 1),wasBalanced_10,wasPartitioned_11,r17.2)
                 else
                   bnd (qd rec a_1 b_2 (limit_3 - 1) (b_2 - a_1) ((b_2 - 1) - (r4.1 - a_1)) e15) fun oe18 =>
                   lk oe18 (fun e18 =>
                     nx (e18.1,e18.2.1,(limit_3 - 1),e18.2.2.1,e18.2.2.2.1,e18.2.2.2.2)) (fun r=>rt r)
               else
                 bnd (qd rec a_1 b_2 (limit_3 - 1) (b_2 - a_1) ((b_2 - 1) - (r4.1 - a_1)) e15) fun oe19 =>
                 lk oe19 (fun e19 =>
                   nx (e19.1,e19.2.1,(limit_3 - 1),e19.2.2.1,e19.2.2.2.1,e19.2.2.2.2)) (fun r=>rt r)) (fun r=>rt r)
         else
           bnd (qj rec a_1 b_2 (limit_3 - 1) wasBalanced_10 wasPartitioned_11 (b_2 - a_1) ((b_2 - 1) - (r4.1 - a_1)) false r5) fun oe20 =>
           lk oe20 (fun e20 =>
             bif decide ((0:Int) < a_1) then
               ckB (inR .i64 (a_1 - 1)) <|
               ckB (ix (a_1 - 1) e20.length) <|
               ckB (ix (a_1 - 1) e20.length) <|
               ckB (ix ((b_2 - 1) - (r4.1 - a_1)) e20.length) <|
               ckB (ix ((b_2 - 1) - (r4.1 - a_1)) e20.length) <|
               bnd (qf (e20.getD (Int.toNat (a_1 - 1)) []) (e20.getD (Int.toNat ((b_2 - 1) - (r4.1 - a_1))) [])) fun r21 =>
               bif (!(decide (r21 < 0))) then
                 bnd (qh a_1 b_2 ((b_2 - 1) - (r4.1 - a_1)) e20) fun r22 =>
                 ckB (decide (r22.2.length=e20.length)) <|
                 nx (r22.1,b_2,(limit_3 - 1),wasBalanced_10,wasPartitioned_11,r22.2)
               else
                 bnd (qd rec a_1 b_2 (limit_3 - 1) (b_2 - a_1) ((b_2 - 1) - (r4.1 - a_1)) e20) fun oe23 =>
                 lk oe23 (fun e23 =>
                   nx (e23.1,e23.2.1,(limit_3 - 1),e23.2.2.1,e23.2.2.2.1,e23.2.2.2.2)) (fun r=>rt r)
             else
               bnd (qd rec a_1 b_2 (limit_3 - 1) (b_2 - a_1) ((b_2 - 1) - (r4.1 - a_1)) e20) fun oe24 =>
               lk oe24 (fun e24 =>
                 nx (e24.1,e24.2.1,(limit_3 - 1),e24.2.2.1,e24.2.2.2.1,e24.2.2.2.2)) (fun r=>rt r)) (fun r=>rt r)
       else
         bif wasBalanced_10 then
           bif wasPartitioned_11 then
             bnd (qj rec a_1 b_2 (limit_3 - 1) wasBalanced_10 wasPartitioned_11 (b_2 - a_1) r4.1 (decide (r4.2=1)) r3) fun oe25 =>
             lk oe25 (fun e25 =>
               bif decide ((0:Int) < a_1) then
                 ckB (inR .i64 (a_1 - 1)) <|
                 ckB (ix (a_1 - 1) e25.length) <|
                 ckB (ix (a_1 - 1) e25.length) <|
                 ckB (ix r4.1 e25.length) <|
                 ckB (ix r4.1 e25.length) <|
                 bnd (qf (e25.getD (Int.toNat (a_1 - 1)) []) (e25.getD (Int.toNat r4.1) [])) fun r26 =>
                 bif (!(decide (r26 < 0))) then
                   bnd (qh a_1 b_2 r4.1 e25) fun r27 =>
                   ckB (decide (r27.2.length=e25.length)) <|
                   nx (r27.1,b_2,(limit_3 - 1),wasBalanced_10,wasPartitioned_11,r27.2)
                 else
                   bnd (qd rec a_1 b_2 (limit_3 - 1) (b_2 - a_1) r4.1 e25) fun oe28 =>
                   lk oe28 (fun e28 =>
                     nx (e28.1,e28.2.1,(limit_3 - 1),e28.2.2.1,e28.2.2.2.1,e28.2.2.2.2)) (fun r=>rt r)
               else
                 bnd (qd rec a_1 b_2 (limit_3 - 1) (b_2 - a_1) r4.1 e25) fun oe29 =>
                 lk oe29 (fun e29 =>
                   nx (e29.1,e29.2.1,(limit_3 - 1),e29.2.2.1,e29.2.2.2.1,e29.2.2.2.2)) (fun r=>rt r)) (fun r=>rt r)
           else
             bnd (qj rec a_1 b_2 (limit_3 - 1) wasBalanced_10 wasPartitioned_11 (b_2 - a_1) r4.1 false r3) fun oe30 =>
             lk oe30 (fun e30 =>
               bif decide ((0:Int) < a_1) then
                 ckB (inR .i64 (a_1 - 1)) <|
                 ckB (ix (a_1 - 1) e30.length) <|
                 ckB (ix (a_1 - 1) e30.length) <|
                 ckB (ix r4.1 e30.length) <|
                 ckB (ix r4.1 e30.length) <|
                 bnd (qf (e30.getD (Int.toNat (a_1 - 1)) []) (e30.getD (Int.toNat r4.1) [])) fun r31 =>
                 bif (!(decide (r31 < 0))) then
                   bnd (qh a_1 b_2 r4.1 e30) fun r32 =>
                   ckB (decide (r32.2.length=e30.length)) <|
                   nx (r32.1,b_2,(limit_3 - 1),wasBalanced_10,wasPartitioned_11,r32.2)
                 else
                   bnd (qd rec a_1 b_2 (limit_3 - 1) (b_2 - a_1) r4.1 e30) fun oe33 =>
                   lk oe33 (fun e33 =>
                     nx (e33.1,e33.2.1,(limit_3 - 1),e33.2.2.1,e33.2.2.2.1,e33.2.2.2.2)) (fun r=>rt r)
               else
                 bnd (qd rec a_1 b_2 (limit_3 - 1) (b_2 - a_1) r4.1 e30) fun oe34 =>
                 lk oe34 (fun e34 =>
                   nx (e34.1,e34.2.1,(limit_3 - 1),e34.2.2.1,e34.2.2.2.1,e34.2.2.2.2)) (fun r=>rt r)) (fun r=>rt r)
         else
           bnd (qj rec a_1 b_2 (limit_3 - 1) wasBalanced_10 wasPartitioned_11 (b_2 - a_1) r4.1 false r3) fun oe35 =>
           lk oe35 (fun e35 =>
             bif decide ((0:Int) < a_1) then
               ckB (inR .i64 (a_1 - 1)) <|
               ckB (ix (a_1 - 1) e35.length) <|
               ckB (ix (a_1 - 1) e35.length) <|
               ckB (ix r4.1 e35.length) <|
               ckB (ix r4.1 e35.length) <|
               bnd (qf (e35.getD (Int.toNat (a_1 - 1)) []) (e35.getD (Int.toNat r4.1) [])) fun r36 =>
               bif (!(decide (r36 < 0))) then
                 bnd (qh a_1 b_2 r4.1 e35) fun r37 =>
                 ckB (decide (r37.2.length=e35.length)) <|
                 nx (r37.1,b_2,(limit_3 - 1),wasBalanced_10,wasPartitioned_11,r37.2)
               else
                 bnd (qd rec a_1 b_2 (limit_3 - 1) (b_2 - a_1) r4.1 e35) fun oe38 =>
                 lk oe38 (fun e38 =>
                   nx (e38.1,e38.2.1,(limit_3 - 1),e38.2.2.1,e38.2.2.2.1,e38.2.2.2.2)) (fun r=>rt r)
             else
               bnd (qd rec a_1 b_2 (limit_3 - 1) (b_2 - a_1) r4.1 e35) fun oe39 =>
               lk oe39 (fun e39 =>
                 nx (e39.1,e39.2.1,(limit_3 - 1),e39.2.2.1,e39.2.2.2.1,e39.2.2.2.2)) (fun r=>rt r)) (fun r=>rt r)
     else
       bnd (q16 data_0 a_1 b_2) fun r40 =>
       bif decide (r40.2=2) then
         bnd (q15 a_1 b_2 data_0) fun r41 =>
         ckB (decide (r41.length=data_0.length)) <|
         ckB (inR .i64 (b_2 - 1)) <|
         ckB (inR .i64 (r40.1 - a_1)) <|
         ckB (inR .i64 ((b_2 - 1) - (r40.1 - a_1))) <|
         bif wasBalanced_10 then
           bif wasPartitioned_11 then
             bnd (qj rec a_1 b_2 limit_3 wasBalanced_10 wasPartitioned_11 (b_2 - a_1) ((b_2 - 1) - (r40.1 - a_1)) (decide ((1:Int)=1)) r41) fun oe42 =>
             lk oe42 (fun e42 =>
               bif decide ((0:Int) < a_1) then
                 ckB (inR .i64 (a_1 - 1)) <|
                 ckB (ix (a_1 - 1) e42.length) <|
                 ckB (ix (a_1 - 1) e42.length) <|
                 ckB (ix ((b_2 - 1) - (r40.1 - a_1)) e42.length) <|
                 ckB (ix ((b_2 - 1) - (r40.1 - a_1)) e42.length) <|
                 bnd (qf (e42.getD (Int.toNat (a_1 - 1)) []) (e42.getD (Int.toNat ((b_2 - 1) - (r40.1 - a_1))) [])) fun r43 =>
                 bif (!(decide (r43 < 0))) then
                   bnd (qh a_1 b_2 ((b_2 - 1) - (r40.1 - a_1)) e42) fun r44 =>
                   ckB (decide (r44.2.length=e42.length)) <|
                   nx (r44.1,b_2,limit_3,wasBalanced_10,wasPartitioned_11,r44.2)
                 else
                   bnd (qd rec a_1 b_2 limit_3 (b_2 - a_1) ((b_2 - 1) - (r40.1 - a_1)) e42) fun oe45 =>
                   lk oe45 (fun e45 =>
                     nx (e45.1,e45.2.1,limit_3,e45.2.2.1,e45.2.2.2.1,e45.2.2.2.2)) (fun r=>rt r)
               else
                 bnd (qd rec a_1 b_2 limit_3 (b_2 - a_1) ((b_2 - 1) - (r40.1 - a_1)) e42) fun oe46 =>
                 lk oe46 (fun e46 =>
                   nx (e46.1,e46.2.1,limit_3,e46.2.2.1,e46.2.2.2.1,e46.2.2.2.2)) (fun r=>rt r)) (fun r=>rt r)
           else
             bnd (qj rec a_1 b_2 limit_3 wasBalanced_10 wasPartitioned_11 (b_2 - a_1) ((b_2 - 1) - (r40.1 - a_1)) false r41) fun oe47 =>
             lk oe47 (fun e47 =>
               bif decide ((0:Int) < a_1) then
                 ckB (inR .i64 (a_1 - 1)) <|
                 ckB (ix (a_1 - 1) e47.length) <|
                 ckB (ix (a_1 - 1) e47.length) <|
                 ckB (ix ((b_2 - 1) - (r40.1 - a_1)) e47.length) <|
                 ckB (ix ((b_2 - 1) - (r40.1 - a_1)) e47.length) <|
                 bnd (qf (e47.getD (Int.toNat (a_1 - 1)) []) (e47.getD (Int.toNat ((b_2 - 1) - (r40.1 - a_1))) [])) fun r48 =>
                 bif (!(decide (r48 < 0))) then
                   bnd (qh a_1 b_2 ((b_2 - 1) - (r40.1 - a_1)) e47) fun r49 =>
                   ckB (decide (r49.2.length=e47.length)) <|
                   nx (r49.1,b_2,limit_3,wasBalanced_10,wasPartitioned_11,r49.2)
                 else
                   bnd (qd rec a_1 b_2 limit_3 (b_2 - a_1) ((b_2 - 1) - (r40.1 - a_1)) e47) fun oe50 =>
                   lk oe50 (fun e50 =>
                     nx (e50.1,e50.2.1,limit_3,e50.2.2.1,e50.2.2.2.1,e50.2.2.2.2)) (fun r=>rt r)
               else
                 bnd (qd rec a_1 b_2 limit_3 (b_2 - a_1) ((b_2 - 1) - (r40.1 - a_1)) e47) fun oe51 =>
                 lk oe51 (fun e51 =>
                   nx (e51.1,e51.2.1,limit_3,e51.2.2.1,e51.2.2.2.1,e51.2.2.2.2)) (fun r=>rt r)) (fun r=>rt r)
         else
           bnd (qj rec a_1 b_2 limit_3 wasBalanced_10 wasPartitioned_11 (b_2 - a_1) ((b_2 - 1) - (r40.1 - a_1)) false r41) fun oe52 =>
           lk oe52 (fun e52 =>
             bif decide ((0:Int) < a_1) then
               ckB (inR .i64 (a_1 - 1)) <|
               ckB (ix (a_1 - 1) e52.length) <|
               ckB (ix (a_1 - 1) e52.length) <|
               ckB (ix ((b_2 - 1) - (r40.1 - a_1)) e52.length) <|
               ckB (ix ((b_2 - 1) - (r40.1 - a_1)) e52.length) <|
               bnd (qf (e52.getD (Int.toNat (a_1 - 1)) []) (e52.getD (Int.toNat ((b_2 - 1) - (r40.1 - a_1))) [])) fun r53 =>
               bif (!(decide (r53 < 0))) then
                 bnd (qh a_1 b_2 ((b_2 - 1) - (r40.1 - a_1)) e52) fun r54 =>
                 ckB (decide (r54.2.length=e52.length)) <|
                 nx (r54.1,b_2,limit_3,wasBalanced_10,wasPartitioned_11,r54.2)
               else
                 bnd (qd rec a_1 b_2 limit_3 (b_2 - a_1) ((b_2 - 1) - (r40.1 - a_1)) e52) fun oe55 =>
                 lk oe55 (fun e55 =>
                   nx (e55.1,e55.2.1,limit_3,e55.2.2.1,e55.2.2.2.1,e55.2.2.2.2)) (fun r=>rt r)
             else
               bnd (qd rec a_1 b_2 limit_3 (b_2 - a_1) ((b_2 - 1) - (r40.1 - a_1)) e52) fun oe56 =>
               lk oe56 (fun e56 =>
                 nx (e56.1,e56.2.1,limit_3,e56.2.2.1,e56.2.2.2.1,e56.2.2.2.2)) (fun r=>rt r)) (fun r=>rt r)
       else
         bif wasBalanced_10 then
           bif wasPartitioned_11 then
             bnd (qj rec a_1 b_2 limit_3 wasBalanced_10 wasPartitioned_11 (b_2 - a_1) r40.1 (decide (r40.2=1)) data_0) fun oe57 =>
             lk oe57 (fun e57 =>
               bif decide ((0:Int) < a_1) then
                 ckB (inR .i64 (a_1 - 1)) <|
                 ckB (ix (a_1 - 1) e57.length) <|
                 ckB (ix (a_1 - 1) e57.length) <|
                 ckB (ix r40.1 e57.length) <|
                 ckB (ix r40.1 e57.length) <|
                 bnd (qf (e57.getD (Int.toNat (a_1 - 1)) []) (e57.getD (Int.toNat r40.1) [])) fun r58 =>
                 bif (!(decide (r58 < 0))) then
                   bnd (qh a_1 b_2 r40.1 e57) fun r59 =>
                   ckB (decide (r59.2.length=e57.length)) <|
                   nx (r59.1,b_2,limit_3,wasBalanced_10,wasPartitioned_11,r59.2)
                 else
                   bnd (qd rec a_1 b_2 limit_3 (b_2 - a_1) r40.1 e57) fun oe60 =>
                   lk oe60 (fun e60 =>
                     nx (e60.1,e60.2.1,limit_3,e60.2.2.1,e60.2.2.2.1,e60.2.2.2.2)) (fun r=>rt r)
               else
                 bnd (qd rec a_1 b_2 limit_3 (b_2 - a_1) r40.1 e57) fun oe61 =>
                 lk oe61 (fun e61 =>
                   nx (e61.1,e61.2.1,limit_3,e61.2.2.1,e61.2.2.2.1,e61.2.2.2.2)) (fun r=>rt r)) (fun r=>rt r)
           else
             bnd (qj rec a_1 b_2 limit_3 wasBalanced_10 wasPartitioned_11 (b_2 - a_1) r40.1 false data_0) fun oe62 =>
             lk oe62 (fun e62 =>
               bif decide ((0:Int) < a_1) then
                 ckB (inR .i64 (a_1 - 1)) <|
                 ckB (ix (a_1 - 1) e62.length) <|
                 ckB (ix (a_1 - 1) e62.length) <|
                 ckB (ix r40.1 e62.length) <|
                 ckB (ix r40.1 e62.length) <|
                 bnd (qf (e62.getD (Int.toNat (a_1 - 1)) []) (e62.getD (Int.toNat r40.1) [])) fun r63 =>
                 bif (!(decide (r63 < 0))) then
                   bnd (qh a_1 b_2 r40.1 e62) fun r64 =>
                   ckB (decide (r64.2.length=e62.length)) <|
                   nx (r64.1,b_2,limit_3,wasBalanced_10,wasPartitioned_11,r64.2)
                 else
                   bnd (qd rec a_1 b_2 limit_3 (b_2 - a_1) r40.1 e62) fun oe65 =>
                   lk oe65 (fun e65 =>
                     nx (e65.1,e65.2.1,limit_3,e65.2.2.1,e65.2.2.2.1,e65.2.2.2.2)) (fun r=>rt r)
               else
                 bnd (qd rec a_1 b_2 limit_3 (b_2 - a_1) r40.1 e62) fun oe66 =>
                 lk oe66 (fun e66 =>
                   nx (e66.1,e66.2.1,limit_3,e66.2.2.1,e66.2.2.2.1,e66.2.2.2.2)) (fun r=>rt r)) (fun r=>rt r)
         else
           bnd (qj rec a_1 b_2 limit_3 wasBalanced_10 wasPartitioned_11 (b_2 - a_1) r40.1 false data_0) fun oe67 =>
           lk oe67 (fun e67 =>
             bif decide ((0:Int) < a_1) then
               ckB (inR .i64 (a_1 - 1)) <|
               ckB (ix (a_1 - 1) e67.length) <|
               ckB (ix (a_1 - 1) e67.length) <|
               ckB (ix r40.1 e67.length) <|
               ckB (ix r40.1 e67.length) <|
               bnd (qf (e67.getD (Int.toNat (a_1 - 1)) []) (e67.getD (Int.toNat r40.1) [])) fun r68 =>
               bif (!(decide (r68 < 0))) then
                 bnd (qh a_1 b_2 r40.1 e67) fun r69 =>
                 ckB (decide (r69.2.length=e67.length)) <|
                 nx (r69.1,b_2,limit_3,wasBalanced_10,wasPartitioned_11,r69.2)
               else
                 bnd (qd rec a_1 b_2 limit_3 (b_2 - a_1) r40.1 e67) fun oe70 =>
                 lk oe70 (fun e70 =>
                   nx (e70.1,e70.2.1,limit_3,e70.2.2.1,e70.2.2.2.1,e70.2.2.2.2)) (fun r=>rt r)
             else
               bnd (qd rec a_1 b_2 limit_3 (b_2 - a_1) r40.1 e67) fun oe71 =>
               lk oe71 (fun e71 =>
                 nx (e71.1,e71.2.1,limit_3,e71.2.2.1,e71.2.2.2.1,e71.2.2.2.2)) (fun r=>rt r)) (fun r=>rt r)
def q9q (rec:((Unit×Int×Int×Int×(Unit)×Unit)×(qL2×Unit))→Option qL2)  (s0:(Int×Int×Int×Bool×Bool×qL2)):Option (Unit⊕qL2) :=
 loopM (fun a=>q2t rec  a.1 a.2.1 a.2.2.1 a.2.2.2.1 a.2.2.2.2.1 a.2.2.2.2.2 (fun a'=>some (.next a')) (fun e=>some (.done e)) (fun r=>some (.ret r))) s0
def q91:Shp:=⟨[(0,.own 0),(1,.d true qT0),(2,.d true qT0),(3,.d true qT0),(4,.fn 64 .nil),(10,.d true .bool),(11,.d true .bool)],[.arr 25 (.fz true) [3] qT1]⟩
def q92:Shp:=⟨[],[]⟩
def q1l (rec:((Unit×Int×Int×Int×(Unit)×Unit)×(qL2×Unit))→Option qL2) (a_1:Int) (b_2:Int) (limit_3:Int) (data_0:qL2):Option qL2 :=
 bnd (q9q rec  (a_1,b_2,limit_3,true,true,data_0)) fun oe72 =>
 lk oe72 (fun e72 =>
   none) (fun r=>some r)
def qaf (a:((Unit×Int×Int×Int×(Unit)×Unit)×(qL2×Unit))):Option qL2 :=
 recM (fun (rec:((Unit×Int×Int×Int×(Unit)×Unit)×(qL2×Unit))→Option qL2) (a:((Unit×Int×Int×Int×(Unit)×Unit)×(qL2×Unit)))=>q1l rec a.1.2.1 a.1.2.2.1 a.1.2.2.2.1 a.2.1) many a
def q6j (a_1:Int) (b_2:Int) (limit_3:Int) (data_0:qL2):Option qL2 :=
 qaf (((),a_1,b_2,limit_3,(()),()),(data_0,()))
def q4g (x_0:qL2):Option qL2 :=
 bnd (ql0 (IntKind.wrap .u64 (x_0.length:Int))) fun r1 =>
 bnd (q6j 0 (x_0.length:Int) r1 x_0) fun r2 =>
 ckB (decide (r2.length=x_0.length)) <|
 some r2
def qit (k_0:Int):Option Bool :=
 some (decide ((1048576:Int) < k_0))
def q2y {R:Type} (s_0:qL1) (v_7:Int) (v_8:Int) (nx:Int→Option R) (dn:Unit→Option R) (rt:Int→Option R):Option R :=
 bif decide (v_8 < v_7) then
   ckB (ix v_8 s_0.length) <|
   ckB (ix v_8 s_0.length) <|
   bnd (qit (s_0.getD (Int.toNat v_8) 0)) fun r1 =>
   bif r1 then
     rt v_8
   else
     ckB (inR .i64 (v_8+1)) <|
     nx (v_8+1)
 else
   dn ()
def qag (s_0:qL1) (v_7:Int) (s0:Int):Option (Unit⊕Int) :=
 loopM (fun a=>q2y s_0 v_7 a (fun a'=>some (.next a')) (fun e=>some (.done e)) (fun r=>some (.ret r))) s0
def q9k:Shp:=⟨[(0,.d false qT1),(1,.fn 79 .nil),(7,.d true qT0),(8,.d true qT0)],[]⟩
def q9y:Shp:=⟨[],[]⟩
def q73 (s_0:qL1):Option Int :=
 bnd (qag s_0 (s_0.length:Int) 0) fun oe2 =>
 lk oe2 (fun e2 =>
   some (-1)) (fun r=>some r)
def q34 (s_0:qL1):Option Bool :=
 bnd (q73 s_0) fun r1 =>
 some (decide ((0:Int)≤r1))
def qc8 {R:Type} (matrix_0:qL2) (v_14:qL2) (v_15:Int) (v_16:Int) (r_40:qL2) (r_41:qL2) (nx:(Int×qL2×qL2)→Option R) (dn:(qL2×qL2)→Option R) (rt:(qL2×Int)→Option R):Option R :=
 bif decide (v_16 < v_15) then
   ckB (ix v_16 v_14.length) <|
   ckB (ix v_16 v_14.length) <|
   ckB (mkOk (matrix_0.length:Int) (matrix_0.length:Int) 8) <|
   ckB (ix v_16 (List.replicate (Int.toNat (matrix_0.length:Int)) (0:Int)).length) <|
   ckB (ix v_16 (List.replicate (Int.toNat (matrix_0.length:Int)) (0:Int)).length) <|
   bnd (q2r (v_14.getD (Int.toNat v_16) [])) fun r1 =>
   ckB (room (r_40.length+1) 24) <|
   ckB (room (r_41.length+1) 24) <|
   ckB (inR .i64 (v_16+1)) <|
   nx ((v_16+1),(r_40++[r1]),(r_41++[((List.replicate (Int.toNat (matrix_0.length:Int)) (0:Int)).set (Int.toNat v_16) 1)]))
 else
   dn (r_40,r_41)
def qoq (matrix_0:qL2) (v_14:qL2) (v_15:Int) (s0:(Int×qL2×qL2)):Option ((qL2×qL2)⊕(qL2×Int)) :=
 loopM (fun a=>qc8 matrix_0 v_14 v_15 a.1 a.2.1 a.2.2 (fun a'=>some (.next a')) (fun e=>some (.done e)) (fun r=>some (.ret r))) s0
def qn3:Shp:=⟨[(0,.d false qT2),(4,.ptr 0),(14,.d false qT2),(15,.d true qT0),(16,.d true qT0)],[.cs 95 2 1 (.cons (.own 1) (.cons (.own 2) .nil)),.arr 25 (.fz true) [3] qT1,.arr 25 (.fz true) [3] qT1]⟩
def qmw:Shp:=⟨[(0,.d false qT2),(4,.ptr 0)],[.cs 95 2 1 (.cons (.own 1) (.cons (.own 2) .nil)),.arr 25 (.fz true) [3] qT1,.arr 25 (.fz true) [3] qT1]⟩
def qc9 {R:Type} (v_55:Int) (v_56:Int) (r_40:qL2) (r_41:qL2) (nx:(Int×qL2×qL2)→Option R) (dn:(qL2×qL2)→Option R) (rt:(qL2×Int)→Option R):Option R :=
 bif decide (v_56 < v_55) then
   bnd (q8w v_56 r_40 r_41) fun r3 =>
   bif (!r3.1) then
     rt ([],5)
   else
     ckB (inR .i64 (v_56+1)) <|
     nx ((v_56+1),r3.2.1,r3.2.2)
 else
   dn (r_40,r_41)
def qou (v_55:Int) (s0:(Int×qL2×qL2)):Option ((qL2×qL2)⊕(qL2×Int)) :=
 loopM (fun a=>qc9 v_55 a.1 a.2.1 a.2.2 (fun a'=>some (.next a')) (fun e=>some (.done e)) (fun r=>some (.ret r))) s0
def qmr:Shp:=⟨[(4,.ptr 0),(55,.d true qT0),(56,.d true qT0)],[.cs 95 2 1 (.cons (.own 1) (.cons (.own 2) .nil)),.arr 25 (.fz true) [3] qT1,.arr 25 (.fz true) [3] qT1]⟩
def qn6:Shp:=⟨[(4,.ptr 0)],[.cs 95 2 1 (.cons (.own 1) (.cons (.own 2) .nil)),.arr 25 (.fz true) [3] qT1,.arr 25 (.fz true) [3] qT1]⟩
def qca {R:Type} (out_9:qL2) (v_73:qL2) (v_74:Int) (v_75:Int) (nx:Int→Option R) (dn:Unit→Option R) (rt:(qL2×Int)→Option R):Option R :=
 bif decide (v_75 < v_74) then
   ckB (ix v_75 v_73.length) <|
   ckB (ix v_75 v_73.length) <|
   bnd (q34 (v_73.getD (Int.toNat v_75) [])) fun r6 =>
   bif r6 then
     rt ([],6)
   else
     ckB (inR .i64 (v_75+1)) <|
     nx (v_75+1)
 else
   dn ()
def qof (out_9:qL2) (v_73:qL2) (v_74:Int) (s0:Int):Option (Unit⊕(qL2×Int)) :=
 loopM (fun a=>qca out_9 v_73 v_74 a (fun a'=>some (.next a')) (fun e=>some (.done e)) (fun r=>some (.ret r))) s0
def qn0:Shp:=⟨[(9,.d true qT2),(73,.d true qT2),(74,.d true qT0),(75,.d true qT0)],[]⟩
def qmz:Shp:=⟨[(9,.d true qT2)],[]⟩
def qgr {R:Type} (r_40:qL2) (r_41:qL2) (dn:Unit→Option R) (rt:(qL2×Int)→Option R):Option R :=
 bnd (q4g r_41) fun r5 =>
 ckB (decide (r5.length=r_41.length)) <|
 bif decide ((1000:Int) < (r5.length:Int)) then
   rt ([],5)
 else
   bnd (qof r5 r5 (r5.length:Int) 0) fun oe7 =>
   lk oe7 (fun e7 =>
     rt (r5,0)) (fun r=>rt r)
def qav (r_40:qL2) (r_41:qL2):Option (Unit⊕(qL2×Int)) :=
 qgr r_40 r_41 (fun e=>some (.inl e)) (fun r=>some (.inr r))
def qmv:Shp:=⟨[(4,.ptr 0)],[.cs 95 2 1 (.cons (.d true qT2) (.cons (.own 1) .nil)),.arr 25 (.fz true) [3] qT1]⟩
def qmk:Shp:=⟨[],[]⟩
def q8n (matrix_0:qL2):Option (qL2×Int) :=
 bnd (qoq matrix_0 matrix_0 (matrix_0.length:Int) (0,[],[])) fun oe2 =>
 lk oe2 (fun e2 =>
   bif decide ((0:Int) < (matrix_0.length:Int)) then
     ckB (ix 0 matrix_0.length) <|
     ckB (ix 0 matrix_0.length) <|
     bnd (qou ((matrix_0.getD 0 []).length:Int) (0,e2.1,e2.2)) fun oe4 =>
     lk oe4 (fun e4 =>
       bnd (qav e4.1 e4.2) fun oe8 =>
       lk oe8 (fun e8 =>
         none) (fun r=>some r)) (fun r=>some r)
   else
     bnd (qav e2.1 e2.2) fun oe9 =>
     lk oe9 (fun e9 =>
       none) (fun r=>some r)) (fun r=>some r)
def qdf {R:Type} (p_5:Int) (v_15:Int) (v_16:Int) (v_21:(List Trans)) (v_22:Int) (n_10:Int) (n_11:(List Trans)) (n_12:Int) (n_13:Int) (matrix_4:qL2) (v_23:Int) (row_6:qL1) (nx:(Int×qL1)→Option R) (dn:qL1→Option R) (rt:(qL2×Int)→Option R):Option R :=
 bif decide (v_23 < v_22) then
   ckB (ix v_23 v_21.length) <|
   ckB (ix v_23 v_21.length) <|
   bnd (q3k (v_21.getD (Int.toNat v_23) Trans.z) p_5) fun r3 =>
   ckB (room (row_6.length+1) 8) <|
   ckB (inR .i64 (v_23+1)) <|
   nx ((v_23+1),(row_6++[r3]))
 else
   dn row_6
def qqy (p_5:Int) (v_15:Int) (v_16:Int) (v_21:(List Trans)) (v_22:Int) (n_10:Int) (n_11:(List Trans)) (n_12:Int) (n_13:Int) (matrix_4:qL2) (s0:(Int×qL1)):Option (qL1⊕(qL2×Int)) :=
 loopM (fun a=>qdf p_5 v_15 v_16 v_21 v_22 n_10 n_11 n_12 n_13 matrix_4 a.1 a.2 (fun a'=>some (.next a')) (fun e=>some (.done e)) (fun r=>some (.ret r))) s0
def qod:Shp:=⟨[(1,.ptr 0),(4,.nl false (.own 1)),(5,.d true qT0),(6,.own 2),(15,.d true qT0),(16,.d true qT0),(21,.d false (.slice Trans.ty)),(22,.d true qT0),(23,.d true qT0)],[.cs 24 4 1 (.cons (.d true qT0) (.cons (.d false (.slice Trans.ty)) (.cons (.d true qT0) (.cons (.d true qT0) .nil)))),.arr 25 (.fz true) [3] qT1,.arr 3 (.fz true) [0] qT0]⟩
def qp6:Shp:=⟨[(1,.ptr 0),(4,.nl false (.own 1)),(6,.own 2),(15,.d true qT0),(16,.d true qT0)],[.cs 24 4 1 (.cons (.d true qT0) (.cons (.d false (.slice Trans.ty)) (.cons (.d true qT0) (.cons (.d true qT0) .nil)))),.arr 25 (.fz true) [3] qT1,.arr 3 (.fz true) [0] qT0]⟩
def qdg {R:Type} (v_15:Int) (n_10:Int) (n_11:(List Trans)) (n_12:Int) (n_13:Int) (v_16:Int) (matrix_4:qL2) (nx:(Int×qL2)→Option R) (dn:qL2→Option R) (rt:(qL2×Int)→Option R):Option R :=
 bif decide (v_16 < v_15) then
   bnd (qqy v_16 v_15 v_16 n_11 (n_11.length:Int) n_10 n_11 n_12 n_13 matrix_4 (0,[])) fun oe4 =>
   lk oe4 (fun e4 =>
     ckB (room (matrix_4.length+1) 24) <|
     ckB (inR .i64 (v_16+1)) <|
     nx ((v_16+1),(matrix_4++[e4]))) (fun r=>rt r)
 else
   dn matrix_4
def qqk (v_15:Int) (n_10:Int) (n_11:(List Trans)) (n_12:Int) (n_13:Int) (s0:(Int×qL2)):Option (qL2⊕(qL2×Int)) :=
 loopM (fun a=>qdg v_15 n_10 n_11 n_12 n_13 a.1 a.2 (fun a'=>some (.next a')) (fun e=>some (.done e)) (fun r=>some (.ret r))) s0
def qoh:Shp:=⟨[(1,.ptr 0),(4,.nl false (.own 1)),(15,.d true qT0),(16,.d true qT0)],[.cs 24 4 1 (.cons (.d true qT0) (.cons (.d false (.slice Trans.ty)) (.cons (.d true qT0) (.cons (.d true qT0) .nil)))),.arr 25 (.fz true) [3] qT1]⟩
def qo9:Shp:=⟨[(4,.nl false (.own 0))],[.arr 25 (.fz true) [3] qT1]⟩
def qtb (n_00:Int) (n_01:(List Trans)) (n_02:Int) (n_03:Int):Option (qL2×Int) :=
 bnd (q59 (n_00,n_01,n_02,n_03,())) fun r1 =>
 bif (!r1) then
   some ([],1)
 else
   bnd (qbn (n_00,n_01,n_02,n_03,())) fun r2 =>
   bif r2 then
     some ([],5)
   else
     bnd (qqk n_00 n_00 n_01 n_02 n_03 (0,[])) fun oe5 =>
     lk oe5 (fun e5 =>
       bnd (q8n e5) fun r6 =>
       some (r6.1,r6.2)) (fun r=>some r)
def q8u {R:Type} (v_15:(List Trans)) (v_16:Int) (v_17:Int) (v_23:Int) (n_10:Int) (n_11:(List Trans)) (n_12:Int) (n_13:Int) (matrix_4:qL2) (t_60:ByteArray) (t_61:qL1) (t_62:qL1) (v_24:Int) (row_7:qL1) (nx:(Int×qL1)→Option R) (dn:qL1→Option R) (rt:(qL2×Int)→Option R):Option R :=
 bif decide (v_24 < v_23) then
   bnd (q3k (t_60,t_61,t_62,()) v_24) fun r3 =>
   ckB (room (row_7.length+1) 8) <|
   ckB (inR .i64 (v_24+1)) <|
   nx ((v_24+1),(row_7++[r3]))
 else
   dn row_7
def qj7 (v_15:(List Trans)) (v_16:Int) (v_17:Int) (v_23:Int) (n_10:Int) (n_11:(List Trans)) (n_12:Int) (n_13:Int) (matrix_4:qL2) (t_60:ByteArray) (t_61:qL1) (t_62:qL1) (s0:(Int×qL1)):Option (qL1⊕(qL2×Int)) :=
 loopM (fun a=>q8u v_15 v_16 v_17 v_23 n_10 n_11 n_12 n_13 matrix_4 t_60 t_61 t_62 a.1 a.2 (fun a'=>some (.next a')) (fun e=>some (.done e)) (fun r=>some (.ret r))) s0
def qi2:Shp:=⟨[(1,.ptr 0),(4,.nl false (.own 1)),(6,.ptr 2),(7,.own 3),(15,.d false (.slice Trans.ty)),(16,.d true qT0),(17,.d true qT0),(23,.d true qT0),(24,.d true qT0)],[.cs 24 4 1 (.cons (.d true qT0) (.cons (.d false (.slice Trans.ty)) (.cons (.d true qT0) (.cons (.d true qT0) .nil)))),.arr 25 (.fz true) [3] qT1,.cs 68 3 1 (.cons (.d true .str) (.cons (.d false qT1) (.cons (.d false qT1) .nil))),.arr 3 (.fz true) [0] qT0]⟩
def qi3:Shp:=⟨[(1,.ptr 0),(4,.nl false (.own 1)),(7,.own 2),(15,.d false (.slice Trans.ty)),(16,.d true qT0),(17,.d true qT0)],[.cs 24 4 1 (.cons (.d true qT0) (.cons (.d false (.slice Trans.ty)) (.cons (.d true qT0) (.cons (.d true qT0) .nil)))),.arr 25 (.fz true) [3] qT1,.arr 3 (.fz true) [0] qT0]⟩
def q8v {R:Type} (v_15:(List Trans)) (v_16:Int) (n_10:Int) (n_11:(List Trans)) (n_12:Int) (n_13:Int) (v_17:Int) (matrix_4:qL2) (nx:(Int×qL2)→Option R) (dn:qL2→Option R) (rt:(qL2×Int)→Option R):Option R :=
 bif decide (v_17 < v_16) then
   ckB (ix v_17 v_15.length) <|
   ckB (ix v_17 v_15.length) <|
   bnd (qj7 v_15 v_16 v_17 n_10 n_10 n_11 n_12 n_13 matrix_4 (v_15.getD (Int.toNat v_17) Trans.z).1 (v_15.getD (Int.toNat v_17) Trans.z).2.1 (v_15.getD (Int.toNat v_17) Trans.z).2.2.1 (0,[])) fun oe4 =>
   lk oe4 (fun e4 =>
     ckB (room (matrix_4.length+1) 24) <|
     ckB (inR .i64 (v_17+1)) <|
     nx ((v_17+1),(matrix_4++[e4]))) (fun r=>rt r)
 else
   dn matrix_4
def qj6 (v_15:(List Trans)) (v_16:Int) (n_10:Int) (n_11:(List Trans)) (n_12:Int) (n_13:Int) (s0:(Int×qL2)):Option (qL2⊕(qL2×Int)) :=
 loopM (fun a=>q8v v_15 v_16 n_10 n_11 n_12 n_13 a.1 a.2 (fun a'=>some (.next a')) (fun e=>some (.done e)) (fun r=>some (.ret r))) s0
def qi4:Shp:=⟨[(1,.ptr 0),(4,.nl false (.own 1)),(15,.d false (.slice Trans.ty)),(16,.d true qT0),(17,.d true qT0)],[.cs 24 4 1 (.cons (.d true qT0) (.cons (.d false (.slice Trans.ty)) (.cons (.d true qT0) (.cons (.d true qT0) .nil)))),.arr 25 (.fz true) [3] qT1]⟩
def qi0:Shp:=⟨[(4,.nl false (.own 0))],[.arr 25 (.fz true) [3] qT1]⟩
def qlu (n_00:Int) (n_01:(List Trans)) (n_02:Int) (n_03:Int):Option (qL2×Int) :=
 bnd (q59 (n_00,n_01,n_02,n_03,())) fun r1 =>
 bif (!r1) then
   some ([],1)
 else
   bnd (qbn (n_00,n_01,n_02,n_03,())) fun r2 =>
   bif r2 then
     some ([],5)
   else
     bnd (qj6 n_01 (n_01.length:Int) n_00 n_01 n_02 n_03 (0,[])) fun oe5 =>
     lk oe5 (fun e5 =>
       bnd (q8n e5) fun r6 =>
       some (r6.1,r6.2)) (fun r=>some r)
def qmi (k_0:Int):Option Bool :=
 bif decide (k_0 < 0) then
   some true
 else
   some (decide ((100:Int) < k_0))
def qa0 {R:Type} (s_0:qL1) (v_7:Int) (v_8:Int) (nx:Int→Option R) (dn:Unit→Option R) (rt:Int→Option R):Option R :=
 bif decide (v_8 < v_7) then
   ckB (ix v_8 s_0.length) <|
   ckB (ix v_8 s_0.length) <|
   bnd (qmi (s_0.getD (Int.toNat v_8) 0)) fun r1 =>
   bif r1 then
     rt v_8
   else
     ckB (inR .i64 (v_8+1)) <|
     nx (v_8+1)
 else
   dn ()
def qhx (s_0:qL1) (v_7:Int) (s0:Int):Option (Unit⊕Int) :=
 loopM (fun a=>qa0 s_0 v_7 a (fun a'=>some (.next a')) (fun e=>some (.done e)) (fun r=>some (.ret r))) s0
def q9r:Shp:=⟨[(0,.d false qT1),(1,.fn 89 .nil),(7,.d true qT0),(8,.d true qT0)],[]⟩
def q9s:Shp:=⟨[],[]⟩
def qbg (s_0:qL1):Option Int :=
 bnd (qhx s_0 (s_0.length:Int) 0) fun oe2 =>
 lk oe2 (fun e2 =>
   some (-1)) (fun r=>some r)
def q9o (s_0:qL1):Option Bool :=
 bnd (qbg s_0) fun r1 =>
 some (decide ((0:Int)≤r1))
def qr6 (n_0:Net) (m_1:qL1):Option Bool :=
 bnd (q59 n_0) fun r1 =>
 bif r1 then
   bif decide ((m_1.length:Int)=n_0.1) then
     bnd (q9o m_1) fun r2 =>
     some (!r2)
   else
     some false
 else
   some false
def qmd (p_0:Int) (p_1:qL1):Option Bool :=
 ckB (ix 0 1) <|
 ckB (ix p_0 p_1.length) <|
 ckB (ix p_0 p_1.length) <|
 some (decide ((p_1.getD (Int.toNat p_0) 0)=0))
def q9p {R:Type} (s_0:qL1) (f_1c0:qL1) (v_7:Int) (v_8:Int) (nx:Int→Option R) (dn:Unit→Option R) (rt:Int→Option R):Option R :=
 bif decide (v_8 < v_7) then
   ckB (ix v_8 s_0.length) <|
   ckB (ix v_8 s_0.length) <|
   bnd (qmd (s_0.getD (Int.toNat v_8) 0) f_1c0) fun r1 =>
   bif r1 then
     rt v_8
   else
     ckB (inR .i64 (v_8+1)) <|
     nx (v_8+1)
 else
   dn ()
def qht (s_0:qL1) (f_1c0:qL1) (v_7:Int) (s0:Int):Option (Unit⊕Int) :=
 loopM (fun a=>q9p s_0 f_1c0 v_7 a (fun a'=>some (.next a')) (fun e=>some (.done e)) (fun r=>some (.ret r))) s0
def q9m:Shp:=⟨[(0,.d false qT1),(1,.fn 90 (.cons (.rp false qT1) .nil)),(7,.d true qT0),(8,.d true qT0)],[]⟩
def q9w:Shp:=⟨[],[]⟩
def qbl (s_0:qL1) (f_1c0:qL1):Option Int :=
 bnd (qht s_0 f_1c0 (s_0.length:Int) 0) fun oe2 =>
 lk oe2 (fun e2 =>
   some (-1)) (fun r=>some r)
def q9x (s_0:qL1) (f_1c0:qL1):Option Bool :=
 bnd (qbl s_0 f_1c0) fun r1 =>
 some (decide ((0:Int)≤r1))
def qqr (t_0:Trans) (m_1:qL1):Option Bool :=
 bnd (q9x t_0.2.1 m_1) fun r1 =>
 some (!r1)
def ql4 {R:Type} (m_1:qL1) (v_14:(List Trans)) (v_15:Int) (v_16:Int) (out_6:qL1) (nx:(Int×qL1)→Option R) (dn:qL1→Option R) (rt:(Int×qL1)→Option R):Option R :=
 bif decide (v_16 < v_15) then
   ckB (ix v_16 v_14.length) <|
   ckB (ix v_16 v_14.length) <|
   bnd (qqr (v_14.getD (Int.toNat v_16) Trans.z) m_1) fun r2 =>
   bif r2 then
     ckB (room (out_6.length+1) 8) <|
     ckB (inR .i64 (v_16+1)) <|
     nx ((v_16+1),(out_6++[v_16]))
   else
     ckB (inR .i64 (v_16+1)) <|
     nx ((v_16+1),out_6)
 else
   dn out_6
def quy (m_1:qL1) (v_14:(List Trans)) (v_15:Int) (s0:(Int×qL1)):Option (qL1⊕(Int×qL1)) :=
 loopM (fun a=>ql4 m_1 v_14 v_15 a.1 a.2 (fun a'=>some (.next a')) (fun e=>some (.done e)) (fun r=>some (.ret r))) s0
def qlr:Shp:=⟨[(1,.d false qT1),(6,.nl false (.own 0)),(14,.d false (.slice Trans.ty)),(15,.d true qT0),(16,.d true qT0)],[.arr 3 (.fz true) [0] qT0]⟩
def qln:Shp:=⟨[(6,.nl false (.own 0))],[.arr 3 (.fz true) [0] qT0]⟩
def qqg (n_0:Net) (m_1:qL1):Option (Int×qL1) :=
 bnd (qr6 n_0 m_1) fun r1 =>
 bif (!r1) then
   some (1,[])
 else
   bnd (quy m_1 n_0.2.1 (n_0.2.1.length:Int) (0,[])) fun oe3 =>
   lk oe3 (fun e3 =>
     some (0,e3)) (fun r=>some r)
def qsb (n_0:Net) (m_1:qL1):Option Bool :=
 bnd (qqg n_0 m_1) fun r1 =>
 some (decide (r1.1=0))
def qn5 {R:Type} (p_5:Int) (v_15:Int) (v_16:Int) (v_21:(List Trans)) (v_22:Int) (n_10:Int) (n_11:(List Trans)) (n_12:Int) (n_13:Int) (matrix_4:qL2) (v_23:Int) (row_6:qL1) (nx:(Int×qL1)→Option R) (dn:qL1→Option R) (rt:(qL2×Int)→Option R):Option R :=
 bif decide (v_23 < v_22) then
   ckB (ix v_23 v_21.length) <|
   ckB (ix v_23 v_21.length) <|
   bnd (q3k (v_21.getD (Int.toNat v_23) Trans.z) p_5) fun r3 =>
   ckB (room (row_6.length+1) 8) <|
   ckB (inR .i64 (v_23+1)) <|
   nx ((v_23+1),(row_6++[r3]))
 else
   dn row_6
def qwl (p_5:Int) (v_15:Int) (v_16:Int) (v_21:(List Trans)) (v_22:Int) (n_10:Int) (n_11:(List Trans)) (n_12:Int) (n_13:Int) (matrix_4:qL2) (s0:(Int×qL1)):Option (qL1⊕(qL2×Int)) :=
 loopM (fun a=>qn5 p_5 v_15 v_16 v_21 v_22 n_10 n_11 n_12 n_13 matrix_4 a.1 a.2 (fun a'=>some (.next a')) (fun e=>some (.done e)) (fun r=>some (.ret r))) s0
def qn8:Shp:=⟨[(1,.ptr 0),(4,.nl false (.own 1)),(5,.d true qT0),(6,.own 2),(15,.d true qT0),(16,.d true qT0),(21,.d false (.slice Trans.ty)),(22,.d true qT0),(23,.d true qT0)],[.cs 24 4 1 (.cons (.d true qT0) (.cons (.d false (.slice Trans.ty)) (.cons (.d true qT0) (.cons (.d true qT0) .nil)))),.arr 25 (.fz true) [3] qT1,.arr 3 (.fz true) [0] qT0]⟩
def qmm:Shp:=⟨[(1,.ptr 0),(4,.nl false (.own 1)),(6,.own 2),(15,.d true qT0),(16,.d true qT0)],[.cs 24 4 1 (.cons (.d true qT0) (.cons (.d false (.slice Trans.ty)) (.cons (.d true qT0) (.cons (.d true qT0) .nil)))),.arr 25 (.fz true) [3] qT1,.arr 3 (.fz true) [0] qT0]⟩
def qmn {R:Type} (v_15:Int) (n_10:Int) (n_11:(List Trans)) (n_12:Int) (n_13:Int) (v_16:Int) (matrix_4:qL2) (nx:(Int×qL2)→Option R) (dn:qL2→Option R) (rt:(qL2×Int)→Option R):Option R :=
 bif decide (v_16 < v_15) then
   bnd (qwl v_16 v_15 v_16 n_11 (n_11.length:Int) n_10 n_11 n_12 n_13 matrix_4 (0,[])) fun oe4 =>
   lk oe4 (fun e4 =>
     ckB (room (matrix_4.length+1) 24) <|
     ckB (inR .i64 (v_16+1)) <|
     nx ((v_16+1),(matrix_4++[e4]))) (fun r=>rt r)
 else
   dn matrix_4
def qow (v_15:Int) (n_10:Int) (n_11:(List Trans)) (n_12:Int) (n_13:Int) (s0:(Int×qL2)):Option (qL2⊕(qL2×Int)) :=
 loopM (fun a=>qmn v_15 n_10 n_11 n_12 n_13 a.1 a.2 (fun a'=>some (.next a')) (fun e=>some (.done e)) (fun r=>some (.ret r))) s0
def qmu:Shp:=⟨[(1,.ptr 0),(4,.nl false (.own 1)),(15,.d true qT0),(16,.d true qT0)],[.cs 24 4 1 (.cons (.d true qT0) (.cons (.d false (.slice Trans.ty)) (.cons (.d true qT0) (.cons (.d true qT0) .nil)))),.arr 25 (.fz true) [3] qT1]⟩
def qmt:Shp:=⟨[(4,.nl false (.own 0))],[.arr 25 (.fz true) [3] qT1]⟩
def qcy (n_0:Net):Option (qL2×Int) :=
 bnd (q59 n_0) fun r1 =>
 bif (!r1) then
   some ([],1)
 else
   bnd (qbn n_0) fun r2 =>
   bif r2 then
     some ([],5)
   else
     bnd (qow n_0.1 n_0.1 n_0.2.1 n_0.2.2.1 n_0.2.2.2.1 (0,[])) fun oe5 =>
     lk oe5 (fun e5 =>
       bnd (q8n e5) fun r6 =>
       some (r6.1,r6.2)) (fun r=>some r)
def qtu {R:Type} (a_0:qL1) (b_1:qL1) (v_8:Int) (s_5:Int) (v_9:Int) (nx:(Int×Int)→Option R) (dn:Int→Option R) (rt:Int→Option R):Option R :=
 bif decide (v_9 < v_8) then
   ckB (ix v_9 a_0.length) <|
   ckB (ix v_9 a_0.length) <|
   ckB (ix v_9 b_1.length) <|
   ckB (ix v_9 b_1.length) <|
   ckB (inR .i64 ((a_0.getD (Int.toNat v_9) 0)*(b_1.getD (Int.toNat v_9) 0))) <|
   ckB (inR .i64 (s_5+((a_0.getD (Int.toNat v_9) 0)*(b_1.getD (Int.toNat v_9) 0)))) <|
   ckB (inR .i64 (v_9+1)) <|
   nx ((s_5+((a_0.getD (Int.toNat v_9) 0)*(b_1.getD (Int.toNat v_9) 0))),(v_9+1))
 else
   dn s_5
def q13d (a_0:qL1) (b_1:qL1) (v_8:Int) (s0:(Int×Int)):Option (Int⊕Int) :=
 loopM (fun a=>qtu a_0 b_1 v_8 a.1 a.2 (fun a'=>some (.next a')) (fun e=>some (.done e)) (fun r=>some (.ret r))) s0
def qtd:Shp:=⟨[(0,.d false qT1),(1,.d false qT1),(5,.d true qT0),(8,.d true qT0),(9,.d true qT0)],[]⟩
def qte:Shp:=⟨[(5,.d true qT0)],[]⟩
def qzg (a_0:qL1) (b_1:qL1):Option Int :=
 bnd (q13d a_0 b_1 (a_0.length:Int) (0,0)) fun oe1 =>
 lk oe1 (fun e1 =>
   some e1) (fun r=>some r)
def qqn {R:Type} (m_1:qL1) (place_2:Int) (v_34:qL2) (v_35:Int) (best_10:Int) (v_36:Int) (nx:(Int×Int)→Option R) (dn:Int→Option R) (rt:(Int×Int)→Option R):Option R :=
 bif decide (v_36 < v_35) then
   ckB (ix v_36 v_34.length) <|
   ckB (ix v_36 v_34.length) <|
   ckB (ix place_2 (v_34.getD (Int.toNat v_36) []).length) <|
   ckB (ix place_2 (v_34.getD (Int.toNat v_36) []).length) <|
   bif decide (((v_34.getD (Int.toNat v_36) []).getD (Int.toNat place_2) 0)=0) then
     ckB (inR .i64 (v_36+1)) <|
     nx (best_10,(v_36+1))
   else
     bnd (qzg (v_34.getD (Int.toNat v_36) []) m_1) fun r3 =>
     ckB (ix place_2 (v_34.getD (Int.toNat v_36) []).length) <|
     ckB (ix place_2 (v_34.getD (Int.toNat v_36) []).length) <|
     ckB (!decide (((v_34.getD (Int.toNat v_36) []).getD (Int.toNat place_2) 0)=0)) <|
     ckB (inR .i64 (Int.tdiv r3 ((v_34.getD (Int.toNat v_36) []).getD (Int.toNat place_2) 0))) <|
     bif decide (best_10 < 0) then
       ckB (inR .i64 (v_36+1)) <|
       nx ((Int.tdiv r3 ((v_34.getD (Int.toNat v_36) []).getD (Int.toNat place_2) 0)),(v_36+1))
     else
       bif decide ((Int.tdiv r3 ((v_34.getD (Int.toNat v_36) []).getD (Int.toNat place_2) 0)) < best_10) then
         ckB (inR .i64 (v_36+1)) <|
         nx ((Int.tdiv r3 ((v_34.getD (Int.toNat v_36) []).getD (Int.toNat place_2) 0)),(v_36+1))
       else
         ckB (inR .i64 (v_36+1)) <|
         nx (best_10,(v_36+1))
 else
   dn best_10
def qz7 (m_1:qL1) (place_2:Int) (v_34:qL2) (v_35:Int) (s0:(Int×Int)):Option (Int⊕(Int×Int)) :=
 loopM (fun a=>qqn m_1 place_2 v_34 v_35 a.1 a.2 (fun a'=>some (.next a')) (fun e=>some (.done e)) (fun r=>some (.ret r))) s0
def qr3:Shp:=⟨[(1,.d false qT1),(2,.d true qT0),(10,.d true qT0),(34,.d true qT2),(35,.d true qT0),(36,.d true qT0)],[]⟩
def qqs:Shp:=⟨[(10,.d true qT0)],[]⟩
def qv0 (n_00:Int) (n_01:(List Trans)) (n_02:Int) (n_03:Int) (m_1:qL1) (place_2:Int):Option (Int×Int) :=
 bnd (qsb (n_00,n_01,n_02,n_03,()) m_1) fun r1 =>
 bif (!r1) then
   some (0,1)
 else
   bif decide (place_2 < 0) then
     some (0,2)
   else
     bif decide (n_00≤place_2) then
       some (0,2)
     else
       bnd (qcy (n_00,n_01,n_02,n_03,())) fun r2 =>
       bif (!decide (r2.2=0)) then
         some (0,r2.2)
       else
         bnd (qz7 m_1 place_2 r2.1 (r2.1.length:Int) ((-1),0)) fun oe4 =>
         lk oe4 (fun e4 =>
           bif decide (e4 < 0) then
             some (0,30)
           else
             some (e4,0)) (fun r=>some r)
def qqx {R:Type} (a_0:qL2) (b_1:qL2) (i_5:Int) (k_6:Int) (nx:Int→Option R) (dn:Unit→Option R) (rt:Bool→Option R):Option R :=
 ckB (ix i_5 a_0.length) <|
 ckB (ix i_5 a_0.length) <|
 bif decide (k_6 < ((a_0.getD (Int.toNat i_5) []).length:Int)) then
   ckB (ix i_5 a_0.length) <|
   ckB (ix i_5 a_0.length) <|
   ckB (ix k_6 (a_0.getD (Int.toNat i_5) []).length) <|
   ckB (ix k_6 (a_0.getD (Int.toNat i_5) []).length) <|
   ckB (ix i_5 b_1.length) <|
   ckB (ix i_5 b_1.length) <|
   ckB (ix k_6 (b_1.getD (Int.toNat i_5) []).length) <|
   ckB (ix k_6 (b_1.getD (Int.toNat i_5) []).length) <|
   bif (!decide (((a_0.getD (Int.toNat i_5) []).getD (Int.toNat k_6) 0)=((b_1.getD (Int.toNat i_5) []).getD (Int.toNat k_6) 0))) then
     rt false
   else
     ckB (inR .i64 (k_6+1)) <|
     nx (k_6+1)
 else
   dn ()
def qzv (a_0:qL2) (b_1:qL2) (i_5:Int) (s0:Int):Option (Unit⊕Bool) :=
 loopM (fun a=>qqx a_0 b_1 i_5 a (fun a'=>some (.next a')) (fun e=>some (.done e)) (fun r=>some (.ret r))) s0
def qqu:Shp:=⟨[(0,.d false qT2),(1,.d false qT2),(5,.d true qT0),(6,.d true qT0)],[]⟩
def qqm:Shp:=⟨[(0,.d false qT2),(1,.d false qT2),(5,.d true qT0)],[]⟩
def qqh {R:Type} (a_0:qL2) (b_1:qL2) (i_5:Int) (nx:Int→Option R) (dn:Unit→Option R) (rt:Bool→Option R):Option R :=
 bif decide (i_5 < (a_0.length:Int)) then
   ckB (ix i_5 a_0.length) <|
   ckB (ix i_5 a_0.length) <|
   ckB (ix i_5 b_1.length) <|
   ckB (ix i_5 b_1.length) <|
   bif (!decide (((a_0.getD (Int.toNat i_5) []).length:Int)=((b_1.getD (Int.toNat i_5) []).length:Int))) then
     rt false
   else
     bnd (qzv a_0 b_1 i_5 0) fun oe1 =>
     lk oe1 (fun e1 =>
       ckB (inR .i64 (i_5+1)) <|
       nx (i_5+1)) (fun r=>rt r)
 else
   dn ()
def qyo (a_0:qL2) (b_1:qL2) (s0:Int):Option (Unit⊕Bool) :=
 loopM (fun a=>qqh a_0 b_1 a (fun a'=>some (.next a')) (fun e=>some (.done e)) (fun r=>some (.ret r))) s0
def qr4:Shp:=⟨[(0,.d false qT2),(1,.d false qT2),(5,.d true qT0)],[]⟩
def qqq:Shp:=⟨[],[]⟩
def qps (a_0:qL2) (b_1:qL2):Option Bool :=
 bif (!decide ((a_0.length:Int)=(b_1.length:Int))) then
   some false
 else
   bnd (qyo a_0 b_1 0) fun oe2 =>
   lk oe2 (fun e2 =>
     some true) (fun r=>some r)
def qnl  : Option Bool :=
 bnd (qtb 3 [(⟨#[97]⟩,[0],[1,2],()),(⟨#[98]⟩,[1,2],[0],())] 0 2) fun r1 =>
 bnd (qlu 3 [(⟨#[97]⟩,[0],[1,2],()),(⟨#[98]⟩,[1,2],[0],())] 0 2) fun r2 =>
 bnd (qv0 3 [(⟨#[97]⟩,[0],[1,2],()),(⟨#[98]⟩,[1,2],[0],())] 0 2 [1,0,0] 2) fun r3 =>
 bif decide (r1.2=0) then
   bnd (qps r1.1 [[1,0,1],[1,1,0]]) fun r4 =>
   bif r4 then
     bif decide (r2.2=0) then
       bnd (qps r2.1 [[1,1]]) fun r5 =>
       bif r5 then
         bif decide (r3.1=1) then
           some (decide (r3.2=0))
         else
           some false
       else
         some false
     else
       some false
   else
     some false
 else
   some false
def qj2 (t_0:Trans):Option Bool :=
 bif decide ((45:Int) < (t_0.2.1.length:Int)) then
   some true
 else
   bif decide ((45:Int) < (t_0.2.2.1.length:Int)) then
     some true
   else
     some (decide ((100:Int) < (ByteArray.size t_0.1:Int)))
def q1g {R:Type} (s_0:(List Trans)) (v_7:Int) (v_8:Int) (nx:Int→Option R) (dn:Unit→Option R) (rt:Int→Option R):Option R :=
 bif decide (v_8 < v_7) then
   ckB (ix v_8 s_0.length) <|
   ckB (ix v_8 s_0.length) <|
   bnd (qj2 (s_0.getD (Int.toNat v_8) Trans.z)) fun r1 =>
   bif r1 then
     rt v_8
   else
     ckB (inR .i64 (v_8+1)) <|
     nx (v_8+1)
 else
   dn ()
def q58 (s_0:(List Trans)) (v_7:Int) (s0:Int):Option (Unit⊕Int) :=
 loopM (fun a=>q1g s_0 v_7 a (fun a'=>some (.next a')) (fun e=>some (.done e)) (fun r=>some (.ret r))) s0
def q4w:Shp:=⟨[(0,.d false (.slice Trans.ty)),(1,.fn 39 .nil),(7,.d true qT0),(8,.d true qT0)],[]⟩
def q4v:Shp:=⟨[],[]⟩
def q2s (s_0:(List Trans)):Option Int :=
 bnd (q58 s_0 (s_0.length:Int) 0) fun oe2 =>
 lk oe2 (fun e2 =>
   some (-1)) (fun r=>some r)
def q1f (s_0:(List Trans)):Option Bool :=
 bnd (q2s s_0) fun r1 =>
 some (decide ((0:Int)≤r1))
def qmo (n_0:Net):Option Bool :=
 bnd (q1f n_0.2.1) fun r1 =>
 bif r1 then
   some false
 else
   bif decide ((100:Int) < (n_0.2.1.length:Int)) then
     some false
   else
     bif decide (n_0.1≤12) then
       bif decide ((n_0.2.1.length:Int)≤14) then
         some true
       else
         bif decide ((20:Int) < n_0.1) then
           some true
         else
           some (decide ((20:Int) < (n_0.2.1.length:Int)))
     else
       bif decide ((20:Int) < n_0.1) then
         some true
       else
         some (decide ((20:Int) < (n_0.2.1.length:Int)))
def q7l {R:Type} (a_0:qL1) (b_1:qL1) (i_5:Int) (nx:Int→Option R) (dn:Unit→Option R) (rt:Bool→Option R):Option R :=
 bif decide (i_5 < (a_0.length:Int)) then
   ckB (ix i_5 a_0.length) <|
   ckB (ix i_5 a_0.length) <|
   bif (!decide ((a_0.getD (Int.toNat i_5) 0)=0)) then
     ckB (ix i_5 b_1.length) <|
     ckB (ix i_5 b_1.length) <|
     bif decide ((b_1.getD (Int.toNat i_5) 0)=0) then
       rt false
     else
       ckB (inR .i64 (i_5+1)) <|
       nx (i_5+1)
   else
     ckB (inR .i64 (i_5+1)) <|
     nx (i_5+1)
 else
   dn ()
def qp2 (a_0:qL1) (b_1:qL1) (s0:Int):Option (Unit⊕Bool) :=
 loopM (fun a=>q7l a_0 b_1 a (fun a'=>some (.next a')) (fun e=>some (.done e)) (fun r=>some (.ret r))) s0
def qmf:Shp:=⟨[(0,.d false qT1),(1,.d false qT1),(5,.d true qT0)],[]⟩
def qmj:Shp:=⟨[],[]⟩
def qh4 (a_0:qL1) (b_1:qL1):Option Bool :=
 bnd (qp2 a_0 b_1 0) fun oe1 =>
 lk oe1 (fun e1 =>
   some true) (fun r=>some r)
def qgv {R:Type} (v_15:(List Trans)) (v_16:Int) (v_17:Int) (v_23:Int) (n_10:Int) (n_11:(List Trans)) (n_12:Int) (n_13:Int) (matrix_4:qL2) (t_60:ByteArray) (t_61:qL1) (t_62:qL1) (v_24:Int) (row_7:qL1) (nx:(Int×qL1)→Option R) (dn:qL1→Option R) (rt:(qL2×Int)→Option R):Option R :=
 bif decide (v_24 < v_23) then
   bnd (q3k (t_60,t_61,t_62,()) v_24) fun r3 =>
   ckB (room (row_7.length+1) 8) <|
   ckB (inR .i64 (v_24+1)) <|
   nx ((v_24+1),(row_7++[r3]))
 else
   dn row_7
def qr9 (v_15:(List Trans)) (v_16:Int) (v_17:Int) (v_23:Int) (n_10:Int) (n_11:(List Trans)) (n_12:Int) (n_13:Int) (matrix_4:qL2) (t_60:ByteArray) (t_61:qL1) (t_62:qL1) (s0:(Int×qL1)):Option (qL1⊕(qL2×Int)) :=
 loopM (fun a=>qgv v_15 v_16 v_17 v_23 n_10 n_11 n_12 n_13 matrix_4 t_60 t_61 t_62 a.1 a.2 (fun a'=>some (.next a')) (fun e=>some (.done e)) (fun r=>some (.ret r))) s0
def qhf:Shp:=⟨[(1,.ptr 0),(4,.nl false (.own 1)),(6,.ptr 2),(7,.own 3),(15,.d false (.slice Trans.ty)),(16,.d true qT0),(17,.d true qT0),(23,.d true qT0),(24,.d true qT0)],[.cs 24 4 1 (.cons (.d true qT0) (.cons (.d false (.slice Trans.ty)) (.cons (.d true qT0) (.cons (.d true qT0) .nil)))),.arr 25 (.fz true) [3] qT1,.cs 68 3 1 (.cons (.d true .str) (.cons (.d false qT1) (.cons (.d false qT1) .nil))),.arr 3 (.fz true) [0] qT0]⟩
def qho:Shp:=⟨[(1,.ptr 0),(4,.nl false (.own 1)),(7,.own 2),(15,.d false (.slice Trans.ty)),(16,.d true qT0),(17,.d true qT0)],[.cs 24 4 1 (.cons (.d true qT0) (.cons (.d false (.slice Trans.ty)) (.cons (.d true qT0) (.cons (.d true qT0) .nil)))),.arr 25 (.fz true) [3] qT1,.arr 3 (.fz true) [0] qT0]⟩
def qgs {R:Type} (v_15:(List Trans)) (v_16:Int) (n_10:Int) (n_11:(List Trans)) (n_12:Int) (n_13:Int) (v_17:Int) (matrix_4:qL2) (nx:(Int×qL2)→Option R) (dn:qL2→Option R) (rt:(qL2×Int)→Option R):Option R :=
 bif decide (v_17 < v_16) then
   ckB (ix v_17 v_15.length) <|
   ckB (ix v_17 v_15.length) <|
   bnd (qr9 v_15 v_16 v_17 n_10 n_10 n_11 n_12 n_13 matrix_4 (v_15.getD (Int.toNat v_17) Trans.z).1 (v_15.getD (Int.toNat v_17) Trans.z).2.1 (v_15.getD (Int.toNat v_17) Trans.z).2.2.1 (0,[])) fun oe4 =>
   lk oe4 (fun e4 =>
     ckB (room (matrix_4.length+1) 24) <|
     ckB (inR .i64 (v_17+1)) <|
     nx ((v_17+1),(matrix_4++[e4]))) (fun r=>rt r)
 else
   dn matrix_4
def qi5 (v_15:(List Trans)) (v_16:Int) (n_10:Int) (n_11:(List Trans)) (n_12:Int) (n_13:Int) (s0:(Int×qL2)):Option (qL2⊕(qL2×Int)) :=
 loopM (fun a=>qgs v_15 v_16 n_10 n_11 n_12 n_13 a.1 a.2 (fun a'=>some (.next a')) (fun e=>some (.done e)) (fun r=>some (.ret r))) s0
def qhp:Shp:=⟨[(1,.ptr 0),(4,.nl false (.own 1)),(15,.d false (.slice Trans.ty)),(16,.d true qT0),(17,.d true qT0)],[.cs 24 4 1 (.cons (.d true qT0) (.cons (.d false (.slice Trans.ty)) (.cons (.d true qT0) (.cons (.d true qT0) .nil)))),.arr 25 (.fz true) [3] qT1]⟩
def qhl:Shp:=⟨[(4,.nl false (.own 0))],[.arr 25 (.fz true) [3] qT1]⟩
def qan (n_0:Net):Option (qL2×Int) :=
 bnd (q59 n_0) fun r1 =>
 bif (!r1) then
   some ([],1)
 else
   bnd (qbn n_0) fun r2 =>
   bif r2 then
     some ([],5)
   else
     bnd (qi5 n_0.2.1 (n_0.2.1.length:Int) n_0.1 n_0.2.1 n_0.2.2.1 n_0.2.2.2.1 (0,[])) fun oe5 =>
     lk oe5 (fun e5 =>
       bnd (q8n e5) fun r6 =>
       some (r6.1,r6.2)) (fun r=>some r)
def q61 {R:Type} (n_1:Int) (v_2:qL1) (some_8:Bool) (by_11:Int) (v_16:qL2) (v_17:Int) (v_18:Int) (v_37:qL1) (v_38:Int) (v_39:Int) (out_7:qL1) (nx:(Int×qL1)→Option R) (dn:qL1→Option R) (rt:(Bool×qL1)→Option R):Option R :=
 bif decide (v_39 < v_38) then
   ckB (ix v_39 v_37.length) <|
   ckB (ix v_39 v_37.length) <|
   bif decide ((v_37.getD (Int.toNat v_39) 0) < 0) then
     rt (false,[])
   else
     bif decide ((1048576:Int) < (v_37.getD (Int.toNat v_39) 0)) then
       rt (false,[])
     else
       ckB (ix v_39 out_7.length) <|
       ckB (ix v_39 out_7.length) <|
       ckB (inR .i64 (by_11*(v_37.getD (Int.toNat v_39) 0))) <|
       ckB (inR .i64 ((out_7.getD (Int.toNat v_39) 0)+(by_11*(v_37.getD (Int.toNat v_39) 0)))) <|
       ckB (ix v_39 out_7.length) <|
       ckB (ix v_39 out_7.length) <|
       ckB (inR .i64 (v_39+1)) <|
       nx ((v_39+1),(out_7.set (Int.toNat v_39) ((out_7.getD (Int.toNat v_39) 0)+(by_11*(v_37.getD (Int.toNat v_39) 0)))))
 else
   dn out_7
def qeh (n_1:Int) (v_2:qL1) (some_8:Bool) (by_11:Int) (v_16:qL2) (v_17:Int) (v_18:Int) (v_37:qL1) (v_38:Int) (s0:(Int×qL1)):Option (qL1⊕(Bool×qL1)) :=
 loopM (fun a=>q61 n_1 v_2 some_8 by_11 v_16 v_17 v_18 v_37 v_38 a.1 a.2 (fun a'=>some (.next a')) (fun e=>some (.done e)) (fun r=>some (.ret r))) s0
def qdu:Shp:=⟨[(1,.d true qT0),(2,.rp false (.slice (.int .u8))),(7,.own 0),(8,.d true .bool),(11,.d true qT0),(16,.d false qT2),(17,.d true qT0),(18,.d true qT0),(37,.d false qT1),(38,.d true qT0),(39,.d true qT0)],[.arr 3 (.fz true) [0] qT0]⟩
def qdv:Shp:=⟨[(1,.d true qT0),(2,.rp false (.slice (.int .u8))),(7,.own 0),(8,.d true .bool),(11,.d true qT0),(16,.d false qT2),(17,.d true qT0),(18,.d true qT0)],[.arr 3 (.fz true) [0] qT0]⟩
def q9e {R:Type} (n_1:Int) (v_2:qL1) (some_8:Bool) (z_10:qL1) (by_11:Int) (v_16:qL2) (v_17:Int) (v_18:Int) (out_7:qL1) (dn:(Bool×qL1)→Option R) (rt:(Bool×qL1)→Option R):Option R :=
 bnd (qeh n_1 v_2 some_8 by_11 v_16 v_17 v_18 z_10 (z_10.length:Int) (0,out_7)) fun oe1 =>
 lk oe1 (fun e1 =>
   bif some_8 then
     dn (true,e1)
   else
     dn (decide ((0:Int) < by_11),e1)) (fun r=>rt r)
def q72 (n_1:Int) (v_2:qL1) (some_8:Bool) (z_10:qL1) (by_11:Int) (v_16:qL2) (v_17:Int) (v_18:Int) (out_7:qL1):Option ((Bool×qL1)⊕(Bool×qL1)) :=
 q9e n_1 v_2 some_8 z_10 by_11 v_16 v_17 v_18 out_7 (fun e=>some (.inl e)) (fun r=>some (.inr r))
def qdx:Shp:=⟨[(1,.d true qT0),(2,.rp false (.slice (.int .u8))),(7,.own 0),(8,.d true .bool),(10,.d false qT1),(11,.d true qT0),(16,.d false qT2),(17,.d true qT0),(18,.d true qT0)],[.arr 3 (.fz true) [0] qT0]⟩
def qdq:Shp:=⟨[(1,.d true qT0),(2,.rp false (.slice (.int .u8))),(7,.own 0),(8,.d true .bool),(16,.d false qT2),(17,.d true qT0),(18,.d true qT0)],[.arr 3 (.fz true) [0] qT0]⟩
def q3w {R:Type} (n_1:Int) (v_2:qL1) (v_16:qL2) (v_17:Int) (some_8:Bool) (v_18:Int) (out_7:qL1) (nx:(Bool×Int×qL1)→Option R) (dn:(Bool×qL1)→Option R) (rt:(Bool×qL1)→Option R):Option R :=
 bif decide (v_18 < v_17) then
   ckB (ix v_18 v_16.length) <|
   ckB (ix v_18 v_16.length) <|
   bif (!decide (((v_16.getD (Int.toNat v_18) []).length:Int)=n_1)) then
     rt (false,[])
   else
     ckB (ix 0 1) <|
     bif decide (v_18 < (v_2.length:Int)) then
       ckB (ix 0 1) <|
       ckB (ix v_18 v_2.length) <|
       ckB (ix v_18 v_2.length) <|
       ckB (!decide ((4:Int)=0)) <|
       ckB (inR .i64 (Int.tmod (v_2.getD (Int.toNat v_18) 0) 4)) <|
       bnd (q72 n_1 v_2 some_8 (v_16.getD (Int.toNat v_18) []) (Int.tmod (v_2.getD (Int.toNat v_18) 0) 4) v_16 v_17 v_18 out_7) fun oe2 =>
       lk oe2 (fun e2 =>
         ckB (inR .i64 (v_18+1)) <|
         nx (e2.1,(v_18+1),e2.2)) (fun r=>rt r)
     else
       bnd (q72 n_1 v_2 some_8 (v_16.getD (Int.toNat v_18) []) 0 v_16 v_17 v_18 out_7) fun oe3 =>
       lk oe3 (fun e3 =>
         ckB (inR .i64 (v_18+1)) <|
         nx (e3.1,(v_18+1),e3.2)) (fun r=>rt r)
 else
   dn (some_8,out_7)
def qev (n_1:Int) (v_2:qL1) (v_16:qL2) (v_17:Int) (s0:(Bool×Int×qL1)):Option ((Bool×qL1)⊕(Bool×qL1)) :=
 loopM (fun a=>q3w n_1 v_2 v_16 v_17 a.1 a.2.1 a.2.2 (fun a'=>some (.next a')) (fun e=>some (.done e)) (fun r=>some (.ret r))) s0
def qdz:Shp:=⟨[(1,.d true qT0),(2,.rp false (.slice (.int .u8))),(7,.own 0),(8,.d true .bool),(16,.d false qT2),(17,.d true qT0),(18,.d true qT0)],[.arr 3 (.fz true) [0] qT0]⟩
def qe3:Shp:=⟨[(7,.own 0),(8,.d true .bool)],[.arr 3 (.fz true) [0] qT0]⟩
def q5l (l_0:qL2) (n_1:Int) (p_2:qL1):Option (Bool×qL1) :=
 ckB (mkOk n_1 n_1 8) <|
 bnd (qev n_1 p_2 l_0 (l_0.length:Int) (false,0,(List.replicate (Int.toNat n_1) (0:Int)))) fun oe4 =>
 lk oe4 (fun e4 =>
   some (e4.1,e4.2)) (fun r=>some r)
def qi6 (k_0:Int):Option Bool :=
 bif decide (k_0 < 0) then
   some true
 else
   some (decide ((1048576:Int) < k_0))
def q30 {R:Type} (s_0:qL1) (v_7:Int) (v_8:Int) (nx:Int→Option R) (dn:Unit→Option R) (rt:Int→Option R):Option R :=
 bif decide (v_8 < v_7) then
   ckB (ix v_8 s_0.length) <|
   ckB (ix v_8 s_0.length) <|
   bnd (qi6 (s_0.getD (Int.toNat v_8) 0)) fun r1 =>
   bif r1 then
     rt v_8
   else
     ckB (inR .i64 (v_8+1)) <|
     nx (v_8+1)
 else
   dn ()
def qad (s_0:qL1) (v_7:Int) (s0:Int):Option (Unit⊕Int) :=
 loopM (fun a=>q30 s_0 v_7 a (fun a'=>some (.next a')) (fun e=>some (.done e)) (fun r=>some (.ret r))) s0
def q9j:Shp:=⟨[(0,.d false qT1),(1,.fn 84 .nil),(7,.d true qT0),(8,.d true qT0)],[]⟩
def qa2:Shp:=⟨[],[]⟩
def q7b (s_0:qL1):Option Int :=
 bnd (qad s_0 (s_0.length:Int) 0) fun oe2 =>
 lk oe2 (fun e2 =>
   some (-1)) (fun r=>some r)
def q35 (s_0:qL1):Option Bool :=
 bnd (q7b s_0) fun r1 =>
 some (decide ((0:Int)≤r1))
def qd8 (l_0:qL1) (n_1:Int):Option Bool :=
 bif decide ((l_0.length:Int)=n_1) then
   bnd (q35 l_0) fun r1 =>
   some (!r1)
 else
   some false
def qnw (k_0:Int):Option Bool :=
 some (!decide (k_0=0))
def q31 {R:Type} (s_0:qL1) (v_7:Int) (v_8:Int) (nx:Int→Option R) (dn:Unit→Option R) (rt:Int→Option R):Option R :=
 bif decide (v_8 < v_7) then
   ckB (ix v_8 s_0.length) <|
   ckB (ix v_8 s_0.length) <|
   bnd (qnw (s_0.getD (Int.toNat v_8) 0)) fun r1 =>
   bif r1 then
     rt v_8
   else
     ckB (inR .i64 (v_8+1)) <|
     nx (v_8+1)
 else
   dn ()
def qae (s_0:qL1) (v_7:Int) (s0:Int):Option (Unit⊕Int) :=
 loopM (fun a=>q31 s_0 v_7 a (fun a'=>some (.next a')) (fun e=>some (.done e)) (fun r=>some (.ret r))) s0
def q9t:Shp:=⟨[(0,.d false qT1),(1,.fn 85 .nil),(7,.d true qT0),(8,.d true qT0)],[]⟩
def qa3:Shp:=⟨[],[]⟩
def q7c (s_0:qL1):Option Int :=
 bnd (qae s_0 (s_0.length:Int) 0) fun oe2 =>
 lk oe2 (fun e2 =>
   some (-1)) (fun r=>some r)
def q5o (s_0:qL1):Option Bool :=
 bnd (q7c s_0) fun r1 =>
 some (decide ((0:Int)≤r1))
def qfo (l_0:qL1):Option Bool :=
 bnd (q5o l_0) fun r1 =>
 some r1
def qbr {R:Type} (y_1:qL1) (v_22:(List Trans)) (v_23:Int) (v_24:Int) (v_28:qL1) (v_29:Int) (t_70:ByteArray) (t_71:qL1) (t_72:qL1) (s_8:Int) (v_30:Int) (nx:(Int×Int)→Option R) (dn:Int→Option R) (rt:(Bool×Int)→Option R):Option R :=
 bif decide (v_30 < v_29) then
   ckB (ix v_30 v_28.length) <|
   ckB (ix v_30 v_28.length) <|
   bnd (q3k (t_70,t_71,t_72,()) v_30) fun r3 =>
   ckB (inR .i64 ((v_28.getD (Int.toNat v_30) 0)*r3)) <|
   ckB (inR .i64 (s_8+((v_28.getD (Int.toNat v_30) 0)*r3))) <|
   ckB (inR .i64 (v_30+1)) <|
   nx ((s_8+((v_28.getD (Int.toNat v_30) 0)*r3)),(v_30+1))
 else
   dn s_8
def qmh (y_1:qL1) (v_22:(List Trans)) (v_23:Int) (v_24:Int) (v_28:qL1) (v_29:Int) (t_70:ByteArray) (t_71:qL1) (t_72:qL1) (s0:(Int×Int)):Option (Int⊕(Bool×Int)) :=
 loopM (fun a=>qbr y_1 v_22 v_23 v_24 v_28 v_29 t_70 t_71 t_72 a.1 a.2 (fun a'=>some (.next a')) (fun e=>some (.done e)) (fun r=>some (.ret r))) s0
def ql3:Shp:=⟨[(1,.d false qT1),(7,.ptr 0),(8,.d true qT0),(22,.d false (.slice Trans.ty)),(23,.d true qT0),(24,.d true qT0),(28,.d false qT1),(29,.d true qT0),(30,.d true qT0)],[.cs 68 3 1 (.cons (.d true .str) (.cons (.d false qT1) (.cons (.d false qT1) .nil)))]⟩
def qla:Shp:=⟨[(1,.d false qT1),(8,.d true qT0),(22,.d false (.slice Trans.ty)),(23,.d true qT0),(24,.d true qT0)],[]⟩
def q8i {R:Type} (y_1:qL1) (v_22:(List Trans)) (v_23:Int) (v_24:Int) (nx:Int→Option R) (dn:Unit→Option R) (rt:(Bool×Int)→Option R):Option R :=
 bif decide (v_24 < v_23) then
   ckB (ix v_24 v_22.length) <|
   ckB (ix v_24 v_22.length) <|
   bnd (qmh y_1 v_22 v_23 v_24 y_1 (y_1.length:Int) (v_22.getD (Int.toNat v_24) Trans.z).1 (v_22.getD (Int.toNat v_24) Trans.z).2.1 (v_22.getD (Int.toNat v_24) Trans.z).2.2.1 (0,0)) fun oe4 =>
   lk oe4 (fun e4 =>
     bif (!decide (e4=0)) then
       rt (false,0)
     else
       ckB (inR .i64 (v_24+1)) <|
       nx (v_24+1)) (fun r=>rt r)
 else
   dn ()
def qnc (y_1:qL1) (v_22:(List Trans)) (v_23:Int) (s0:Int):Option (Unit⊕(Bool×Int)) :=
 loopM (fun a=>q8i y_1 v_22 v_23 a (fun a'=>some (.next a')) (fun e=>some (.done e)) (fun r=>some (.ret r))) s0
def ql6:Shp:=⟨[(1,.d false qT1),(22,.d false (.slice Trans.ty)),(23,.d true qT0),(24,.d true qT0)],[]⟩
def qlg:Shp:=⟨[(1,.d false qT1)],[]⟩
def q9i (n_0:Net) (y_1:qL1):Option (Bool×Int) :=
 bnd (q59 n_0) fun r1 =>
 bif (!r1) then
   some (false,1)
 else
   bnd (qd8 y_1 n_0.1) fun r2 =>
   bif (!r2) then
     some (false,1)
   else
     bnd (qnc y_1 n_0.2.1 (n_0.2.1.length:Int) 0) fun oe5 =>
     lk oe5 (fun e5 =>
       bnd (qfo y_1) fun r6 =>
       some (r6,0)) (fun r=>some r)
def qdb {R:Type} (x_1:qL1) (i_6:Int) (v_13:(List Trans)) (v_14:Int) (v_15:Int) (v_21:Int) (t_70:ByteArray) (t_71:qL1) (t_72:qL1) (v_22:Int) (out_5:qL1) (nx:(Int×qL1)→Option R) (dn:qL1→Option R) (rt:qL1→Option R):Option R :=
 bif decide (v_22 < v_21) then
   ckB (ix v_22 out_5.length) <|
   ckB (ix v_22 out_5.length) <|
   ckB (ix i_6 x_1.length) <|
   ckB (ix i_6 x_1.length) <|
   bnd (q3k (t_70,t_71,t_72,()) v_22) fun r1 =>
   ckB (inR .i64 ((x_1.getD (Int.toNat i_6) 0)*r1)) <|
   ckB (inR .i64 ((out_5.getD (Int.toNat v_22) 0)+((x_1.getD (Int.toNat i_6) 0)*r1))) <|
   ckB (ix v_22 out_5.length) <|
   ckB (ix v_22 out_5.length) <|
   ckB (inR .i64 (v_22+1)) <|
   nx ((v_22+1),(out_5.set (Int.toNat v_22) ((out_5.getD (Int.toNat v_22) 0)+((x_1.getD (Int.toNat i_6) 0)*r1))))
 else
   dn out_5
def qqp (x_1:qL1) (i_6:Int) (v_13:(List Trans)) (v_14:Int) (v_15:Int) (v_21:Int) (t_70:ByteArray) (t_71:qL1) (t_72:qL1) (s0:(Int×qL1)):Option (qL1⊕qL1) :=
 loopM (fun a=>qdb x_1 i_6 v_13 v_14 v_15 v_21 t_70 t_71 t_72 a.1 a.2 (fun a'=>some (.next a')) (fun e=>some (.done e)) (fun r=>some (.ret r))) s0
def qp1:Shp:=⟨[(1,.d false qT1),(5,.own 0),(6,.d true qT0),(7,.ptr 1),(13,.d false (.slice Trans.ty)),(14,.d true qT0),(15,.d true qT0),(21,.d true qT0),(22,.d true qT0)],[.arr 3 (.fz true) [0] qT0,.cs 68 3 1 (.cons (.d true .str) (.cons (.d false qT1) (.cons (.d false qT1) .nil)))]⟩
def qp5:Shp:=⟨[(1,.d false qT1),(5,.own 0),(13,.d false (.slice Trans.ty)),(14,.d true qT0),(15,.d true qT0)],[.arr 3 (.fz true) [0] qT0]⟩
def qdm {R:Type} (x_1:qL1) (v_13:(List Trans)) (v_14:Int) (v_15:Int) (out_5:qL1) (nx:(Int×qL1)→Option R) (dn:qL1→Option R) (rt:qL1→Option R):Option R :=
 bif decide (v_15 < v_14) then
   ckB (ix v_15 v_13.length) <|
   ckB (ix v_15 v_13.length) <|
   bnd (qqp x_1 v_15 v_13 v_14 v_15 (out_5.length:Int) (v_13.getD (Int.toNat v_15) Trans.z).1 (v_13.getD (Int.toNat v_15) Trans.z).2.1 (v_13.getD (Int.toNat v_15) Trans.z).2.2.1 (0,out_5)) fun oe2 =>
   lk oe2 (fun e2 =>
     ckB (inR .i64 (v_15+1)) <|
     nx ((v_15+1),e2)) (fun r=>rt r)
 else
   dn out_5
def qr5 (x_1:qL1) (v_13:(List Trans)) (v_14:Int) (s0:(Int×qL1)):Option (qL1⊕qL1) :=
 loopM (fun a=>qdm x_1 v_13 v_14 a.1 a.2 (fun a'=>some (.next a')) (fun e=>some (.done e)) (fun r=>some (.ret r))) s0
def qp3:Shp:=⟨[(1,.d false qT1),(5,.own 0),(13,.d false (.slice Trans.ty)),(14,.d true qT0),(15,.d true qT0)],[.arr 3 (.fz true) [0] qT0]⟩
def qoc:Shp:=⟨[(5,.own 0)],[.arr 3 (.fz true) [0] qT0]⟩
def qiy (n_0:Net) (x_1:qL1):Option qL1 :=
 ckB (mkOk n_0.1 n_0.1 8) <|
 bnd (qr5 x_1 n_0.2.1 (n_0.2.1.length:Int) (0,(List.replicate (Int.toNat n_0.1) (0:Int)))) fun oe3 =>
 lk oe3 (fun e3 =>
   some e3) (fun r=>some r)
def q3i (n_0:Net) (x_1:qL1):Option (Bool×Int) :=
 bnd (q59 n_0) fun r1 =>
 bif (!r1) then
   some (false,1)
 else
   bnd (qd8 x_1 (n_0.2.1.length:Int)) fun r2 =>
   bif (!r2) then
     some (false,1)
   else
     bnd (qfo x_1) fun r3 =>
     bif r3 then
       bnd (qiy n_0 x_1) fun r4 =>
       bnd (qfo r4) fun r5 =>
       some ((!r5),0)
     else
       some (false,0)
def qgz (a_0:qL1) (b_1:qL1):Option Bool :=
 bif decide ((a_0.length:Int)=(b_1.length:Int)) then
   bnd (qh4 a_0 b_1) fun r1 =>
   some r1
 else
   some false
def q71 (z_0:qL1) (p_1:qL1) (p_2:Int):Option Bool :=
 ckB (ix 0 1) <|
 bnd (qgz z_0 p_1) fun r1 =>
 bif r1 then
   ckB (ix 0 1) <|
   ckB (ix p_2 z_0.length) <|
   ckB (ix p_2 z_0.length) <|
   some (decide ((0:Int) < (z_0.getD (Int.toNat p_2) 0)))
 else
   some false
def q1x {R:Type} (s_0:qL2) (f_1c0:qL1) (f_1c1:Int) (v_7:Int) (v_8:Int) (nx:Int→Option R) (dn:Unit→Option R) (rt:Int→Option R):Option R :=
 bif decide (v_8 < v_7) then
   ckB (ix v_8 s_0.length) <|
   ckB (ix v_8 s_0.length) <|
   bnd (q71 (s_0.getD (Int.toNat v_8) []) f_1c0 f_1c1) fun r1 =>
   bif r1 then
     rt v_8
   else
     ckB (inR .i64 (v_8+1)) <|
     nx (v_8+1)
 else
   dn ()
def qac (s_0:qL2) (f_1c0:qL1) (f_1c1:Int) (v_7:Int) (s0:Int):Option (Unit⊕Int) :=
 loopM (fun a=>q1x s_0 f_1c0 f_1c1 v_7 a (fun a'=>some (.next a')) (fun e=>some (.done e)) (fun r=>some (.ret r))) s0
def q9z:Shp:=⟨[(0,.d false qT2),(1,.fn 25 (.cons (.rp false qT1) (.cons (.rp false qT0) .nil))),(7,.d true qT0),(8,.d true qT0)],[]⟩
def q9l:Shp:=⟨[],[]⟩
def q79 (s_0:qL2) (f_1c0:qL1) (f_1c1:Int):Option Int :=
 bnd (qac s_0 f_1c0 f_1c1 (s_0.length:Int) 0) fun oe2 =>
 lk oe2 (fun e2 =>
   some (-1)) (fun r=>some r)
def q32 (s_0:qL2) (f_1c0:qL1) (f_1c1:Int):Option Bool :=
 bnd (q79 s_0 f_1c0 f_1c1) fun r1 =>
 some (decide ((0:Int)≤r1))
def q3v {R:Type} (l_1:qL2) (v_7:qL1) (v_8:Int) (x_2:qL1) (v_9:Int) (nx:Int→Option R) (dn:Unit→Option R) (rt:Bool→Option R):Option R :=
 bif decide (v_9 < v_8) then
   ckB (ix v_9 v_7.length) <|
   ckB (ix v_9 v_7.length) <|
   bif decide ((0:Int) < (v_7.getD (Int.toNat v_9) 0)) then
     bnd (q32 l_1 x_2 v_9) fun r1 =>
     bif (!r1) then
       rt false
     else
       ckB (inR .i64 (v_9+1)) <|
       nx (v_9+1)
   else
     ckB (inR .i64 (v_9+1)) <|
     nx (v_9+1)
 else
   dn ()
def qed (l_1:qL2) (v_7:qL1) (v_8:Int) (x_2:qL1) (s0:Int):Option (Unit⊕Bool) :=
 loopM (fun a=>q3v l_1 v_7 v_8 x_2 a (fun a'=>some (.next a')) (fun e=>some (.done e)) (fun r=>some (.ret r))) s0
def qdy:Shp:=⟨[(1,.d false qT2),(2,.ptr 0),(7,.d false qT1),(8,.d true qT0),(9,.d true qT0)],[.cs 25 1 1 (.cons (.d false qT1) .nil)]⟩
def qe2:Shp:=⟨[],[]⟩
def q5k (x_0:qL1) (l_1:qL2):Option Bool :=
 bnd (qed l_1 x_0 (x_0.length:Int) x_0 0) fun oe2 =>
 lk oe2 (fun e2 =>
   some true) (fun r=>some r)
def qbb {R:Type} (x_2:qL1) (k_11:qL2) (n_40:Int) (n_41:(List Trans)) (n_42:Int) (n_43:Int) (dn:Unit→Option R) (rt:Bool→Option R):Option R :=
 bnd (q3i (n_40,n_41,n_42,n_43,()) x_2) fun r11 =>
 bif (!decide (r11.2=0)) then
   rt true
 else
   bif (!r11.1) then
     rt true
   else
     bnd (q5k x_2 k_11) fun r12 =>
     rt r12
def q5g (x_2:qL1) (k_11:qL2) (n_40:Int) (n_41:(List Trans)) (n_42:Int) (n_43:Int):Option (Unit⊕Bool) :=
 qbb x_2 k_11 n_40 n_41 n_42 n_43 (fun e=>some (.inl e)) (fun r=>some (.inr r))
def qgc:Shp:=⟨[(2,.d true qT1),(4,.ptr 0),(11,.d true qT2),(22,.fn 23 .nil)],[.cs 24 4 1 (.cons (.d true qT0) (.cons (.d true (.slice Trans.ty)) (.cons (.d true qT0) (.cons (.d true qT0) .nil))))]⟩
def qfs:Shp:=⟨[],[]⟩
def qb4 {R:Type} (y_1:qL1) (x_2:qL1) (l_9:qL2) (k_11:qL2) (n_40:Int) (n_41:(List Trans)) (n_42:Int) (n_43:Int) (dn:Unit→Option R) (rt:Bool→Option R):Option R :=
 bnd (q9i (n_40,n_41,n_42,n_43,()) y_1) fun r9 =>
 bif decide (r9.2=0) then
   bif r9.1 then
     bnd (q5k y_1 l_9) fun r10 =>
     bif (!r10) then
       rt false
     else
       bnd (q5g x_2 k_11 n_40 n_41 n_42 n_43) fun oe13 =>
       lk oe13 (fun e13 =>
         dn ()) (fun r=>rt r)
   else
     bnd (q5g x_2 k_11 n_40 n_41 n_42 n_43) fun oe14 =>
     lk oe14 (fun e14 =>
       dn ()) (fun r=>rt r)
 else
   bnd (q5g x_2 k_11 n_40 n_41 n_42 n_43) fun oe15 =>
   lk oe15 (fun e15 =>
     dn ()) (fun r=>rt r)
def q3s (y_1:qL1) (x_2:qL1) (l_9:qL2) (k_11:qL2) (n_40:Int) (n_41:(List Trans)) (n_42:Int) (n_43:Int):Option (Unit⊕Bool) :=
 qb4 y_1 x_2 l_9 k_11 n_40 n_41 n_42 n_43 (fun e=>some (.inl e)) (fun r=>some (.inr r))
def qfq:Shp:=⟨[(1,.d true qT1),(2,.d true qT1),(4,.ptr 0),(9,.d true qT2),(11,.d true qT2)],[.cs 24 4 1 (.cons (.d true qT0) (.cons (.d true (.slice Trans.ty)) (.cons (.d true qT0) (.cons (.d true qT0) .nil))))]⟩
def qfx:Shp:=⟨[],[]⟩
def qb2 {R:Type} (y_1:qL1) (x_2:qL1) (l_9:qL2) (k_11:qL2) (q_16:qL1) (other_17:Bool) (n_40:Int) (n_41:(List Trans)) (n_42:Int) (n_43:Int) (dn:Unit→Option R) (rt:Bool→Option R):Option R :=
 bnd (q3i (n_40,n_41,n_42,n_43,()) q_16) fun r8 =>
 bif decide (r8.2=0) then
   bif (!(r8.1 == other_17)) then
     rt false
   else
     bif (!decide (r8.2=0)) then
       bif (!decide (r8.2=1)) then
         rt false
       else
         bnd (q3s y_1 x_2 l_9 k_11 n_40 n_41 n_42 n_43) fun oe16 =>
         lk oe16 (fun e16 =>
           dn ()) (fun r=>rt r)
     else
       bnd (q3s y_1 x_2 l_9 k_11 n_40 n_41 n_42 n_43) fun oe17 =>
       lk oe17 (fun e17 =>
         dn ()) (fun r=>rt r)
 else
   bif (!decide (r8.2=0)) then
     bif (!decide (r8.2=1)) then
       rt false
     else
       bnd (q3s y_1 x_2 l_9 k_11 n_40 n_41 n_42 n_43) fun oe18 =>
       lk oe18 (fun e18 =>
         dn ()) (fun r=>rt r)
   else
     bnd (q3s y_1 x_2 l_9 k_11 n_40 n_41 n_42 n_43) fun oe19 =>
     lk oe19 (fun e19 =>
       dn ()) (fun r=>rt r)
def q3r (y_1:qL1) (x_2:qL1) (l_9:qL2) (k_11:qL2) (q_16:qL1) (other_17:Bool) (n_40:Int) (n_41:(List Trans)) (n_42:Int) (n_43:Int):Option (Unit⊕Bool) :=
 qb2 y_1 x_2 l_9 k_11 q_16 other_17 n_40 n_41 n_42 n_43 (fun e=>some (.inl e)) (fun r=>some (.inr r))
def qgb:Shp:=⟨[(1,.d true qT1),(2,.d true qT1),(4,.ptr 0),(9,.d true qT2),(11,.d true qT2),(16,.d true qT1),(17,.d true .bool)],[.cs 24 4 1 (.cons (.d true qT0) (.cons (.d true (.slice Trans.ty)) (.cons (.d true qT0) (.cons (.d true qT0) .nil))))]⟩
def qg2:Shp:=⟨[],[]⟩
def qcz (n_0:Net) (y_1:qL1) (x_2:qL1) (times_3:qL1):Option Bool :=
 bnd (qnl) fun r1 =>
 bif (!r1) then
   some false
 else
   bnd (qmo n_0) fun r2 =>
   bif (!r2) then
     some true
   else
     bif decide ((60:Int) < (y_1.length:Int)) then
       some true
     else
       bif decide ((80:Int) < (x_2.length:Int)) then
         some true
       else
         bif decide ((60:Int) < (times_3.length:Int)) then
           some true
         else
           bnd (qcy n_0) fun r3 =>
           bnd (qan n_0) fun r4 =>
           bif (!decide (r3.2=0)) then
             some true
           else
             bif (!decide (r4.2=0)) then
               some true
             else
               bif decide (n_0.1 < 1) then
                 some true
               else
                 bif decide ((60:Int) < n_0.1) then
                   some true
                 else
                   bnd (q5l r3.1 n_0.1 times_3) fun r5 =>
                   bnd (q5l r4.1 (n_0.2.1.length:Int) times_3) fun r6 =>
                   bnd (q9i n_0 r5.2) fun r7 =>
                   bif decide (r7.2=0) then
                     bif (!(r7.1 == r5.1)) then
                       some false
                     else
                       bif (!decide (r7.2=0)) then
                         bif (!decide (r7.2=1)) then
                           some false
                         else
                           bnd (q3r y_1 x_2 r3.1 r4.1 r6.2 r6.1 n_0.1 n_0.2.1 n_0.2.2.1 n_0.2.2.2.1) fun oe20 =>
                           lk oe20 (fun e20 =>
                             none) (fun r=>some r)
                       else
                         bnd (q3r y_1 x_2 r3.1 r4.1 r6.2 r6.1 n_0.1 n_0.2.1 n_0.2.2.1 n_0.2.2.2.1) fun oe21 =>
                         lk oe21 (fun e21 =>
                           none) (fun r=>some r)
                   else
                     bif (!decide (r7.2=0)) then
                       bif (!decide (r7.2=1)) then
                         some false
                       else
                         bnd (q3r y_1 x_2 r3.1 r4.1 r6.2 r6.1 n_0.1 n_0.2.1 n_0.2.2.1 n_0.2.2.2.1) fun oe22 =>
                         lk oe22 (fun e22 =>
                           none) (fun r=>some r)
                     else
                       bnd (q3r y_1 x_2 r3.1 r4.1 r6.2 r6.1 n_0.1 n_0.2.1 n_0.2.2.1 n_0.2.2.2.1) fun oe23 =>
                       lk oe23 (fun e23 =>
                         none) (fun r=>some r)
end Go.Proofs.Ythakmiiaejhlbaa
