/-
  What the functions compute, as plain functions of Lean. Made by program (mg3.py) out of the translation.
-/
import Derived.Test.YthakmiiaejhlbaaZ6KE
set_option linter.all false
set_option maxRecDepth 100000
namespace Go.Proofs.Ythakmiiaejhlbaa
open Go.K Go.M
abbrev qL1:Type:=List Int
abbrev qL2:Type:=List (List Int)
abbrev qT0:Ty:=.int .i64
abbrev qT1:Ty:=.slice qT0
abbrev qT2:Ty:=.slice qT1
abbrev Trans:Type:=ByteArray×qL1×qL1×Unit
abbrev Trans.z:Trans:=(⟨#[]⟩,[],[],())
def Trans.ty:Ty:=.struct (.cons .str (.cons qT1 (.cons qT1 .nil)))
abbrev Net:Type:=Int×(List Trans)×Int×Int×Unit
abbrev Net.z:Net:=(0,[],0,0,())
def Net.ty:Ty:=.struct (.cons qT0 (.cons (.slice Trans.ty) (.cons qT0 (.cons qT0 .nil))))
abbrev qdn:Type:=qL1×qL1×Unit
abbrev qdn.z:qdn:=([],[],())
def qdn.ty:Ty:=.struct (.cons qT1 (.cons qT1 .nil))
abbrev bytes0:ByteArray:=⟨#[0,1,2,2,3,3,3,3,4,4,4,4,4,4,4,4,5,5,5,5,5,5,5,5,5,5,5,5,5,5,5,5,6,6,6,6,6,6,6,6,6,6,6,6,6,6,6,6,6,6,6,6,6,6,6,6,6,6,6,6,6,6,6,6,7,7,7,7,7,7,7,7,7,7,7,7,7,7,7,7,7,7,7,7,7,7,7,7,7,7,7,7,7,7,7,7,7,7,7,7,7,7,7,7,7,7,7,7,7,7,7,7,7,7,7,7,7,7,7,7,7,7,7,7,7,7,7,7,8,8,8,8,8,8,8,8,8,8,8,8,8,8,8,8,8,8,8,8,8,8,8,8,8,8,8,8,8,8,8,8,8,8,8,8,8,8,8,8,8,8,8,8,8,8,8,8,8,8,8,8,8,8,8,8,8,8,8,8,8,8,8,8,8,8,8,8,8,8,8,8,8,8,8,8,8,8,8,8,8,8,8,8,8,8,8,8,8,8,8,8,8,8,8,8,8,8,8,8,8,8,8,8,8,8,8,8,8,8,8,8,8,8,8,8,8,8,8,8,8,8,8,8,8,8,8,8]⟩
def qcn (c_0:Int):Option Bool :=
 bif decide ((65:Int)≤c_0) then
   bif decide (c_0≤90) then
     some true
   else
     bif decide ((97:Int)≤c_0) then
       some (decide (c_0≤122))
     else
       some false
 else
   bif decide ((97:Int)≤c_0) then
     some (decide (c_0≤122))
   else
     some false
def qn1 (c_0:Int):Option Bool :=
 bnd (qcn c_0) fun r1 =>
 bif r1 then
   some true
 else
   bif decide ((48:Int)≤c_0) then
     bif decide (c_0≤57) then
       some true
     else
       bif decide (c_0=95) then
         some true
       else
         bif decide (c_0=45) then
           some true
         else
           some (decide (c_0=46))
   else
     bif decide (c_0=95) then
       some true
     else
       bif decide (c_0=45) then
         some true
       else
         some (decide (c_0=46))
def q94 {R:Type} (s_0:ByteArray) (v_19:Int) (v_20:Int) (nx:Int→Option R) (dn:Unit→Option R) (rt:Bool→Option R):Option R :=
 bif decide (v_20 < v_19) then
   ckB (ix v_20 (ByteArray.size s_0)) <|
   bnd (qn1 (((ByteArray.data s_0).getD (Int.toNat v_20) 0).toNat:Int)) fun r2 =>
   bif (!r2) then
     rt false
   else
     ckB (inR .i64 (v_20+1)) <|
     nx (v_20+1)
 else
   dn ()
def qqs (s_0:ByteArray) (v_19:Int) (s0:Int):Option (Unit⊕Bool) :=
 loopM (fun a=>q94 s_0 v_19 a (fun a'=>some (.next a')) (fun e=>some (.done e)) (fun r=>some (.ret r))) s0
def qo6:Shp:=⟨[(0,.d true .str),(19,.d true qT0),(20,.d true qT0)],[]⟩
def qoc:Shp:=⟨[],[]⟩
def qhe (s_0:ByteArray):Option Bool :=
 bif decide ((ByteArray.size s_0:Int) < 1) then
   some false
 else
   bif decide ((40:Int) < (ByteArray.size s_0:Int)) then
     some false
   else
     ckB (ix 0 (ByteArray.size s_0)) <|
     bnd (qcn (((ByteArray.data s_0).getD 0 0).toNat:Int)) fun r1 =>
     bif (!r1) then
       some false
     else
       bnd (qqs s_0 (ByteArray.size s_0:Int) 0) fun oe3 =>
       lk oe3 (fun e3 =>
         some true) (fun r=>some r)
def q5o {R:Type} (l_1:qL1) (v_7:qL1) (v_8:Int) (n_20:Int) (n_21:(List Trans)) (n_22:Int) (n_23:Int) (v_9:Int) (nx:Int→Option R) (dn:Unit→Option R) (rt:Bool→Option R):Option R :=
 bif decide (v_9 < v_8) then
   ckB (ix v_9 v_7.length) <|
   ckB (ix v_9 v_7.length) <|
   bif decide ((v_7.getD (Int.toNat v_9) 0) < 0) then
     rt false
   else
     bif decide (n_20≤(v_7.getD (Int.toNat v_9) 0)) then
       rt false
     else
       bif decide ((0:Int) < v_9) then
         ckB (inR .i64 (v_9 - 1)) <|
         ckB (ix (v_9 - 1) l_1.length) <|
         ckB (ix (v_9 - 1) l_1.length) <|
         bif decide ((v_7.getD (Int.toNat v_9) 0)≤(l_1.getD (Int.toNat (v_9 - 1)) 0)) then
           rt false
         else
           ckB (inR .i64 (v_9+1)) <|
           nx (v_9+1)
       else
         ckB (inR .i64 (v_9+1)) <|
         nx (v_9+1)
 else
   dn ()
def qp5 (l_1:qL1) (v_7:qL1) (v_8:Int) (n_20:Int) (n_21:(List Trans)) (n_22:Int) (n_23:Int) (s0:Int):Option (Unit⊕Bool) :=
 loopM (fun a=>q5o l_1 v_7 v_8 n_20 n_21 n_22 n_23 a (fun a'=>some (.next a')) (fun e=>some (.done e)) (fun r=>some (.ret r))) s0
def qn0:Shp:=⟨[(1,.d false qT1),(2,.ptr 0),(7,.d false qT1),(8,.d true qT0),(9,.d true qT0)],[.cs 24 4 1 (.cons (.d true qT0) (.cons (.d false (.slice Trans.ty)) (.cons (.d true qT0) (.cons (.d true qT0) .nil))))]⟩
def qlx:Shp:=⟨[],[]⟩
def q40 (n_0:Net) (l_1:qL1):Option Bool :=
 bnd (qp5 l_1 l_1 (l_1.length:Int) n_0.1 n_0.2.1 n_0.2.2.1 n_0.2.2.2.1 0) fun oe1 =>
 lk oe1 (fun e1 =>
   some true) (fun r=>some r)
def qbj {R:Type} (v_20:(List Trans)) (v_21:Int) (n_10:Int) (n_11:(List Trans)) (n_12:Int) (n_13:Int) (v_22:Int) (nx:Int→Option R) (dn:Unit→Option R) (rt:Bool→Option R):Option R :=
 bif decide (v_22 < v_21) then
   ckB (ix v_22 v_20.length) <|
   ckB (ix v_22 v_20.length) <|
   bif (!(ByteArray.toList (v_20.getD (Int.toNat v_22) Trans.z).1 == ByteArray.toList ⟨#[]⟩)) then
     bnd (qhe (v_20.getD (Int.toNat v_22) Trans.z).1) fun r1 =>
     bif (!r1) then
       rt false
     else
       bnd (q40 (n_10,n_11,n_12,n_13,()) (v_20.getD (Int.toNat v_22) Trans.z).2.1) fun r2 =>
       bif (!r2) then
         rt false
       else
         bnd (q40 (n_10,n_11,n_12,n_13,()) (v_20.getD (Int.toNat v_22) Trans.z).2.2.1) fun r3 =>
         bif (!r3) then
           rt false
         else
           ckB (inR .i64 (v_22+1)) <|
           nx (v_22+1)
   else
     bnd (q40 (n_10,n_11,n_12,n_13,()) (v_20.getD (Int.toNat v_22) Trans.z).2.1) fun r4 =>
     bif (!r4) then
       rt false
     else
       bnd (q40 (n_10,n_11,n_12,n_13,()) (v_20.getD (Int.toNat v_22) Trans.z).2.2.1) fun r5 =>
       bif (!r5) then
         rt false
       else
         ckB (inR .i64 (v_22+1)) <|
         nx (v_22+1)
 else
   dn ()
def qqm (v_20:(List Trans)) (v_21:Int) (n_10:Int) (n_11:(List Trans)) (n_12:Int) (n_13:Int) (s0:Int):Option (Unit⊕Bool) :=
 loopM (fun a=>qbj v_20 v_21 n_10 n_11 n_12 n_13 a (fun a'=>some (.next a')) (fun e=>some (.done e)) (fun r=>some (.ret r))) s0
def qoe:Shp:=⟨[(1,.ptr 0),(20,.d false (.slice Trans.ty)),(21,.d true qT0),(22,.d true qT0)],[.cs 24 4 1 (.cons (.d true qT0) (.cons (.d false (.slice Trans.ty)) (.cons (.d true qT0) (.cons (.d true qT0) .nil))))]⟩
def qod:Shp:=⟨[(1,.ptr 0)],[.cs 24 4 1 (.cons (.d true qT0) (.cons (.d false (.slice Trans.ty)) (.cons (.d true qT0) (.cons (.d true qT0) .nil))))]⟩
def q5c (n_0:Net):Option Bool :=
 bif decide (n_0.1 < 1) then
   some false
 else
   bif decide ((40:Int) < n_0.1) then
     some false
   else
     bif decide ((60:Int) < (n_0.2.1.length:Int)) then
       some false
     else
       bnd (qqm n_0.2.1 (n_0.2.1.length:Int) n_0.1 n_0.2.1 n_0.2.2.1 n_0.2.2.2.1 0) fun oe6 =>
       lk oe6 (fun e6 =>
         bnd (q40 n_0 [n_0.2.2.1]) fun r7 =>
         bif r7 then
           bnd (q40 n_0 [n_0.2.2.2.1]) fun r8 =>
           some r8
         else
           some false) (fun r=>some r)
def qje (n_0:Net):Option Bool :=
 bif decide ((20:Int) < n_0.1) then
   some true
 else
   some (decide ((20:Int) < (n_0.2.1.length:Int)))
def q4h {R:Type} (s_0:qL1) (v_1:Int) (v_7:Int) (v_8:Int) (nx:Int→Option R) (dn:Unit→Option R) (rt:Int→Option R):Option R :=
 bif decide (v_8 < v_7) then
   ckB (ix v_8 s_0.length) <|
   ckB (ix v_8 s_0.length) <|
   bif decide (v_1=(s_0.getD (Int.toNat v_8) 0)) then
     rt v_8
   else
     ckB (inR .i64 (v_8+1)) <|
     nx (v_8+1)
 else
   dn ()
def qcj (s_0:qL1) (v_1:Int) (v_7:Int) (s0:Int):Option (Unit⊕Int) :=
 loopM (fun a=>q4h s_0 v_1 v_7 a (fun a'=>some (.next a')) (fun e=>some (.done e)) (fun r=>some (.ret r))) s0
def qc2:Shp:=⟨[(0,.d false qT1),(1,.d true qT0),(7,.d true qT0),(8,.d true qT0)],[]⟩
def qc1:Shp:=⟨[],[]⟩
def q9w (s_0:qL1) (v_1:Int):Option Int :=
 bnd (qcj s_0 v_1 (s_0.length:Int) 0) fun oe1 =>
 lk oe1 (fun e1 =>
   some (-1)) (fun r=>some r)
def q2a (s_0:qL1) (v_1:Int):Option Bool :=
 bnd (q9w s_0 v_1) fun r1 =>
 some (decide ((0:Int)≤r1))
def q3p (t_0:Trans) (p_1:Int):Option Int :=
 bnd (q2a t_0.2.1 p_1) fun r1 =>
 bnd (q2a t_0.2.2.1 p_1) fun r2 =>
 bif r2 then
   bif (!r1) then
     some 1
   else
     bif r1 then
       bif (!r2) then
         some (-1)
       else
         some 0
     else
       some 0
 else
   bif r1 then
     bif (!r2) then
       some (-1)
     else
       some 0
   else
     some 0
def qci (s_0:qL1):Option qL1 :=
 bif decide ((s_0.length:Int)=0) then
   some []
 else
   ckB (room (0+s_0.length) 8) <|
   some ([]++s_0)
def q88 (s_0:qL1):Option qL1 :=
 ckB (room (0+s_0.length) 8) <|
 some ([]++s_0)
def q3q (s_0:qL1):Option qL1:=q88 s_0
def qta {R:Type} (v_6:qL1) (v_7:Int) (v_8:Int) (g_3:Int) (k_5:Int) (nx:(Int×Int)→Option R) (dn:Int→Option R) (rt:Int→Option R):Option R :=
 bif (!decide (k_5=0)) then
   ckB (!decide (k_5=0)) <|
   nx (k_5,(Int.tmod g_3 k_5))
 else
   dn g_3
def qvj (v_6:qL1) (v_7:Int) (v_8:Int) (s0:(Int×Int)):Option (Int⊕Int) :=
 loopM (fun a=>qta v_6 v_7 v_8 a.1 a.2 (fun a'=>some (.next a')) (fun e=>some (.done e)) (fun r=>some (.ret r))) s0
def qtr:Shp:=⟨[(3,.d true qT0),(5,.d true qT0),(6,.d false qT1),(7,.d true qT0),(8,.d true qT0)],[]⟩
def qt8:Shp:=⟨[(3,.d true qT0),(6,.d false qT1),(7,.d true qT0),(8,.d true qT0)],[]⟩
def qtl {R:Type} (v_6:qL1) (v_7:Int) (g_3:Int) (v_8:Int) (nx:(Int×Int)→Option R) (dn:Int→Option R) (rt:Int→Option R):Option R :=
 bif decide (v_8 < v_7) then
   ckB (ix v_8 v_6.length) <|
   ckB (ix v_8 v_6.length) <|
   bif decide ((v_6.getD (Int.toNat v_8) 0) < 0) then
     ckB (inR .i64 (0 - (v_6.getD (Int.toNat v_8) 0))) <|
     bnd (qvj v_6 v_7 v_8 (g_3,(0 - (v_6.getD (Int.toNat v_8) 0)))) fun oe1 =>
     lk oe1 (fun e1 =>
       ckB (inR .i64 (v_8+1)) <|
       nx (e1,(v_8+1))) (fun r=>rt r)
   else
     bnd (qvj v_6 v_7 v_8 (g_3,(v_6.getD (Int.toNat v_8) 0))) fun oe2 =>
     lk oe2 (fun e2 =>
       ckB (inR .i64 (v_8+1)) <|
       nx (e2,(v_8+1))) (fun r=>rt r)
 else
   dn g_3
def q138 (v_6:qL1) (v_7:Int) (s0:(Int×Int)):Option (Int⊕Int) :=
 loopM (fun a=>qtl v_6 v_7 a.1 a.2 (fun a'=>some (.next a')) (fun e=>some (.done e)) (fun r=>some (.ret r))) s0
def qth:Shp:=⟨[(3,.d true qT0),(6,.d false qT1),(7,.d true qT0),(8,.d true qT0)],[]⟩
def qt0:Shp:=⟨[(3,.d true qT0)],[]⟩
def qus (l_0:qL1):Option Int :=
 bnd (q138 l_0 (l_0.length:Int) (0,0)) fun oe3 =>
 lk oe3 (fun e3 =>
   some e3) (fun r=>some r)
def qrm {R:Type} (v_6:qL1) (v_7:Int) (m_3:Int) (v_8:Int) (nx:(Int×Int)→Option R) (dn:Int→Option R) (rt:Int→Option R):Option R :=
 bif decide (v_8 < v_7) then
   ckB (ix v_8 v_6.length) <|
   ckB (ix v_8 v_6.length) <|
   bif (!decide ((v_6.getD (Int.toNat v_8) 0)=0)) then
     ckB (decide (0≤v_8)) <|
     ckB (inR .i64 (v_8+1)) <|
     nx ((bitI .or .u64 m_3 (shlI .u64 1 v_8)),(v_8+1))
   else
     ckB (inR .i64 (v_8+1)) <|
     nx (m_3,(v_8+1))
 else
   dn m_3
def q10w (v_6:qL1) (v_7:Int) (s0:(Int×Int)):Option (Int⊕Int) :=
 loopM (fun a=>qrm v_6 v_7 a.1 a.2 (fun a'=>some (.next a')) (fun e=>some (.done e)) (fun r=>some (.ret r))) s0
def qrh:Shp:=⟨[(3,.d true (.int .u64)),(6,.d false qT1),(7,.d true qT0),(8,.d true qT0)],[]⟩
def qs4:Shp:=⟨[(3,.d true (.int .u64))],[]⟩
def qay (l_0:qL1):Option Int :=
 bnd (q10w l_0 (l_0.length:Int) (0,0)) fun oe1 =>
 lk oe1 (fun e1 =>
   some e1) (fun r=>some r)
def qk5 {R:Type} (left_1:qL1) (made_2:qL1) (own_9:Int) (v_54:Int) (v_53:qL2) (r_00:qL2) (v_55:Int) (nx:Int→Option R) (dn:Unit→Option R) (rt:(qL2×qL2)→Option R):Option R :=
 bif decide (v_55 < v_54) then
   ckB (ix v_55 v_53.length) <|
   ckB (ix v_55 v_53.length) <|
   bnd (qay (v_53.getD (Int.toNat v_55) [])) fun r4 =>
   bif decide ((bitI .andNot .u64 r4 own_9)=0) then
     rt (r_00,v_53)
   else
     ckB (inR .i64 (v_55+1)) <|
     nx (v_55+1)
 else
   dn ()
def qvv (left_1:qL1) (made_2:qL1) (own_9:Int) (v_54:Int) (v_53:qL2) (r_00:qL2) (s0:Int):Option (Unit⊕(qL2×qL2)) :=
 loopM (fun a=>qk5 left_1 made_2 own_9 v_54 v_53 r_00 a (fun a'=>some (.next a')) (fun e=>some (.done e)) (fun r=>some (.ret r))) s0
def qki:Shp:=⟨[(0,.ptr 0),(1,.d true qT1),(2,.d true qT1),(9,.d true (.int .u64)),(53,.own 1),(54,.d true qT0),(55,.d true qT0)],[.cs 95 2 1 (.cons (.own 2) (.cons (.own 1) .nil)),.arr 25 (.fz true) [3] qT1,.arr 25 (.fz true) [3] qT1]⟩
def qk7:Shp:=⟨[(0,.ptr 0),(1,.d true qT1),(2,.d true qT1),(9,.d true (.int .u64))],[.cs 95 2 1 (.cons (.own 1) (.cons (.own 2) .nil)),.arr 25 (.fz true) [3] qT1,.arr 25 (.fz true) [3] qT1]⟩
def qla {R:Type} (left_1:qL1) (made_2:qL1) (own_9:Int) (v_69:qL2) (v_70:Int) (r_00:qL2) (r_01:qL2) (v_71:Int) (keep_120:qL2) (keep_121:qL2) (nx:(Int×qL2×qL2)→Option R) (dn:(qL2×qL2)→Option R) (rt:(qL2×qL2)→Option R):Option R :=
 bif decide (v_71 < v_70) then
   ckB (ix v_71 v_69.length) <|
   ckB (ix v_71 v_69.length) <|
   bnd (qay (v_69.getD (Int.toNat v_71) [])) fun r6 =>
   bif (!decide ((bitI .andNot .u64 own_9 r6)=0)) then
     ckB (ix v_71 r_00.length) <|
     ckB (ix v_71 r_00.length) <|
     ckB (room (keep_120.length+1) 24) <|
     ckB (room (keep_121.length+1) 24) <|
     ckB (inR .i64 (v_71+1)) <|
     nx ((v_71+1),(keep_120++[(r_00.getD (Int.toNat v_71) [])]),(keep_121++[(v_69.getD (Int.toNat v_71) [])]))
   else
     ckB (inR .i64 (v_71+1)) <|
     nx ((v_71+1),keep_120,keep_121)
 else
   dn (keep_120,keep_121)
def qw6 (left_1:qL1) (made_2:qL1) (own_9:Int) (v_69:qL2) (v_70:Int) (r_00:qL2) (r_01:qL2) (s0:(Int×qL2×qL2)):Option ((qL2×qL2)⊕(qL2×qL2)) :=
 loopM (fun a=>qla left_1 made_2 own_9 v_69 v_70 r_00 r_01 a.1 a.2.1 a.2.2 (fun a'=>some (.next a')) (fun e=>some (.done e)) (fun r=>some (.ret r))) s0
def qlg:Shp:=⟨[(0,.ptr 0),(1,.d true qT1),(2,.d true qT1),(9,.d true (.int .u64)),(12,.ptr 1),(69,.d true qT2),(70,.d true qT0),(71,.d true qT0)],[.cs 95 2 1 (.cons (.d true qT2) (.cons (.d true qT2) .nil)),.cs 95 2 1 (.cons (.own 2) (.cons (.own 3) .nil)),.arr 25 (.fz true) [3] qT1,.arr 25 (.fz true) [3] qT1]⟩
def qkv:Shp:=⟨[(0,.ptr 0),(1,.d true qT1),(2,.d true qT1),(12,.ptr 1)],[.cs 95 2 1 (.cons (.d true qT2) (.cons (.d true qT2) .nil)),.cs 95 2 1 (.cons (.own 2) (.cons (.own 3) .nil)),.arr 25 (.fz true) [3] qT1,.arr 25 (.fz true) [3] qT1]⟩
def qq8 (left_1:qL1) (made_2:qL1) (r_00:qL2) (r_01:qL2):Option (qL2×qL2) :=
 bnd (q3q left_1) fun r1 =>
 ckB (room (r1.length+made_2.length) 8) <|
 bnd (qus (r1++made_2)) fun r2 =>
 bif decide ((1:Int) < r2) then
   none
 else
   bnd (qay made_2) fun r3 =>
   bnd (qvv left_1 made_2 r3 (r_01.length:Int) r_01 r_00 0) fun oe5 =>
   lk oe5 (fun e5 =>
     bnd (qw6 left_1 made_2 r3 r_01 (r_01.length:Int) r_00 r_01 (0,[],[])) fun oe7 =>
     lk oe7 (fun e7 =>
       ckB (room (e7.1.length+1) 24) <|
       ckB (room (e7.2.length+1) 24) <|
       some ((e7.1++[left_1]),(e7.2++[made_2]))) (fun r=>some r)) (fun r=>some r)
def qt3 {R:Type} (x_0:Int) (a_1:qL1) (y_2:Int) (b_3:qL1) (v_15:Int) (v_16:Int) (out_9:qL1) (nx:(Int×qL1)→Option R) (dn:qL1→Option R) (rt:qL1→Option R):Option R :=
 bif decide (v_16 < v_15) then
   ckB (ix v_16 a_1.length) <|
   ckB (ix v_16 a_1.length) <|
   ckB (inR .i64 (x_0*(a_1.getD (Int.toNat v_16) 0))) <|
   ckB (ix v_16 b_3.length) <|
   ckB (ix v_16 b_3.length) <|
   ckB (inR .i64 (y_2*(b_3.getD (Int.toNat v_16) 0))) <|
   ckB (inR .i64 ((x_0*(a_1.getD (Int.toNat v_16) 0))+(y_2*(b_3.getD (Int.toNat v_16) 0)))) <|
   ckB (ix v_16 out_9.length) <|
   ckB (ix v_16 out_9.length) <|
   ckB (inR .i64 (v_16+1)) <|
   nx ((v_16+1),(out_9.set (Int.toNat v_16) ((x_0*(a_1.getD (Int.toNat v_16) 0))+(y_2*(b_3.getD (Int.toNat v_16) 0)))))
 else
   dn out_9
def q12a (x_0:Int) (a_1:qL1) (y_2:Int) (b_3:qL1) (v_15:Int) (s0:(Int×qL1)):Option (qL1⊕qL1) :=
 loopM (fun a=>qt3 x_0 a_1 y_2 b_3 v_15 a.1 a.2 (fun a'=>some (.next a')) (fun e=>some (.done e)) (fun r=>some (.ret r))) s0
def qsz:Shp:=⟨[(0,.d true qT0),(1,.d false qT1),(2,.d true qT0),(3,.d false qT1),(9,.own 0),(15,.d true qT0),(16,.d true qT0)],[.arr 3 (.fz true) [0] qT0]⟩
def qt1:Shp:=⟨[(9,.own 0)],[.arr 3 (.fz true) [0] qT0]⟩
def qu3 (x_0:Int) (a_1:qL1) (y_2:Int) (b_3:qL1):Option qL1 :=
 ckB (mkOk (a_1.length:Int) (a_1.length:Int) 8) <|
 bnd (q12a x_0 a_1 y_2 b_3 (a_1.length:Int) (0,(List.replicate (Int.toNat (a_1.length:Int)) (0:Int)))) fun oe1 =>
 lk oe1 (fun e1 =>
   some e1) (fun r=>some r)
def qir {R:Type} (g_6:Int) (v_23:Int) (made_2:qL1) (r_00:qL2) (r_01:qL2) (v_24:Int) (left_1:qL1) (nx:(Int×qL1)→Option R) (dn:qL1→Option R) (rt:(qL2×qL2×qL1×qL1)→Option R):Option R :=
 bif decide (v_24 < v_23) then
   ckB (ix v_24 left_1.length) <|
   ckB (ix v_24 left_1.length) <|
   ckB (!decide (g_6=0)) <|
   ckB (inR .i64 (Int.tdiv (left_1.getD (Int.toNat v_24) 0) g_6)) <|
   ckB (ix v_24 left_1.length) <|
   ckB (ix v_24 left_1.length) <|
   ckB (inR .i64 (v_24+1)) <|
   nx ((v_24+1),(left_1.set (Int.toNat v_24) (Int.tdiv (left_1.getD (Int.toNat v_24) 0) g_6)))
 else
   dn left_1
def qum (g_6:Int) (v_23:Int) (made_2:qL1) (r_00:qL2) (r_01:qL2) (s0:(Int×qL1)):Option (qL1⊕(qL2×qL2×qL1×qL1)) :=
 loopM (fun a=>qir g_6 v_23 made_2 r_00 r_01 a.1 a.2 (fun a'=>some (.next a')) (fun e=>some (.done e)) (fun r=>some (.ret r))) s0
def qio:Shp:=⟨[(0,.ptr 0),(1,.own 1),(2,.own 2),(6,.d true qT0),(23,.d true qT0),(24,.d true qT0)],[.cs 95 2 1 (.cons (.own 3) (.cons (.own 4) .nil)),.arr 3 (.fz true) [0] qT0,.arr 3 (.fz true) [0] qT0,.arr 25 (.fz true) [3] qT1,.arr 25 (.fz true) [3] qT1]⟩
def qiu:Shp:=⟨[(0,.ptr 0),(1,.own 1),(2,.own 2),(6,.d true qT0)],[.cs 95 2 1 (.cons (.own 3) (.cons (.own 4) .nil)),.arr 3 (.fz true) [0] qT0,.arr 3 (.fz true) [0] qT0,.arr 25 (.fz true) [3] qT1,.arr 25 (.fz true) [3] qT1]⟩
def qj2 {R:Type} (left_1:qL1) (g_6:Int) (v_36:Int) (r_00:qL2) (r_01:qL2) (v_37:Int) (made_2:qL1) (k4:qL1) (nx:(Int×qL1×qL1)→Option R) (dn:(qL1×qL1)→Option R) (rt:(qL2×qL2×qL1×qL1)→Option R):Option R :=
 bif decide (v_37 < v_36) then
   ckB (ix v_37 made_2.length) <|
   ckB (ix v_37 made_2.length) <|
   ckB (!decide (g_6=0)) <|
   ckB (inR .i64 (Int.tdiv (made_2.getD (Int.toNat v_37) 0) g_6)) <|
   ckB (ix v_37 made_2.length) <|
   ckB (ix v_37 made_2.length) <|
   ckB (inR .i64 (v_37+1)) <|
   nx ((v_37+1),(made_2.set (Int.toNat v_37) (Int.tdiv (made_2.getD (Int.toNat v_37) 0) g_6)),[])
 else
   dn (made_2,[])
def quc (left_1:qL1) (g_6:Int) (v_36:Int) (r_00:qL2) (r_01:qL2) (s0:(Int×qL1×qL1)):Option ((qL1×qL1)⊕(qL2×qL2×qL1×qL1)) :=
 loopM (fun a=>qj2 left_1 g_6 v_36 r_00 r_01 a.1 a.2.1 a.2.2 (fun a'=>some (.next a')) (fun e=>some (.done e)) (fun r=>some (.ret r))) s0
def qiz:Shp:=⟨[(0,.ptr 0),(1,.d true qT1),(2,.own 1),(6,.d true qT0),(36,.d true qT0),(37,.d true qT0)],[.cs 95 2 1 (.cons (.own 2) (.cons (.own 3) .nil)),.arr 3 (.fz true) [0] qT0,.arr 25 (.fz true) [3] qT1,.arr 25 (.fz true) [3] qT1,.arr 0 (.fz true) [] qT0]⟩
def qiw:Shp:=⟨[(0,.ptr 0),(1,.d true qT1),(2,.own 1)],[.cs 95 2 1 (.cons (.own 2) (.cons (.own 3) .nil)),.arr 3 (.fz true) [0] qT0,.arr 25 (.fz true) [3] qT1,.arr 25 (.fz true) [3] qT1,.arr 0 (.fz true) [] qT0]⟩
def qiq {R:Type} (left_1:qL1) (made_2:qL1) (own_9:Int) (v_54:Int) (v_53:qL2) (r_00:qL2) (v_55:Int) (k3:qL1) (k4:qL1) (nx:(Int×qL1×qL1)→Option R) (dn:(qL1×qL1)→Option R) (rt:(qL2×qL2×qL1×qL1)→Option R):Option R :=
 bif decide (v_55 < v_54) then
   ckB (ix v_55 v_53.length) <|
   ckB (ix v_55 v_53.length) <|
   bnd (qay (v_53.getD (Int.toNat v_55) [])) fun r6 =>
   bif decide ((bitI .andNot .u64 r6 own_9)=0) then
     rt (r_00,v_53,[],[])
   else
     ckB (inR .i64 (v_55+1)) <|
     nx ((v_55+1),[],[])
 else
   dn ([],[])
def quv (left_1:qL1) (made_2:qL1) (own_9:Int) (v_54:Int) (v_53:qL2) (r_00:qL2) (s0:(Int×qL1×qL1)):Option ((qL1×qL1)⊕(qL2×qL2×qL1×qL1)) :=
 loopM (fun a=>qiq left_1 made_2 own_9 v_54 v_53 r_00 a.1 a.2.1 a.2.2 (fun a'=>some (.next a')) (fun e=>some (.done e)) (fun r=>some (.ret r))) s0
def qj7:Shp:=⟨[(0,.ptr 0),(1,.d true qT1),(2,.d true qT1),(9,.d true (.int .u64)),(53,.own 1),(54,.d true qT0),(55,.d true qT0)],[.cs 95 2 1 (.cons (.own 2) (.cons (.own 1) .nil)),.arr 25 (.fz true) [3] qT1,.arr 25 (.fz true) [3] qT1,.arr 0 (.fz true) [] qT0,.arr 0 (.fz true) [] qT0]⟩
def qj9:Shp:=⟨[(0,.ptr 0),(1,.d true qT1),(2,.d true qT1),(9,.d true (.int .u64))],[.cs 95 2 1 (.cons (.own 1) (.cons (.own 2) .nil)),.arr 25 (.fz true) [3] qT1,.arr 25 (.fz true) [3] qT1,.arr 0 (.fz true) [] qT0,.arr 0 (.fz true) [] qT0]⟩
def qj3 {R:Type} (left_1:qL1) (made_2:qL1) (own_9:Int) (v_69:qL2) (v_70:Int) (r_00:qL2) (r_01:qL2) (v_71:Int) (keep_120:qL2) (keep_121:qL2) (k4:qL1) (nx:(Int×qL2×qL2×qL1)→Option R) (dn:(qL2×qL2×qL1)→Option R) (rt:(qL2×qL2×qL1×qL1)→Option R):Option R :=
 bif decide (v_71 < v_70) then
   ckB (ix v_71 v_69.length) <|
   ckB (ix v_71 v_69.length) <|
   bnd (qay (v_69.getD (Int.toNat v_71) [])) fun r8 =>
   bif (!decide ((bitI .andNot .u64 own_9 r8)=0)) then
     ckB (ix v_71 r_00.length) <|
     ckB (ix v_71 r_00.length) <|
     ckB (room (keep_120.length+1) 24) <|
     ckB (room (keep_121.length+1) 24) <|
     ckB (inR .i64 (v_71+1)) <|
     nx ((v_71+1),(keep_120++[(r_00.getD (Int.toNat v_71) [])]),(keep_121++[(v_69.getD (Int.toNat v_71) [])]),[])
   else
     ckB (inR .i64 (v_71+1)) <|
     nx ((v_71+1),keep_120,keep_121,[])
 else
   dn (keep_120,keep_121,[])
def que (left_1:qL1) (made_2:qL1) (own_9:Int) (v_69:qL2) (v_70:Int) (r_00:qL2) (r_01:qL2) (s0:(Int×qL2×qL2×qL1)):Option ((qL2×qL2×qL1)⊕(qL2×qL2×qL1×qL1)) :=
 loopM (fun a=>qj3 left_1 made_2 own_9 v_69 v_70 r_00 r_01 a.1 a.2.1 a.2.2.1 a.2.2.2 (fun a'=>some (.next a')) (fun e=>some (.done e)) (fun r=>some (.ret r))) s0
def qj8:Shp:=⟨[(0,.ptr 0),(1,.d true qT1),(2,.d true qT1),(9,.d true (.int .u64)),(12,.ptr 1),(69,.d true qT2),(70,.d true qT0),(71,.d true qT0)],[.cs 95 2 1 (.cons (.d true qT2) (.cons (.d true qT2) .nil)),.cs 95 2 1 (.cons (.own 2) (.cons (.own 3) .nil)),.arr 25 (.fz true) [3] qT1,.arr 25 (.fz true) [3] qT1,.arr 0 (.fz true) [] qT0]⟩
def qj5:Shp:=⟨[(0,.ptr 0),(1,.d true qT1),(2,.d true qT1),(12,.ptr 1)],[.cs 95 2 1 (.cons (.d true qT2) (.cons (.d true qT2) .nil)),.cs 95 2 1 (.cons (.own 2) (.cons (.own 3) .nil)),.arr 25 (.fz true) [3] qT1,.arr 25 (.fz true) [3] qT1,.arr 0 (.fz true) [] qT0]⟩
def qix {R:Type} (left_1:qL1) (made_2:qL1) (r_00:qL2) (r_01:qL2) (k3:qL1) (k4:qL1) (dn:(qL2×qL2×qL1×qL1)→Option R) (rt:(qL2×qL2×qL1×qL1)→Option R):Option R :=
 bnd (qay made_2) fun r5 =>
 bnd (quv left_1 made_2 r5 (r_01.length:Int) r_01 r_00 (0,[],[])) fun oe7 =>
 lk oe7 (fun e7 =>
   bnd (que left_1 made_2 r5 r_01 (r_01.length:Int) r_00 r_01 (0,[],[],[])) fun oe9 =>
   lk oe9 (fun e9 =>
     ckB (room (e9.1.length+1) 24) <|
     ckB (room (e9.2.1.length+1) 24) <|
     dn ((e9.1++[left_1]),(e9.2.1++[made_2]),[],[])) (fun r=>rt r)) (fun r=>rt r)
def ql1 (left_1:qL1) (made_2:qL1) (r_00:qL2) (r_01:qL2) (k3:qL1) (k4:qL1):Option ((qL2×qL2×qL1×qL1)⊕(qL2×qL2×qL1×qL1)) :=
 qix left_1 made_2 r_00 r_01 k3 k4 (fun e=>some (.inl e)) (fun r=>some (.inr r))
def qip:Shp:=⟨[(0,.ptr 0),(1,.d true qT1),(2,.d true qT1)],[.cs 95 2 1 (.cons (.own 1) (.cons (.own 2) .nil)),.arr 25 (.fz true) [3] qT1,.arr 25 (.fz true) [3] qT1,.arr 0 (.fz true) [] qT0,.arr 0 (.fz true) [] qT0]⟩
def qj1:Shp:=⟨[],[.cs 95 2 1 (.cons (.own 1) (.cons (.own 2) .nil)),.arr 25 (.fz true) [3] qT1,.arr 25 (.fz true) [3] qT1,.arr 0 (.fz true) [] qT0,.arr 0 (.fz true) [] qT0]⟩
def qo7 (left_1:qL1) (made_2:qL1) (r_00:qL2) (r_01:qL2):Option (qL2×qL2×qL1×qL1) :=
 bnd (q3q left_1) fun r1 =>
 ckB (room (r1.length+made_2.length) 8) <|
 bnd (qus (r1++made_2)) fun r2 =>
 bif decide ((1:Int) < r2) then
   bnd (qum r2 (left_1.length:Int) made_2 r_00 r_01 (0,left_1)) fun oe3 =>
   lk oe3 (fun e3 =>
     bnd (quc e3 r2 (made_2.length:Int) r_00 r_01 (0,made_2,[])) fun oe4 =>
     lk oe4 (fun e4 =>
       bnd (ql1 e3 e4.1 r_00 r_01 [] []) fun oe10 =>
       lk oe10 (fun e10 =>
         some (e10.1,e10.2.1,[],[])) (fun r=>some r)) (fun r=>some r)) (fun r=>some r)
 else
   bnd (ql1 left_1 made_2 r_00 r_01 [] []) fun oe11 =>
   lk oe11 (fun e11 =>
     some (e11.1,e11.2.1,[],[])) (fun r=>some r)
def qcd {R:Type} (c_1:Int) (v_17:Int) (r_00:qL2) (r_01:qL2) (v_18:Int) (next_50:qL2) (next_51:qL2) (nx:(Int×qL2×qL2)→Option R) (dn:(qL2×qL2)→Option R) (rt:(Bool×qL2×qL2)→Option R):Option R :=
 bif decide (v_18 < v_17) then
   ckB (ix v_18 r_00.length) <|
   ckB (ix v_18 r_00.length) <|
   ckB (ix c_1 (r_00.getD (Int.toNat v_18) []).length) <|
   ckB (ix c_1 (r_00.getD (Int.toNat v_18) []).length) <|
   bif decide (((r_00.getD (Int.toNat v_18) []).getD (Int.toNat c_1) 0)=0) then
     ckB (ix v_18 r_00.length) <|
     ckB (ix v_18 r_00.length) <|
     ckB (ix v_18 r_01.length) <|
     ckB (ix v_18 r_01.length) <|
     bnd (qq8 (r_00.getD (Int.toNat v_18) []) (r_01.getD (Int.toNat v_18) []) next_50 next_51) fun r1 =>
     ckB (inR .i64 (v_18+1)) <|
     nx ((v_18+1),r1.1,r1.2)
   else
     ckB (inR .i64 (v_18+1)) <|
     nx ((v_18+1),next_50,next_51)
 else
   dn (next_50,next_51)
def qnt (c_1:Int) (v_17:Int) (r_00:qL2) (r_01:qL2) (s0:(Int×qL2×qL2)):Option ((qL2×qL2)⊕(Bool×qL2×qL2)) :=
 loopM (fun a=>qcd c_1 v_17 r_00 r_01 a.1 a.2.1 a.2.2 (fun a'=>some (.next a')) (fun e=>some (.done e)) (fun r=>some (.ret r))) s0
def qcz:Shp:=⟨[(0,.ptr 0),(1,.d true qT0),(5,.ptr 1),(17,.d true qT0),(18,.d true qT0)],[.cs 95 2 1 (.cons (.own 2) (.cons (.own 3) .nil)),.cs 95 2 1 (.cons (.own 4) (.cons (.own 5) .nil)),.arr 25 (.fz true) [3] qT1,.arr 25 (.fz true) [3] qT1,.arr 25 (.fz true) [3] qT1,.arr 25 (.fz true) [3] qT1]⟩
def qcs:Shp:=⟨[(0,.ptr 0),(1,.d true qT0),(5,.ptr 1)],[.cs 95 2 1 (.cons (.own 2) (.cons (.own 3) .nil)),.cs 95 2 1 (.cons (.own 4) (.cons (.own 5) .nil)),.arr 25 (.fz true) [3] qT1,.arr 25 (.fz true) [3] qT1,.arr 25 (.fz true) [3] qT1,.arr 25 (.fz true) [3] qT1]⟩
def qck {R:Type} (c_1:Int) (i_7:Int) (v_53:Int) (v_54:Int) (v_61:Int) (r_00:qL2) (r_01:qL2) (v_62:Int) (next_50:qL2) (next_51:qL2) (nx:(Int×qL2×qL2)→Option R) (dn:(qL2×qL2)→Option R) (rt:(Bool×qL2×qL2)→Option R):Option R :=
 bif decide (v_62 < v_61) then
   ckB (ix i_7 r_00.length) <|
   ckB (ix i_7 r_00.length) <|
   ckB (ix c_1 (r_00.getD (Int.toNat i_7) []).length) <|
   ckB (ix c_1 (r_00.getD (Int.toNat i_7) []).length) <|
   ckB (ix v_62 r_00.length) <|
   ckB (ix v_62 r_00.length) <|
   ckB (ix c_1 (r_00.getD (Int.toNat v_62) []).length) <|
   ckB (ix c_1 (r_00.getD (Int.toNat v_62) []).length) <|
   bif decide (((r_00.getD (Int.toNat i_7) []).getD (Int.toNat c_1) 0)≤0) then
     ckB (inR .i64 (v_62+1)) <|
     nx ((v_62+1),next_50,next_51)
   else
     bif decide ((0:Int)≤((r_00.getD (Int.toNat v_62) []).getD (Int.toNat c_1) 0)) then
       ckB (inR .i64 (v_62+1)) <|
       nx ((v_62+1),next_50,next_51)
     else
       ckB (inR .i64 (0 - ((r_00.getD (Int.toNat v_62) []).getD (Int.toNat c_1) 0))) <|
       ckB (ix i_7 r_00.length) <|
       ckB (ix i_7 r_00.length) <|
       ckB (ix v_62 r_00.length) <|
       ckB (ix v_62 r_00.length) <|
       bnd (qu3 (0 - ((r_00.getD (Int.toNat v_62) []).getD (Int.toNat c_1) 0)) (r_00.getD (Int.toNat i_7) []) ((r_00.getD (Int.toNat i_7) []).getD (Int.toNat c_1) 0) (r_00.getD (Int.toNat v_62) [])) fun r3 =>
       ckB (inR .i64 (0 - ((r_00.getD (Int.toNat v_62) []).getD (Int.toNat c_1) 0))) <|
       ckB (ix i_7 r_01.length) <|
       ckB (ix i_7 r_01.length) <|
       ckB (ix v_62 r_01.length) <|
       ckB (ix v_62 r_01.length) <|
       bnd (qu3 (0 - ((r_00.getD (Int.toNat v_62) []).getD (Int.toNat c_1) 0)) (r_01.getD (Int.toNat i_7) []) ((r_00.getD (Int.toNat i_7) []).getD (Int.toNat c_1) 0) (r_01.getD (Int.toNat v_62) [])) fun r4 =>
       bnd (qo7 r3 r4 next_50 next_51) fun r5 =>
       bif decide ((40000:Int) < (r5.2.1.length:Int)) then
         rt (false,r_00,r_01)
       else
         ckB (inR .i64 (v_62+1)) <|
         nx ((v_62+1),r5.1,r5.2.1)
 else
   dn (next_50,next_51)
def qo3 (c_1:Int) (i_7:Int) (v_53:Int) (v_54:Int) (v_61:Int) (r_00:qL2) (r_01:qL2) (s0:(Int×qL2×qL2)):Option ((qL2×qL2)⊕(Bool×qL2×qL2)) :=
 loopM (fun a=>qck c_1 i_7 v_53 v_54 v_61 r_00 r_01 a.1 a.2.1 a.2.2 (fun a'=>some (.next a')) (fun e=>some (.done e)) (fun r=>some (.ret r))) s0
def qcx:Shp:=⟨[(0,.ptr 0),(1,.d true qT0),(5,.ptr 1),(7,.d true qT0),(53,.d true qT0),(54,.d true qT0),(61,.d true qT0),(62,.d true qT0)],[.cs 95 2 1 (.cons (.own 2) (.cons (.own 3) .nil)),.cs 95 2 1 (.cons (.own 4) (.cons (.own 5) .nil)),.arr 25 (.fz true) [3] qT1,.arr 25 (.fz true) [3] qT1,.arr 25 (.fz true) [3] qT1,.arr 25 (.fz true) [3] qT1]⟩
def qcy:Shp:=⟨[(0,.ptr 0),(1,.d true qT0),(5,.ptr 1),(53,.d true qT0),(54,.d true qT0)],[.cs 95 2 1 (.cons (.own 2) (.cons (.own 3) .nil)),.cs 95 2 1 (.cons (.own 4) (.cons (.own 5) .nil)),.arr 25 (.fz true) [3] qT1,.arr 25 (.fz true) [3] qT1,.arr 25 (.fz true) [3] qT1,.arr 25 (.fz true) [3] qT1]⟩
def qch {R:Type} (c_1:Int) (v_53:Int) (r_00:qL2) (r_01:qL2) (v_54:Int) (next_50:qL2) (next_51:qL2) (nx:(Int×qL2×qL2)→Option R) (dn:(qL2×qL2)→Option R) (rt:(Bool×qL2×qL2)→Option R):Option R :=
 bif decide (v_54 < v_53) then
   bnd (qo3 c_1 v_54 v_53 v_54 (r_00.length:Int) r_00 r_01 (0,next_50,next_51)) fun oe6 =>
   lk oe6 (fun e6 =>
     ckB (inR .i64 (v_54+1)) <|
     nx ((v_54+1),e6.1,e6.2)) (fun r=>rt r)
 else
   dn (next_50,next_51)
def qp3 (c_1:Int) (v_53:Int) (r_00:qL2) (r_01:qL2) (s0:(Int×qL2×qL2)):Option ((qL2×qL2)⊕(Bool×qL2×qL2)) :=
 loopM (fun a=>qch c_1 v_53 r_00 r_01 a.1 a.2.1 a.2.2 (fun a'=>some (.next a')) (fun e=>some (.done e)) (fun r=>some (.ret r))) s0
def qcw:Shp:=⟨[(0,.ptr 0),(1,.d true qT0),(5,.ptr 1),(53,.d true qT0),(54,.d true qT0)],[.cs 95 2 1 (.cons (.own 2) (.cons (.own 3) .nil)),.cs 95 2 1 (.cons (.own 4) (.cons (.own 5) .nil)),.arr 25 (.fz true) [3] qT1,.arr 25 (.fz true) [3] qT1,.arr 25 (.fz true) [3] qT1,.arr 25 (.fz true) [3] qT1]⟩
def qct:Shp:=⟨[(0,.ptr 0),(5,.ptr 1)],[.cs 95 2 1 (.cons (.own 2) (.cons (.own 3) .nil)),.cs 95 2 1 (.cons (.own 4) (.cons (.own 5) .nil)),.arr 25 (.fz true) [3] qT1,.arr 25 (.fz true) [3] qT1,.arr 25 (.fz true) [3] qT1,.arr 25 (.fz true) [3] qT1]⟩
def qgg (c_1:Int) (r_00:qL2) (r_01:qL2):Option (Bool×qL2×qL2) :=
 bnd (qnt c_1 (r_00.length:Int) r_00 r_01 (0,[],[])) fun oe2 =>
 lk oe2 (fun e2 =>
   bnd (qp3 c_1 (r_00.length:Int) r_00 r_01 (0,e2.1,e2.2)) fun oe7 =>
   lk oe7 (fun e7 =>
     some (true,e7.1,e7.2)) (fun r=>some r)) (fun r=>some r)
def qqx {R:Type} (x_0:Int) (n_2:Int) (dn:Unit→Option R) (rt:Int→Option R):Option R :=
 bif decide ((256:Int)≤x_0) then
   ckB (decide (0≤(8:Int))) <|
   ckB (inR .i64 (n_2+8)) <|
   ckB (ix (IntKind.wrap .u8 (shrI .u64 x_0 8)) (ByteArray.size bytes0)) <|
   ckB (inR .i64 (((ByteArray.data bytes0).getD (Int.toNat (IntKind.wrap .u8 (shrI .u64 x_0 8))) 0).toNat:Int)) <|
   ckB (inR .i64 ((n_2+8)+(((ByteArray.data bytes0).getD (Int.toNat (IntKind.wrap .u8 (shrI .u64 x_0 8))) 0).toNat:Int))) <|
   rt ((n_2+8)+(((ByteArray.data bytes0).getD (Int.toNat (IntKind.wrap .u8 (shrI .u64 x_0 8))) 0).toNat:Int))
 else
   ckB (ix (IntKind.wrap .u8 x_0) (ByteArray.size bytes0)) <|
   ckB (inR .i64 (((ByteArray.data bytes0).getD (Int.toNat (IntKind.wrap .u8 x_0)) 0).toNat:Int)) <|
   ckB (inR .i64 (n_2+(((ByteArray.data bytes0).getD (Int.toNat (IntKind.wrap .u8 x_0)) 0).toNat:Int))) <|
   rt (n_2+(((ByteArray.data bytes0).getD (Int.toNat (IntKind.wrap .u8 x_0)) 0).toNat:Int))
def qfo (x_0:Int) (n_2:Int):Option (Unit⊕Int) :=
 qqx x_0 n_2 (fun e=>some (.inl e)) (fun r=>some (.inr r))
def qqq:Shp:=⟨[(0,.d true (.int .u64)),(2,.d true qT0)],[]⟩
def qqh:Shp:=⟨[],[]⟩
def qv4 (x_0:Int):Option Int :=
 bif decide ((4294967296:Int)≤x_0) then
   ckB (decide (0≤(32:Int))) <|
   bif decide ((65536:Int)≤(shrI .u64 x_0 32)) then
     ckB (decide (0≤(16:Int))) <|
     ckB (inR .i64 ((32:Int)+16)) <|
     bnd (qfo (shrI .u64 (shrI .u64 x_0 32) 16) ((32:Int)+16)) fun oe1 =>
     lk oe1 (fun e1 =>
       none) (fun r=>some r)
   else
     bnd (qfo (shrI .u64 x_0 32) 32) fun oe2 =>
     lk oe2 (fun e2 =>
       none) (fun r=>some r)
 else
   bif decide ((65536:Int)≤x_0) then
     ckB (decide (0≤(16:Int))) <|
     ckB (inR .i64 ((0:Int)+16)) <|
     bnd (qfo (shrI .u64 x_0 16) ((0:Int)+16)) fun oe3 =>
     lk oe3 (fun e3 =>
       none) (fun r=>some r)
   else
     bnd (qfo x_0 0) fun oe4 =>
     lk oe4 (fun e4 =>
       none) (fun r=>some r)
def qtt (x_0:Int):Option Int :=
 bnd (qv4 x_0) fun r1 =>
 some r1
def qid (x_0:Int):Option Bool :=
 some (!decide (x_0=x_0))
def qmp (x_0:Int) (y_1:Int):Option Int :=
 bnd (qid x_0) fun r1 =>
 bnd (qid y_1) fun r2 =>
 bif r1 then
   bif r2 then
     some 0
   else
     some (-1)
 else
   bif r2 then
     some 1
   else
     bif decide (x_0 < y_1) then
       some (-1)
     else
       bif decide (y_1 < x_0) then
         some 1
       else
         some 0
def qai {R:Type} (s1_0:qL1) (s2_1:qL1) (v_9:qL1) (v_10:Int) (v_11:Int) (nx:Int→Option R) (dn:Unit→Option R) (rt:Int→Option R):Option R :=
 bif decide (v_11 < v_10) then
   ckB (ix v_11 v_9.length) <|
   ckB (ix v_11 v_9.length) <|
   bif decide ((s2_1.length:Int)≤v_11) then
     rt 1
   else
     ckB (ix v_11 s2_1.length) <|
     ckB (ix v_11 s2_1.length) <|
     bnd (qmp (v_9.getD (Int.toNat v_11) 0) (s2_1.getD (Int.toNat v_11) 0)) fun r1 =>
     bif (!decide (r1=0)) then
       rt r1
     else
       ckB (inR .i64 (v_11+1)) <|
       nx (v_11+1)
 else
   dn ()
def ql0 (s1_0:qL1) (s2_1:qL1) (v_9:qL1) (v_10:Int) (s0:Int):Option (Unit⊕Int) :=
 loopM (fun a=>qai s1_0 s2_1 v_9 v_10 a (fun a'=>some (.next a')) (fun e=>some (.done e)) (fun r=>some (.ret r))) s0
def qac:Shp:=⟨[(0,.d false qT1),(1,.d false qT1),(9,.d false qT1),(10,.d true qT0),(11,.d true qT0)],[]⟩
def qaf:Shp:=⟨[(0,.d false qT1),(1,.d false qT1)],[]⟩
def qg (s1_0:qL1) (s2_1:qL1):Option Int :=
 bnd (ql0 s1_0 s2_1 s1_0 (s1_0.length:Int) 0) fun oe2 =>
 lk oe2 (fun e2 =>
   bif decide ((s1_0.length:Int) < (s2_1.length:Int)) then
     some (-1)
   else
     some 0) (fun r=>some r)
def q59 {R:Type} (a_1:Int) (b_2:Int) (i_8:Int) (j_9:Int) (data_0:qL2) (nx:(Int×qL2)→Option R) (dn:qL2→Option R) (rt:qL2→Option R):Option R :=
 bif decide (a_1 < j_9) then
   ckB (ix j_9 data_0.length) <|
   ckB (ix j_9 data_0.length) <|
   ckB (inR .i64 (j_9 - 1)) <|
   ckB (ix (j_9 - 1) data_0.length) <|
   ckB (ix (j_9 - 1) data_0.length) <|
   bnd (qg (data_0.getD (Int.toNat j_9) []) (data_0.getD (Int.toNat (j_9 - 1)) [])) fun r1 =>
   bif decide (r1 < 0) then
     ckB (inR .i64 (j_9 - 1)) <|
     ckB (inR .i64 (j_9 - 1)) <|
     ckB (ix (j_9 - 1) data_0.length) <|
     ckB (ix (j_9 - 1) data_0.length) <|
     ckB (ix j_9 data_0.length) <|
     ckB (ix j_9 data_0.length) <|
     ckB (ix j_9 data_0.length) <|
     ckB (ix j_9 data_0.length) <|
     ckB (ix (j_9 - 1) (data_0.set (Int.toNat j_9) (data_0.getD (Int.toNat (j_9 - 1)) [])).length) <|
     ckB (ix (j_9 - 1) (data_0.set (Int.toNat j_9) (data_0.getD (Int.toNat (j_9 - 1)) [])).length) <|
     ckB (inR .i64 (j_9 - 1)) <|
     nx ((j_9 - 1),((data_0.set (Int.toNat j_9) (data_0.getD (Int.toNat (j_9 - 1)) [])).set (Int.toNat (j_9 - 1)) (data_0.getD (Int.toNat j_9) [])))
   else
     dn data_0
 else
   dn data_0
def qb0 (a_1:Int) (b_2:Int) (i_8:Int) (s0:(Int×qL2)):Option (qL2⊕qL2) :=
 loopM (fun a=>q59 a_1 b_2 i_8 a.1 a.2 (fun a'=>some (.next a')) (fun e=>some (.done e)) (fun r=>some (.ret r))) s0
def q5a:Shp:=⟨[(0,.own 0),(1,.d true qT0),(2,.d true qT0),(3,.fn 64 .nil),(8,.d true qT0),(9,.d true qT0)],[.arr 25 (.fz true) [3] qT1]⟩
def q53:Shp:=⟨[(0,.own 0),(1,.d true qT0),(2,.d true qT0),(3,.fn 64 .nil),(8,.d true qT0)],[.arr 25 (.fz true) [3] qT1]⟩
def q56 {R:Type} (a_1:Int) (b_2:Int) (i_8:Int) (data_0:qL2) (nx:(Int×qL2)→Option R) (dn:qL2→Option R) (rt:qL2→Option R):Option R :=
 bif decide (i_8 < b_2) then
   bnd (qb0 a_1 b_2 i_8 (i_8,data_0)) fun oe2 =>
   lk oe2 (fun e2 =>
     ckB (inR .i64 (i_8+1)) <|
     nx ((i_8+1),e2)) (fun r=>rt r)
 else
   dn data_0
def qb3 (a_1:Int) (b_2:Int) (s0:(Int×qL2)):Option (qL2⊕qL2) :=
 loopM (fun a=>q56 a_1 b_2 a.1 a.2 (fun a'=>some (.next a')) (fun e=>some (.done e)) (fun r=>some (.ret r))) s0
def q57:Shp:=⟨[(0,.own 0),(1,.d true qT0),(2,.d true qT0),(3,.fn 64 .nil),(8,.d true qT0)],[.arr 25 (.fz true) [3] qT1]⟩
def q55:Shp:=⟨[],[.arr 25 (.fz true) [3] qT1]⟩
def q61 (a_1:Int) (b_2:Int) (data_0:qL2):Option qL2 :=
 ckB (inR .i64 (a_1+1)) <|
 bnd (qb3 a_1 b_2 ((a_1+1),data_0)) fun oe3 =>
 lk oe3 (fun e3 =>
   some e3) (fun r=>some r)
def q6v {R:Type} (hi_2:Int) (first_3:Int) (root_10:Int) (child_11:Int) (data_0:qL2) (dn:qL2→Option R) (rt:qL2→Option R):Option R :=
 ckB (inR .i64 (first_3+root_10)) <|
 ckB (ix (first_3+root_10) data_0.length) <|
 ckB (ix (first_3+root_10) data_0.length) <|
 ckB (inR .i64 (first_3+child_11)) <|
 ckB (ix (first_3+child_11) data_0.length) <|
 ckB (ix (first_3+child_11) data_0.length) <|
 bnd (qg (data_0.getD (Int.toNat (first_3+root_10)) []) (data_0.getD (Int.toNat (first_3+child_11)) [])) fun r2 =>
 bif (!(decide (r2 < 0))) then
   rt data_0
 else
   ckB (inR .i64 (first_3+root_10)) <|
   ckB (inR .i64 (first_3+child_11)) <|
   ckB (inR .i64 (first_3+child_11)) <|
   ckB (ix (first_3+child_11) data_0.length) <|
   ckB (ix (first_3+child_11) data_0.length) <|
   ckB (inR .i64 (first_3+root_10)) <|
   ckB (ix (first_3+root_10) data_0.length) <|
   ckB (ix (first_3+root_10) data_0.length) <|
   ckB (ix (first_3+root_10) data_0.length) <|
   ckB (ix (first_3+root_10) data_0.length) <|
   ckB (ix (first_3+child_11) (data_0.set (Int.toNat (first_3+root_10)) (data_0.getD (Int.toNat (first_3+child_11)) [])).length) <|
   ckB (ix (first_3+child_11) (data_0.set (Int.toNat (first_3+root_10)) (data_0.getD (Int.toNat (first_3+child_11)) [])).length) <|
   dn ((data_0.set (Int.toNat (first_3+root_10)) (data_0.getD (Int.toNat (first_3+child_11)) [])).set (Int.toNat (first_3+child_11)) (data_0.getD (Int.toNat (first_3+root_10)) []))
def q3i (hi_2:Int) (first_3:Int) (root_10:Int) (child_11:Int) (data_0:qL2):Option (qL2⊕qL2) :=
 q6v hi_2 first_3 root_10 child_11 data_0 (fun e=>some (.inl e)) (fun r=>some (.inr r))
def q6m:Shp:=⟨[(0,.own 0),(2,.d true qT0),(3,.d true qT0),(4,.fn 64 .nil),(10,.d true qT0),(11,.d true qT0)],[.arr 25 (.fz true) [3] qT1]⟩
def q6q:Shp:=⟨[(0,.own 0),(2,.d true qT0),(3,.d true qT0),(4,.fn 64 .nil),(10,.d true qT0)],[.arr 25 (.fz true) [3] qT1]⟩
def q6t {R:Type} (hi_2:Int) (first_3:Int) (root_10:Int) (data_0:qL2) (nx:(Int×qL2)→Option R) (dn:qL2→Option R) (rt:qL2→Option R):Option R :=
 ckB (inR .i64 ((2:Int)*root_10)) <|
 ckB (inR .i64 (((2:Int)*root_10)+1)) <|
 bif decide (hi_2≤(((2:Int)*root_10)+1)) then
   dn data_0
 else
   ckB (inR .i64 ((((2:Int)*root_10)+1)+1)) <|
   bif decide (((((2:Int)*root_10)+1)+1) < hi_2) then
     ckB (inR .i64 (first_3+(((2:Int)*root_10)+1))) <|
     ckB (ix (first_3+(((2:Int)*root_10)+1)) data_0.length) <|
     ckB (ix (first_3+(((2:Int)*root_10)+1)) data_0.length) <|
     ckB (inR .i64 (first_3+(((2:Int)*root_10)+1))) <|
     ckB (inR .i64 ((first_3+(((2:Int)*root_10)+1))+1)) <|
     ckB (ix ((first_3+(((2:Int)*root_10)+1))+1) data_0.length) <|
     ckB (ix ((first_3+(((2:Int)*root_10)+1))+1) data_0.length) <|
     bnd (qg (data_0.getD (Int.toNat (first_3+(((2:Int)*root_10)+1))) []) (data_0.getD (Int.toNat ((first_3+(((2:Int)*root_10)+1))+1)) [])) fun r1 =>
     bif decide (r1 < 0) then
       ckB (inR .i64 ((((2:Int)*root_10)+1)+1)) <|
       bnd (q3i hi_2 first_3 root_10 ((((2:Int)*root_10)+1)+1) data_0) fun oe3 =>
       lk oe3 (fun e3 =>
         nx (((((2:Int)*root_10)+1)+1),e3)) (fun r=>rt r)
     else
       bnd (q3i hi_2 first_3 root_10 (((2:Int)*root_10)+1) data_0) fun oe4 =>
       lk oe4 (fun e4 =>
         nx ((((2:Int)*root_10)+1),e4)) (fun r=>rt r)
   else
     bnd (q3i hi_2 first_3 root_10 (((2:Int)*root_10)+1) data_0) fun oe5 =>
     lk oe5 (fun e5 =>
       nx ((((2:Int)*root_10)+1),e5)) (fun r=>rt r)
def qej (hi_2:Int) (first_3:Int) (s0:(Int×qL2)):Option (qL2⊕qL2) :=
 loopM (fun a=>q6t hi_2 first_3 a.1 a.2 (fun a'=>some (.next a')) (fun e=>some (.done e)) (fun r=>some (.ret r))) s0
def q6x:Shp:=⟨[(0,.own 0),(2,.d true qT0),(3,.d true qT0),(4,.fn 64 .nil),(10,.d true qT0)],[.arr 25 (.fz true) [3] qT1]⟩
def q6w:Shp:=⟨[],[.arr 25 (.fz true) [3] qT1]⟩
def q47 (lo_1:Int) (hi_2:Int) (first_3:Int) (data_0:qL2):Option qL2 :=
 bnd (qej hi_2 first_3 (lo_1,data_0)) fun oe6 =>
 lk oe6 (fun e6 =>
   some e6) (fun r=>some r)
def q6r {R:Type} (first_8:Int) (lo_9:Int) (hi_10:Int) (i_11:Int) (data_0:qL2) (nx:(Int×qL2)→Option R) (dn:qL2→Option R) (rt:qL2→Option R):Option R :=
 bif decide ((0:Int)≤i_11) then
   bnd (q47 i_11 hi_10 first_8 data_0) fun r1 =>
   ckB (decide (r1.length=data_0.length)) <|
   ckB (inR .i64 (i_11 - 1)) <|
   nx ((i_11 - 1),r1)
 else
   dn data_0
def qeq (first_8:Int) (lo_9:Int) (hi_10:Int) (s0:(Int×qL2)):Option (qL2⊕qL2) :=
 loopM (fun a=>q6r first_8 lo_9 hi_10 a.1 a.2 (fun a'=>some (.next a')) (fun e=>some (.done e)) (fun r=>some (.ret r))) s0
def q72:Shp:=⟨[(0,.own 0),(3,.fn 64 .nil),(8,.d true qT0),(9,.d true qT0),(10,.d true qT0),(11,.d true qT0)],[.arr 25 (.fz true) [3] qT1]⟩
def q71:Shp:=⟨[(0,.own 0),(3,.fn 64 .nil),(8,.d true qT0),(9,.d true qT0),(10,.d true qT0)],[.arr 25 (.fz true) [3] qT1]⟩
def q6s {R:Type} (first_8:Int) (lo_9:Int) (i_12:Int) (data_0:qL2) (nx:(Int×qL2)→Option R) (dn:qL2→Option R) (rt:qL2→Option R):Option R :=
 bif decide ((0:Int)≤i_12) then
   ckB (inR .i64 (first_8+i_12)) <|
   ckB (inR .i64 (first_8+i_12)) <|
   ckB (ix (first_8+i_12) data_0.length) <|
   ckB (ix (first_8+i_12) data_0.length) <|
   ckB (ix first_8 data_0.length) <|
   ckB (ix first_8 data_0.length) <|
   ckB (ix first_8 data_0.length) <|
   ckB (ix first_8 data_0.length) <|
   ckB (ix (first_8+i_12) (data_0.set (Int.toNat first_8) (data_0.getD (Int.toNat (first_8+i_12)) [])).length) <|
   ckB (ix (first_8+i_12) (data_0.set (Int.toNat first_8) (data_0.getD (Int.toNat (first_8+i_12)) [])).length) <|
   bnd (q47 lo_9 i_12 first_8 ((data_0.set (Int.toNat first_8) (data_0.getD (Int.toNat (first_8+i_12)) [])).set (Int.toNat (first_8+i_12)) (data_0.getD (Int.toNat first_8) []))) fun r3 =>
   ckB (decide (r3.length=((data_0.set (Int.toNat first_8) (data_0.getD (Int.toNat (first_8+i_12)) [])).set (Int.toNat (first_8+i_12)) (data_0.getD (Int.toNat first_8) [])).length)) <|
   ckB (inR .i64 (i_12 - 1)) <|
   nx ((i_12 - 1),r3)
 else
   dn data_0
def qer (first_8:Int) (lo_9:Int) (s0:(Int×qL2)):Option (qL2⊕qL2) :=
 loopM (fun a=>q6s first_8 lo_9 a.1 a.2 (fun a'=>some (.next a')) (fun e=>some (.done e)) (fun r=>some (.ret r))) s0
def q6z:Shp:=⟨[(0,.own 0),(3,.fn 64 .nil),(8,.d true qT0),(9,.d true qT0),(12,.d true qT0)],[.arr 25 (.fz true) [3] qT1]⟩
def q74:Shp:=⟨[],[.arr 25 (.fz true) [3] qT1]⟩
def q8i (a_1:Int) (b_2:Int) (data_0:qL2):Option qL2 :=
 ckB (inR .i64 (b_2 - a_1)) <|
 ckB (inR .i64 ((b_2 - a_1) - 1)) <|
 ckB (!decide ((2:Int)=0)) <|
 ckB (inR .i64 (Int.tdiv ((b_2 - a_1) - 1) 2)) <|
 bnd (qeq a_1 0 (b_2 - a_1) ((Int.tdiv ((b_2 - a_1) - 1) 2),data_0)) fun oe2 =>
 lk oe2 (fun e2 =>
   ckB (inR .i64 ((b_2 - a_1) - 1)) <|
   bnd (qer a_1 0 (((b_2 - a_1) - 1),e2)) fun oe4 =>
   lk oe4 (fun e4 =>
     some e4) (fun r=>some r)) (fun r=>some r)
def qeb (length_0:Int):Option Int :=
 bnd (qtt (IntKind.wrap .u64 length_0)) fun r1 =>
 ckB (decide (0≤r1)) <|
 some (shlI .u64 1 r1)
def qex (r_0:Int):Option (Int×Int) :=
 ckB (decide (0≤(13:Int))) <|
 ckB (decide (0≤(7:Int))) <|
 ckB (decide (0≤(17:Int))) <|
 some ((bitI .xor .u64 (bitI .xor .u64 (bitI .xor .u64 r_0 (shlI .u64 r_0 13)) (shrI .u64 (bitI .xor .u64 r_0 (shlI .u64 r_0 13)) 7)) (shlI .u64 (bitI .xor .u64 (bitI .xor .u64 r_0 (shlI .u64 r_0 13)) (shrI .u64 (bitI .xor .u64 r_0 (shlI .u64 r_0 13)) 7)) 17)),(bitI .xor .u64 (bitI .xor .u64 (bitI .xor .u64 r_0 (shlI .u64 r_0 13)) (shrI .u64 (bitI .xor .u64 r_0 (shlI .u64 r_0 13)) 7)) (shlI .u64 (bitI .xor .u64 (bitI .xor .u64 r_0 (shlI .u64 r_0 13)) (shrI .u64 (bitI .xor .u64 r_0 (shlI .u64 r_0 13)) 7)) 17)))
def q5b {R:Type} (a_1:Int) (length_8:Int) (modulus_10:Int) (idx_11:Int) (data_0:qL2) (random_9:Int) (nx:(Int×qL2×Int)→Option R) (dn:qL2→Option R) (rt:qL2→Option R):Option R :=
 ckB (!decide ((4:Int)=0)) <|
 ckB (inR .i64 (Int.tdiv length_8 4)) <|
 ckB (inR .i64 ((Int.tdiv length_8 4)*2)) <|
 ckB (inR .i64 (a_1+((Int.tdiv length_8 4)*2))) <|
 ckB (inR .i64 ((a_1+((Int.tdiv length_8 4)*2))+1)) <|
 bif decide (idx_11≤((a_1+((Int.tdiv length_8 4)*2))+1)) then
   bnd (qex random_9) fun r2 =>
   ckB (inR .i64 (bitI .and .u64 r2.1 (IntKind.wrap .u64 (modulus_10 - 1)))) <|
   bif decide (length_8≤(bitI .and .u64 r2.1 (IntKind.wrap .u64 (modulus_10 - 1)))) then
     ckB (inR .i64 ((bitI .and .u64 r2.1 (IntKind.wrap .u64 (modulus_10 - 1))) - length_8)) <|
     ckB (inR .i64 (a_1+((bitI .and .u64 r2.1 (IntKind.wrap .u64 (modulus_10 - 1))) - length_8))) <|
     ckB (inR .i64 (a_1+((bitI .and .u64 r2.1 (IntKind.wrap .u64 (modulus_10 - 1))) - length_8))) <|
     ckB (ix (a_1+((bitI .and .u64 r2.1 (IntKind.wrap .u64 (modulus_10 - 1))) - length_8)) data_0.length) <|
     ckB (ix (a_1+((bitI .and .u64 r2.1 (IntKind.wrap .u64 (modulus_10 - 1))) - length_8)) data_0.length) <|
     ckB (ix idx_11 data_0.length) <|
     ckB (ix idx_11 data_0.length) <|
     ckB (ix idx_11 data_0.length) <|
     ckB (ix idx_11 data_0.length) <|
     ckB (ix (a_1+((bitI .and .u64 r2.1 (IntKind.wrap .u64 (modulus_10 - 1))) - length_8)) (data_0.set (Int.toNat idx_11) (data_0.getD (Int.toNat (a_1+((bitI .and .u64 r2.1 (IntKind.wrap .u64 (modulus_10 - 1))) - length_8))) [])).length) <|
     ckB (ix (a_1+((bitI .and .u64 r2.1 (IntKind.wrap .u64 (modulus_10 - 1))) - length_8)) (data_0.set (Int.toNat idx_11) (data_0.getD (Int.toNat (a_1+((bitI .and .u64 r2.1 (IntKind.wrap .u64 (modulus_10 - 1))) - length_8))) [])).length) <|
     ckB (inR .i64 (idx_11+1)) <|
     nx ((idx_11+1),((data_0.set (Int.toNat idx_11) (data_0.getD (Int.toNat (a_1+((bitI .and .u64 r2.1 (IntKind.wrap .u64 (modulus_10 - 1))) - length_8))) [])).set (Int.toNat (a_1+((bitI .and .u64 r2.1 (IntKind.wrap .u64 (modulus_10 - 1))) - length_8))) (data_0.getD (Int.toNat idx_11) [])),r2.2)
   else
     ckB (inR .i64 (a_1+(bitI .and .u64 r2.1 (IntKind.wrap .u64 (modulus_10 - 1))))) <|
     ckB (inR .i64 (a_1+(bitI .and .u64 r2.1 (IntKind.wrap .u64 (modulus_10 - 1))))) <|
     ckB (ix (a_1+(bitI .and .u64 r2.1 (IntKind.wrap .u64 (modulus_10 - 1)))) data_0.length) <|
     ckB (ix (a_1+(bitI .and .u64 r2.1 (IntKind.wrap .u64 (modulus_10 - 1)))) data_0.length) <|
     ckB (ix idx_11 data_0.length) <|
     ckB (ix idx_11 data_0.length) <|
     ckB (ix idx_11 data_0.length) <|
     ckB (ix idx_11 data_0.length) <|
     ckB (ix (a_1+(bitI .and .u64 r2.1 (IntKind.wrap .u64 (modulus_10 - 1)))) (data_0.set (Int.toNat idx_11) (data_0.getD (Int.toNat (a_1+(bitI .and .u64 r2.1 (IntKind.wrap .u64 (modulus_10 - 1))))) [])).length) <|
     ckB (ix (a_1+(bitI .and .u64 r2.1 (IntKind.wrap .u64 (modulus_10 - 1)))) (data_0.set (Int.toNat idx_11) (data_0.getD (Int.toNat (a_1+(bitI .and .u64 r2.1 (IntKind.wrap .u64 (modulus_10 - 1))))) [])).length) <|
     ckB (inR .i64 (idx_11+1)) <|
     nx ((idx_11+1),((data_0.set (Int.toNat idx_11) (data_0.getD (Int.toNat (a_1+(bitI .and .u64 r2.1 (IntKind.wrap .u64 (modulus_10 - 1))))) [])).set (Int.toNat (a_1+(bitI .and .u64 r2.1 (IntKind.wrap .u64 (modulus_10 - 1))))) (data_0.getD (Int.toNat idx_11) [])),r2.2)
 else
   dn data_0
def qb4 (a_1:Int) (length_8:Int) (modulus_10:Int) (s0:(Int×qL2×Int)):Option (qL2⊕qL2) :=
 loopM (fun a=>q5b a_1 length_8 modulus_10 a.1 a.2.1 a.2.2 (fun a'=>some (.next a')) (fun e=>some (.done e)) (fun r=>some (.ret r))) s0
def q54:Shp:=⟨[(0,.own 0),(1,.d true qT0),(8,.d true qT0),(9,.ptr 1),(10,.d true (.int .u64)),(11,.d true qT0)],[.arr 25 (.fz true) [3] qT1,.cs 123 1 1 (.cons (.d true (.int .u64)) .nil)]⟩
def q58:Shp:=⟨[],[.arr 25 (.fz true) [3] qT1]⟩
def q60 (a_1:Int) (b_2:Int) (data_0:qL2):Option qL2 :=
 ckB (inR .i64 (b_2 - a_1)) <|
 bif decide ((8:Int)≤(b_2 - a_1)) then
   bnd (qeb (b_2 - a_1)) fun r1 =>
   ckB (!decide ((4:Int)=0)) <|
   ckB (inR .i64 (Int.tdiv (b_2 - a_1) 4)) <|
   ckB (inR .i64 ((Int.tdiv (b_2 - a_1) 4)*2)) <|
   ckB (inR .i64 (a_1+((Int.tdiv (b_2 - a_1) 4)*2))) <|
   ckB (inR .i64 ((a_1+((Int.tdiv (b_2 - a_1) 4)*2)) - 1)) <|
   bnd (qb4 a_1 (b_2 - a_1) r1 (((a_1+((Int.tdiv (b_2 - a_1) 4)*2)) - 1),data_0,(IntKind.wrap .u64 (b_2 - a_1)))) fun oe3 =>
   lk oe3 (fun e3 =>
     some e3) (fun r=>some r)
 else
   some data_0
def q2g (data_0:qL2) (a_1:Int) (b_2:Int) (swaps_3:Int):Option (Int×Int×Int) :=
 ckB (ix b_2 data_0.length) <|
 ckB (ix b_2 data_0.length) <|
 ckB (ix a_1 data_0.length) <|
 ckB (ix a_1 data_0.length) <|
 bnd (qg (data_0.getD (Int.toNat b_2) []) (data_0.getD (Int.toNat a_1) [])) fun r1 =>
 bif decide (r1 < 0) then
   ckB (inR .i64 (swaps_3+1)) <|
   some (b_2,a_1,(swaps_3+1))
 else
   some (a_1,b_2,swaps_3)
def q2f (data_0:qL2) (a_1:Int) (b_2:Int) (c_3:Int) (swaps_4:Int):Option (Int×Int) :=
 bnd (q2g data_0 a_1 b_2 swaps_4) fun r1 =>
 bnd (q2g data_0 r1.2.1 c_3 r1.2.2) fun r2 =>
 bnd (q2g data_0 r1.1 r2.1 r2.2.2) fun r3 =>
 some (r3.2.1,r3.2.2)
def q14 (data_0:qL2) (a_1:Int) (swaps_2:Int):Option (Int×Int) :=
 ckB (inR .i64 (a_1 - 1)) <|
 ckB (inR .i64 (a_1+1)) <|
 bnd (q2f data_0 (a_1 - 1) a_1 (a_1+1) swaps_2) fun r1 =>
 some (r1.1,r1.2)
def q5q {R:Type} (j_13:Int) (swaps_11:Int) (dn:Unit→Option R) (rt:(Int×Int)→Option R):Option R :=
 bif decide (swaps_11=0) then
   rt (j_13,1)
 else
   bif decide (swaps_11=12) then
     rt (j_13,2)
   else
     rt (j_13,0)
def q2b (j_13:Int) (swaps_11:Int):Option (Unit⊕(Int×Int)) :=
 q5q j_13 swaps_11 (fun e=>some (.inl e)) (fun r=>some (.inr r))
def q5r:Shp:=⟨[(11,.ptr 0),(13,.d true qT0)],[.cs 3 1 1 (.cons (.d true qT0) .nil)]⟩
def q5p:Shp:=⟨[],[]⟩
def q39 (data_0:qL2) (a_1:Int) (b_2:Int):Option (Int×Int) :=
 ckB (inR .i64 (b_2 - a_1)) <|
 ckB (!decide ((4:Int)=0)) <|
 ckB (inR .i64 (Int.tdiv (b_2 - a_1) 4)) <|
 ckB (inR .i64 ((Int.tdiv (b_2 - a_1) 4)*1)) <|
 ckB (inR .i64 (a_1+((Int.tdiv (b_2 - a_1) 4)*1))) <|
 ckB (!decide ((4:Int)=0)) <|
 ckB (inR .i64 (Int.tdiv (b_2 - a_1) 4)) <|
 ckB (inR .i64 ((Int.tdiv (b_2 - a_1) 4)*2)) <|
 ckB (inR .i64 (a_1+((Int.tdiv (b_2 - a_1) 4)*2))) <|
 ckB (!decide ((4:Int)=0)) <|
 ckB (inR .i64 (Int.tdiv (b_2 - a_1) 4)) <|
 ckB (inR .i64 ((Int.tdiv (b_2 - a_1) 4)*3)) <|
 ckB (inR .i64 (a_1+((Int.tdiv (b_2 - a_1) 4)*3))) <|
 bif decide ((8:Int)≤(b_2 - a_1)) then
   bif decide ((50:Int)≤(b_2 - a_1)) then
     bnd (q14 data_0 (a_1+((Int.tdiv (b_2 - a_1) 4)*1)) 0) fun r1 =>
     bnd (q14 data_0 (a_1+((Int.tdiv (b_2 - a_1) 4)*2)) r1.2) fun r2 =>
     bnd (q14 data_0 (a_1+((Int.tdiv (b_2 - a_1) 4)*3)) r2.2) fun r3 =>
     bnd (q2f data_0 r1.1 r2.1 r3.1 r3.2) fun r4 =>
     bnd (q2b r4.1 r4.2) fun oe5 =>
     lk oe5 (fun e5 =>
       none) (fun r=>some r)
   else
     bnd (q2f data_0 (a_1+((Int.tdiv (b_2 - a_1) 4)*1)) (a_1+((Int.tdiv (b_2 - a_1) 4)*2)) (a_1+((Int.tdiv (b_2 - a_1) 4)*3)) 0) fun r6 =>
     bnd (q2b r6.1 r6.2) fun oe7 =>
     lk oe7 (fun e7 =>
       none) (fun r=>some r)
 else
   bnd (q2b (a_1+((Int.tdiv (b_2 - a_1) 4)*2)) 0) fun oe8 =>
   lk oe8 (fun e8 =>
     none) (fun r=>some r)
def q5d {R:Type}  (i_8:Int) (j_9:Int) (data_0:qL2) (nx:(Int×Int×qL2)→Option R) (dn:qL2→Option R) (rt:qL2→Option R):Option R :=
 bif decide (i_8 < j_9) then
   ckB (ix j_9 data_0.length) <|
   ckB (ix j_9 data_0.length) <|
   ckB (ix i_8 data_0.length) <|
   ckB (ix i_8 data_0.length) <|
   ckB (ix i_8 data_0.length) <|
   ckB (ix i_8 data_0.length) <|
   ckB (ix j_9 (data_0.set (Int.toNat i_8) (data_0.getD (Int.toNat j_9) [])).length) <|
   ckB (ix j_9 (data_0.set (Int.toNat i_8) (data_0.getD (Int.toNat j_9) [])).length) <|
   ckB (inR .i64 (i_8+1)) <|
   ckB (inR .i64 (j_9 - 1)) <|
   nx ((i_8+1),(j_9 - 1),((data_0.set (Int.toNat i_8) (data_0.getD (Int.toNat j_9) [])).set (Int.toNat j_9) (data_0.getD (Int.toNat i_8) [])))
 else
   dn data_0
def qbi  (s0:(Int×Int×qL2)):Option (qL2⊕qL2) :=
 loopM (fun a=>q5d  a.1 a.2.1 a.2.2 (fun a'=>some (.next a')) (fun e=>some (.done e)) (fun r=>some (.ret r))) s0
def q5l:Shp:=⟨[(0,.own 0),(8,.d true qT0),(9,.d true qT0)],[.arr 25 (.fz true) [3] qT1]⟩
def q5f:Shp:=⟨[],[.arr 25 (.fz true) [3] qT1]⟩
def q2m (a_1:Int) (b_2:Int) (data_0:qL2):Option qL2 :=
 ckB (inR .i64 (b_2 - 1)) <|
 bnd (qbi  (a_1,(b_2 - 1),data_0)) fun oe1 =>
 lk oe1 (fun e1 =>
   some e1) (fun r=>some r)
def q2p {R:Type} (a_1:Int) (b_2:Int) (j_10:Int) (data_0:qL2) (i_9:Int) (nx:Int→Option R) (dn:Int→Option R) (rt:(Bool×qL2)→Option R):Option R :=
 bif decide (i_9 < b_2) then
   ckB (ix i_9 data_0.length) <|
   ckB (ix i_9 data_0.length) <|
   ckB (inR .i64 (i_9 - 1)) <|
   ckB (ix (i_9 - 1) data_0.length) <|
   ckB (ix (i_9 - 1) data_0.length) <|
   bnd (qg (data_0.getD (Int.toNat i_9) []) (data_0.getD (Int.toNat (i_9 - 1)) [])) fun r1 =>
   bif (!(decide (r1 < 0))) then
     ckB (inR .i64 (i_9+1)) <|
     nx (i_9+1)
   else
     dn i_9
 else
   dn i_9
def q8r (a_1:Int) (b_2:Int) (j_10:Int) (data_0:qL2) (s0:Int):Option (Int⊕(Bool×qL2)) :=
 loopM (fun a=>q2p a_1 b_2 j_10 data_0 a (fun a'=>some (.next a')) (fun e=>some (.done e)) (fun r=>some (.ret r))) s0
def q2o:Shp:=⟨[(0,.own 0),(1,.d true qT0),(2,.d true qT0),(3,.fn 64 .nil),(9,.d true qT0),(10,.d true qT0)],[.arr 25 (.fz true) [3] qT1]⟩
def q30:Shp:=⟨[(0,.own 0),(1,.d true qT0),(2,.d true qT0),(3,.fn 64 .nil),(9,.d true qT0),(10,.d true qT0)],[.arr 25 (.fz true) [3] qT1]⟩
def q2k {R:Type} (a_1:Int) (b_2:Int) (i_9:Int) (j_10:Int) (j_11:Int) (data_0:qL2) (nx:(Int×qL2)→Option R) (dn:qL2→Option R) (rt:(Bool×qL2)→Option R):Option R :=
 bif decide ((1:Int)≤j_11) then
   ckB (ix j_11 data_0.length) <|
   ckB (ix j_11 data_0.length) <|
   ckB (inR .i64 (j_11 - 1)) <|
   ckB (ix (j_11 - 1) data_0.length) <|
   ckB (ix (j_11 - 1) data_0.length) <|
   bnd (qg (data_0.getD (Int.toNat j_11) []) (data_0.getD (Int.toNat (j_11 - 1)) [])) fun r3 =>
   bif (!(decide (r3 < 0))) then
     dn data_0
   else
     ckB (inR .i64 (j_11 - 1)) <|
     ckB (inR .i64 (j_11 - 1)) <|
     ckB (ix (j_11 - 1) data_0.length) <|
     ckB (ix (j_11 - 1) data_0.length) <|
     ckB (ix j_11 data_0.length) <|
     ckB (ix j_11 data_0.length) <|
     ckB (ix j_11 data_0.length) <|
     ckB (ix j_11 data_0.length) <|
     ckB (ix (j_11 - 1) (data_0.set (Int.toNat j_11) (data_0.getD (Int.toNat (j_11 - 1)) [])).length) <|
     ckB (ix (j_11 - 1) (data_0.set (Int.toNat j_11) (data_0.getD (Int.toNat (j_11 - 1)) [])).length) <|
     ckB (inR .i64 (j_11 - 1)) <|
     nx ((j_11 - 1),((data_0.set (Int.toNat j_11) (data_0.getD (Int.toNat (j_11 - 1)) [])).set (Int.toNat (j_11 - 1)) (data_0.getD (Int.toNat j_11) [])))
 else
   dn data_0
def q8t (a_1:Int) (b_2:Int) (i_9:Int) (j_10:Int) (s0:(Int×qL2)):Option (qL2⊕(Bool×qL2)) :=
 loopM (fun a=>q2k a_1 b_2 i_9 j_10 a.1 a.2 (fun a'=>some (.next a')) (fun e=>some (.done e)) (fun r=>some (.ret r))) s0
def q2t:Shp:=⟨[(0,.own 0),(1,.d true qT0),(2,.d true qT0),(3,.fn 64 .nil),(9,.d true qT0),(10,.d true qT0),(11,.d true qT0)],[.arr 25 (.fz true) [3] qT1]⟩
def q2j:Shp:=⟨[(0,.own 0),(1,.d true qT0),(2,.d true qT0),(3,.fn 64 .nil),(9,.d true qT0),(10,.d true qT0)],[.arr 25 (.fz true) [3] qT1]⟩
def q2u {R:Type} (a_1:Int) (b_2:Int) (i_9:Int) (j_10:Int) (j_12:Int) (data_0:qL2) (nx:(Int×qL2)→Option R) (dn:qL2→Option R) (rt:(Bool×qL2)→Option R):Option R :=
 bif decide (j_12 < b_2) then
   ckB (ix j_12 data_0.length) <|
   ckB (ix j_12 data_0.length) <|
   ckB (inR .i64 (j_12 - 1)) <|
   ckB (ix (j_12 - 1) data_0.length) <|
   ckB (ix (j_12 - 1) data_0.length) <|
   bnd (qg (data_0.getD (Int.toNat j_12) []) (data_0.getD (Int.toNat (j_12 - 1)) [])) fun r5 =>
   bif (!(decide (r5 < 0))) then
     dn data_0
   else
     ckB (inR .i64 (j_12 - 1)) <|
     ckB (inR .i64 (j_12 - 1)) <|
     ckB (ix (j_12 - 1) data_0.length) <|
     ckB (ix (j_12 - 1) data_0.length) <|
     ckB (ix j_12 data_0.length) <|
     ckB (ix j_12 data_0.length) <|
     ckB (ix j_12 data_0.length) <|
     ckB (ix j_12 data_0.length) <|
     ckB (ix (j_12 - 1) (data_0.set (Int.toNat j_12) (data_0.getD (Int.toNat (j_12 - 1)) [])).length) <|
     ckB (ix (j_12 - 1) (data_0.set (Int.toNat j_12) (data_0.getD (Int.toNat (j_12 - 1)) [])).length) <|
     ckB (inR .i64 (j_12+1)) <|
     nx ((j_12+1),((data_0.set (Int.toNat j_12) (data_0.getD (Int.toNat (j_12 - 1)) [])).set (Int.toNat (j_12 - 1)) (data_0.getD (Int.toNat j_12) [])))
 else
   dn data_0
def q8v (a_1:Int) (b_2:Int) (i_9:Int) (j_10:Int) (s0:(Int×qL2)):Option (qL2⊕(Bool×qL2)) :=
 loopM (fun a=>q2u a_1 b_2 i_9 j_10 a.1 a.2 (fun a'=>some (.next a')) (fun e=>some (.done e)) (fun r=>some (.ret r))) s0
def q2y:Shp:=⟨[(0,.own 0),(1,.d true qT0),(2,.d true qT0),(3,.fn 64 .nil),(9,.d true qT0),(10,.d true qT0),(12,.d true qT0)],[.arr 25 (.fz true) [3] qT1]⟩
def q2r:Shp:=⟨[(0,.own 0),(1,.d true qT0),(2,.d true qT0),(3,.fn 64 .nil),(9,.d true qT0),(10,.d true qT0)],[.arr 25 (.fz true) [3] qT1]⟩
def q2s {R:Type} (a_1:Int) (b_2:Int) (i_9:Int) (j_10:Int) (data_0:qL2) (dn:qL2→Option R) (rt:(Bool×qL2)→Option R):Option R :=
 ckB (inR .i64 (b_2 - i_9)) <|
 bif decide ((2:Int)≤(b_2 - i_9)) then
   ckB (inR .i64 (i_9+1)) <|
   bnd (q8v a_1 b_2 i_9 j_10 ((i_9+1),data_0)) fun oe6 =>
   lk oe6 (fun e6 =>
     dn e6) (fun r=>rt r)
 else
   dn data_0
def q33 (a_1:Int) (b_2:Int) (i_9:Int) (j_10:Int) (data_0:qL2):Option (qL2⊕(Bool×qL2)) :=
 q2s a_1 b_2 i_9 j_10 data_0 (fun e=>some (.inl e)) (fun r=>some (.inr r))
def q2v:Shp:=⟨[(0,.own 0),(1,.d true qT0),(2,.d true qT0),(3,.fn 64 .nil),(9,.d true qT0),(10,.d true qT0)],[.arr 25 (.fz true) [3] qT1]⟩
def q2x:Shp:=⟨[(0,.own 0),(1,.d true qT0),(2,.d true qT0),(3,.fn 64 .nil),(9,.d true qT0),(10,.d true qT0)],[.arr 25 (.fz true) [3] qT1]⟩
def q2q {R:Type} (a_1:Int) (b_2:Int) (i_9:Int) (j_10:Int) (data_0:qL2) (nx:(Int×Int×qL2)→Option R) (dn:qL2→Option R) (rt:(Bool×qL2)→Option R):Option R :=
 bif decide (j_10 < 5) then
   bnd (q8r a_1 b_2 j_10 data_0 i_9) fun oe2 =>
   lk oe2 (fun e2 =>
     bif decide (e2=b_2) then
       rt (true,data_0)
     else
       ckB (inR .i64 (b_2 - a_1)) <|
       bif decide ((b_2 - a_1) < 50) then
         rt (false,data_0)
       else
         ckB (inR .i64 (e2 - 1)) <|
         ckB (inR .i64 (e2 - 1)) <|
         ckB (ix (e2 - 1) data_0.length) <|
         ckB (ix (e2 - 1) data_0.length) <|
         ckB (ix e2 data_0.length) <|
         ckB (ix e2 data_0.length) <|
         ckB (ix e2 data_0.length) <|
         ckB (ix e2 data_0.length) <|
         ckB (ix (e2 - 1) (data_0.set (Int.toNat e2) (data_0.getD (Int.toNat (e2 - 1)) [])).length) <|
         ckB (ix (e2 - 1) (data_0.set (Int.toNat e2) (data_0.getD (Int.toNat (e2 - 1)) [])).length) <|
         ckB (inR .i64 (e2 - a_1)) <|
         bif decide ((2:Int)≤(e2 - a_1)) then
           ckB (inR .i64 (e2 - 1)) <|
           bnd (q8t a_1 b_2 e2 j_10 ((e2 - 1),((data_0.set (Int.toNat e2) (data_0.getD (Int.toNat (e2 - 1)) [])).set (Int.toNat (e2 - 1)) (data_0.getD (Int.toNat e2) [])))) fun oe4 =>
           lk oe4 (fun e4 =>
             bnd (q33 a_1 b_2 e2 j_10 e4) fun oe7 =>
             lk oe7 (fun e7 =>
               ckB (inR .i64 (j_10+1)) <|
               nx (e2,(j_10+1),e7)) (fun r=>rt r)) (fun r=>rt r)
         else
           bnd (q33 a_1 b_2 e2 j_10 ((data_0.set (Int.toNat e2) (data_0.getD (Int.toNat (e2 - 1)) [])).set (Int.toNat (e2 - 1)) (data_0.getD (Int.toNat e2) []))) fun oe8 =>
           lk oe8 (fun e8 =>
             ckB (inR .i64 (j_10+1)) <|
             nx (e2,(j_10+1),e8)) (fun r=>rt r)) (fun r=>rt r)
 else
   dn data_0
def q8q (a_1:Int) (b_2:Int) (s0:(Int×Int×qL2)):Option (qL2⊕(Bool×qL2)) :=
 loopM (fun a=>q2q a_1 b_2 a.1 a.2.1 a.2.2 (fun a'=>some (.next a')) (fun e=>some (.done e)) (fun r=>some (.ret r))) s0
def q2n:Shp:=⟨[(0,.own 0),(1,.d true qT0),(2,.d true qT0),(3,.fn 64 .nil),(9,.d true qT0),(10,.d true qT0)],[.arr 25 (.fz true) [3] qT1]⟩
def q2w:Shp:=⟨[],[.arr 25 (.fz true) [3] qT1]⟩
def q3n (a_1:Int) (b_2:Int) (data_0:qL2):Option (Bool×qL2) :=
 ckB (inR .i64 (a_1+1)) <|
 bnd (q8q a_1 b_2 ((a_1+1),0,data_0)) fun oe9 =>
 lk oe9 (fun e9 =>
   some (false,e9)) (fun r=>some r)
def q4o {R:Type} (a_1:Int) (j_12:Int) (data_0:qL2) (i_11:Int) (nx:Int→Option R) (dn:Int→Option R) (rt:(Int×qL2)→Option R):Option R :=
 bif decide (i_11≤j_12) then
   ckB (ix a_1 data_0.length) <|
   ckB (ix a_1 data_0.length) <|
   ckB (ix i_11 data_0.length) <|
   ckB (ix i_11 data_0.length) <|
   bnd (qg (data_0.getD (Int.toNat a_1) []) (data_0.getD (Int.toNat i_11) [])) fun r1 =>
   bif (!(decide (r1 < 0))) then
     ckB (inR .i64 (i_11+1)) <|
     nx (i_11+1)
   else
     dn i_11
 else
   dn i_11
def qal (a_1:Int) (j_12:Int) (data_0:qL2) (s0:Int):Option (Int⊕(Int×qL2)) :=
 loopM (fun a=>q4o a_1 j_12 data_0 a (fun a'=>some (.next a')) (fun e=>some (.done e)) (fun r=>some (.ret r))) s0
def q4n:Shp:=⟨[(0,.own 0),(1,.d true qT0),(4,.fn 64 .nil),(11,.d true qT0),(12,.d true qT0)],[.arr 25 (.fz true) [3] qT1]⟩
def q4q:Shp:=⟨[(0,.own 0),(1,.d true qT0),(4,.fn 64 .nil),(11,.d true qT0),(12,.d true qT0)],[.arr 25 (.fz true) [3] qT1]⟩
def q4l {R:Type} (a_1:Int) (i_11:Int) (data_0:qL2) (j_12:Int) (nx:Int→Option R) (dn:Int→Option R) (rt:(Int×qL2)→Option R):Option R :=
 bif decide (i_11≤j_12) then
   ckB (ix a_1 data_0.length) <|
   ckB (ix a_1 data_0.length) <|
   ckB (ix j_12 data_0.length) <|
   ckB (ix j_12 data_0.length) <|
   bnd (qg (data_0.getD (Int.toNat a_1) []) (data_0.getD (Int.toNat j_12) [])) fun r3 =>
   bif decide (r3 < 0) then
     ckB (inR .i64 (j_12 - 1)) <|
     nx (j_12 - 1)
   else
     dn j_12
 else
   dn j_12
def qap (a_1:Int) (i_11:Int) (data_0:qL2) (s0:Int):Option (Int⊕(Int×qL2)) :=
 loopM (fun a=>q4l a_1 i_11 data_0 a (fun a'=>some (.next a')) (fun e=>some (.done e)) (fun r=>some (.ret r))) s0
def q4i:Shp:=⟨[(0,.own 0),(1,.d true qT0),(4,.fn 64 .nil),(11,.d true qT0),(12,.d true qT0)],[.arr 25 (.fz true) [3] qT1]⟩
def q4k:Shp:=⟨[(0,.own 0),(1,.d true qT0),(4,.fn 64 .nil),(11,.d true qT0),(12,.d true qT0)],[.arr 25 (.fz true) [3] qT1]⟩
def q4p {R:Type} (a_1:Int) (i_11:Int) (j_12:Int) (data_0:qL2) (nx:(Int×Int×qL2)→Option R) (dn:(Int×qL2)→Option R) (rt:(Int×qL2)→Option R):Option R :=
 bnd (qal a_1 j_12 data_0 i_11) fun oe2 =>
 lk oe2 (fun e2 =>
   bnd (qap a_1 e2 data_0 j_12) fun oe4 =>
   lk oe4 (fun e4 =>
     bif decide (e4 < e2) then
       dn (e2,data_0)
     else
       ckB (ix e4 data_0.length) <|
       ckB (ix e4 data_0.length) <|
       ckB (ix e2 data_0.length) <|
       ckB (ix e2 data_0.length) <|
       ckB (ix e2 data_0.length) <|
       ckB (ix e2 data_0.length) <|
       ckB (ix e4 (data_0.set (Int.toNat e2) (data_0.getD (Int.toNat e4) [])).length) <|
       ckB (ix e4 (data_0.set (Int.toNat e2) (data_0.getD (Int.toNat e4) [])).length) <|
       ckB (inR .i64 (e2+1)) <|
       ckB (inR .i64 (e4 - 1)) <|
       nx ((e2+1),(e4 - 1),((data_0.set (Int.toNat e2) (data_0.getD (Int.toNat e4) [])).set (Int.toNat e4) (data_0.getD (Int.toNat e2) [])))) (fun r=>rt r)) (fun r=>rt r)
def qaj (a_1:Int) (s0:(Int×Int×qL2)):Option ((Int×qL2)⊕(Int×qL2)) :=
 loopM (fun a=>q4p a_1 a.1 a.2.1 a.2.2 (fun a'=>some (.next a')) (fun e=>some (.done e)) (fun r=>some (.ret r))) s0
def q4j:Shp:=⟨[(0,.own 0),(1,.d true qT0),(4,.fn 64 .nil),(11,.d true qT0),(12,.d true qT0)],[.arr 25 (.fz true) [3] qT1]⟩
def q4m:Shp:=⟨[(11,.d true qT0)],[.arr 25 (.fz true) [3] qT1]⟩
def qi (a_1:Int) (b_2:Int) (pivot_3:Int) (data_0:qL2):Option (Int×qL2) :=
 ckB (ix pivot_3 data_0.length) <|
 ckB (ix pivot_3 data_0.length) <|
 ckB (ix a_1 data_0.length) <|
 ckB (ix a_1 data_0.length) <|
 ckB (ix a_1 data_0.length) <|
 ckB (ix a_1 data_0.length) <|
 ckB (ix pivot_3 (data_0.set (Int.toNat a_1) (data_0.getD (Int.toNat pivot_3) [])).length) <|
 ckB (ix pivot_3 (data_0.set (Int.toNat a_1) (data_0.getD (Int.toNat pivot_3) [])).length) <|
 ckB (inR .i64 (a_1+1)) <|
 ckB (inR .i64 (b_2 - 1)) <|
 bnd (qaj a_1 ((a_1+1),(b_2 - 1),((data_0.set (Int.toNat a_1) (data_0.getD (Int.toNat pivot_3) [])).set (Int.toNat pivot_3) (data_0.getD (Int.toNat a_1) [])))) fun oe5 =>
 lk oe5 (fun e5 =>
   some (e5.1,e5.2)) (fun r=>some r)
def q65 {R:Type} (a_1:Int) (j_13:Int) (data_0:qL2) (i_12:Int) (nx:Int→Option R) (dn:Int→Option R) (rt:(Int×Bool×qL2)→Option R):Option R :=
 bif decide (i_12≤j_13) then
   ckB (ix i_12 data_0.length) <|
   ckB (ix i_12 data_0.length) <|
   ckB (ix a_1 data_0.length) <|
   ckB (ix a_1 data_0.length) <|
   bnd (qg (data_0.getD (Int.toNat i_12) []) (data_0.getD (Int.toNat a_1) [])) fun r1 =>
   bif decide (r1 < 0) then
     ckB (inR .i64 (i_12+1)) <|
     nx (i_12+1)
   else
     dn i_12
 else
   dn i_12
def qdq (a_1:Int) (j_13:Int) (data_0:qL2) (s0:Int):Option (Int⊕(Int×Bool×qL2)) :=
 loopM (fun a=>q65 a_1 j_13 data_0 a (fun a'=>some (.next a')) (fun e=>some (.done e)) (fun r=>some (.ret r))) s0
def q6g:Shp:=⟨[(0,.own 0),(1,.d true qT0),(4,.fn 64 .nil),(12,.d true qT0),(13,.d true qT0)],[.arr 25 (.fz true) [3] qT1]⟩
def q6c:Shp:=⟨[(0,.own 0),(1,.d true qT0),(4,.fn 64 .nil),(12,.d true qT0),(13,.d true qT0)],[.arr 25 (.fz true) [3] qT1]⟩
def q6e {R:Type} (a_1:Int) (i_12:Int) (data_0:qL2) (j_13:Int) (nx:Int→Option R) (dn:Int→Option R) (rt:(Int×Bool×qL2)→Option R):Option R :=
 bif decide (i_12≤j_13) then
   ckB (ix j_13 data_0.length) <|
   ckB (ix j_13 data_0.length) <|
   ckB (ix a_1 data_0.length) <|
   ckB (ix a_1 data_0.length) <|
   bnd (qg (data_0.getD (Int.toNat j_13) []) (data_0.getD (Int.toNat a_1) [])) fun r3 =>
   bif (!(decide (r3 < 0))) then
     ckB (inR .i64 (j_13 - 1)) <|
     nx (j_13 - 1)
   else
     dn j_13
 else
   dn j_13
def qdd (a_1:Int) (i_12:Int) (data_0:qL2) (s0:Int):Option (Int⊕(Int×Bool×qL2)) :=
 loopM (fun a=>q6e a_1 i_12 data_0 a (fun a'=>some (.next a')) (fun e=>some (.done e)) (fun r=>some (.ret r))) s0
def q69:Shp:=⟨[(0,.own 0),(1,.d true qT0),(4,.fn 64 .nil),(12,.d true qT0),(13,.d true qT0)],[.arr 25 (.fz true) [3] qT1]⟩
def q6f:Shp:=⟨[(0,.own 0),(1,.d true qT0),(4,.fn 64 .nil),(12,.d true qT0),(13,.d true qT0)],[.arr 25 (.fz true) [3] qT1]⟩
def q67 {R:Type} (a_1:Int) (j_13:Int) (data_0:qL2) (i_12:Int) (nx:Int→Option R) (dn:Int→Option R) (rt:(Int×Bool×qL2)→Option R):Option R :=
 bif decide (i_12≤j_13) then
   ckB (ix i_12 data_0.length) <|
   ckB (ix i_12 data_0.length) <|
   ckB (ix a_1 data_0.length) <|
   ckB (ix a_1 data_0.length) <|
   bnd (qg (data_0.getD (Int.toNat i_12) []) (data_0.getD (Int.toNat a_1) [])) fun r5 =>
   bif decide (r5 < 0) then
     ckB (inR .i64 (i_12+1)) <|
     nx (i_12+1)
   else
     dn i_12
 else
   dn i_12
def qdm (a_1:Int) (j_13:Int) (data_0:qL2) (s0:Int):Option (Int⊕(Int×Bool×qL2)) :=
 loopM (fun a=>q67 a_1 j_13 data_0 a (fun a'=>some (.next a')) (fun e=>some (.done e)) (fun r=>some (.ret r))) s0
def q6j:Shp:=⟨[(0,.own 0),(1,.d true qT0),(4,.fn 64 .nil),(12,.d true qT0),(13,.d true qT0)],[.arr 25 (.fz true) [3] qT1]⟩
def q6i:Shp:=⟨[(0,.own 0),(1,.d true qT0),(4,.fn 64 .nil),(12,.d true qT0),(13,.d true qT0)],[.arr 25 (.fz true) [3] qT1]⟩
def q6a {R:Type} (a_1:Int) (i_12:Int) (data_0:qL2) (j_13:Int) (nx:Int→Option R) (dn:Int→Option R) (rt:(Int×Bool×qL2)→Option R):Option R :=
 bif decide (i_12≤j_13) then
   ckB (ix j_13 data_0.length) <|
   ckB (ix j_13 data_0.length) <|
   ckB (ix a_1 data_0.length) <|
   ckB (ix a_1 data_0.length) <|
   bnd (qg (data_0.getD (Int.toNat j_13) []) (data_0.getD (Int.toNat a_1) [])) fun r7 =>
   bif (!(decide (r7 < 0))) then
     ckB (inR .i64 (j_13 - 1)) <|
     nx (j_13 - 1)
   else
     dn j_13
 else
   dn j_13
def qdl (a_1:Int) (i_12:Int) (data_0:qL2) (s0:Int):Option (Int⊕(Int×Bool×qL2)) :=
 loopM (fun a=>q6a a_1 i_12 data_0 a (fun a'=>some (.next a')) (fun e=>some (.done e)) (fun r=>some (.ret r))) s0
def q6d:Shp:=⟨[(0,.own 0),(1,.d true qT0),(4,.fn 64 .nil),(12,.d true qT0),(13,.d true qT0)],[.arr 25 (.fz true) [3] qT1]⟩
def q6h:Shp:=⟨[(0,.own 0),(1,.d true qT0),(4,.fn 64 .nil),(12,.d true qT0),(13,.d true qT0)],[.arr 25 (.fz true) [3] qT1]⟩
def q68 {R:Type} (a_1:Int) (i_12:Int) (j_13:Int) (data_0:qL2) (nx:(Int×Int×qL2)→Option R) (dn:(Int×qL2)→Option R) (rt:(Int×Bool×qL2)→Option R):Option R :=
 bnd (qdm a_1 j_13 data_0 i_12) fun oe6 =>
 lk oe6 (fun e6 =>
   bnd (qdl a_1 e6 data_0 j_13) fun oe8 =>
   lk oe8 (fun e8 =>
     bif decide (e8 < e6) then
       dn (e8,data_0)
     else
       ckB (ix e8 data_0.length) <|
       ckB (ix e8 data_0.length) <|
       ckB (ix e6 data_0.length) <|
       ckB (ix e6 data_0.length) <|
       ckB (ix e6 data_0.length) <|
       ckB (ix e6 data_0.length) <|
       ckB (ix e8 (data_0.set (Int.toNat e6) (data_0.getD (Int.toNat e8) [])).length) <|
       ckB (ix e8 (data_0.set (Int.toNat e6) (data_0.getD (Int.toNat e8) [])).length) <|
       ckB (inR .i64 (e6+1)) <|
       ckB (inR .i64 (e8 - 1)) <|
       nx ((e6+1),(e8 - 1),((data_0.set (Int.toNat e6) (data_0.getD (Int.toNat e8) [])).set (Int.toNat e8) (data_0.getD (Int.toNat e6) [])))) (fun r=>rt r)) (fun r=>rt r)
def qds (a_1:Int) (s0:(Int×Int×qL2)):Option ((Int×qL2)⊕(Int×Bool×qL2)) :=
 loopM (fun a=>q68 a_1 a.1 a.2.1 a.2.2 (fun a'=>some (.next a')) (fun e=>some (.done e)) (fun r=>some (.ret r))) s0
def q6k:Shp:=⟨[(0,.own 0),(1,.d true qT0),(4,.fn 64 .nil),(12,.d true qT0),(13,.d true qT0)],[.arr 25 (.fz true) [3] qT1]⟩
def q66:Shp:=⟨[(0,.own 0),(1,.d true qT0),(13,.d true qT0)],[.arr 25 (.fz true) [3] qT1]⟩
def q82 (a_1:Int) (b_2:Int) (pivot_3:Int) (data_0:qL2):Option (Int×Bool×qL2) :=
 ckB (ix pivot_3 data_0.length) <|
 ckB (ix pivot_3 data_0.length) <|
 ckB (ix a_1 data_0.length) <|
 ckB (ix a_1 data_0.length) <|
 ckB (ix a_1 data_0.length) <|
 ckB (ix a_1 data_0.length) <|
 ckB (ix pivot_3 (data_0.set (Int.toNat a_1) (data_0.getD (Int.toNat pivot_3) [])).length) <|
 ckB (ix pivot_3 (data_0.set (Int.toNat a_1) (data_0.getD (Int.toNat pivot_3) [])).length) <|
 ckB (inR .i64 (a_1+1)) <|
 ckB (inR .i64 (b_2 - 1)) <|
 bnd (qdq a_1 (b_2 - 1) ((data_0.set (Int.toNat a_1) (data_0.getD (Int.toNat pivot_3) [])).set (Int.toNat pivot_3) (data_0.getD (Int.toNat a_1) [])) (a_1+1)) fun oe2 =>
 lk oe2 (fun e2 =>
   bnd (qdd a_1 e2 ((data_0.set (Int.toNat a_1) (data_0.getD (Int.toNat pivot_3) [])).set (Int.toNat pivot_3) (data_0.getD (Int.toNat a_1) [])) (b_2 - 1)) fun oe4 =>
   lk oe4 (fun e4 =>
     bif decide (e4 < e2) then
       ckB (ix a_1 ((data_0.set (Int.toNat a_1) (data_0.getD (Int.toNat pivot_3) [])).set (Int.toNat pivot_3) (data_0.getD (Int.toNat a_1) [])).length) <|
       ckB (ix a_1 ((data_0.set (Int.toNat a_1) (data_0.getD (Int.toNat pivot_3) [])).set (Int.toNat pivot_3) (data_0.getD (Int.toNat a_1) [])).length) <|
       ckB (ix e4 ((data_0.set (Int.toNat a_1) (data_0.getD (Int.toNat pivot_3) [])).set (Int.toNat pivot_3) (data_0.getD (Int.toNat a_1) [])).length) <|
       ckB (ix e4 ((data_0.set (Int.toNat a_1) (data_0.getD (Int.toNat pivot_3) [])).set (Int.toNat pivot_3) (data_0.getD (Int.toNat a_1) [])).length) <|
       ckB (ix e4 ((data_0.set (Int.toNat a_1) (data_0.getD (Int.toNat pivot_3) [])).set (Int.toNat pivot_3) (data_0.getD (Int.toNat a_1) [])).length) <|
       ckB (ix e4 ((data_0.set (Int.toNat a_1) (data_0.getD (Int.toNat pivot_3) [])).set (Int.toNat pivot_3) (data_0.getD (Int.toNat a_1) [])).length) <|
       ckB (ix a_1 (((data_0.set (Int.toNat a_1) (data_0.getD (Int.toNat pivot_3) [])).set (Int.toNat pivot_3) (data_0.getD (Int.toNat a_1) [])).set (Int.toNat e4) (((data_0.set (Int.toNat a_1) (data_0.getD (Int.toNat pivot_3) [])).set (Int.toNat pivot_3) (data_0.getD (Int.toNat a_1) [])).getD (Int.toNat a_1) [])).length) <|
       ckB (ix a_1 (((data_0.set (Int.toNat a_1) (data_0.getD (Int.toNat pivot_3) [])).set (Int.toNat pivot_3) (data_0.getD (Int.toNat a_1) [])).set (Int.toNat e4) (((data_0.set (Int.toNat a_1) (data_0.getD (Int.toNat pivot_3) [])).set (Int.toNat pivot_3) (data_0.getD (Int.toNat a_1) [])).getD (Int.toNat a_1) [])).length) <|
       some (e4,true,((((data_0.set (Int.toNat a_1) (data_0.getD (Int.toNat pivot_3) [])).set (Int.toNat pivot_3) (data_0.getD (Int.toNat a_1) [])).set (Int.toNat e4) (((data_0.set (Int.toNat a_1) (data_0.getD (Int.toNat pivot_3) [])).set (Int.toNat pivot_3) (data_0.getD (Int.toNat a_1) [])).getD (Int.toNat a_1) [])).set (Int.toNat a_1) (((data_0.set (Int.toNat a_1) (data_0.getD (Int.toNat pivot_3) [])).set (Int.toNat pivot_3) (data_0.getD (Int.toNat a_1) [])).getD (Int.toNat e4) [])))
     else
       ckB (ix e4 ((data_0.set (Int.toNat a_1) (data_0.getD (Int.toNat pivot_3) [])).set (Int.toNat pivot_3) (data_0.getD (Int.toNat a_1) [])).length) <|
       ckB (ix e4 ((data_0.set (Int.toNat a_1) (data_0.getD (Int.toNat pivot_3) [])).set (Int.toNat pivot_3) (data_0.getD (Int.toNat a_1) [])).length) <|
       ckB (ix e2 ((data_0.set (Int.toNat a_1) (data_0.getD (Int.toNat pivot_3) [])).set (Int.toNat pivot_3) (data_0.getD (Int.toNat a_1) [])).length) <|
       ckB (ix e2 ((data_0.set (Int.toNat a_1) (data_0.getD (Int.toNat pivot_3) [])).set (Int.toNat pivot_3) (data_0.getD (Int.toNat a_1) [])).length) <|
       ckB (ix e2 ((data_0.set (Int.toNat a_1) (data_0.getD (Int.toNat pivot_3) [])).set (Int.toNat pivot_3) (data_0.getD (Int.toNat a_1) [])).length) <|
       ckB (ix e2 ((data_0.set (Int.toNat a_1) (data_0.getD (Int.toNat pivot_3) [])).set (Int.toNat pivot_3) (data_0.getD (Int.toNat a_1) [])).length) <|
       ckB (ix e4 (((data_0.set (Int.toNat a_1) (data_0.getD (Int.toNat pivot_3) [])).set (Int.toNat pivot_3) (data_0.getD (Int.toNat a_1) [])).set (Int.toNat e2) (((data_0.set (Int.toNat a_1) (data_0.getD (Int.toNat pivot_3) [])).set (Int.toNat pivot_3) (data_0.getD (Int.toNat a_1) [])).getD (Int.toNat e4) [])).length) <|
       ckB (ix e4 (((data_0.set (Int.toNat a_1) (data_0.getD (Int.toNat pivot_3) [])).set (Int.toNat pivot_3) (data_0.getD (Int.toNat a_1) [])).set (Int.toNat e2) (((data_0.set (Int.toNat a_1) (data_0.getD (Int.toNat pivot_3) [])).set (Int.toNat pivot_3) (data_0.getD (Int.toNat a_1) [])).getD (Int.toNat e4) [])).length) <|
       ckB (inR .i64 (e2+1)) <|
       ckB (inR .i64 (e4 - 1)) <|
       bnd (qds a_1 ((e2+1),(e4 - 1),((((data_0.set (Int.toNat a_1) (data_0.getD (Int.toNat pivot_3) [])).set (Int.toNat pivot_3) (data_0.getD (Int.toNat a_1) [])).set (Int.toNat e2) (((data_0.set (Int.toNat a_1) (data_0.getD (Int.toNat pivot_3) [])).set (Int.toNat pivot_3) (data_0.getD (Int.toNat a_1) [])).getD (Int.toNat e4) [])).set (Int.toNat e4) (((data_0.set (Int.toNat a_1) (data_0.getD (Int.toNat pivot_3) [])).set (Int.toNat pivot_3) (data_0.getD (Int.toNat a_1) [])).getD (Int.toNat e2) [])))) fun oe9 =>
       lk oe9 (fun e9 =>
         ckB (ix a_1 e9.2.length) <|
         ckB (ix a_1 e9.2.length) <|
         ckB (ix e9.1 e9.2.length) <|
         ckB (ix e9.1 e9.2.length) <|
         ckB (ix e9.1 e9.2.length) <|
         ckB (ix e9.1 e9.2.length) <|
         ckB (ix a_1 (e9.2.set (Int.toNat e9.1) (e9.2.getD (Int.toNat a_1) [])).length) <|
         ckB (ix a_1 (e9.2.set (Int.toNat e9.1) (e9.2.getD (Int.toNat a_1) [])).length) <|
         some (e9.1,false,((e9.2.set (Int.toNat e9.1) (e9.2.getD (Int.toNat a_1) [])).set (Int.toNat a_1) (e9.2.getD (Int.toNat e9.1) [])))) (fun r=>some r)) (fun r=>some r)) (fun r=>some r)
def q7d {R:Type} (rec:((Unit×Int×Int×Int×(Unit)×Unit)×(qL2×Unit))→Option qL2) (a_1:Int) (b_2:Int) (limit_3:Int) (wasBalanced_10:Bool) (wasPartitioned_11:Bool) (length_12:Int) (pivot_13:Int) (v_75:Bool) (data_0:qL2) (dn:qL2→Option R) (rt:qL2→Option R):Option R :=
 bif v_75 then
   bnd (q3n a_1 b_2 data_0) fun r6 =>
   ckB (decide (r6.2.length=data_0.length)) <|
   bif r6.1 then
     rt r6.2
   else
     dn r6.2
 else
   dn data_0
def qj (rec:((Unit×Int×Int×Int×(Unit)×Unit)×(qL2×Unit))→Option qL2) (a_1:Int) (b_2:Int) (limit_3:Int) (wasBalanced_10:Bool) (wasPartitioned_11:Bool) (length_12:Int) (pivot_13:Int) (v_75:Bool) (data_0:qL2):Option (qL2⊕qL2) :=
 q7d rec a_1 b_2 limit_3 wasBalanced_10 wasPartitioned_11 length_12 pivot_13 v_75 data_0 (fun e=>some (.inl e)) (fun r=>some (.inr r))
def q79:Shp:=⟨[(0,.own 0),(1,.d true qT0),(2,.d true qT0),(3,.d true qT0),(4,.fn 64 .nil),(10,.d true .bool),(11,.d true .bool),(12,.d true qT0),(13,.d true qT0),(75,.d true .bool)],[.arr 25 (.fz true) [3] qT1]⟩
def q7a:Shp:=⟨[(0,.own 0),(1,.d true qT0),(2,.d true qT0),(3,.d true qT0),(4,.fn 64 .nil),(10,.d true .bool),(11,.d true .bool),(12,.d true qT0),(13,.d true qT0)],[.arr 25 (.fz true) [3] qT1]⟩
def q7h {R:Type} (rec:((Unit×Int×Int×Int×(Unit)×Unit)×(qL2×Unit))→Option qL2) (a_1:Int) (b_2:Int) (limit_3:Int) (length_12:Int) (pivot_13:Int) (data_0:qL2) (dn:(Int×Int×Bool×Bool×qL2)→Option R) (rt:qL2→Option R):Option R :=
 bnd (q82 a_1 b_2 pivot_13 data_0) fun r10 =>
 ckB (decide (r10.2.2.length=data_0.length)) <|
 ckB (inR .i64 (r10.1 - a_1)) <|
 ckB (inR .i64 (b_2 - r10.1)) <|
 ckB (!decide ((8:Int)=0)) <|
 ckB (inR .i64 (Int.tdiv length_12 8)) <|
 bif decide ((r10.1 - a_1) < (b_2 - r10.1)) then
   bnd (rec (((),a_1,r10.1,limit_3,(()),()),(r10.2.2,()))) fun r11 =>
   ckB (decide (r11.length=r10.2.2.length)) <|
   ckB (inR .i64 (r10.1+1)) <|
   dn ((r10.1+1),b_2,decide ((Int.tdiv length_12 8)≤(r10.1 - a_1)),r10.2.1,r11)
 else
   ckB (inR .i64 (r10.1+1)) <|
   bnd (rec (((),(r10.1+1),b_2,limit_3,(()),()),(r10.2.2,()))) fun r12 =>
   ckB (decide (r12.length=r10.2.2.length)) <|
   dn (a_1,r10.1,decide ((Int.tdiv length_12 8)≤(b_2 - r10.1)),r10.2.1,r12)
def q6 (rec:((Unit×Int×Int×Int×(Unit)×Unit)×(qL2×Unit))→Option qL2) (a_1:Int) (b_2:Int) (limit_3:Int) (length_12:Int) (pivot_13:Int) (data_0:qL2):Option ((Int×Int×Bool×Bool×qL2)⊕qL2) :=
 q7h rec a_1 b_2 limit_3 length_12 pivot_13 data_0 (fun e=>some (.inl e)) (fun r=>some (.inr r))
def q7i:Shp:=⟨[(0,.own 0),(1,.d true qT0),(2,.d true qT0),(3,.d true qT0),(4,.fn 64 .nil),(12,.d true qT0),(13,.d true qT0)],[.arr 25 (.fz true) [3] qT1]⟩
def q77:Shp:=⟨[(0,.own 0),(1,.d true qT0),(2,.d true qT0),(3,.d true qT0),(4,.fn 64 .nil),(10,.d true .bool),(11,.d true .bool)],[.arr 25 (.fz true) [3] qT1]⟩
def q76 {R:Type} (rec:((Unit×Int×Int×Int×(Unit)×Unit)×(qL2×Unit))→Option qL2)  (a_1:Int) (b_2:Int) (limit_3:Int) (wasBalanced_10:Bool) (wasPartitioned_11:Bool) (data_0:qL2) (nx:(Int×Int×Int×Bool×Bool×qL2)→Option R) (dn:Unit→Option R) (rt:qL2→Option R):Option R :=
 ckB (inR .i64 (b_2 - a_1)) <|
 bif decide ((b_2 - a_1)≤12) then
   bnd (q61 a_1 b_2 data_0) fun r1 =>
   ckB (decide (r1.length=data_0.length)) <|
   rt r1
 else
   bif decide (limit_3=0) then
     bnd (q8i a_1 b_2 data_0) fun r2 =>
     ckB (decide (r2.length=data_0.length)) <|
     rt r2
   else
     bif (!wasBalanced_10) then
       bnd (q60 a_1 b_2 data_0) fun r3 =>
       ckB (decide (r3.length=data_0.length)) <|
       ckB (inR .i64 (limit_3 - 1)) <|
       bnd (q39 r3 a_1 b_2) fun r4 =>
       bif decide (r4.2=2) then
         bnd (q2m a_1 b_2 r3) fun r5 =>
         ckB (decide (r5.length=r3.length)) <|
         ckB (inR .i64 (b_2 - 1)) <|
         ckB (inR .i64 (r4.1 - a_1)) <|
         ckB (inR .i64 ((b_2 - 1) - (r4.1 - a_1))) <|
         bif wasBalanced_10 then
           bif wasPartitioned_11 then
             bnd (qj rec a_1 b_2 (limit_3 - 1) wasBalanced_10 wasPartitioned_11 (b_2 - a_1) ((b_2 - 1) - (r4.1 - a_1)) (decide ((1:Int)=1)) r5) fun oe7 =>
             lk oe7 (fun e7 =>
               bif decide ((0:Int) < a_1) then
                 ckB (inR .i64 (a_1 - 1)) <|
                 ckB (ix (a_1 - 1) e7.length) <|
                 ckB (ix (a_1 - 1) e7.length) <|
                 ckB (ix ((b_2 - 1) - (r4.1 - a_1)) e7.length) <|
                 ckB (ix ((b_2 - 1) - (r4.1 - a_1)) e7.length) <|
                 bnd (qg (e7.getD (Int.toNat (a_1 - 1)) []) (e7.getD (Int.toNat ((b_2 - 1) - (r4.1 - a_1))) [])) fun r8 =>
                 bif (!(decide (r8 < 0))) then
                   bnd (qi a_1 b_2 ((b_2 - 1) - (r4.1 - a_1)) e7) fun r9 =>
                   ckB (decide (r9.2.length=e7.length)) <|
                   nx (r9.1,b_2,(limit_3 - 1),wasBalanced_10,wasPartitioned_11,r9.2)
                 else
                   bnd (q6 rec a_1 b_2 (limit_3 - 1) (b_2 - a_1) ((b_2 - 1) - (r4.1 - a_1)) e7) fun oe13 =>
                   lk oe13 (fun e13 =>
                     nx (e13.1,e13.2.1,(limit_3 - 1),e13.2.2.1,e13.2.2.2.1,e13.2.2.2.2)) (fun r=>rt r)
               else
                 bnd (q6 rec a_1 b_2 (limit_3 - 1) (b_2 - a_1) ((b_2 - 1) - (r4.1 - a_1)) e7) fun oe14 =>
                 lk oe14 (fun e14 =>
                   nx (e14.1,e14.2.1,(limit_3 - 1),e14.2.2.1,e14.2.2.2.1,e14.2.2.2.2)) (fun r=>rt r)) (fun r=>rt r)
           else
             bnd (qj rec a_1 b_2 (limit_3 - 1) wasBalanced_10 wasPartitioned_11 (b_2 - a_1) ((b_2 - 1) - (r4.1 - a_1)) false r5) fun oe15 =>
             lk oe15 (fun e15 =>
               bif decide ((0:Int) < a_1) then
                 ckB (inR .i64 (a_1 - 1)) <|
                 ckB (ix (a_1 - 1) e15.length) <|
                 ckB (ix (a_1 - 1) e15.length) <|
                 ckB (ix ((b_2 - 1) - (r4.1 - a_1)) e15.length) <|
                 ckB (ix ((b_2 - 1) - (r4.1 - a_1)) e15.length) <|
                 bnd (qg (e15.getD (Int.toNat (a_1 - 1)) []) (e15.getD (Int.toNat ((b_2 - 1) - (r4.1 - a_1))) [])) fun r16 =>
                 bif (!(decide (r16 < 0))) then
                   bnd (qi a_1 b_2 ((b_2 - 1) - (r4.1 - a_1)) e15) fun r17 =>
                   ckB (decide (r17.2.length=e15.length)) <|
                   nx (r17.1,b_2,(limit_3 - 1),wasBalanced_10,wasPartitioned_11,r17.2)
                 else
                   bnd (q6 rec a_1 b_2 (limit_3 - 1) (b_2 - a_1) ((b_2 - 1) - (r4.1 - a_1)) e15) fun oe18 =>
                   lk oe18 (fun e18 =>
                     nx (e18.1,e18.2.1,(limit_3 - 1),e18.2.2.1,e18.2.2.2.1,e18.2.2.2.2)) (fun r=>rt r)
               else
                 bnd (q6 rec a_1 b_2 (limit_3 - 1) (b_2 - a_1) ((b_2 - 1) - (r4.1 - a_1)) e15) fun oe19 =>
                 lk oe19 (fun e19 =>
                   nx (e19.1,e19.2.1,(limit_3 - 1),e19.2.2.1,e19.2.2.2.1,e19.2.2.2.2)) (fun r=>rt r)) (fun r=>rt r)
         else
           bnd (qj rec a_1 b_2 (limit_3 - 1) wasBalanced_10 wasPartitioned_11 (b_2 - a_1) ((b_2 - 1) - (r4.1 - a_1)) false r5) fun oe20 =>
           lk oe20 (fun e20 =>
             bif decide ((0:Int) < a_1) then
               ckB (inR .i64 (a_1 - 1)) <|
               ckB (ix (a_1 - 1) e20.length) <|
               ckB (ix (a_1 - 1) e20.length) <|
               ckB (ix ((b_2 - 1) - (r4.1 - a_1)) e20.length) <|
               ckB (ix ((b_2 - 1) - (r4.1 - a_1)) e20.length) <|
               bnd (qg (e20.getD (Int.toNat (a_1 - 1)) []) (e20.getD (Int.toNat ((b_2 - 1) - (r4.1 - a_1))) [])) fun r21 =>
               bif (!(decide (r21 < 0))) then
                 bnd (qi a_1 b_2 ((b_2 - 1) - (r4.1 - a_1)) e20) fun r22 =>
                 ckB (decide (r22.2.length=e20.length)) <|
                 nx (r22.1,b_2,(limit_3 - 1),wasBalanced_10,wasPartitioned_11,r22.2)
               else
                 bnd (q6 rec a_1 b_2 (limit_3 - 1) (b_2 - a_1) ((b_2 - 1) - (r4.1 - a_1)) e20) fun oe23 =>
                 lk oe23 (fun e23 =>
                   nx (e23.1,e23.2.1,(limit_3 - 1),e23.2.2.1,e23.2.2.2.1,e23.2.2.2.2)) (fun r=>rt r)
             else
               bnd (q6 rec a_1 b_2 (limit_3 - 1) (b_2 - a_1) ((b_2 - 1) - (r4.1 - a_1)) e20) fun oe24 =>
               lk oe24 (fun e24 =>
                 nx (e24.1,e24.2.1,(limit_3 - 1),e24.2.2.1,e24.2.2.2.1,e24.2.2.2.2)) (fun r=>rt r)) (fun r=>rt r)
       else
         bif wasBalanced_10 then
           bif wasPartitioned_11 then
             bnd (qj rec a_1 b_2 (limit_3 - 1) wasBalanced_10 wasPartitioned_11 (b_2 - a_1) r4.1 (decide (r4.2=1)) r3) fun oe25 =>
             lk oe25 (fun e25 =>
               bif decide ((0:Int) < a_1) then
                 ckB (inR .i64 (a_1 - 1)) <|
                 ckB (ix (a_1 - 1) e25.length) <|
                 ckB (ix (a_1 - 1) e25.length) <|
                 ckB (ix r4.1 e25.length) <|
                 ckB (ix r4.1 e25.length) <|
                 bnd (qg (e25.getD (Int.toNat (a_1 - 1)) []) (e25.getD (Int.toNat r4.1) [])) fun r26 =>
                 bif (!(decide (r26 < 0))) then
                   bnd (qi a_1 b_2 r4.1 e25) fun r27 =>
                   ckB (decide (r27.2.length=e25.length)) <|
                   nx (r27.1,b_2,(limit_3 - 1),wasBalanced_10,wasPartitioned_11,r27.2)
                 else
                   bnd (q6 rec a_1 b_2 (limit_3 - 1) (b_2 - a_1) r4.1 e25) fun oe28 =>
                   lk oe28 (fun e28 =>
                     nx (e28.1,e28.2.1,(limit_3 - 1),e28.2.2.1,e28.2.2.2.1,e28.2.2.2.2)) (fun r=>rt r)
               else
                 bnd (q6 rec a_1 b_2 (limit_3 - 1) (b_2 - a_1) r4.1 e25) fun oe29 =>
                 lk oe29 (fun e29 =>
                   nx (e29.1,e29.2.1,(limit_3 - 1),e29.2.2.1,e29.2.2.2.1,e29.2.2.2.2)) (fun r=>rt r)) (fun r=>rt r)
           else
             bnd (qj rec a_1 b_2 (limit_3 - 1) wasBalanced_10 wasPartitioned_11 (b_2 - a_1) r4.1 false r3) fun oe30 =>
             lk oe30 (fun e30 =>
               bif decide ((0:Int) < a_1) then
                 ckB (inR .i64 (a_1 - 1)) <|
                 ckB (ix (a_1 - 1) e30.length) <|
                 ckB (ix (a_1 - 1) e30.length) <|
                 ckB (ix r4.1 e30.length) <|
                 ckB (ix r4.1 e30.length) <|
                 bnd (qg (e30.getD (Int.toNat (a_1 - 1)) []) (e30.getD (Int.toNat r4.1) [])) fun r31 =>
                 bif (!(decide (r31 < 0))) then
                   bnd (qi a_1 b_2 r4.1 e30) fun r32 =>
                   ckB (decide (r32.2.length=e30.length)) <|
                   nx (r32.1,b_2,(limit_3 - 1),wasBalanced_10,wasPartitioned_11,r32.2)
                 else
                   bnd (q6 rec a_1 b_2 (limit_3 - 1) (b_2 - a_1) r4.1 e30) fun oe33 =>
                   lk oe33 (fun e33 =>
                     nx (e33.1,e33.2.1,(limit_3 - 1),e33.2.2.1,e33.2.2.2.1,e33.2.2.2.2)) (fun r=>rt r)
               else
                 bnd (q6 rec a_1 b_2 (limit_3 - 1) (b_2 - a_1) r4.1 e30) fun oe34 =>
                 lk oe34 (fun e34 =>
                   nx (e34.1,e34.2.1,(limit_3 - 1),e34.2.2.1,e34.2.2.2.1,e34.2.2.2.2)) (fun r=>rt r)) (fun r=>rt r)
         else
           bnd (qj rec a_1 b_2 (limit_3 - 1) wasBalanced_10 wasPartitioned_11 (b_2 - a_1) r4.1 false r3) fun oe35 =>
           lk oe35 (fun e35 =>
             bif decide ((0:Int) < a_1) then
               ckB (inR .i64 (a_1 - 1)) <|
               ckB (ix (a_1 - 1) e35.length) <|
               ckB (ix (a_1 - 1) e35.length) <|
               ckB (ix r4.1 e35.length) <|
               ckB (ix r4.1 e35.length) <|
               bnd (qg (e35.getD (Int.toNat (a_1 - 1)) []) (e35.getD (Int.toNat r4.1) [])) fun r36 =>
               bif (!(decide (r36 < 0))) then
                 bnd (qi a_1 b_2 r4.1 e35) fun r37 =>
                 ckB (decide (r37.2.length=e35.length)) <|
                 nx (r37.1,b_2,(limit_3 - 1),wasBalanced_10,wasPartitioned_11,r37.2)
               else
                 bnd (q6 rec a_1 b_2 (limit_3 - 1) (b_2 - a_1) r4.1 e35) fun oe38 =>
                 lk oe38 (fun e38 =>
                   nx (e38.1,e38.2.1,(limit_3 - 1),e38.2.2.1,e38.2.2.2.1,e38.2.2.2.2)) (fun r=>rt r)
             else
               bnd (q6 rec a_1 b_2 (limit_3 - 1) (b_2 - a_1) r4.1 e35) fun oe39 =>
               lk oe39 (fun e39 =>
                 nx (e39.1,e39.2.1,(limit_3 - 1),e39.2.2.1,e39.2.2.2.1,e39.2.2.2.2)) (fun r=>rt r)) (fun r=>rt r)
     else
       bnd (q39 data_0 a_1 b_2) fun r40 =>
       bif decide (r40.2=2) then
         bnd (q2m a_1 b_2 data_0) fun r41 =>
         ckB (decide (r41.length=data_0.length)) <|
         ckB (inR .i64 (b_2 - 1)) <|
         ckB (inR .i64 (r40.1 - a_1)) <|
         ckB (inR .i64 ((b_2 - 1) - (r40.1 - a_1))) <|
         bif wasBalanced_10 then
           bif wasPartitioned_11 then
             bnd (qj rec a_1 b_2 limit_3 wasBalanced_10 wasPartitioned_11 (b_2 - a_1) ((b_2 - 1) - (r40.1 - a_1)) (decide ((1:Int)=1)) r41) fun oe42 =>
             lk oe42 (fun e42 =>
               bif decide ((0:Int) < a_1) then
                 ckB (inR .i64 (a_1 - 1)) <|
                 ckB (ix (a_1 - 1) e42.length) <|
                 ckB (ix (a_1 - 1) e42.length) <|
                 ckB (ix ((b_2 - 1) - (r40.1 - a_1)) e42.length) <|
                 ckB (ix ((b_2 - 1) - (r40.1 - a_1)) e42.length) <|
                 bnd (qg (e42.getD (Int.toNat (a_1 - 1)) []) (e42.getD (Int.toNat ((b_2 - 1) - (r40.1 - a_1))) [])) fun r43 =>
                 bif (!(decide (r43 < 0))) then
                   bnd (qi a_1 b_2 ((b_2 - 1) - (r40.1 - a_1)) e42) fun r44 =>
                   ckB (decide (r44.2.length=e42.length)) <|
                   nx (r44.1,b_2,limit_3,wasBalanced_10,wasPartitioned_11,r44.2)
                 else
                   bnd (q6 rec a_1 b_2 limit_3 (b_2 - a_1) ((b_2 - 1) - (r40.1 - a_1)) e42) fun oe45 =>
                   lk oe45 (fun e45 =>
                     nx (e45.1,e45.2.1,limit_3,e45.2.2.1,e45.2.2.2.1,e45.2.2.2.2)) (fun r=>rt r)
               else
                 bnd (q6 rec a_1 b_2 limit_3 (b_2 - a_1) ((b_2 - 1) - (r40.1 - a_1)) e42) fun oe46 =>
                 lk oe46 (fun e46 =>
                   nx (e46.1,e46.2.1,limit_3,e46.2.2.1,e46.2.2.2.1,e46.2.2.2.2)) (fun r=>rt r)) (fun r=>rt r)
           else
             bnd (qj rec a_1 b_2 limit_3 wasBalanced_10 wasPartitioned_11 (b_2 - a_1) ((b_2 - 1) - (r40.1 - a_1)) false r41) fun oe47 =>
             lk oe47 (fun e47 =>
               bif decide ((0:Int) < a_1) then
                 ckB (inR .i64 (a_1 - 1)) <|
                 ckB (ix (a_1 - 1) e47.length) <|
                 ckB (ix (a_1 - 1) e47.length) <|
                 ckB (ix ((b_2 - 1) - (r40.1 - a_1)) e47.length) <|
                 ckB (ix ((b_2 - 1) - (r40.1 - a_1)) e47.length) <|
                 bnd (qg (e47.getD (Int.toNat (a_1 - 1)) []) (e47.getD (Int.toNat ((b_2 - 1) - (r40.1 - a_1))) [])) fun r48 =>
                 bif (!(decide (r48 < 0))) then
                   bnd (qi a_1 b_2 ((b_2 - 1) - (r40.1 - a_1)) e47) fun r49 =>
                   ckB (decide (r49.2.length=e47.length)) <|
                   nx (r49.1,b_2,limit_3,wasBalanced_10,wasPartitioned_11,r49.2)
                 else
                   bnd (q6 rec a_1 b_2 limit_3 (b_2 - a_1) ((b_2 - 1) - (r40.1 - a_1)) e47) fun oe50 =>
                   lk oe50 (fun e50 =>
                     nx (e50.1,e50.2.1,limit_3,e50.2.2.1,e50.2.2.2.1,e50.2.2.2.2)) (fun r=>rt r)
               else
                 bnd (q6 rec a_1 b_2 limit_3 (b_2 - a_1) ((b_2 - 1) - (r40.1 - a_1)) e47) fun oe51 =>
                 lk oe51 (fun e51 =>
                   nx (e51.1,e51.2.1,limit_3,e51.2.2.1,e51.2.2.2.1,e51.2.2.2.2)) (fun r=>rt r)) (fun r=>rt r)
         else
           bnd (qj rec a_1 b_2 limit_3 wasBalanced_10 wasPartitioned_11 (b_2 - a_1) ((b_2 - 1) - (r40.1 - a_1)) false r41) fun oe52 =>
           lk oe52 (fun e52 =>
             bif decide ((0:Int) < a_1) then
               ckB (inR .i64 (a_1 - 1)) <|
               ckB (ix (a_1 - 1) e52.length) <|
               ckB (ix (a_1 - 1) e52.length) <|
               ckB (ix ((b_2 - 1) - (r40.1 - a_1)) e52.length) <|
               ckB (ix ((b_2 - 1) - (r40.1 - a_1)) e52.length) <|
               bnd (qg (e52.getD (Int.toNat (a_1 - 1)) []) (e52.getD (Int.toNat ((b_2 - 1) - (r40.1 - a_1))) [])) fun r53 =>
               bif (!(decide (r53 < 0))) then
                 bnd (qi a_1 b_2 ((b_2 - 1) - (r40.1 - a_1)) e52) fun r54 =>
                 ckB (decide (r54.2.length=e52.length)) <|
                 nx (r54.1,b_2,limit_3,wasBalanced_10,wasPartitioned_11,r54.2)
               else
                 bnd (q6 rec a_1 b_2 limit_3 (b_2 - a_1) ((b_2 - 1) - (r40.1 - a_1)) e52) fun oe55 =>
                 lk oe55 (fun e55 =>
                   nx (e55.1,e55.2.1,limit_3,e55.2.2.1,e55.2.2.2.1,e55.2.2.2.2)) (fun r=>rt r)
             else
               bnd (q6 rec a_1 b_2 limit_3 (b_2 - a_1) ((b_2 - 1) - (r40.1 - a_1)) e52) fun oe56 =>
               lk oe56 (fun e56 =>
                 nx (e56.1,e56.2.1,limit_3,e56.2.2.1,e56.2.2.2.1,e56.2.2.2.2)) (fun r=>rt r)) (fun r=>rt r)
       else
         bif wasBalanced_10 then
           bif wasPartitioned_11 then
             bnd (qj rec a_1 b_2 limit_3 wasBalanced_10 wasPartitioned_11 (b_2 - a_1) r40.1 (decide (r40.2=1)) data_0) fun oe57 =>
             lk oe57 (fun e57 =>
               bif decide ((0:Int) < a_1) then
                 ckB (inR .i64 (a_1 - 1)) <|
                 ckB (ix (a_1 - 1) e57.length) <|
                 ckB (ix (a_1 - 1) e57.length) <|
                 ckB (ix r40.1 e57.length) <|
                 ckB (ix r40.1 e57.length) <|
                 bnd (qg (e57.getD (Int.toNat (a_1 - 1)) []) (e57.getD (Int.toNat r40.1) [])) fun r58 =>
                 bif (!(decide (r58 < 0))) then
                   bnd (qi a_1 b_2 r40.1 e57) fun r59 =>
                   ckB (decide (r59.2.length=e57.length)) <|
                   nx (r59.1,b_2,limit_3,wasBalanced_10,wasPartitioned_11,r59.2)
                 else
                   bnd (q6 rec a_1 b_2 limit_3 (b_2 - a_1) r40.1 e57) fun oe60 =>
                   lk oe60 (fun e60 =>
                     nx (e60.1,e60.2.1,limit_3,e60.2.2.1,e60.2.2.2.1,e60.2.2.2.2)) (fun r=>rt r)
               else
                 bnd (q6 rec a_1 b_2 limit_3 (b_2 - a_1) r40.1 e57) fun oe61 =>
                 lk oe61 (fun e61 =>
                   nx (e61.1,e61.2.1,limit_3,e61.2.2.1,e61.2.2.2.1,e61.2.2.2.2)) (fun r=>rt r)) (fun r=>rt r)
           else
             bnd (qj rec a_1 b_2 limit_3 wasBalanced_10 wasPartitioned_11 (b_2 - a_1) r40.1 false data_0) fun oe62 =>
             lk oe62 (fun e62 =>
               bif decide ((0:Int) < a_1) then
                 ckB (inR .i64 (a_1 - 1)) <|
                 ckB (ix (a_1 - 1) e62.length) <|
                 ckB (ix (a_1 - 1) e62.length) <|
                 ckB (ix r40.1 e62.length) <|
                 ckB (ix r40.1 e62.length) <|
                 bnd (qg (e62.getD (Int.toNat (a_1 - 1)) []) (e62.getD (Int.toNat r40.1) [])) fun r63 =>
                 bif (!(decide (r63 < 0))) then
                   bnd (qi a_1 b_2 r40.1 e62) fun r64 =>
                   ckB (decide (r64.2.length=e62.length)) <|
                   nx (r64.1,b_2,limit_3,wasBalanced_10,wasPartitioned_11,r64.2)
                 else
                   bnd (q6 rec a_1 b_2 limit_3 (b_2 - a_1) r40.1 e62) fun oe65 =>
                   lk oe65 (fun e65 =>
                     nx (e65.1,e65.2.1,limit_3,e65.2.2.1,e65.2.2.2.1,e65.2.2.2.2)) (fun r=>rt r)
               else
                 bnd (q6 rec a_1 b_2 limit_3 (b_2 - a_1) r40.1 e62) fun oe66 =>
                 lk oe66 (fun e66 =>
                   nx (e66.1,e66.2.1,limit_3,e66.2.2.1,e66.2.2.2.1,e66.2.2.2.2)) (fun r=>rt r)) (fun r=>rt r)
         else
           bnd (qj rec a_1 b_2 limit_3 wasBalanced_10 wasPartitioned_11 (b_2 - a_1) r40.1 false data_0) fun oe67 =>
           lk oe67 (fun e67 =>
             bif decide ((0:Int) < a_1) then
               ckB (inR .i64 (a_1 - 1)) <|
               ckB (ix (a_1 - 1) e67.length) <|
               ckB (ix (a_1 - 1) e67.length) <|
               ckB (ix r40.1 e67.length) <|
               ckB (ix r40.1 e67.length) <|
               bnd (qg (e67.getD (Int.toNat (a_1 - 1)) []) (e67.getD (Int.toNat r40.1) [])) fun r68 =>
               bif (!(decide (r68 < 0))) then
                 bnd (qi a_1 b_2 r40.1 e67) fun r69 =>
                 ckB (decide (r69.2.length=e67.length)) <|
                 nx (r69.1,b_2,limit_3,wasBalanced_10,wasPartitioned_11,r69.2)
               else
                 bnd (q6 rec a_1 b_2 limit_3 (b_2 - a_1) r40.1 e67) fun oe70 =>
                 lk oe70 (fun e70 =>
                   nx (e70.1,e70.2.1,limit_3,e70.2.2.1,e70.2.2.2.1,e70.2.2.2.2)) (fun r=>rt r)
             else
               bnd (q6 rec a_1 b_2 limit_3 (b_2 - a_1) r40.1 e67) fun oe71 =>
               lk oe71 (fun e71 =>
                 nx (e71.1,e71.2.1,limit_3,e71.2.2.1,e71.2.2.2.1,e71.2.2.2.2)) (fun r=>rt r)) (fun r=>rt r)
def qet (rec:((Unit×Int×Int×Int×(Unit)×Unit)×(qL2×Unit))→Option qL2)  (s0:(Int×Int×Int×Bool×Bool×qL2)):Option (Unit⊕qL2) :=
 loopM (fun a=>q76 rec  a.1 a.2.1 a.2.2.1 a.2.2.2.1 a.2.2.2.2.1 a.2.2.2.2.2 (fun a'=>some (.next a')) (fun e=>some (.done e)) (fun r=>some (.ret r))) s0
def q7b:Shp:=⟨[(0,.own 0),(1,.d true qT0),(2,.d true qT0),(3,.d true qT0),(4,.fn 64 .nil),(10,.d true .bool),(11,.d true .bool)],[.arr 25 (.fz true) [3] qT1]⟩
def q7e:Shp:=⟨[],[]⟩
def q4e (rec:((Unit×Int×Int×Int×(Unit)×Unit)×(qL2×Unit))→Option qL2) (a_1:Int) (b_2:Int) (limit_3:Int) (data_0:qL2):Option qL2 :=
 bnd (qet rec  (a_1,b_2,limit_3,true,true,data_0)) fun oe72 =>
 lk oe72 (fun e72 =>
   none) (fun r=>some r)
def q8j (a:((Unit×Int×Int×Int×(Unit)×Unit)×(qL2×Unit))):Option qL2 :=
 recM (fun (rec:((Unit×Int×Int×Int×(Unit)×Unit)×(qL2×Unit))→Option qL2) (a:((Unit×Int×Int×Int×(Unit)×Unit)×(qL2×Unit)))=>q4e rec a.1.2.1 a.1.2.2.1 a.1.2.2.2.1 a.2.1) many a
def qh4 (a_1:Int) (b_2:Int) (limit_3:Int) (data_0:qL2):Option qL2 :=
 q8j (((),a_1,b_2,limit_3,(()),()),(data_0,()))
def qa4 (x_0:qL2):Option qL2 :=
 bnd (qtt (IntKind.wrap .u64 (x_0.length:Int))) fun r1 =>
 bnd (qh4 0 (x_0.length:Int) r1 x_0) fun r2 =>
 ckB (decide (r2.length=x_0.length)) <|
 some r2
def qox (k_0:Int):Option Bool :=
 some (decide ((1048576:Int) < k_0))
def q7x {R:Type} (s_0:qL1) (v_7:Int) (v_8:Int) (nx:Int→Option R) (dn:Unit→Option R) (rt:Int→Option R):Option R :=
 bif decide (v_8 < v_7) then
   ckB (ix v_8 s_0.length) <|
   ckB (ix v_8 s_0.length) <|
   bnd (qox (s_0.getD (Int.toNat v_8) 0)) fun r1 =>
   bif r1 then
     rt v_8
   else
     ckB (inR .i64 (v_8+1)) <|
     nx (v_8+1)
 else
   dn ()
def qg5 (s_0:qL1) (v_7:Int) (s0:Int):Option (Unit⊕Int) :=
 loopM (fun a=>q7x s_0 v_7 a (fun a'=>some (.next a')) (fun e=>some (.done e)) (fun r=>some (.ret r))) s0
def q85:Shp:=⟨[(0,.d false qT1),(1,.fn 79 .nil),(7,.d true qT0),(8,.d true qT0)],[]⟩
def q80:Shp:=⟨[],[]⟩
def q9p (s_0:qL1):Option Int :=
 bnd (qg5 s_0 (s_0.length:Int) 0) fun oe2 =>
 lk oe2 (fun e2 =>
   some (-1)) (fun r=>some r)
def q7r (s_0:qL1):Option Bool :=
 bnd (q9p s_0) fun r1 =>
 some (decide ((0:Int)≤r1))
def qls {R:Type} (matrix_0:qL2) (v_14:qL2) (v_15:Int) (v_16:Int) (r_40:qL2) (r_41:qL2) (nx:(Int×qL2×qL2)→Option R) (dn:(qL2×qL2)→Option R) (rt:(qL2×Int)→Option R):Option R :=
 bif decide (v_16 < v_15) then
   ckB (ix v_16 v_14.length) <|
   ckB (ix v_16 v_14.length) <|
   ckB (mkOk (matrix_0.length:Int) (matrix_0.length:Int) 8) <|
   ckB (ix v_16 (List.replicate (Int.toNat (matrix_0.length:Int)) (0:Int)).length) <|
   ckB (ix v_16 (List.replicate (Int.toNat (matrix_0.length:Int)) (0:Int)).length) <|
   bnd (q3q (v_14.getD (Int.toNat v_16) [])) fun r1 =>
   ckB (room (r_40.length+1) 24) <|
   ckB (room (r_41.length+1) 24) <|
   ckB (inR .i64 (v_16+1)) <|
   nx ((v_16+1),(r_40++[r1]),(r_41++[((List.replicate (Int.toNat (matrix_0.length:Int)) (0:Int)).set (Int.toNat v_16) 1)]))
 else
   dn (r_40,r_41)
def qxd (matrix_0:qL2) (v_14:qL2) (v_15:Int) (s0:(Int×qL2×qL2)):Option ((qL2×qL2)⊕(qL2×Int)) :=
 loopM (fun a=>qls matrix_0 v_14 v_15 a.1 a.2.1 a.2.2 (fun a'=>some (.next a')) (fun e=>some (.done e)) (fun r=>some (.ret r))) s0
def qm7:Shp:=⟨[(0,.d false qT2),(4,.ptr 0),(14,.d false qT2),(15,.d true qT0),(16,.d true qT0)],[.cs 95 2 1 (.cons (.own 1) (.cons (.own 2) .nil)),.arr 25 (.fz true) [3] qT1,.arr 25 (.fz true) [3] qT1]⟩
def qmr:Shp:=⟨[(0,.d false qT2),(4,.ptr 0)],[.cs 95 2 1 (.cons (.own 1) (.cons (.own 2) .nil)),.arr 25 (.fz true) [3] qT1,.arr 25 (.fz true) [3] qT1]⟩
def qmk {R:Type} (v_55:Int) (v_56:Int) (r_40:qL2) (r_41:qL2) (nx:(Int×qL2×qL2)→Option R) (dn:(qL2×qL2)→Option R) (rt:(qL2×Int)→Option R):Option R :=
 bif decide (v_56 < v_55) then
   bnd (qgg v_56 r_40 r_41) fun r3 =>
   bif (!r3.1) then
     rt ([],5)
   else
     ckB (inR .i64 (v_56+1)) <|
     nx ((v_56+1),r3.2.1,r3.2.2)
 else
   dn (r_40,r_41)
def qwj (v_55:Int) (s0:(Int×qL2×qL2)):Option ((qL2×qL2)⊕(qL2×Int)) :=
 loopM (fun a=>qmk v_55 a.1 a.2.1 a.2.2 (fun a'=>some (.next a')) (fun e=>some (.done e)) (fun r=>some (.ret r))) s0
def qma:Shp:=⟨[(4,.ptr 0),(55,.d true qT0),(56,.d true qT0)],[.cs 95 2 1 (.cons (.own 1) (.cons (.own 2) .nil)),.arr 25 (.fz true) [3] qT1,.arr 25 (.fz true) [3] qT1]⟩
def qlq:Shp:=⟨[(4,.ptr 0)],[.cs 95 2 1 (.cons (.own 1) (.cons (.own 2) .nil)),.arr 25 (.fz true) [3] qT1,.arr 25 (.fz true) [3] qT1]⟩
def qm9 {R:Type} (out_9:qL2) (v_73:qL2) (v_74:Int) (v_75:Int) (nx:Int→Option R) (dn:Unit→Option R) (rt:(qL2×Int)→Option R):Option R :=
 bif decide (v_75 < v_74) then
   ckB (ix v_75 v_73.length) <|
   ckB (ix v_75 v_73.length) <|
   bnd (q7r (v_73.getD (Int.toNat v_75) [])) fun r6 =>
   bif r6 then
     rt ([],6)
   else
     ckB (inR .i64 (v_75+1)) <|
     nx (v_75+1)
 else
   dn ()
def qwi (out_9:qL2) (v_73:qL2) (v_74:Int) (s0:Int):Option (Unit⊕(qL2×Int)) :=
 loopM (fun a=>qm9 out_9 v_73 v_74 a (fun a'=>some (.next a')) (fun e=>some (.done e)) (fun r=>some (.ret r))) s0
def qm4:Shp:=⟨[(9,.d true qT2),(73,.d true qT2),(74,.d true qT0),(75,.d true qT0)],[]⟩
def qm5:Shp:=⟨[(9,.d true qT2)],[]⟩
def qlw {R:Type} (r_40:qL2) (r_41:qL2) (dn:Unit→Option R) (rt:(qL2×Int)→Option R):Option R :=
 bnd (qa4 r_41) fun r5 =>
 ckB (decide (r5.length=r_41.length)) <|
 bif decide ((1000:Int) < (r5.length:Int)) then
   rt ([],5)
 else
   bnd (qwi r5 r5 (r5.length:Int) 0) fun oe7 =>
   lk oe7 (fun e7 =>
     rt (r5,0)) (fun r=>rt r)
def qow (r_40:qL2) (r_41:qL2):Option (Unit⊕(qL2×Int)) :=
 qlw r_40 r_41 (fun e=>some (.inl e)) (fun r=>some (.inr r))
def qms:Shp:=⟨[(4,.ptr 0)],[.cs 95 2 1 (.cons (.d true qT2) (.cons (.own 1) .nil)),.arr 25 (.fz true) [3] qT1]⟩
def qmz:Shp:=⟨[],[]⟩
def qfl (matrix_0:qL2):Option (qL2×Int) :=
 bnd (qxd matrix_0 matrix_0 (matrix_0.length:Int) (0,[],[])) fun oe2 =>
 lk oe2 (fun e2 =>
   bif decide ((0:Int) < (matrix_0.length:Int)) then
     ckB (ix 0 matrix_0.length) <|
     ckB (ix 0 matrix_0.length) <|
     bnd (qwj ((matrix_0.getD 0 []).length:Int) (0,e2.1,e2.2)) fun oe4 =>
     lk oe4 (fun e4 =>
       bnd (qow e4.1 e4.2) fun oe8 =>
       lk oe8 (fun e8 =>
         none) (fun r=>some r)) (fun r=>some r)
   else
     bnd (qow e2.1 e2.2) fun oe9 =>
     lk oe9 (fun e9 =>
       none) (fun r=>some r)) (fun r=>some r)
def qo8 {R:Type} (p_5:Int) (v_15:Int) (v_16:Int) (v_21:(List Trans)) (v_22:Int) (n_10:Int) (n_11:(List Trans)) (n_12:Int) (n_13:Int) (matrix_4:qL2) (v_23:Int) (row_6:qL1) (nx:(Int×qL1)→Option R) (dn:qL1→Option R) (rt:(qL2×Int)→Option R):Option R :=
 bif decide (v_23 < v_22) then
   ckB (ix v_23 v_21.length) <|
   ckB (ix v_23 v_21.length) <|
   bnd (q3p (v_21.getD (Int.toNat v_23) Trans.z) p_5) fun r3 =>
   ckB (room (row_6.length+1) 8) <|
   ckB (inR .i64 (v_23+1)) <|
   nx ((v_23+1),(row_6++[r3]))
 else
   dn row_6
def qyk (p_5:Int) (v_15:Int) (v_16:Int) (v_21:(List Trans)) (v_22:Int) (n_10:Int) (n_11:(List Trans)) (n_12:Int) (n_13:Int) (matrix_4:qL2) (s0:(Int×qL1)):Option (qL1⊕(qL2×Int)) :=
 loopM (fun a=>qo8 p_5 v_15 v_16 v_21 v_22 n_10 n_11 n_12 n_13 matrix_4 a.1 a.2 (fun a'=>some (.next a')) (fun e=>some (.done e)) (fun r=>some (.ret r))) s0
def qog:Shp:=⟨[(1,.ptr 0),(4,.nl false (.own 1)),(5,.d true qT0),(6,.own 2),(15,.d true qT0),(16,.d true qT0),(21,.d false (.slice Trans.ty)),(22,.d true qT0),(23,.d true qT0)],[.cs 24 4 1 (.cons (.d true qT0) (.cons (.d false (.slice Trans.ty)) (.cons (.d true qT0) (.cons (.d true qT0) .nil)))),.arr 25 (.fz true) [3] qT1,.arr 3 (.fz true) [0] qT0]⟩
def qo2:Shp:=⟨[(1,.ptr 0),(4,.nl false (.own 1)),(6,.own 2),(15,.d true qT0),(16,.d true qT0)],[.cs 24 4 1 (.cons (.d true qT0) (.cons (.d false (.slice Trans.ty)) (.cons (.d true qT0) (.cons (.d true qT0) .nil)))),.arr 25 (.fz true) [3] qT1,.arr 3 (.fz true) [0] qT0]⟩
def qof {R:Type} (v_15:Int) (n_10:Int) (n_11:(List Trans)) (n_12:Int) (n_13:Int) (v_16:Int) (matrix_4:qL2) (nx:(Int×qL2)→Option R) (dn:qL2→Option R) (rt:(qL2×Int)→Option R):Option R :=
 bif decide (v_16 < v_15) then
   bnd (qyk v_16 v_15 v_16 n_11 (n_11.length:Int) n_10 n_11 n_12 n_13 matrix_4 (0,[])) fun oe4 =>
   lk oe4 (fun e4 =>
     ckB (room (matrix_4.length+1) 24) <|
     ckB (inR .i64 (v_16+1)) <|
     nx ((v_16+1),(matrix_4++[e4]))) (fun r=>rt r)
 else
   dn matrix_4
def qym (v_15:Int) (n_10:Int) (n_11:(List Trans)) (n_12:Int) (n_13:Int) (s0:(Int×qL2)):Option (qL2⊕(qL2×Int)) :=
 loopM (fun a=>qof v_15 n_10 n_11 n_12 n_13 a.1 a.2 (fun a'=>some (.next a')) (fun e=>some (.done e)) (fun r=>some (.ret r))) s0
def qom:Shp:=⟨[(1,.ptr 0),(4,.nl false (.own 1)),(15,.d true qT0),(16,.d true qT0)],[.cs 24 4 1 (.cons (.d true qT0) (.cons (.d false (.slice Trans.ty)) (.cons (.d true qT0) (.cons (.d true qT0) .nil)))),.arr 25 (.fz true) [3] qT1]⟩
def qot:Shp:=⟨[(4,.nl false (.own 0))],[.arr 25 (.fz true) [3] qT1]⟩
def qtd (n_00:Int) (n_01:(List Trans)) (n_02:Int) (n_03:Int):Option (qL2×Int) :=
 bnd (q5c (n_00,n_01,n_02,n_03,())) fun r1 =>
 bif (!r1) then
   some ([],1)
 else
   bnd (qje (n_00,n_01,n_02,n_03,())) fun r2 =>
   bif r2 then
     some ([],5)
   else
     bnd (qym n_00 n_00 n_01 n_02 n_03 (0,[])) fun oe5 =>
     lk oe5 (fun e5 =>
       bnd (qfl e5) fun r6 =>
       some (r6.1,r6.2)) (fun r=>some r)
def qgd {R:Type} (v_15:(List Trans)) (v_16:Int) (v_17:Int) (v_23:Int) (n_10:Int) (n_11:(List Trans)) (n_12:Int) (n_13:Int) (matrix_4:qL2) (t_60:ByteArray) (t_61:qL1) (t_62:qL1) (v_24:Int) (row_7:qL1) (nx:(Int×qL1)→Option R) (dn:qL1→Option R) (rt:(qL2×Int)→Option R):Option R :=
 bif decide (v_24 < v_23) then
   bnd (q3p (t_60,t_61,t_62,()) v_24) fun r3 =>
   ckB (room (row_7.length+1) 8) <|
   ckB (inR .i64 (v_24+1)) <|
   nx ((v_24+1),(row_7++[r3]))
 else
   dn row_7
def qr8 (v_15:(List Trans)) (v_16:Int) (v_17:Int) (v_23:Int) (n_10:Int) (n_11:(List Trans)) (n_12:Int) (n_13:Int) (matrix_4:qL2) (t_60:ByteArray) (t_61:qL1) (t_62:qL1) (s0:(Int×qL1)):Option (qL1⊕(qL2×Int)) :=
 loopM (fun a=>qgd v_15 v_16 v_17 v_23 n_10 n_11 n_12 n_13 matrix_4 t_60 t_61 t_62 a.1 a.2 (fun a'=>some (.next a')) (fun e=>some (.done e)) (fun r=>some (.ret r))) s0
def qga:Shp:=⟨[(1,.ptr 0),(4,.nl false (.own 1)),(6,.ptr 2),(7,.own 3),(15,.d false (.slice Trans.ty)),(16,.d true qT0),(17,.d true qT0),(23,.d true qT0),(24,.d true qT0)],[.cs 24 4 1 (.cons (.d true qT0) (.cons (.d false (.slice Trans.ty)) (.cons (.d true qT0) (.cons (.d true qT0) .nil)))),.arr 25 (.fz true) [3] qT1,.cs 68 3 1 (.cons (.d true .str) (.cons (.d false qT1) (.cons (.d false qT1) .nil))),.arr 3 (.fz true) [0] qT0]⟩
def qg9:Shp:=⟨[(1,.ptr 0),(4,.nl false (.own 1)),(7,.own 2),(15,.d false (.slice Trans.ty)),(16,.d true qT0),(17,.d true qT0)],[.cs 24 4 1 (.cons (.d true qT0) (.cons (.d false (.slice Trans.ty)) (.cons (.d true qT0) (.cons (.d true qT0) .nil)))),.arr 25 (.fz true) [3] qT1,.arr 3 (.fz true) [0] qT0]⟩
def qgf {R:Type} (v_15:(List Trans)) (v_16:Int) (n_10:Int) (n_11:(List Trans)) (n_12:Int) (n_13:Int) (v_17:Int) (matrix_4:qL2) (nx:(Int×qL2)→Option R) (dn:qL2→Option R) (rt:(qL2×Int)→Option R):Option R :=
 bif decide (v_17 < v_16) then
   ckB (ix v_17 v_15.length) <|
   ckB (ix v_17 v_15.length) <|
   bnd (qr8 v_15 v_16 v_17 n_10 n_10 n_11 n_12 n_13 matrix_4 (v_15.getD (Int.toNat v_17) Trans.z).1 (v_15.getD (Int.toNat v_17) Trans.z).2.1 (v_15.getD (Int.toNat v_17) Trans.z).2.2.1 (0,[])) fun oe4 =>
   lk oe4 (fun e4 =>
     ckB (room (matrix_4.length+1) 24) <|
     ckB (inR .i64 (v_17+1)) <|
     nx ((v_17+1),(matrix_4++[e4]))) (fun r=>rt r)
 else
   dn matrix_4
def qr5 (v_15:(List Trans)) (v_16:Int) (n_10:Int) (n_11:(List Trans)) (n_12:Int) (n_13:Int) (s0:(Int×qL2)):Option (qL2⊕(qL2×Int)) :=
 loopM (fun a=>qgf v_15 v_16 n_10 n_11 n_12 n_13 a.1 a.2 (fun a'=>some (.next a')) (fun e=>some (.done e)) (fun r=>some (.ret r))) s0
def qgb:Shp:=⟨[(1,.ptr 0),(4,.nl false (.own 1)),(15,.d false (.slice Trans.ty)),(16,.d true qT0),(17,.d true qT0)],[.cs 24 4 1 (.cons (.d true qT0) (.cons (.d false (.slice Trans.ty)) (.cons (.d true qT0) (.cons (.d true qT0) .nil)))),.arr 25 (.fz true) [3] qT1]⟩
def qge:Shp:=⟨[(4,.nl false (.own 0))],[.arr 25 (.fz true) [3] qT1]⟩
def qkj (n_00:Int) (n_01:(List Trans)) (n_02:Int) (n_03:Int):Option (qL2×Int) :=
 bnd (q5c (n_00,n_01,n_02,n_03,())) fun r1 =>
 bif (!r1) then
   some ([],1)
 else
   bnd (qje (n_00,n_01,n_02,n_03,())) fun r2 =>
   bif r2 then
     some ([],5)
   else
     bnd (qr5 n_01 (n_01.length:Int) n_00 n_01 n_02 n_03 (0,[])) fun oe5 =>
     lk oe5 (fun e5 =>
       bnd (qfl e5) fun r6 =>
       some (r6.1,r6.2)) (fun r=>some r)
def qfy (k_0:Int):Option Bool :=
 bif decide (k_0 < 0) then
   some true
 else
   some (decide ((100:Int) < k_0))
def q1o {R:Type} (s_0:qL1) (v_7:Int) (v_8:Int) (nx:Int→Option R) (dn:Unit→Option R) (rt:Int→Option R):Option R :=
 bif decide (v_8 < v_7) then
   ckB (ix v_8 s_0.length) <|
   ckB (ix v_8 s_0.length) <|
   bnd (qfy (s_0.getD (Int.toNat v_8) 0)) fun r1 =>
   bif r1 then
     rt v_8
   else
     ckB (inR .i64 (v_8+1)) <|
     nx (v_8+1)
 else
   dn ()
def q8m (s_0:qL1) (v_7:Int) (s0:Int):Option (Unit⊕Int) :=
 loopM (fun a=>q1o s_0 v_7 a (fun a'=>some (.next a')) (fun e=>some (.done e)) (fun r=>some (.ret r))) s0
def q7w:Shp:=⟨[(0,.d false qT1),(1,.fn 89 .nil),(7,.d true qT0),(8,.d true qT0)],[]⟩
def q86:Shp:=⟨[],[]⟩
def q5m (s_0:qL1):Option Int :=
 bnd (q8m s_0 (s_0.length:Int) 0) fun oe2 =>
 lk oe2 (fun e2 =>
   some (-1)) (fun r=>some r)
def q1q (s_0:qL1):Option Bool :=
 bnd (q5m s_0) fun r1 =>
 some (decide ((0:Int)≤r1))
def qd7 (n_0:Net) (m_1:qL1):Option Bool :=
 bnd (q5c n_0) fun r1 =>
 bif r1 then
   bif decide ((m_1.length:Int)=n_0.1) then
     bnd (q1q m_1) fun r2 =>
     some (!r2)
   else
     some false
 else
   some false
def qfe (p_0:Int) (p_1:qL1):Option Bool :=
 ckB (ix 0 1) <|
 ckB (ix p_0 p_1.length) <|
 ckB (ix p_0 p_1.length) <|
 some (decide ((p_1.getD (Int.toNat p_0) 0)=0))
def q1p {R:Type} (s_0:qL1) (f_1c0:qL1) (v_7:Int) (v_8:Int) (nx:Int→Option R) (dn:Unit→Option R) (rt:Int→Option R):Option R :=
 bif decide (v_8 < v_7) then
   ckB (ix v_8 s_0.length) <|
   ckB (ix v_8 s_0.length) <|
   bnd (qfe (s_0.getD (Int.toNat v_8) 0) f_1c0) fun r1 =>
   bif r1 then
     rt v_8
   else
     ckB (inR .i64 (v_8+1)) <|
     nx (v_8+1)
 else
   dn ()
def q8l (s_0:qL1) (f_1c0:qL1) (v_7:Int) (s0:Int):Option (Unit⊕Int) :=
 loopM (fun a=>q1p s_0 f_1c0 v_7 a (fun a'=>some (.next a')) (fun e=>some (.done e)) (fun r=>some (.ret r))) s0
def q7z:Shp:=⟨[(0,.d false qT1),(1,.fn 90 (.cons (.rp false qT1) .nil)),(7,.d true qT0),(8,.d true qT0)],[]⟩
def q84:Shp:=⟨[],[]⟩
def q5i (s_0:qL1) (f_1c0:qL1):Option Int :=
 bnd (q8l s_0 f_1c0 (s_0.length:Int) 0) fun oe2 =>
 lk oe2 (fun e2 =>
   some (-1)) (fun r=>some r)
def q3r (s_0:qL1) (f_1c0:qL1):Option Bool :=
 bnd (q5i s_0 f_1c0) fun r1 =>
 some (decide ((0:Int)≤r1))
def qd0 (t_0:Trans) (m_1:qL1):Option Bool :=
 bnd (q3r t_0.2.1 m_1) fun r1 =>
 some (!r1)
def q6n {R:Type} (m_1:qL1) (v_14:(List Trans)) (v_15:Int) (v_16:Int) (out_6:qL1) (nx:(Int×qL1)→Option R) (dn:qL1→Option R) (rt:(Int×qL1)→Option R):Option R :=
 bif decide (v_16 < v_15) then
   ckB (ix v_16 v_14.length) <|
   ckB (ix v_16 v_14.length) <|
   bnd (qd0 (v_14.getD (Int.toNat v_16) Trans.z) m_1) fun r2 =>
   bif r2 then
     ckB (room (out_6.length+1) 8) <|
     ckB (inR .i64 (v_16+1)) <|
     nx ((v_16+1),(out_6++[v_16]))
   else
     ckB (inR .i64 (v_16+1)) <|
     nx ((v_16+1),out_6)
 else
   dn out_6
def qmu (m_1:qL1) (v_14:(List Trans)) (v_15:Int) (s0:(Int×qL1)):Option (qL1⊕(Int×qL1)) :=
 loopM (fun a=>q6n m_1 v_14 v_15 a.1 a.2 (fun a'=>some (.next a')) (fun e=>some (.done e)) (fun r=>some (.ret r))) s0
def qk6:Shp:=⟨[(1,.d false qT1),(6,.nl false (.own 0)),(14,.d false (.slice Trans.ty)),(15,.d true qT0),(16,.d true qT0)],[.arr 3 (.fz true) [0] qT0]⟩
def qld:Shp:=⟨[(6,.nl false (.own 0))],[.arr 3 (.fz true) [0] qT0]⟩
def qd2 (n_0:Net) (m_1:qL1):Option (Int×qL1) :=
 bnd (qd7 n_0 m_1) fun r1 =>
 bif (!r1) then
   some (1,[])
 else
   bnd (qmu m_1 n_0.2.1 (n_0.2.1.length:Int) (0,[])) fun oe3 =>
   lk oe3 (fun e3 =>
     some (0,e3)) (fun r=>some r)
def q9e (n_0:Net) (m_1:qL1):Option Bool :=
 bnd (qd2 n_0 m_1) fun r1 =>
 some (decide (r1.1=0))
def qmh {R:Type} (p_5:Int) (v_15:Int) (v_16:Int) (v_21:(List Trans)) (v_22:Int) (n_10:Int) (n_11:(List Trans)) (n_12:Int) (n_13:Int) (matrix_4:qL2) (v_23:Int) (row_6:qL1) (nx:(Int×qL1)→Option R) (dn:qL1→Option R) (rt:(qL2×Int)→Option R):Option R :=
 bif decide (v_23 < v_22) then
   ckB (ix v_23 v_21.length) <|
   ckB (ix v_23 v_21.length) <|
   bnd (q3p (v_21.getD (Int.toNat v_23) Trans.z) p_5) fun r3 =>
   ckB (room (row_6.length+1) 8) <|
   ckB (inR .i64 (v_23+1)) <|
   nx ((v_23+1),(row_6++[r3]))
 else
   dn row_6
def qxg (p_5:Int) (v_15:Int) (v_16:Int) (v_21:(List Trans)) (v_22:Int) (n_10:Int) (n_11:(List Trans)) (n_12:Int) (n_13:Int) (matrix_4:qL2) (s0:(Int×qL1)):Option (qL1⊕(qL2×Int)) :=
 loopM (fun a=>qmh p_5 v_15 v_16 v_21 v_22 n_10 n_11 n_12 n_13 matrix_4 a.1 a.2 (fun a'=>some (.next a')) (fun e=>some (.done e)) (fun r=>some (.ret r))) s0
def qmb:Shp:=⟨[(1,.ptr 0),(4,.nl false (.own 1)),(5,.d true qT0),(6,.own 2),(15,.d true qT0),(16,.d true qT0),(21,.d false (.slice Trans.ty)),(22,.d true qT0),(23,.d true qT0)],[.cs 24 4 1 (.cons (.d true qT0) (.cons (.d false (.slice Trans.ty)) (.cons (.d true qT0) (.cons (.d true qT0) .nil)))),.arr 25 (.fz true) [3] qT1,.arr 3 (.fz true) [0] qT0]⟩
def qmi:Shp:=⟨[(1,.ptr 0),(4,.nl false (.own 1)),(6,.own 2),(15,.d true qT0),(16,.d true qT0)],[.cs 24 4 1 (.cons (.d true qT0) (.cons (.d false (.slice Trans.ty)) (.cons (.d true qT0) (.cons (.d true qT0) .nil)))),.arr 25 (.fz true) [3] qT1,.arr 3 (.fz true) [0] qT0]⟩
def qn2 {R:Type} (v_15:Int) (n_10:Int) (n_11:(List Trans)) (n_12:Int) (n_13:Int) (v_16:Int) (matrix_4:qL2) (nx:(Int×qL2)→Option R) (dn:qL2→Option R) (rt:(qL2×Int)→Option R):Option R :=
 bif decide (v_16 < v_15) then
   bnd (qxg v_16 v_15 v_16 n_11 (n_11.length:Int) n_10 n_11 n_12 n_13 matrix_4 (0,[])) fun oe4 =>
   lk oe4 (fun e4 =>
     ckB (room (matrix_4.length+1) 24) <|
     ckB (inR .i64 (v_16+1)) <|
     nx ((v_16+1),(matrix_4++[e4]))) (fun r=>rt r)
 else
   dn matrix_4
def qwu (v_15:Int) (n_10:Int) (n_11:(List Trans)) (n_12:Int) (n_13:Int) (s0:(Int×qL2)):Option (qL2⊕(qL2×Int)) :=
 loopM (fun a=>qn2 v_15 n_10 n_11 n_12 n_13 a.1 a.2 (fun a'=>some (.next a')) (fun e=>some (.done e)) (fun r=>some (.ret r))) s0
def qm8:Shp:=⟨[(1,.ptr 0),(4,.nl false (.own 1)),(15,.d true qT0),(16,.d true qT0)],[.cs 24 4 1 (.cons (.d true qT0) (.cons (.d false (.slice Trans.ty)) (.cons (.d true qT0) (.cons (.d true qT0) .nil)))),.arr 25 (.fz true) [3] qT1]⟩
def qlv:Shp:=⟨[(4,.nl false (.own 0))],[.arr 25 (.fz true) [3] qT1]⟩
def qr4 (n_0:Net):Option (qL2×Int) :=
 bnd (q5c n_0) fun r1 =>
 bif (!r1) then
   some ([],1)
 else
   bnd (qje n_0) fun r2 =>
   bif r2 then
     some ([],5)
   else
     bnd (qwu n_0.1 n_0.1 n_0.2.1 n_0.2.2.1 n_0.2.2.2.1 (0,[])) fun oe5 =>
     lk oe5 (fun e5 =>
       bnd (qfl e5) fun r6 =>
       some (r6.1,r6.2)) (fun r=>some r)
def qhk {R:Type} (a_0:qL1) (b_1:qL1) (v_8:Int) (s_5:Int) (v_9:Int) (nx:(Int×Int)→Option R) (dn:Int→Option R) (rt:Int→Option R):Option R :=
 bif decide (v_9 < v_8) then
   ckB (ix v_9 a_0.length) <|
   ckB (ix v_9 a_0.length) <|
   ckB (ix v_9 b_1.length) <|
   ckB (ix v_9 b_1.length) <|
   ckB (inR .i64 ((a_0.getD (Int.toNat v_9) 0)*(b_1.getD (Int.toNat v_9) 0))) <|
   ckB (inR .i64 (s_5+((a_0.getD (Int.toNat v_9) 0)*(b_1.getD (Int.toNat v_9) 0)))) <|
   ckB (inR .i64 (v_9+1)) <|
   nx ((s_5+((a_0.getD (Int.toNat v_9) 0)*(b_1.getD (Int.toNat v_9) 0))),(v_9+1))
 else
   dn s_5
def qvo (a_0:qL1) (b_1:qL1) (v_8:Int) (s0:(Int×Int)):Option (Int⊕Int) :=
 loopM (fun a=>qhk a_0 b_1 v_8 a.1 a.2 (fun a'=>some (.next a')) (fun e=>some (.done e)) (fun r=>some (.ret r))) s0
def qt6:Shp:=⟨[(0,.d false qT1),(1,.d false qT1),(5,.d true qT0),(8,.d true qT0),(9,.d true qT0)],[]⟩
def qtg:Shp:=⟨[(5,.d true qT0)],[]⟩
def qlf (a_0:qL1) (b_1:qL1):Option Int :=
 bnd (qvo a_0 b_1 (a_0.length:Int) (0,0)) fun oe1 =>
 lk oe1 (fun e1 =>
   some e1) (fun r=>some r)
def qqo {R:Type} (m_1:qL1) (place_2:Int) (v_34:qL2) (v_35:Int) (best_10:Int) (v_36:Int) (nx:(Int×Int)→Option R) (dn:Int→Option R) (rt:(Int×Int)→Option R):Option R :=
 bif decide (v_36 < v_35) then
   ckB (ix v_36 v_34.length) <|
   ckB (ix v_36 v_34.length) <|
   ckB (ix place_2 (v_34.getD (Int.toNat v_36) []).length) <|
   ckB (ix place_2 (v_34.getD (Int.toNat v_36) []).length) <|
   bif decide (((v_34.getD (Int.toNat v_36) []).getD (Int.toNat place_2) 0)=0) then
     ckB (inR .i64 (v_36+1)) <|
     nx (best_10,(v_36+1))
   else
     bnd (qlf (v_34.getD (Int.toNat v_36) []) m_1) fun r3 =>
     ckB (ix place_2 (v_34.getD (Int.toNat v_36) []).length) <|
     ckB (ix place_2 (v_34.getD (Int.toNat v_36) []).length) <|
     ckB (!decide (((v_34.getD (Int.toNat v_36) []).getD (Int.toNat place_2) 0)=0)) <|
     ckB (inR .i64 (Int.tdiv r3 ((v_34.getD (Int.toNat v_36) []).getD (Int.toNat place_2) 0))) <|
     bif decide (best_10 < 0) then
       ckB (inR .i64 (v_36+1)) <|
       nx ((Int.tdiv r3 ((v_34.getD (Int.toNat v_36) []).getD (Int.toNat place_2) 0)),(v_36+1))
     else
       bif decide ((Int.tdiv r3 ((v_34.getD (Int.toNat v_36) []).getD (Int.toNat place_2) 0)) < best_10) then
         ckB (inR .i64 (v_36+1)) <|
         nx ((Int.tdiv r3 ((v_34.getD (Int.toNat v_36) []).getD (Int.toNat place_2) 0)),(v_36+1))
       else
         ckB (inR .i64 (v_36+1)) <|
         nx (best_10,(v_36+1))
 else
   dn best_10
def qyz (m_1:qL1) (place_2:Int) (v_34:qL2) (v_35:Int) (s0:(Int×Int)):Option (Int⊕(Int×Int)) :=
 loopM (fun a=>qqo m_1 place_2 v_34 v_35 a.1 a.2 (fun a'=>some (.next a')) (fun e=>some (.done e)) (fun r=>some (.ret r))) s0
def qq7:Shp:=⟨[(1,.d false qT1),(2,.d true qT0),(10,.d true qT0),(34,.d true qT2),(35,.d true qT0),(36,.d true qT0)],[]⟩
def qqi:Shp:=⟨[(10,.d true qT0)],[]⟩
def qv1 (n_00:Int) (n_01:(List Trans)) (n_02:Int) (n_03:Int) (m_1:qL1) (place_2:Int):Option (Int×Int) :=
 bnd (q9e (n_00,n_01,n_02,n_03,()) m_1) fun r1 =>
 bif (!r1) then
   some (0,1)
 else
   bif decide (place_2 < 0) then
     some (0,2)
   else
     bif decide (n_00≤place_2) then
       some (0,2)
     else
       bnd (qr4 (n_00,n_01,n_02,n_03,())) fun r2 =>
       bif (!decide (r2.2=0)) then
         some (0,r2.2)
       else
         bnd (qyz m_1 place_2 r2.1 (r2.1.length:Int) ((-1),0)) fun oe4 =>
         lk oe4 (fun e4 =>
           bif decide (e4 < 0) then
             some (0,30)
           else
             some (e4,0)) (fun r=>some r)
def qqf {R:Type} (a_0:qL2) (b_1:qL2) (i_5:Int) (k_6:Int) (nx:Int→Option R) (dn:Unit→Option R) (rt:Bool→Option R):Option R :=
 ckB (ix i_5 a_0.length) <|
 ckB (ix i_5 a_0.length) <|
 bif decide (k_6 < ((a_0.getD (Int.toNat i_5) []).length:Int)) then
   ckB (ix i_5 a_0.length) <|
   ckB (ix i_5 a_0.length) <|
   ckB (ix k_6 (a_0.getD (Int.toNat i_5) []).length) <|
   ckB (ix k_6 (a_0.getD (Int.toNat i_5) []).length) <|
   ckB (ix i_5 b_1.length) <|
   ckB (ix i_5 b_1.length) <|
   ckB (ix k_6 (b_1.getD (Int.toNat i_5) []).length) <|
   ckB (ix k_6 (b_1.getD (Int.toNat i_5) []).length) <|
   bif (!decide (((a_0.getD (Int.toNat i_5) []).getD (Int.toNat k_6) 0)=((b_1.getD (Int.toNat i_5) []).getD (Int.toNat k_6) 0))) then
     rt false
   else
     ckB (inR .i64 (k_6+1)) <|
     nx (k_6+1)
 else
   dn ()
def qz2 (a_0:qL2) (b_1:qL2) (i_5:Int) (s0:Int):Option (Unit⊕Bool) :=
 loopM (fun a=>qqf a_0 b_1 i_5 a (fun a'=>some (.next a')) (fun e=>some (.done e)) (fun r=>some (.ret r))) s0
def qqd:Shp:=⟨[(0,.d false qT2),(1,.d false qT2),(5,.d true qT0),(6,.d true qT0)],[]⟩
def qqg:Shp:=⟨[(0,.d false qT2),(1,.d false qT2),(5,.d true qT0)],[]⟩
def qqv {R:Type} (a_0:qL2) (b_1:qL2) (i_5:Int) (nx:Int→Option R) (dn:Unit→Option R) (rt:Bool→Option R):Option R :=
 bif decide (i_5 < (a_0.length:Int)) then
   ckB (ix i_5 a_0.length) <|
   ckB (ix i_5 a_0.length) <|
   ckB (ix i_5 b_1.length) <|
   ckB (ix i_5 b_1.length) <|
   bif (!decide (((a_0.getD (Int.toNat i_5) []).length:Int)=((b_1.getD (Int.toNat i_5) []).length:Int))) then
     rt false
   else
     bnd (qz2 a_0 b_1 i_5 0) fun oe1 =>
     lk oe1 (fun e1 =>
       ckB (inR .i64 (i_5+1)) <|
       nx (i_5+1)) (fun r=>rt r)
 else
   dn ()
def qzy (a_0:qL2) (b_1:qL2) (s0:Int):Option (Unit⊕Bool) :=
 loopM (fun a=>qqv a_0 b_1 a (fun a'=>some (.next a')) (fun e=>some (.done e)) (fun r=>some (.ret r))) s0
def qqe:Shp:=⟨[(0,.d false qT2),(1,.d false qT2),(5,.d true qT0)],[]⟩
def qqu:Shp:=⟨[],[]⟩
def qpc (a_0:qL2) (b_1:qL2):Option Bool :=
 bif (!decide ((a_0.length:Int)=(b_1.length:Int))) then
   some false
 else
   bnd (qzy a_0 b_1 0) fun oe2 =>
   lk oe2 (fun e2 =>
     some true) (fun r=>some r)
def qnc  : Option Bool :=
 bnd (qtd 3 [(⟨#[97]⟩,[0],[1,2],()),(⟨#[98]⟩,[1,2],[0],())] 0 2) fun r1 =>
 bnd (qkj 3 [(⟨#[97]⟩,[0],[1,2],()),(⟨#[98]⟩,[1,2],[0],())] 0 2) fun r2 =>
 bnd (qv1 3 [(⟨#[97]⟩,[0],[1,2],()),(⟨#[98]⟩,[1,2],[0],())] 0 2 [1,0,0] 2) fun r3 =>
 bif decide (r1.2=0) then
   bnd (qpc r1.1 [[1,0,1],[1,1,0]]) fun r4 =>
   bif r4 then
     bif decide (r2.2=0) then
       bnd (qpc r2.1 [[1,1]]) fun r5 =>
       bif r5 then
         bif decide (r3.1=1) then
           some (decide (r3.2=0))
         else
           some false
       else
         some false
     else
       some false
   else
     some false
 else
   some false
def qhi (t_0:Trans):Option Bool :=
 bif decide ((45:Int) < (t_0.2.1.length:Int)) then
   some true
 else
   bif decide ((45:Int) < (t_0.2.2.1.length:Int)) then
     some true
   else
     some (decide ((100:Int) < (ByteArray.size t_0.1:Int)))
def qy {R:Type} (s_0:(List Trans)) (v_7:Int) (v_8:Int) (nx:Int→Option R) (dn:Unit→Option R) (rt:Int→Option R):Option R :=
 bif decide (v_8 < v_7) then
   ckB (ix v_8 s_0.length) <|
   ckB (ix v_8 s_0.length) <|
   bnd (qhi (s_0.getD (Int.toNat v_8) Trans.z)) fun r1 =>
   bif r1 then
     rt v_8
   else
     ckB (inR .i64 (v_8+1)) <|
     nx (v_8+1)
 else
   dn ()
def q3o (s_0:(List Trans)) (v_7:Int) (s0:Int):Option (Unit⊕Int) :=
 loopM (fun a=>qy s_0 v_7 a (fun a'=>some (.next a')) (fun e=>some (.done e)) (fun r=>some (.ret r))) s0
def q3d:Shp:=⟨[(0,.d false (.slice Trans.ty)),(1,.fn 39 .nil),(7,.d true qT0),(8,.d true qT0)],[]⟩
def q3c:Shp:=⟨[],[]⟩
def q1j (s_0:(List Trans)):Option Int :=
 bnd (q3o s_0 (s_0.length:Int) 0) fun oe2 =>
 lk oe2 (fun e2 =>
   some (-1)) (fun r=>some r)
def qx (s_0:(List Trans)):Option Bool :=
 bnd (q1j s_0) fun r1 =>
 some (decide ((0:Int)≤r1))
def qml (n_0:Net):Option Bool :=
 bnd (qx n_0.2.1) fun r1 =>
 bif r1 then
   some false
 else
   bif decide ((100:Int) < (n_0.2.1.length:Int)) then
     some false
   else
     bif decide (n_0.1≤12) then
       bif decide ((n_0.2.1.length:Int)≤14) then
         some true
       else
         bif decide ((20:Int) < n_0.1) then
           some true
         else
           some (decide ((20:Int) < (n_0.2.1.length:Int)))
     else
       bif decide ((20:Int) < n_0.1) then
         some true
       else
         some (decide ((20:Int) < (n_0.2.1.length:Int)))
def qb5 (c_0:Int):Option Bool :=
 bif decide ((97:Int)≤c_0) then
   bif decide (c_0≤122) then
     some true
   else
     bif decide ((65:Int)≤c_0) then
       some (decide (c_0≤90))
     else
       some false
 else
   bif decide ((65:Int)≤c_0) then
     some (decide (c_0≤90))
   else
     some false
def q81 {R:Type} (s_0:ByteArray) (i_3:Int) (nx:Int→Option R) (dn:Unit→Option R) (rt:Bool→Option R):Option R :=
 bif decide (i_3 < (ByteArray.size s_0:Int)) then
   ckB (ix i_3 (ByteArray.size s_0)) <|
   bnd (qb5 (((ByteArray.data s_0).getD (Int.toNat i_3) 0).toNat:Int)) fun r2 =>
   bif (!r2) then
     bif decide ((48:Int)≤(((ByteArray.data s_0).getD (Int.toNat i_3) 0).toNat:Int)) then
       bif (!(decide ((((ByteArray.data s_0).getD (Int.toNat i_3) 0).toNat:Int)≤57))) then
         bif (!decide ((((ByteArray.data s_0).getD (Int.toNat i_3) 0).toNat:Int)=95)) then
           bif (!decide ((((ByteArray.data s_0).getD (Int.toNat i_3) 0).toNat:Int)=45)) then
             bif (!decide ((((ByteArray.data s_0).getD (Int.toNat i_3) 0).toNat:Int)=46)) then
               rt false
             else
               ckB (inR .i64 (i_3+1)) <|
               nx (i_3+1)
           else
             ckB (inR .i64 (i_3+1)) <|
             nx (i_3+1)
         else
           ckB (inR .i64 (i_3+1)) <|
           nx (i_3+1)
       else
         ckB (inR .i64 (i_3+1)) <|
         nx (i_3+1)
     else
       bif (!decide ((((ByteArray.data s_0).getD (Int.toNat i_3) 0).toNat:Int)=95)) then
         bif (!decide ((((ByteArray.data s_0).getD (Int.toNat i_3) 0).toNat:Int)=45)) then
           bif (!decide ((((ByteArray.data s_0).getD (Int.toNat i_3) 0).toNat:Int)=46)) then
             rt false
           else
             ckB (inR .i64 (i_3+1)) <|
             nx (i_3+1)
         else
           ckB (inR .i64 (i_3+1)) <|
           nx (i_3+1)
       else
         ckB (inR .i64 (i_3+1)) <|
         nx (i_3+1)
   else
     ckB (inR .i64 (i_3+1)) <|
     nx (i_3+1)
 else
   dn ()
def qp2 (s_0:ByteArray) (s0:Int):Option (Unit⊕Bool) :=
 loopM (fun a=>q81 s_0 a (fun a'=>some (.next a')) (fun e=>some (.done e)) (fun r=>some (.ret r))) s0
def qmt:Shp:=⟨[(0,.d true .str),(3,.d true qT0)],[]⟩
def qn3:Shp:=⟨[],[]⟩
def qfj (s_0:ByteArray):Option Bool :=
 bif decide ((ByteArray.size s_0:Int) < 1) then
   some false
 else
   bif decide ((40:Int) < (ByteArray.size s_0:Int)) then
     some false
   else
     ckB (ix 0 (ByteArray.size s_0)) <|
     bnd (qb5 (((ByteArray.data s_0).getD 0 0).toNat:Int)) fun r1 =>
     bif (!r1) then
       some false
     else
       bnd (qp2 s_0 1) fun oe3 =>
       lk oe3 (fun e3 =>
         some true) (fun r=>some r)
def q5n {R:Type} (n_0:Int) (l_1:qL1) (i_5:Int) (nx:Int→Option R) (dn:Unit→Option R) (rt:Bool→Option R):Option R :=
 bif decide (i_5 < (l_1.length:Int)) then
   ckB (ix i_5 l_1.length) <|
   ckB (ix i_5 l_1.length) <|
   bif decide ((l_1.getD (Int.toNat i_5) 0) < 0) then
     rt false
   else
     ckB (ix i_5 l_1.length) <|
     ckB (ix i_5 l_1.length) <|
     bif decide (n_0≤(l_1.getD (Int.toNat i_5) 0)) then
       rt false
     else
       bif decide ((0:Int) < i_5) then
         ckB (inR .i64 (i_5 - 1)) <|
         ckB (ix (i_5 - 1) l_1.length) <|
         ckB (ix (i_5 - 1) l_1.length) <|
         ckB (ix i_5 l_1.length) <|
         ckB (ix i_5 l_1.length) <|
         bif decide ((l_1.getD (Int.toNat i_5) 0)≤(l_1.getD (Int.toNat (i_5 - 1)) 0)) then
           rt false
         else
           ckB (inR .i64 (i_5+1)) <|
           nx (i_5+1)
       else
         ckB (inR .i64 (i_5+1)) <|
         nx (i_5+1)
 else
   dn ()
def qp0 (n_0:Int) (l_1:qL1) (s0:Int):Option (Unit⊕Bool) :=
 loopM (fun a=>q5n n_0 l_1 a (fun a'=>some (.next a')) (fun e=>some (.done e)) (fun r=>some (.ret r))) s0
def qmo:Shp:=⟨[(0,.d true qT0),(1,.d false qT1),(5,.d true qT0)],[]⟩
def qmm:Shp:=⟨[],[]⟩
def q6u (n_0:Int) (l_1:qL1):Option Bool :=
 bnd (qp0 n_0 l_1 0) fun oe1 =>
 lk oe1 (fun e1 =>
   some true) (fun r=>some r)
def qbx {R:Type} (n_10:Int) (n_11:(List Trans)) (n_12:Int) (n_13:Int) (i_3:Int) (nx:Int→Option R) (dn:Unit→Option R) (rt:Bool→Option R):Option R :=
 bif decide (i_3 < (n_11.length:Int)) then
   ckB (ix i_3 n_11.length) <|
   ckB (ix i_3 n_11.length) <|
   bif (!(ByteArray.toList (n_11.getD (Int.toNat i_3) Trans.z).1 == ByteArray.toList ⟨#[]⟩)) then
     bnd (qfj (n_11.getD (Int.toNat i_3) Trans.z).1) fun r1 =>
     bif (!r1) then
       rt false
     else
       bnd (q6u n_10 (n_11.getD (Int.toNat i_3) Trans.z).2.1) fun r2 =>
       bif (!r2) then
         rt false
       else
         bnd (q6u n_10 (n_11.getD (Int.toNat i_3) Trans.z).2.2.1) fun r3 =>
         bif (!r3) then
           rt false
         else
           ckB (inR .i64 (i_3+1)) <|
           nx (i_3+1)
   else
     bnd (q6u n_10 (n_11.getD (Int.toNat i_3) Trans.z).2.1) fun r4 =>
     bif (!r4) then
       rt false
     else
       bnd (q6u n_10 (n_11.getD (Int.toNat i_3) Trans.z).2.2.1) fun r5 =>
       bif (!r5) then
         rt false
       else
         ckB (inR .i64 (i_3+1)) <|
         nx (i_3+1)
 else
   dn ()
def qqk (n_10:Int) (n_11:(List Trans)) (n_12:Int) (n_13:Int) (s0:Int):Option (Unit⊕Bool) :=
 loopM (fun a=>qbx n_10 n_11 n_12 n_13 a (fun a'=>some (.next a')) (fun e=>some (.done e)) (fun r=>some (.ret r))) s0
def qnu:Shp:=⟨[(1,.ptr 0),(3,.d true qT0)],[.cs 24 4 1 (.cons (.d true qT0) (.cons (.d false (.slice Trans.ty)) (.cons (.d true qT0) (.cons (.d true qT0) .nil))))]⟩
def qnw:Shp:=⟨[],[]⟩
def q8d (n_0:Net):Option Bool :=
 bif decide (n_0.1 < 1) then
   some false
 else
   bif decide ((40:Int) < n_0.1) then
     some false
   else
     bif decide ((60:Int) < (n_0.2.1.length:Int)) then
       some false
     else
       bif decide (n_0.2.2.1 < 0) then
         some false
       else
         bif decide (n_0.1≤n_0.2.2.1) then
           some false
         else
           bif decide (n_0.2.2.2.1 < 0) then
             some false
           else
             bif decide (n_0.1≤n_0.2.2.2.1) then
               some false
             else
               bnd (qqk n_0.1 n_0.2.1 n_0.2.2.1 n_0.2.2.2.1 0) fun oe6 =>
               lk oe6 (fun e6 =>
                 some true) (fun r=>some r)
def q9t {R:Type} (m_1:qL1) (i_5:Int) (nx:Int→Option R) (dn:Unit→Option R) (rt:Bool→Option R):Option R :=
 bif decide (i_5 < (m_1.length:Int)) then
   ckB (ix i_5 m_1.length) <|
   ckB (ix i_5 m_1.length) <|
   bif decide ((m_1.getD (Int.toNat i_5) 0) < 0) then
     rt false
   else
     ckB (ix i_5 m_1.length) <|
     ckB (ix i_5 m_1.length) <|
     bif decide ((100:Int) < (m_1.getD (Int.toNat i_5) 0)) then
       rt false
     else
       ckB (inR .i64 (i_5+1)) <|
       nx (i_5+1)
 else
   dn ()
def qlu (m_1:qL1) (s0:Int):Option (Unit⊕Bool) :=
 loopM (fun a=>q9t m_1 a (fun a'=>some (.next a')) (fun e=>some (.done e)) (fun r=>some (.ret r))) s0
def qke:Shp:=⟨[(1,.d false qT1),(5,.d true qT0)],[]⟩
def qk0:Shp:=⟨[],[]⟩
def q7o (n_0:Net) (m_1:qL1):Option Bool :=
 bif (!decide ((m_1.length:Int)=n_0.1)) then
   some false
 else
   bnd (qlu m_1 0) fun oe1 =>
   lk oe1 (fun e1 =>
     some true) (fun r=>some r)
def qfn {R:Type} (l_0:qL1) (k_1:Int) (i_5:Int) (nx:Int→Option R) (dn:Unit→Option R) (rt:Bool→Option R):Option R :=
 bif decide (i_5 < (l_0.length:Int)) then
   ckB (ix i_5 l_0.length) <|
   ckB (ix i_5 l_0.length) <|
   bif decide ((l_0.getD (Int.toNat i_5) 0)=k_1) then
     rt true
   else
     ckB (inR .i64 (i_5+1)) <|
     nx (i_5+1)
 else
   dn ()
def qt4 (l_0:qL1) (k_1:Int) (s0:Int):Option (Unit⊕Bool) :=
 loopM (fun a=>qfn l_0 k_1 a (fun a'=>some (.next a')) (fun e=>some (.done e)) (fun r=>some (.ret r))) s0
def qrs:Shp:=⟨[(0,.d false qT1),(1,.d true qT0),(5,.d true qT0)],[]⟩
def qr3:Shp:=⟨[],[]⟩
def qhu (l_0:qL1) (k_1:Int):Option Bool :=
 bnd (qt4 l_0 k_1 0) fun oe1 =>
 lk oe1 (fun e1 =>
   some false) (fun r=>some r)
def qkp (t_0:Trans) (p_1:Int):Option Int :=
 bnd (qhu t_0.2.1 p_1) fun r1 =>
 bnd (qhu t_0.2.2.1 p_1) fun r2 =>
 bif r2 then
   bif (!r1) then
     some 1
   else
     bif r1 then
       bif (!r2) then
         some (-1)
       else
         some 0
     else
       some 0
 else
   bif r1 then
     bif (!r2) then
       some (-1)
     else
       some 0
   else
     some 0
def qfp {R:Type} (a_0:qL1) (b_1:qL1) (sum_5:Int) (i_6:Int) (nx:(Int×Int)→Option R) (dn:Int→Option R) (rt:Int→Option R):Option R :=
 bif decide (i_6 < (a_0.length:Int)) then
   ckB (ix i_6 a_0.length) <|
   ckB (ix i_6 a_0.length) <|
   ckB (ix i_6 b_1.length) <|
   ckB (ix i_6 b_1.length) <|
   ckB (inR .i64 ((a_0.getD (Int.toNat i_6) 0)*(b_1.getD (Int.toNat i_6) 0))) <|
   ckB (inR .i64 (sum_5+((a_0.getD (Int.toNat i_6) 0)*(b_1.getD (Int.toNat i_6) 0)))) <|
   ckB (inR .i64 (i_6+1)) <|
   nx ((sum_5+((a_0.getD (Int.toNat i_6) 0)*(b_1.getD (Int.toNat i_6) 0))),(i_6+1))
 else
   dn sum_5
def qtb (a_0:qL1) (b_1:qL1) (s0:(Int×Int)):Option (Int⊕Int) :=
 loopM (fun a=>qfp a_0 b_1 a.1 a.2 (fun a'=>some (.next a')) (fun e=>some (.done e)) (fun r=>some (.ret r))) s0
def qs1:Shp:=⟨[(0,.d false qT1),(1,.d false qT1),(5,.d true qT0),(6,.d true qT0)],[]⟩
def qrd:Shp:=⟨[(5,.d true qT0)],[]⟩
def qm2 (a_0:qL1) (b_1:qL1):Option Int :=
 bnd (qtb a_0 b_1 (0,0)) fun oe1 =>
 lk oe1 (fun e1 =>
   some e1) (fun r=>some r)
def qh1 (k_0:Int):Option Bool :=
 bif decide (k_0 < 0) then
   some true
 else
   some (decide ((1048576:Int) < k_0))
def q1k {R:Type} (s_0:qL1) (v_7:Int) (v_8:Int) (nx:Int→Option R) (dn:Unit→Option R) (rt:Int→Option R):Option R :=
 bif decide (v_8 < v_7) then
   ckB (ix v_8 s_0.length) <|
   ckB (ix v_8 s_0.length) <|
   bnd (qh1 (s_0.getD (Int.toNat v_8) 0)) fun r1 =>
   bif r1 then
     rt v_8
   else
     ckB (inR .i64 (v_8+1)) <|
     nx (v_8+1)
 else
   dn ()
def q8k (s_0:qL1) (v_7:Int) (s0:Int):Option (Unit⊕Int) :=
 loopM (fun a=>q1k s_0 v_7 a (fun a'=>some (.next a')) (fun e=>some (.done e)) (fun r=>some (.ret r))) s0
def q7v:Shp:=⟨[(0,.d false qT1),(1,.fn 84 .nil),(7,.d true qT0),(8,.d true qT0)],[]⟩
def q83:Shp:=⟨[],[]⟩
def q5e (s_0:qL1):Option Int :=
 bnd (q8k s_0 (s_0.length:Int) 0) fun oe2 =>
 lk oe2 (fun e2 =>
   some (-1)) (fun r=>some r)
def q1n (s_0:qL1):Option Bool :=
 bnd (q5e s_0) fun r1 =>
 some (decide ((0:Int)≤r1))
def q6p (l_0:qL1) (n_1:Int):Option Bool :=
 bif decide ((l_0.length:Int)=n_1) then
   bnd (q1n l_0) fun r1 =>
   some (!r1)
 else
   some false
def qn5 (k_0:Int):Option Bool :=
 some (!decide (k_0=0))
def q1l {R:Type} (s_0:qL1) (v_7:Int) (v_8:Int) (nx:Int→Option R) (dn:Unit→Option R) (rt:Int→Option R):Option R :=
 bif decide (v_8 < v_7) then
   ckB (ix v_8 s_0.length) <|
   ckB (ix v_8 s_0.length) <|
   bnd (qn5 (s_0.getD (Int.toNat v_8) 0)) fun r1 =>
   bif r1 then
     rt v_8
   else
     ckB (inR .i64 (v_8+1)) <|
     nx (v_8+1)
 else
   dn ()
def q8n (s_0:qL1) (v_7:Int) (s0:Int):Option (Unit⊕Int) :=
 loopM (fun a=>q1l s_0 v_7 a (fun a'=>some (.next a')) (fun e=>some (.done e)) (fun r=>some (.ret r))) s0
def q7q:Shp:=⟨[(0,.d false qT1),(1,.fn 85 .nil),(7,.d true qT0),(8,.d true qT0)],[]⟩
def q7u:Shp:=⟨[],[]⟩
def q5g (s_0:qL1):Option Int :=
 bnd (q8n s_0 (s_0.length:Int) 0) fun oe2 =>
 lk oe2 (fun e2 =>
   some (-1)) (fun r=>some r)
def q3z (s_0:qL1):Option Bool :=
 bnd (q5g s_0) fun r1 =>
 some (decide ((0:Int)≤r1))
def qea (l_0:qL1):Option Bool :=
 bnd (q3z l_0) fun r1 =>
 some r1
def q9y {R:Type} (y_1:qL1) (v_22:(List Trans)) (v_23:Int) (v_24:Int) (v_28:qL1) (v_29:Int) (t_70:ByteArray) (t_71:qL1) (t_72:qL1) (s_8:Int) (v_30:Int) (nx:(Int×Int)→Option R) (dn:Int→Option R) (rt:(Bool×Int)→Option R):Option R :=
 bif decide (v_30 < v_29) then
   ckB (ix v_30 v_28.length) <|
   ckB (ix v_30 v_28.length) <|
   bnd (q3p (t_70,t_71,t_72,()) v_30) fun r3 =>
   ckB (inR .i64 ((v_28.getD (Int.toNat v_30) 0)*r3)) <|
   ckB (inR .i64 (s_8+((v_28.getD (Int.toNat v_30) 0)*r3))) <|
   ckB (inR .i64 (v_30+1)) <|
   nx ((s_8+((v_28.getD (Int.toNat v_30) 0)*r3)),(v_30+1))
 else
   dn s_8
def qlz (y_1:qL1) (v_22:(List Trans)) (v_23:Int) (v_24:Int) (v_28:qL1) (v_29:Int) (t_70:ByteArray) (t_71:qL1) (t_72:qL1) (s0:(Int×Int)):Option (Int⊕(Bool×Int)) :=
 loopM (fun a=>q9y y_1 v_22 v_23 v_24 v_28 v_29 t_70 t_71 t_72 a.1 a.2 (fun a'=>some (.next a')) (fun e=>some (.done e)) (fun r=>some (.ret r))) s0
def qk8:Shp:=⟨[(1,.d false qT1),(7,.ptr 0),(8,.d true qT0),(22,.d false (.slice Trans.ty)),(23,.d true qT0),(24,.d true qT0),(28,.d false qT1),(29,.d true qT0),(30,.d true qT0)],[.cs 68 3 1 (.cons (.d true .str) (.cons (.d false qT1) (.cons (.d false qT1) .nil)))]⟩
def qky:Shp:=⟨[(1,.d false qT1),(8,.d true qT0),(22,.d false (.slice Trans.ty)),(23,.d true qT0),(24,.d true qT0)],[]⟩
def q6o {R:Type} (y_1:qL1) (v_22:(List Trans)) (v_23:Int) (v_24:Int) (nx:Int→Option R) (dn:Unit→Option R) (rt:(Bool×Int)→Option R):Option R :=
 bif decide (v_24 < v_23) then
   ckB (ix v_24 v_22.length) <|
   ckB (ix v_24 v_22.length) <|
   bnd (qlz y_1 v_22 v_23 v_24 y_1 (y_1.length:Int) (v_22.getD (Int.toNat v_24) Trans.z).1 (v_22.getD (Int.toNat v_24) Trans.z).2.1 (v_22.getD (Int.toNat v_24) Trans.z).2.2.1 (0,0)) fun oe4 =>
   lk oe4 (fun e4 =>
     bif (!decide (e4=0)) then
       rt (false,0)
     else
       ckB (inR .i64 (v_24+1)) <|
       nx (v_24+1)) (fun r=>rt r)
 else
   dn ()
def qm0 (y_1:qL1) (v_22:(List Trans)) (v_23:Int) (s0:Int):Option (Unit⊕(Bool×Int)) :=
 loopM (fun a=>q6o y_1 v_22 v_23 a (fun a'=>some (.next a')) (fun e=>some (.done e)) (fun r=>some (.ret r))) s0
def qku:Shp:=⟨[(1,.d false qT1),(22,.d false (.slice Trans.ty)),(23,.d true qT0),(24,.d true qT0)],[]⟩
def qkg:Shp:=⟨[(1,.d false qT1)],[]⟩
def qd3 (n_0:Net) (y_1:qL1):Option (Bool×Int) :=
 bnd (q5c n_0) fun r1 =>
 bif (!r1) then
   some (false,1)
 else
   bnd (q6p y_1 n_0.1) fun r2 =>
   bif (!r2) then
     some (false,1)
   else
     bnd (qm0 y_1 n_0.2.1 (n_0.2.1.length:Int) 0) fun oe5 =>
     lk oe5 (fun e5 =>
       bnd (qea y_1) fun r6 =>
       some (r6,0)) (fun r=>some r)
def qbq {R:Type} (x_1:qL1) (i_6:Int) (v_13:(List Trans)) (v_14:Int) (v_15:Int) (v_21:Int) (t_70:ByteArray) (t_71:qL1) (t_72:qL1) (v_22:Int) (out_5:qL1) (nx:(Int×qL1)→Option R) (dn:qL1→Option R) (rt:qL1→Option R):Option R :=
 bif decide (v_22 < v_21) then
   ckB (ix v_22 out_5.length) <|
   ckB (ix v_22 out_5.length) <|
   ckB (ix i_6 x_1.length) <|
   ckB (ix i_6 x_1.length) <|
   bnd (q3p (t_70,t_71,t_72,()) v_22) fun r1 =>
   ckB (inR .i64 ((x_1.getD (Int.toNat i_6) 0)*r1)) <|
   ckB (inR .i64 ((out_5.getD (Int.toNat v_22) 0)+((x_1.getD (Int.toNat i_6) 0)*r1))) <|
   ckB (ix v_22 out_5.length) <|
   ckB (ix v_22 out_5.length) <|
   ckB (inR .i64 (v_22+1)) <|
   nx ((v_22+1),(out_5.set (Int.toNat v_22) ((out_5.getD (Int.toNat v_22) 0)+((x_1.getD (Int.toNat i_6) 0)*r1))))
 else
   dn out_5
def qqp (x_1:qL1) (i_6:Int) (v_13:(List Trans)) (v_14:Int) (v_15:Int) (v_21:Int) (t_70:ByteArray) (t_71:qL1) (t_72:qL1) (s0:(Int×qL1)):Option (qL1⊕qL1) :=
 loopM (fun a=>qbq x_1 i_6 v_13 v_14 v_15 v_21 t_70 t_71 t_72 a.1 a.2 (fun a'=>some (.next a')) (fun e=>some (.done e)) (fun r=>some (.ret r))) s0
def qo1:Shp:=⟨[(1,.d false qT1),(5,.own 0),(6,.d true qT0),(7,.ptr 1),(13,.d false (.slice Trans.ty)),(14,.d true qT0),(15,.d true qT0),(21,.d true qT0),(22,.d true qT0)],[.arr 3 (.fz true) [0] qT0,.cs 68 3 1 (.cons (.d true .str) (.cons (.d false qT1) (.cons (.d false qT1) .nil)))]⟩
def qo9:Shp:=⟨[(1,.d false qT1),(5,.own 0),(13,.d false (.slice Trans.ty)),(14,.d true qT0),(15,.d true qT0)],[.arr 3 (.fz true) [0] qT0]⟩
def qbg {R:Type} (x_1:qL1) (v_13:(List Trans)) (v_14:Int) (v_15:Int) (out_5:qL1) (nx:(Int×qL1)→Option R) (dn:qL1→Option R) (rt:qL1→Option R):Option R :=
 bif decide (v_15 < v_14) then
   ckB (ix v_15 v_13.length) <|
   ckB (ix v_15 v_13.length) <|
   bnd (qqp x_1 v_15 v_13 v_14 v_15 (out_5.length:Int) (v_13.getD (Int.toNat v_15) Trans.z).1 (v_13.getD (Int.toNat v_15) Trans.z).2.1 (v_13.getD (Int.toNat v_15) Trans.z).2.2.1 (0,out_5)) fun oe2 =>
   lk oe2 (fun e2 =>
     ckB (inR .i64 (v_15+1)) <|
     nx ((v_15+1),e2)) (fun r=>rt r)
 else
   dn out_5
def qqj (x_1:qL1) (v_13:(List Trans)) (v_14:Int) (s0:(Int×qL1)):Option (qL1⊕qL1) :=
 loopM (fun a=>qbg x_1 v_13 v_14 a.1 a.2 (fun a'=>some (.next a')) (fun e=>some (.done e)) (fun r=>some (.ret r))) s0
def qny:Shp:=⟨[(1,.d false qT1),(5,.own 0),(13,.d false (.slice Trans.ty)),(14,.d true qT0),(15,.d true qT0)],[.arr 3 (.fz true) [0] qT0]⟩
def qo0:Shp:=⟨[(5,.own 0)],[.arr 3 (.fz true) [0] qT0]⟩
def qcr (n_0:Net) (x_1:qL1):Option qL1 :=
 ckB (mkOk n_0.1 n_0.1 8) <|
 bnd (qqj x_1 n_0.2.1 (n_0.2.1.length:Int) (0,(List.replicate (Int.toNat n_0.1) (0:Int)))) fun oe3 =>
 lk oe3 (fun e3 =>
   some e3) (fun r=>some r)
def q7t (n_0:Net) (x_1:qL1):Option (Bool×Int) :=
 bnd (q5c n_0) fun r1 =>
 bif (!r1) then
   some (false,1)
 else
   bnd (q6p x_1 (n_0.2.1.length:Int)) fun r2 =>
   bif (!r2) then
     some (false,1)
   else
     bnd (qea x_1) fun r3 =>
     bif r3 then
       bnd (qcr n_0 x_1) fun r4 =>
       bnd (qea r4) fun r5 =>
       some ((!r5),0)
     else
       some (false,0)
def q9x {R:Type} (l_0:qL1) (i_5:Int) (nx:Int→Option R) (dn:Unit→Option R) (rt:Bool→Option R):Option R :=
 bif decide (i_5 < (l_0.length:Int)) then
   ckB (ix i_5 l_0.length) <|
   ckB (ix i_5 l_0.length) <|
   bif decide ((l_0.getD (Int.toNat i_5) 0) < 0) then
     rt false
   else
     ckB (ix i_5 l_0.length) <|
     ckB (ix i_5 l_0.length) <|
     bif decide ((1048576:Int) < (l_0.getD (Int.toNat i_5) 0)) then
       rt false
     else
       ckB (inR .i64 (i_5+1)) <|
       nx (i_5+1)
 else
   dn ()
def qm6 (l_0:qL1) (s0:Int):Option (Unit⊕Bool) :=
 loopM (fun a=>q9x l_0 a (fun a'=>some (.next a')) (fun e=>some (.done e)) (fun r=>some (.ret r))) s0
def qks:Shp:=⟨[(0,.d false qT1),(5,.d true qT0)],[]⟩
def qkd:Shp:=⟨[],[]⟩
def q5w (l_0:qL1) (n_1:Int):Option Bool :=
 bif (!decide ((l_0.length:Int)=n_1)) then
   some false
 else
   bnd (qm6 l_0 0) fun oe1 =>
   lk oe1 (fun e1 =>
     some true) (fun r=>some r)
def qd5 {R:Type} (l_0:qL1) (i_3:Int) (nx:Int→Option R) (dn:Unit→Option R) (rt:Bool→Option R):Option R :=
 bif decide (i_3 < (l_0.length:Int)) then
   ckB (ix i_3 l_0.length) <|
   ckB (ix i_3 l_0.length) <|
   bif (!decide ((l_0.getD (Int.toNat i_3) 0)=0)) then
     rt false
   else
     ckB (inR .i64 (i_3+1)) <|
     nx (i_3+1)
 else
   dn ()
def qrp (l_0:qL1) (s0:Int):Option (Unit⊕Bool) :=
 loopM (fun a=>qd5 l_0 a (fun a'=>some (.next a')) (fun e=>some (.done e)) (fun r=>some (.ret r))) s0
def qqy:Shp:=⟨[(0,.d false qT1),(3,.d true qT0)],[]⟩
def qqb:Shp:=⟨[],[]⟩
def qbw (l_0:qL1):Option Bool :=
 bnd (qrp l_0 0) fun oe1 =>
 lk oe1 (fun e1 =>
   some true) (fun r=>some r)
def q8y {R:Type} (y_1:qL1) (t_6:Int) (n_20:Int) (n_21:(List Trans)) (n_22:Int) (n_23:Int) (sum_7:Int) (p_8:Int) (nx:(Int×Int)→Option R) (dn:Int→Option R) (rt:(Bool×Int)→Option R):Option R :=
 bif decide (p_8 < n_20) then
   ckB (ix p_8 y_1.length) <|
   ckB (ix p_8 y_1.length) <|
   ckB (ix t_6 n_21.length) <|
   ckB (ix t_6 n_21.length) <|
   bnd (qkp (n_21.getD (Int.toNat t_6) Trans.z) p_8) fun r3 =>
   ckB (inR .i64 ((y_1.getD (Int.toNat p_8) 0)*r3)) <|
   ckB (inR .i64 (sum_7+((y_1.getD (Int.toNat p_8) 0)*r3))) <|
   ckB (inR .i64 (p_8+1)) <|
   nx ((sum_7+((y_1.getD (Int.toNat p_8) 0)*r3)),(p_8+1))
 else
   dn sum_7
def ql7 (y_1:qL1) (t_6:Int) (n_20:Int) (n_21:(List Trans)) (n_22:Int) (n_23:Int) (s0:(Int×Int)):Option (Int⊕(Bool×Int)) :=
 loopM (fun a=>q8y y_1 t_6 n_20 n_21 n_22 n_23 a.1 a.2 (fun a'=>some (.next a')) (fun e=>some (.done e)) (fun r=>some (.ret r))) s0
def qiv:Shp:=⟨[(1,.d false qT1),(2,.ptr 0),(6,.d true qT0),(7,.d true qT0),(8,.d true qT0)],[.cs 24 4 1 (.cons (.d true qT0) (.cons (.d false (.slice Trans.ty)) (.cons (.d true qT0) (.cons (.d true qT0) .nil))))]⟩
def qit:Shp:=⟨[(1,.d false qT1),(2,.ptr 0),(6,.d true qT0),(7,.d true qT0)],[.cs 24 4 1 (.cons (.d true qT0) (.cons (.d false (.slice Trans.ty)) (.cons (.d true qT0) (.cons (.d true qT0) .nil))))]⟩
def q62 {R:Type} (y_1:qL1) (n_20:Int) (n_21:(List Trans)) (n_22:Int) (n_23:Int) (t_6:Int) (nx:Int→Option R) (dn:Unit→Option R) (rt:(Bool×Int)→Option R):Option R :=
 bif decide (t_6 < (n_21.length:Int)) then
   bnd (ql7 y_1 t_6 n_20 n_21 n_22 n_23 (0,0)) fun oe4 =>
   lk oe4 (fun e4 =>
     bif (!decide (e4=0)) then
       rt (false,0)
     else
       ckB (inR .i64 (t_6+1)) <|
       nx (t_6+1)) (fun r=>rt r)
 else
   dn ()
def qko (y_1:qL1) (n_20:Int) (n_21:(List Trans)) (n_22:Int) (n_23:Int) (s0:Int):Option (Unit⊕(Bool×Int)) :=
 loopM (fun a=>q62 y_1 n_20 n_21 n_22 n_23 a (fun a'=>some (.next a')) (fun e=>some (.done e)) (fun r=>some (.ret r))) s0
def qj4:Shp:=⟨[(1,.d false qT1),(2,.ptr 0),(6,.d true qT0)],[.cs 24 4 1 (.cons (.d true qT0) (.cons (.d false (.slice Trans.ty)) (.cons (.d true qT0) (.cons (.d true qT0) .nil))))]⟩
def qis:Shp:=⟨[(1,.d false qT1)],[]⟩
def qbt (n_0:Net) (y_1:qL1):Option (Bool×Int) :=
 bnd (q8d n_0) fun r1 =>
 bif (!r1) then
   some (false,1)
 else
   bnd (q5w y_1 n_0.1) fun r2 =>
   bif (!r2) then
     some (false,1)
   else
     bnd (qko y_1 n_0.1 n_0.2.1 n_0.2.2.1 n_0.2.2.2.1 0) fun oe5 =>
     lk oe5 (fun e5 =>
       bnd (qbw y_1) fun r6 =>
       some ((!r6),0)) (fun r=>some r)
def qab {R:Type} (x_1:qL1) (p_6:Int) (n_20:Int) (n_21:(List Trans)) (n_22:Int) (n_23:Int) (out_5:qL1) (sum_7:Int) (t_8:Int) (nx:(Int×Int)→Option R) (dn:Int→Option R) (rt:qL1→Option R):Option R :=
 bif decide (t_8 < (n_21.length:Int)) then
   ckB (ix t_8 x_1.length) <|
   ckB (ix t_8 x_1.length) <|
   ckB (ix t_8 n_21.length) <|
   ckB (ix t_8 n_21.length) <|
   bnd (qkp (n_21.getD (Int.toNat t_8) Trans.z) p_6) fun r1 =>
   ckB (inR .i64 ((x_1.getD (Int.toNat t_8) 0)*r1)) <|
   ckB (inR .i64 (sum_7+((x_1.getD (Int.toNat t_8) 0)*r1))) <|
   ckB (inR .i64 (t_8+1)) <|
   nx ((sum_7+((x_1.getD (Int.toNat t_8) 0)*r1)),(t_8+1))
 else
   dn sum_7
def qop (x_1:qL1) (p_6:Int) (n_20:Int) (n_21:(List Trans)) (n_22:Int) (n_23:Int) (out_5:qL1) (s0:(Int×Int)):Option (Int⊕qL1) :=
 loopM (fun a=>qab x_1 p_6 n_20 n_21 n_22 n_23 out_5 a.1 a.2 (fun a'=>some (.next a')) (fun e=>some (.done e)) (fun r=>some (.ret r))) s0
def qm1:Shp:=⟨[(1,.d false qT1),(2,.ptr 0),(5,.nl false (.own 1)),(6,.d true qT0),(7,.d true qT0),(8,.d true qT0)],[.cs 24 4 1 (.cons (.d true qT0) (.cons (.d false (.slice Trans.ty)) (.cons (.d true qT0) (.cons (.d true qT0) .nil)))),.arr 3 (.fz true) [0] qT0]⟩
def qmx:Shp:=⟨[(1,.d false qT1),(2,.ptr 0),(5,.nl false (.own 1)),(6,.d true qT0),(7,.d true qT0)],[.cs 24 4 1 (.cons (.d true qT0) (.cons (.d false (.slice Trans.ty)) (.cons (.d true qT0) (.cons (.d true qT0) .nil)))),.arr 3 (.fz true) [0] qT0]⟩
def qah {R:Type} (x_1:qL1) (n_20:Int) (n_21:(List Trans)) (n_22:Int) (n_23:Int) (p_6:Int) (out_5:qL1) (nx:(Int×qL1)→Option R) (dn:qL1→Option R) (rt:qL1→Option R):Option R :=
 bif decide (p_6 < n_20) then
   bnd (qop x_1 p_6 n_20 n_21 n_22 n_23 out_5 (0,0)) fun oe2 =>
   lk oe2 (fun e2 =>
     ckB (room (out_5.length+1) 8) <|
     ckB (inR .i64 (p_6+1)) <|
     nx ((p_6+1),(out_5++[e2]))) (fun r=>rt r)
 else
   dn out_5
def qoy (x_1:qL1) (n_20:Int) (n_21:(List Trans)) (n_22:Int) (n_23:Int) (s0:(Int×qL1)):Option (qL1⊕qL1) :=
 loopM (fun a=>qah x_1 n_20 n_21 n_22 n_23 a.1 a.2 (fun a'=>some (.next a')) (fun e=>some (.done e)) (fun r=>some (.ret r))) s0
def qly:Shp:=⟨[(1,.d false qT1),(2,.ptr 0),(5,.nl false (.own 1)),(6,.d true qT0)],[.cs 24 4 1 (.cons (.d true qT0) (.cons (.d false (.slice Trans.ty)) (.cons (.d true qT0) (.cons (.d true qT0) .nil)))),.arr 3 (.fz true) [0] qT0]⟩
def qmw:Shp:=⟨[(5,.nl false (.own 0))],[.arr 3 (.fz true) [0] qT0]⟩
def qav (n_0:Net) (x_1:qL1):Option qL1 :=
 bnd (qoy x_1 n_0.1 n_0.2.1 n_0.2.2.1 n_0.2.2.2.1 (0,[])) fun oe3 =>
 lk oe3 (fun e3 =>
   some e3) (fun r=>some r)
def q75 (n_0:Net) (x_1:qL1):Option (Bool×Int) :=
 bnd (q8d n_0) fun r1 =>
 bif (!r1) then
   some (false,1)
 else
   bnd (q5w x_1 (n_0.2.1.length:Int)) fun r2 =>
   bif (!r2) then
     some (false,1)
   else
     bnd (qav n_0 x_1) fun r3 =>
     bnd (qbw r3) fun r4 =>
     bif r4 then
       bnd (qbw x_1) fun r5 =>
       some ((!r5),0)
     else
       some (false,0)
def qjf (n_0:Net) (y_1:qL1) (m_2:qL1):Option (Int×Int) :=
 bnd (q9e n_0 m_2) fun r1 =>
 bif (!r1) then
   some (0,1)
 else
   bnd (q6p y_1 n_0.1) fun r2 =>
   bif (!r2) then
     some (0,1)
   else
     bnd (qlf y_1 m_2) fun r3 =>
     some (r3,0)
def qhj (n_0:Net) (y_1:qL1) (m_2:qL1):Option (Int×Int) :=
 bnd (q8d n_0) fun r1 =>
 bif (!r1) then
   some (0,1)
 else
   bnd (q5w y_1 n_0.1) fun r2 =>
   bif (!r2) then
     some (0,1)
   else
     bnd (q7o n_0 m_2) fun r3 =>
     bif (!r3) then
       some (0,1)
     else
       bnd (qm2 y_1 m_2) fun r4 =>
       some (r4,0)
def q35 {R:Type} (m_1:qL1) (v_26:Int) (v_27:Int) (out_8:qL1) (nx:(Int×qL1)→Option R) (dn:qL1→Option R) (rt:(Int×qL1)→Option R):Option R :=
 bif decide (v_27 < v_26) then
   ckB (ix v_27 out_8.length) <|
   ckB (ix v_27 out_8.length) <|
   ckB (ix v_27 m_1.length) <|
   ckB (ix v_27 m_1.length) <|
   ckB (inR .i64 ((out_8.getD (Int.toNat v_27) 0)+(m_1.getD (Int.toNat v_27) 0))) <|
   ckB (ix v_27 out_8.length) <|
   ckB (ix v_27 out_8.length) <|
   ckB (ix v_27 (out_8.set (Int.toNat v_27) ((out_8.getD (Int.toNat v_27) 0)+(m_1.getD (Int.toNat v_27) 0))).length) <|
   ckB (ix v_27 (out_8.set (Int.toNat v_27) ((out_8.getD (Int.toNat v_27) 0)+(m_1.getD (Int.toNat v_27) 0))).length) <|
   bif decide (((out_8.set (Int.toNat v_27) ((out_8.getD (Int.toNat v_27) 0)+(m_1.getD (Int.toNat v_27) 0))).getD (Int.toNat v_27) 0) < 0) then
     rt (12,[])
   else
     ckB (ix v_27 (out_8.set (Int.toNat v_27) ((out_8.getD (Int.toNat v_27) 0)+(m_1.getD (Int.toNat v_27) 0))).length) <|
     ckB (ix v_27 (out_8.set (Int.toNat v_27) ((out_8.getD (Int.toNat v_27) 0)+(m_1.getD (Int.toNat v_27) 0))).length) <|
     bif decide ((100:Int) < ((out_8.set (Int.toNat v_27) ((out_8.getD (Int.toNat v_27) 0)+(m_1.getD (Int.toNat v_27) 0))).getD (Int.toNat v_27) 0)) then
       rt (12,[])
     else
       ckB (inR .i64 (v_27+1)) <|
       nx ((v_27+1),(out_8.set (Int.toNat v_27) ((out_8.getD (Int.toNat v_27) 0)+(m_1.getD (Int.toNat v_27) 0))))
 else
   dn out_8
def qmf (m_1:qL1) (v_26:Int) (s0:(Int×qL1)):Option (qL1⊕(Int×qL1)) :=
 loopM (fun a=>q35 m_1 v_26 a.1 a.2 (fun a'=>some (.next a')) (fun e=>some (.done e)) (fun r=>some (.ret r))) s0
def qlb:Shp:=⟨[(1,.d false qT1),(8,.own 0),(26,.d true qT0),(27,.d true qT0)],[.arr 3 (.fz true) [0] qT0]⟩
def qk2:Shp:=⟨[(8,.own 0)],[.arr 3 (.fz true) [0] qT0]⟩
def qd4 (n_0:Net) (m_1:qL1) (x_2:qL1):Option (Int×qL1) :=
 bnd (q9e n_0 m_1) fun r1 =>
 bif (!r1) then
   some (1,[])
 else
   bnd (q6p x_2 (n_0.2.1.length:Int)) fun r2 =>
   bif (!r2) then
     some (1,[])
   else
     bnd (qcr n_0 x_2) fun r3 =>
     bnd (qmf m_1 (r3.length:Int) (0,r3)) fun oe4 =>
     lk oe4 (fun e4 =>
       some (0,e4)) (fun r=>some r)
def q90 {R:Type} (m_1:qL1) (n_30:Int) (n_31:(List Trans)) (n_32:Int) (n_33:Int) (p_9:Int) (out_8:qL1) (nx:(Int×qL1)→Option R) (dn:qL1→Option R) (rt:(Int×qL1)→Option R):Option R :=
 bif decide (p_9 < n_30) then
   ckB (ix p_9 out_8.length) <|
   ckB (ix p_9 out_8.length) <|
   ckB (ix p_9 m_1.length) <|
   ckB (ix p_9 m_1.length) <|
   ckB (inR .i64 ((out_8.getD (Int.toNat p_9) 0)+(m_1.getD (Int.toNat p_9) 0))) <|
   ckB (ix p_9 out_8.length) <|
   ckB (ix p_9 out_8.length) <|
   ckB (inR .i64 (p_9+1)) <|
   nx ((p_9+1),(out_8.set (Int.toNat p_9) ((out_8.getD (Int.toNat p_9) 0)+(m_1.getD (Int.toNat p_9) 0))))
 else
   dn out_8
def qkl (m_1:qL1) (n_30:Int) (n_31:(List Trans)) (n_32:Int) (n_33:Int) (s0:(Int×qL1)):Option (qL1⊕(Int×qL1)) :=
 loopM (fun a=>q90 m_1 n_30 n_31 n_32 n_33 a.1 a.2 (fun a'=>some (.next a')) (fun e=>some (.done e)) (fun r=>some (.ret r))) s0
def qj6:Shp:=⟨[(1,.d false qT1),(3,.ptr 0),(8,.nl false (.own 1)),(9,.d true qT0)],[.cs 24 4 1 (.cons (.d true qT0) (.cons (.d false (.slice Trans.ty)) (.cons (.d true qT0) (.cons (.d true qT0) .nil)))),.arr 3 (.fz true) [0] qT0]⟩
def qiy:Shp:=⟨[(3,.ptr 0),(8,.nl false (.own 1))],[.cs 24 4 1 (.cons (.d true qT0) (.cons (.d false (.slice Trans.ty)) (.cons (.d true qT0) (.cons (.d true qT0) .nil)))),.arr 3 (.fz true) [0] qT0]⟩
def qbv (n_0:Net) (m_1:qL1) (x_2:qL1):Option (Int×qL1) :=
 bnd (q8d n_0) fun r1 =>
 bif (!r1) then
   some (1,[])
 else
   bnd (q5w x_2 (n_0.2.1.length:Int)) fun r2 =>
   bif (!r2) then
     some (1,[])
   else
     bnd (q7o n_0 m_1) fun r3 =>
     bif (!r3) then
       some (1,[])
     else
       bnd (qav n_0 x_2) fun r4 =>
       bnd (qkl m_1 n_0.1 n_0.2.1 n_0.2.2.1 n_0.2.2.2.1 (0,r4)) fun oe5 =>
       lk oe5 (fun e5 =>
         bnd (q7o n_0 e5) fun r6 =>
         bif (!r6) then
           some (12,[])
         else
           some (0,e5)) (fun r=>some r)
def q4g {R:Type} (s1_0:qL1) (s2_1:qL1) (v_12:Int) (v_13:Int) (nx:Int→Option R) (dn:Unit→Option R) (rt:Bool→Option R):Option R :=
 bif decide (v_13 < v_12) then
   ckB (ix v_13 s1_0.length) <|
   ckB (ix v_13 s1_0.length) <|
   ckB (ix v_13 s2_1.length) <|
   ckB (ix v_13 s2_1.length) <|
   bif (!decide ((s1_0.getD (Int.toNat v_13) 0)=(s2_1.getD (Int.toNat v_13) 0))) then
     rt false
   else
     ckB (inR .i64 (v_13+1)) <|
     nx (v_13+1)
 else
   dn ()
def qcv (s1_0:qL1) (s2_1:qL1) (v_12:Int) (s0:Int):Option (Unit⊕Bool) :=
 loopM (fun a=>q4g s1_0 s2_1 v_12 a (fun a'=>some (.next a')) (fun e=>some (.done e)) (fun r=>some (.ret r))) s0
def qc0:Shp:=⟨[(0,.d false qT1),(1,.d false qT1),(12,.d true qT0),(13,.d true qT0)],[]⟩
def qc4:Shp:=⟨[],[]⟩
def q42 (s1_0:qL1) (s2_1:qL1):Option Bool :=
 bif (!decide ((s1_0.length:Int)=(s2_1.length:Int))) then
   some false
 else
   bnd (qcv s1_0 s2_1 (s1_0.length:Int) 0) fun oe1 =>
   lk oe1 (fun e1 =>
     some true) (fun r=>some r)
def qdz (n_0:Net) (y_1:qL1) (x_2:qL1) (m_3:qL1):Option Bool :=
 bnd (qnc) fun r1 =>
 bif (!r1) then
   some false
 else
   bnd (qml n_0) fun r2 =>
   bif (!r2) then
     some true
   else
     bif decide ((60:Int) < (y_1.length:Int)) then
       some true
     else
       bif decide ((80:Int) < (x_2.length:Int)) then
         some true
       else
         bif decide ((60:Int) < (m_3.length:Int)) then
           some true
         else
           bnd (qd3 n_0 y_1) fun r3 =>
           bnd (qbt n_0 y_1) fun r4 =>
           bnd (q7t n_0 x_2) fun r5 =>
           bnd (q75 n_0 x_2) fun r6 =>
           bnd (qjf n_0 y_1 m_3) fun r7 =>
           bnd (qhj n_0 y_1 m_3) fun r8 =>
           bnd (qd4 n_0 m_3 x_2) fun r9 =>
           bnd (qbv n_0 m_3 x_2) fun r10 =>
           bif (r3.1 == r4.1) then
             bif decide (r3.2=r4.2) then
               bif (r5.1 == r6.1) then
                 bif decide (r5.2=r6.2) then
                   bif decide (r7.1=r8.1) then
                     bif decide (r7.2=r8.2) then
                       bnd (q42 r9.2 r10.2) fun r11 =>
                       bif r11 then
                         some (decide (r9.1=r10.1))
                       else
                         some false
                     else
                       some false
                   else
                     some false
                 else
                   some false
               else
                 some false
             else
               some false
           else
             some false
end Go.Proofs.Ythakmiiaejhlbaa
