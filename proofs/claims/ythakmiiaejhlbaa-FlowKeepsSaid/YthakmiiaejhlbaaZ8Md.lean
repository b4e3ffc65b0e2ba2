/-
  What the functions compute, as plain functions of Lean. Made by program (mg3.py) out of the translation.
-/
import Derived.Test.YthakmiiaejhlbaaZ8KE
set_option linter.all false
set_option maxRecDepth 100000
namespace Go.Proofs.Ythakmiiaejhlbaa
open Go.K Go.M
abbrev qL1:Type:=List Int
abbrev qL2:Type:=List (List Int)
abbrev qT0:Ty:=.int .i64
abbrev qT1:Ty:=.slice qT0
abbrev qT2:Ty:=.slice qT1
abbrev Trans:Type:=ByteArray×qL1×qL1×Unit
abbrev Trans.z:Trans:=(⟨#[]⟩,[],[],())
def Trans.ty:Ty:=.struct (.cons .str (.cons qT1 (.cons qT1 .nil)))
abbrev Net:Type:=Int×(List Trans)×Int×Int×Unit
abbrev Net.z:Net:=(0,[],0,0,())
def Net.ty:Ty:=.struct (.cons qT0 (.cons (.slice Trans.ty) (.cons qT0 (.cons qT0 .nil))))
abbrev qez:Type:=qL1×qL1×Unit
abbrev qez.z:qez:=([],[],())
def qez.ty:Ty:=.struct (.cons qT1 (.cons qT1 .nil))
abbrev bytes0:ByteArray:=⟨#[0,1,2,2,3,3,3,3,4,4,4,4,4,4,4,4,5,5,5,5,5,5,5,5,5,5,5,5,5,5,5,5,6,6,6,6,6,6,6,6,6,6,6,6,6,6,6,6,6,6,6,6,6,6,6,6,6,6,6,6,6,6,6,6,7,7,7,7,7,7,7,7,7,7,7,7,7,7,7,7,7,7,7,7,7,7,7,7,7,7,7,7,7,7,7,7,7,7,7,7,7,7,7,7,7,7,7,7,7,7,7,7,7,7,7,7,7,7,7,7,7,7,7,7,7,7,7,7,8,8,8,8,8,8,8,8,8,8,8,8,8,8,8,8,8,8,8,8,8,8,8,8,8,8,8,8,8,8,8,8,8,8,8,8,8,8,8,8,8,8,8,8,8,8,8,8,8,8,8,8,8,8,8,8,8,8,8,8,8,8,8,8,8,8,8,8,8,8,8,8,8,8,8,8,8,8,8,8,8,8,8,8,8,8,8,8,8,8,8,8,8,8,8,8,8,8,8,8,8,8,8,8,8,8,8,8,8,8,8,8,8,8,8,8,8,8,8,8,8,8,8,8,8,8,8,8]⟩
def qdx (c_0:Int):Option Bool :=
 bif decide ((65:Int)≤c_0) then
   bif decide (c_0≤90) then
     some true
   else
     bif decide ((97:Int)≤c_0) then
       some (decide (c_0≤122))
     else
       some false
 else
   bif decide ((97:Int)≤c_0) then
     some (decide (c_0≤122))
   else
     some false
def qml (c_0:Int):Option Bool :=
 bnd (qdx c_0) fun r1 =>
 bif r1 then
   some true
 else
   bif decide ((48:Int)≤c_0) then
     bif decide (c_0≤57) then
       some true
     else
       bif decide (c_0=95) then
         some true
       else
         bif decide (c_0=45) then
           some true
         else
           some (decide (c_0=46))
   else
     bif decide (c_0=95) then
       some true
     else
       bif decide (c_0=45) then
         some true
       else
         some (decide (c_0=46))
def qag {R:Type} (s_0:ByteArray) (v_19:Int) (v_20:Int) (nx:Int→Option R) (dn:Unit→Option R) (rt:Bool→Option R):Option R :=
 bif decide (v_20 < v_19) then
   ckB (ix v_20 (ByteArray.size s_0)) <|
   bnd (qml (((ByteArray.data s_0).getD (Int.toNat v_20) 0).toNat:Int)) fun r2 =>
   bif (!r2) then
     rt false
   else
     ckB (inR .i64 (v_20+1)) <|
     nx (v_20+1)
 else
   dn ()
def qq5 (s_0:ByteArray) (v_19:Int) (s0:Int):Option (Unit⊕Bool) :=
 loopM (fun a=>qag s_0 v_19 a (fun a'=>some (.next a')) (fun e=>some (.done e)) (fun r=>some (.ret r))) s0
def qop:Shp:=⟨[(0,.d true .str),(19,.d true qT0),(20,.d true qT0)],[]⟩
def qoo:Shp:=⟨[],[]⟩
def qi4 (s_0:ByteArray):Option Bool :=
 bif decide ((ByteArray.size s_0:Int) < 1) then
   some false
 else
   bif decide ((40:Int) < (ByteArray.size s_0:Int)) then
     some false
   else
     ckB (ix 0 (ByteArray.size s_0)) <|
     bnd (qdx (((ByteArray.data s_0).getD 0 0).toNat:Int)) fun r1 =>
     bif (!r1) then
       some false
     else
       bnd (qq5 s_0 (ByteArray.size s_0:Int) 0) fun oe3 =>
       lk oe3 (fun e3 =>
         some true) (fun r=>some r)
def q7f {R:Type} (l_1:qL1) (v_7:qL1) (v_8:Int) (n_20:Int) (n_21:(List Trans)) (n_22:Int) (n_23:Int) (v_9:Int) (nx:Int→Option R) (dn:Unit→Option R) (rt:Bool→Option R):Option R :=
 bif decide (v_9 < v_8) then
   ckB (ix v_9 v_7.length) <|
   ckB (ix v_9 v_7.length) <|
   bif decide ((v_7.getD (Int.toNat v_9) 0) < 0) then
     rt false
   else
     bif decide (n_20≤(v_7.getD (Int.toNat v_9) 0)) then
       rt false
     else
       bif decide ((0:Int) < v_9) then
         ckB (inR .i64 (v_9 - 1)) <|
         ckB (ix (v_9 - 1) l_1.length) <|
         ckB (ix (v_9 - 1) l_1.length) <|
         bif decide ((v_7.getD (Int.toNat v_9) 0)≤(l_1.getD (Int.toNat (v_9 - 1)) 0)) then
           rt false
         else
           ckB (inR .i64 (v_9+1)) <|
           nx (v_9+1)
       else
         ckB (inR .i64 (v_9+1)) <|
         nx (v_9+1)
 else
   dn ()
def qnu (l_1:qL1) (v_7:qL1) (v_8:Int) (n_20:Int) (n_21:(List Trans)) (n_22:Int) (n_23:Int) (s0:Int):Option (Unit⊕Bool) :=
 loopM (fun a=>q7f l_1 v_7 v_8 n_20 n_21 n_22 n_23 a (fun a'=>some (.next a')) (fun e=>some (.done e)) (fun r=>some (.ret r))) s0
def qm8:Shp:=⟨[(1,.d false qT1),(2,.ptr 0),(7,.d false qT1),(8,.d true qT0),(9,.d true qT0)],[.cs 24 4 1 (.cons (.d true qT0) (.cons (.d false (.slice Trans.ty)) (.cons (.d true qT0) (.cons (.d true qT0) .nil))))]⟩
def qmk:Shp:=⟨[],[]⟩
def q5b (n_0:Net) (l_1:qL1):Option Bool :=
 bnd (qnu l_1 l_1 (l_1.length:Int) n_0.1 n_0.2.1 n_0.2.2.1 n_0.2.2.2.1 0) fun oe1 =>
 lk oe1 (fun e1 =>
   some true) (fun r=>some r)
def qdc {R:Type} (v_20:(List Trans)) (v_21:Int) (n_10:Int) (n_11:(List Trans)) (n_12:Int) (n_13:Int) (v_22:Int) (nx:Int→Option R) (dn:Unit→Option R) (rt:Bool→Option R):Option R :=
 bif decide (v_22 < v_21) then
   ckB (ix v_22 v_20.length) <|
   ckB (ix v_22 v_20.length) <|
   bif (!(ByteArray.toList (v_20.getD (Int.toNat v_22) Trans.z).1 == ByteArray.toList ⟨#[]⟩)) then
     bnd (qi4 (v_20.getD (Int.toNat v_22) Trans.z).1) fun r1 =>
     bif (!r1) then
       rt false
     else
       bnd (q5b (n_10,n_11,n_12,n_13,()) (v_20.getD (Int.toNat v_22) Trans.z).2.1) fun r2 =>
       bif (!r2) then
         rt false
       else
         bnd (q5b (n_10,n_11,n_12,n_13,()) (v_20.getD (Int.toNat v_22) Trans.z).2.2.1) fun r3 =>
         bif (!r3) then
           rt false
         else
           ckB (inR .i64 (v_22+1)) <|
           nx (v_22+1)
   else
     bnd (q5b (n_10,n_11,n_12,n_13,()) (v_20.getD (Int.toNat v_22) Trans.z).2.1) fun r4 =>
     bif (!r4) then
       rt false
     else
       bnd (q5b (n_10,n_11,n_12,n_13,()) (v_20.getD (Int.toNat v_22) Trans.z).2.2.1) fun r5 =>
       bif (!r5) then
         rt false
       else
         ckB (inR .i64 (v_22+1)) <|
         nx (v_22+1)
 else
   dn ()
def qqe (v_20:(List Trans)) (v_21:Int) (n_10:Int) (n_11:(List Trans)) (n_12:Int) (n_13:Int) (s0:Int):Option (Unit⊕Bool) :=
 loopM (fun a=>qdc v_20 v_21 n_10 n_11 n_12 n_13 a (fun a'=>some (.next a')) (fun e=>some (.done e)) (fun r=>some (.ret r))) s0
def qom:Shp:=⟨[(1,.ptr 0),(20,.d false (.slice Trans.ty)),(21,.d true qT0),(22,.d true qT0)],[.cs 24 4 1 (.cons (.d true qT0) (.cons (.d false (.slice Trans.ty)) (.cons (.d true qT0) (.cons (.d true qT0) .nil))))]⟩
def qos:Shp:=⟨[(1,.ptr 0)],[.cs 24 4 1 (.cons (.d true qT0) (.cons (.d false (.slice Trans.ty)) (.cons (.d true qT0) (.cons (.d true qT0) .nil))))]⟩
def q85 (n_0:Net):Option Bool :=
 bif decide (n_0.1 < 1) then
   some false
 else
   bif decide ((40:Int) < n_0.1) then
     some false
   else
     bif decide ((60:Int) < (n_0.2.1.length:Int)) then
       some false
     else
       bnd (qqe n_0.2.1 (n_0.2.1.length:Int) n_0.1 n_0.2.1 n_0.2.2.1 n_0.2.2.2.1 0) fun oe6 =>
       lk oe6 (fun e6 =>
         bnd (q5b n_0 [n_0.2.2.1]) fun r7 =>
         bif r7 then
           bnd (q5b n_0 [n_0.2.2.2.1]) fun r8 =>
           some r8
         else
           some false) (fun r=>some r)
def qd5 (n_0:Net):Option Bool :=
 bif decide ((20:Int) < n_0.1) then
   some true
 else
   some (decide ((20:Int) < (n_0.2.1.length:Int)))
def q5v {R:Type} (s_0:qL1) (v_1:Int) (v_7:Int) (v_8:Int) (nx:Int→Option R) (dn:Unit→Option R) (rt:Int→Option R):Option R :=
 bif decide (v_8 < v_7) then
   ckB (ix v_8 s_0.length) <|
   ckB (ix v_8 s_0.length) <|
   bif decide (v_1=(s_0.getD (Int.toNat v_8) 0)) then
     rt v_8
   else
     ckB (inR .i64 (v_8+1)) <|
     nx (v_8+1)
 else
   dn ()
def qe7 (s_0:qL1) (v_1:Int) (v_7:Int) (s0:Int):Option (Unit⊕Int) :=
 loopM (fun a=>q5v s_0 v_1 v_7 a (fun a'=>some (.next a')) (fun e=>some (.done e)) (fun r=>some (.ret r))) s0
def qdk:Shp:=⟨[(0,.d false qT1),(1,.d true qT0),(7,.d true qT0),(8,.d true qT0)],[]⟩
def qdf:Shp:=⟨[],[]⟩
def qbd (s_0:qL1) (v_1:Int):Option Int :=
 bnd (qe7 s_0 v_1 (s_0.length:Int) 0) fun oe1 =>
 lk oe1 (fun e1 =>
   some (-1)) (fun r=>some r)
def q3v (s_0:qL1) (v_1:Int):Option Bool :=
 bnd (qbd s_0 v_1) fun r1 =>
 some (decide ((0:Int)≤r1))
def q82 (t_0:Trans) (p_1:Int):Option Int :=
 bnd (q3v t_0.2.1 p_1) fun r1 =>
 bnd (q3v t_0.2.2.1 p_1) fun r2 =>
 bif r2 then
   bif (!r1) then
     some 1
   else
     bif r1 then
       bif (!r2) then
         some (-1)
       else
         some 0
     else
       some 0
 else
   bif r1 then
     bif (!r2) then
       some (-1)
     else
       some 0
   else
     some 0
def qdw (s_0:qL1):Option qL1 :=
 bif decide ((s_0.length:Int)=0) then
   some []
 else
   ckB (room (0+s_0.length) 8) <|
   some ([]++s_0)
def q6s (s_0:qL1):Option qL1 :=
 ckB (room (0+s_0.length) 8) <|
 some ([]++s_0)
def q20 (s_0:qL1):Option qL1:=q6s s_0
def qdv {R:Type} (v_6:qL1) (v_7:Int) (v_8:Int) (g_3:Int) (k_5:Int) (nx:(Int×Int)→Option R) (dn:Int→Option R) (rt:Int→Option R):Option R :=
 bif (!decide (k_5=0)) then
   ckB (!decide (k_5=0)) <|
   nx (k_5,(Int.tmod g_3 k_5))
 else
   dn g_3
def qpo (v_6:qL1) (v_7:Int) (v_8:Int) (s0:(Int×Int)):Option (Int⊕Int) :=
 loopM (fun a=>qdv v_6 v_7 v_8 a.1 a.2 (fun a'=>some (.next a')) (fun e=>some (.done e)) (fun r=>some (.ret r))) s0
def qt5:Shp:=⟨[(3,.d true qT0),(5,.d true qT0),(6,.d false qT1),(7,.d true qT0),(8,.d true qT0)],[]⟩
def qtj:Shp:=⟨[(3,.d true qT0),(6,.d false qT1),(7,.d true qT0),(8,.d true qT0)],[]⟩
def qe8 {R:Type} (v_6:qL1) (v_7:Int) (g_3:Int) (v_8:Int) (nx:(Int×Int)→Option R) (dn:Int→Option R) (rt:Int→Option R):Option R :=
 bif decide (v_8 < v_7) then
   ckB (ix v_8 v_6.length) <|
   ckB (ix v_8 v_6.length) <|
   bif decide ((v_6.getD (Int.toNat v_8) 0) < 0) then
     ckB (inR .i64 (0 - (v_6.getD (Int.toNat v_8) 0))) <|
     bnd (qpo v_6 v_7 v_8 (g_3,(0 - (v_6.getD (Int.toNat v_8) 0)))) fun oe1 =>
     lk oe1 (fun e1 =>
       ckB (inR .i64 (v_8+1)) <|
       nx (e1,(v_8+1))) (fun r=>rt r)
   else
     bnd (qpo v_6 v_7 v_8 (g_3,(v_6.getD (Int.toNat v_8) 0))) fun oe2 =>
     lk oe2 (fun e2 =>
       ckB (inR .i64 (v_8+1)) <|
       nx (e2,(v_8+1))) (fun r=>rt r)
 else
   dn g_3
def qux (v_6:qL1) (v_7:Int) (s0:(Int×Int)):Option (Int⊕Int) :=
 loopM (fun a=>qe8 v_6 v_7 a.1 a.2 (fun a'=>some (.next a')) (fun e=>some (.done e)) (fun r=>some (.ret r))) s0
def qtf:Shp:=⟨[(3,.d true qT0),(6,.d false qT1),(7,.d true qT0),(8,.d true qT0)],[]⟩
def qsw:Shp:=⟨[(3,.d true qT0)],[]⟩
def qlk (l_0:qL1):Option Int :=
 bnd (qux l_0 (l_0.length:Int) (0,0)) fun oe3 =>
 lk oe3 (fun e3 =>
   some e3) (fun r=>some r)
def qcm {R:Type} (v_6:qL1) (v_7:Int) (m_3:Int) (v_8:Int) (nx:(Int×Int)→Option R) (dn:Int→Option R) (rt:Int→Option R):Option R :=
 bif decide (v_8 < v_7) then
   ckB (ix v_8 v_6.length) <|
   ckB (ix v_8 v_6.length) <|
   bif (!decide ((v_6.getD (Int.toNat v_8) 0)=0)) then
     ckB (decide (0≤v_8)) <|
     ckB (inR .i64 (v_8+1)) <|
     nx ((bitI .or .u64 m_3 (shlI .u64 1 v_8)),(v_8+1))
   else
     ckB (inR .i64 (v_8+1)) <|
     nx (m_3,(v_8+1))
 else
   dn m_3
def qt6 (v_6:qL1) (v_7:Int) (s0:(Int×Int)):Option (Int⊕Int) :=
 loopM (fun a=>qcm v_6 v_7 a.1 a.2 (fun a'=>some (.next a')) (fun e=>some (.done e)) (fun r=>some (.ret r))) s0
def qs9:Shp:=⟨[(3,.d true (.int .u64)),(6,.d false qT1),(7,.d true qT0),(8,.d true qT0)],[]⟩
def qs2:Shp:=⟨[(3,.d true (.int .u64))],[]⟩
def q72 (l_0:qL1):Option Int :=
 bnd (qt6 l_0 (l_0.length:Int) (0,0)) fun oe1 =>
 lk oe1 (fun e1 =>
   some e1) (fun r=>some r)
def qbh {R:Type} (left_1:qL1) (made_2:qL1) (own_9:Int) (v_54:Int) (v_53:qL2) (r_00:qL2) (v_55:Int) (nx:Int→Option R) (dn:Unit→Option R) (rt:(qL2×qL2)→Option R):Option R :=
 bif decide (v_55 < v_54) then
   ckB (ix v_55 v_53.length) <|
   ckB (ix v_55 v_53.length) <|
   bnd (q72 (v_53.getD (Int.toNat v_55) [])) fun r4 =>
   bif decide ((bitI .andNot .u64 r4 own_9)=0) then
     rt (r_00,v_53)
   else
     ckB (inR .i64 (v_55+1)) <|
     nx (v_55+1)
 else
   dn ()
def qly (left_1:qL1) (made_2:qL1) (own_9:Int) (v_54:Int) (v_53:qL2) (r_00:qL2) (s0:Int):Option (Unit⊕(qL2×qL2)) :=
 loopM (fun a=>qbh left_1 made_2 own_9 v_54 v_53 r_00 a (fun a'=>some (.next a')) (fun e=>some (.done e)) (fun r=>some (.ret r))) s0
def qlb:Shp:=⟨[(0,.ptr 0),(1,.d true qT1),(2,.d true qT1),(9,.d true (.int .u64)),(53,.own 1),(54,.d true qT0),(55,.d true qT0)],[.cs 95 2 1 (.cons (.own 2) (.cons (.own 1) .nil)),.arr 25 (.fz true) [3] qT1,.arr 25 (.fz true) [3] qT1]⟩
def qkp:Shp:=⟨[(0,.ptr 0),(1,.d true qT1),(2,.d true qT1),(9,.d true (.int .u64))],[.cs 95 2 1 (.cons (.own 1) (.cons (.own 2) .nil)),.arr 25 (.fz true) [3] qT1,.arr 25 (.fz true) [3] qT1]⟩
def q8l {R:Type} (left_1:qL1) (made_2:qL1) (own_9:Int) (v_69:qL2) (v_70:Int) (r_00:qL2) (r_01:qL2) (v_71:Int) (keep_120:qL2) (keep_121:qL2) (nx:(Int×qL2×qL2)→Option R) (dn:(qL2×qL2)→Option R) (rt:(qL2×qL2)→Option R):Option R :=
 bif decide (v_71 < v_70) then
   ckB (ix v_71 v_69.length) <|
   ckB (ix v_71 v_69.length) <|
   bnd (q72 (v_69.getD (Int.toNat v_71) [])) fun r6 =>
   bif (!decide ((bitI .andNot .u64 own_9 r6)=0)) then
     ckB (ix v_71 r_00.length) <|
     ckB (ix v_71 r_00.length) <|
     ckB (room (keep_120.length+1) 24) <|
     ckB (room (keep_121.length+1) 24) <|
     ckB (inR .i64 (v_71+1)) <|
     nx ((v_71+1),(keep_120++[(r_00.getD (Int.toNat v_71) [])]),(keep_121++[(v_69.getD (Int.toNat v_71) [])]))
   else
     ckB (inR .i64 (v_71+1)) <|
     nx ((v_71+1),keep_120,keep_121)
 else
   dn (keep_120,keep_121)
def qmd (left_1:qL1) (made_2:qL1) (own_9:Int) (v_69:qL2) (v_70:Int) (r_00:qL2) (r_01:qL2) (s0:(Int×qL2×qL2)):Option ((qL2×qL2)⊕(qL2×qL2)) :=
 loopM (fun a=>q8l left_1 made_2 own_9 v_69 v_70 r_00 r_01 a.1 a.2.1 a.2.2 (fun a'=>some (.next a')) (fun e=>some (.done e)) (fun r=>some (.ret r))) s0
def qlp:Shp:=⟨[(0,.ptr 0),(1,.d true qT1),(2,.d true qT1),(9,.d true (.int .u64)),(12,.ptr 1),(69,.d true qT2),(70,.d true qT0),(71,.d true qT0)],[.cs 95 2 1 (.cons (.d true qT2) (.cons (.d true qT2) .nil)),.cs 95 2 1 (.cons (.own 2) (.cons (.own 3) .nil)),.arr 25 (.fz true) [3] qT1,.arr 25 (.fz true) [3] qT1]⟩
def qkm:Shp:=⟨[(0,.ptr 0),(1,.d true qT1),(2,.d true qT1),(12,.ptr 1)],[.cs 95 2 1 (.cons (.d true qT2) (.cons (.d true qT2) .nil)),.cs 95 2 1 (.cons (.own 2) (.cons (.own 3) .nil)),.arr 25 (.fz true) [3] qT1,.arr 25 (.fz true) [3] qT1]⟩
def qem (left_1:qL1) (made_2:qL1) (r_00:qL2) (r_01:qL2):Option (qL2×qL2) :=
 bnd (q20 left_1) fun r1 =>
 ckB (room (r1.length+made_2.length) 8) <|
 bnd (qlk (r1++made_2)) fun r2 =>
 bif decide ((1:Int) < r2) then
   none
 else
   bnd (q72 made_2) fun r3 =>
   bnd (qly left_1 made_2 r3 (r_01.length:Int) r_01 r_00 0) fun oe5 =>
   lk oe5 (fun e5 =>
     bnd (qmd left_1 made_2 r3 r_01 (r_01.length:Int) r_00 r_01 (0,[],[])) fun oe7 =>
     lk oe7 (fun e7 =>
       ckB (room (e7.1.length+1) 24) <|
       ckB (room (e7.2.length+1) 24) <|
       some ((e7.1++[left_1]),(e7.2++[made_2]))) (fun r=>some r)) (fun r=>some r)
def qi8 {R:Type} (x_0:Int) (a_1:qL1) (y_2:Int) (b_3:qL1) (v_15:Int) (v_16:Int) (out_9:qL1) (nx:(Int×qL1)→Option R) (dn:qL1→Option R) (rt:qL1→Option R):Option R :=
 bif decide (v_16 < v_15) then
   ckB (ix v_16 a_1.length) <|
   ckB (ix v_16 a_1.length) <|
   ckB (inR .i64 (x_0*(a_1.getD (Int.toNat v_16) 0))) <|
   ckB (ix v_16 b_3.length) <|
   ckB (ix v_16 b_3.length) <|
   ckB (inR .i64 (y_2*(b_3.getD (Int.toNat v_16) 0))) <|
   ckB (inR .i64 ((x_0*(a_1.getD (Int.toNat v_16) 0))+(y_2*(b_3.getD (Int.toNat v_16) 0)))) <|
   ckB (ix v_16 out_9.length) <|
   ckB (ix v_16 out_9.length) <|
   ckB (inR .i64 (v_16+1)) <|
   nx ((v_16+1),(out_9.set (Int.toNat v_16) ((x_0*(a_1.getD (Int.toNat v_16) 0))+(y_2*(b_3.getD (Int.toNat v_16) 0)))))
 else
   dn out_9
def qvj (x_0:Int) (a_1:qL1) (y_2:Int) (b_3:qL1) (v_15:Int) (s0:(Int×qL1)):Option (qL1⊕qL1) :=
 loopM (fun a=>qi8 x_0 a_1 y_2 b_3 v_15 a.1 a.2 (fun a'=>some (.next a')) (fun e=>some (.done e)) (fun r=>some (.ret r))) s0
def qt0:Shp:=⟨[(0,.d true qT0),(1,.d false qT1),(2,.d true qT0),(3,.d false qT1),(9,.own 0),(15,.d true qT0),(16,.d true qT0)],[.arr 3 (.fz true) [0] qT0]⟩
def qt8:Shp:=⟨[(9,.own 0)],[.arr 3 (.fz true) [0] qT0]⟩
def qf5 (x_0:Int) (a_1:qL1) (y_2:Int) (b_3:qL1):Option qL1 :=
 ckB (mkOk (a_1.length:Int) (a_1.length:Int) 8) <|
 bnd (qvj x_0 a_1 y_2 b_3 (a_1.length:Int) (0,(List.replicate (Int.toNat (a_1.length:Int)) (0:Int)))) fun oe1 =>
 lk oe1 (fun e1 =>
   some e1) (fun r=>some r)
def qab {R:Type} (g_6:Int) (v_23:Int) (made_2:qL1) (r_00:qL2) (r_01:qL2) (v_24:Int) (left_1:qL1) (nx:(Int×qL1)→Option R) (dn:qL1→Option R) (rt:(qL2×qL2×qL1×qL1)→Option R):Option R :=
 bif decide (v_24 < v_23) then
   ckB (ix v_24 left_1.length) <|
   ckB (ix v_24 left_1.length) <|
   ckB (!decide (g_6=0)) <|
   ckB (inR .i64 (Int.tdiv (left_1.getD (Int.toNat v_24) 0) g_6)) <|
   ckB (ix v_24 left_1.length) <|
   ckB (ix v_24 left_1.length) <|
   ckB (inR .i64 (v_24+1)) <|
   nx ((v_24+1),(left_1.set (Int.toNat v_24) (Int.tdiv (left_1.getD (Int.toNat v_24) 0) g_6)))
 else
   dn left_1
def qkr (g_6:Int) (v_23:Int) (made_2:qL1) (r_00:qL2) (r_01:qL2) (s0:(Int×qL1)):Option (qL1⊕(qL2×qL2×qL1×qL1)) :=
 loopM (fun a=>qab g_6 v_23 made_2 r_00 r_01 a.1 a.2 (fun a'=>some (.next a')) (fun e=>some (.done e)) (fun r=>some (.ret r))) s0
def qjo:Shp:=⟨[(0,.ptr 0),(1,.own 1),(2,.own 2),(6,.d true qT0),(23,.d true qT0),(24,.d true qT0)],[.cs 95 2 1 (.cons (.own 3) (.cons (.own 4) .nil)),.arr 3 (.fz true) [0] qT0,.arr 3 (.fz true) [0] qT0,.arr 25 (.fz true) [3] qT1,.arr 25 (.fz true) [3] qT1]⟩
def qjd:Shp:=⟨[(0,.ptr 0),(1,.own 1),(2,.own 2),(6,.d true qT0)],[.cs 95 2 1 (.cons (.own 3) (.cons (.own 4) .nil)),.arr 3 (.fz true) [0] qT0,.arr 3 (.fz true) [0] qT0,.arr 25 (.fz true) [3] qT1,.arr 25 (.fz true) [3] qT1]⟩
def qaa {R:Type} (left_1:qL1) (g_6:Int) (v_36:Int) (r_00:qL2) (r_01:qL2) (v_37:Int) (made_2:qL1) (k4:qL1) (nx:(Int×qL1×qL1)→Option R) (dn:(qL1×qL1)→Option R) (rt:(qL2×qL2×qL1×qL1)→Option R):Option R :=
 bif decide (v_37 < v_36) then
   ckB (ix v_37 made_2.length) <|
   ckB (ix v_37 made_2.length) <|
   ckB (!decide (g_6=0)) <|
   ckB (inR .i64 (Int.tdiv (made_2.getD (Int.toNat v_37) 0) g_6)) <|
   ckB (ix v_37 made_2.length) <|
   ckB (ix v_37 made_2.length) <|
   ckB (inR .i64 (v_37+1)) <|
   nx ((v_37+1),(made_2.set (Int.toNat v_37) (Int.tdiv (made_2.getD (Int.toNat v_37) 0) g_6)),[])
 else
   dn (made_2,[])
def qlh (left_1:qL1) (g_6:Int) (v_36:Int) (r_00:qL2) (r_01:qL2) (s0:(Int×qL1×qL1)):Option ((qL1×qL1)⊕(qL2×qL2×qL1×qL1)) :=
 loopM (fun a=>qaa left_1 g_6 v_36 r_00 r_01 a.1 a.2.1 a.2.2 (fun a'=>some (.next a')) (fun e=>some (.done e)) (fun r=>some (.ret r))) s0
def qjg:Shp:=⟨[(0,.ptr 0),(1,.d true qT1),(2,.own 1),(6,.d true qT0),(36,.d true qT0),(37,.d true qT0)],[.cs 95 2 1 (.cons (.own 2) (.cons (.own 3) .nil)),.arr 3 (.fz true) [0] qT0,.arr 25 (.fz true) [3] qT1,.arr 25 (.fz true) [3] qT1,.arr 0 (.fz true) [] qT0]⟩
def qjn:Shp:=⟨[(0,.ptr 0),(1,.d true qT1),(2,.own 1)],[.cs 95 2 1 (.cons (.own 2) (.cons (.own 3) .nil)),.arr 3 (.fz true) [0] qT0,.arr 25 (.fz true) [3] qT1,.arr 25 (.fz true) [3] qT1,.arr 0 (.fz true) [] qT0]⟩
def q5l {R:Type} (left_1:qL1) (made_2:qL1) (own_9:Int) (v_54:Int) (v_53:qL2) (r_00:qL2) (v_55:Int) (k3:qL1) (k4:qL1) (nx:(Int×qL1×qL1)→Option R) (dn:(qL1×qL1)→Option R) (rt:(qL2×qL2×qL1×qL1)→Option R):Option R :=
 bif decide (v_55 < v_54) then
   ckB (ix v_55 v_53.length) <|
   ckB (ix v_55 v_53.length) <|
   bnd (q72 (v_53.getD (Int.toNat v_55) [])) fun r6 =>
   bif decide ((bitI .andNot .u64 r6 own_9)=0) then
     rt (r_00,v_53,[],[])
   else
     ckB (inR .i64 (v_55+1)) <|
     nx ((v_55+1),[],[])
 else
   dn ([],[])
def ql8 (left_1:qL1) (made_2:qL1) (own_9:Int) (v_54:Int) (v_53:qL2) (r_00:qL2) (s0:(Int×qL1×qL1)):Option ((qL1×qL1)⊕(qL2×qL2×qL1×qL1)) :=
 loopM (fun a=>q5l left_1 made_2 own_9 v_54 v_53 r_00 a.1 a.2.1 a.2.2 (fun a'=>some (.next a')) (fun e=>some (.done e)) (fun r=>some (.ret r))) s0
def qjf:Shp:=⟨[(0,.ptr 0),(1,.d true qT1),(2,.d true qT1),(9,.d true (.int .u64)),(53,.own 1),(54,.d true qT0),(55,.d true qT0)],[.cs 95 2 1 (.cons (.own 2) (.cons (.own 1) .nil)),.arr 25 (.fz true) [3] qT1,.arr 25 (.fz true) [3] qT1,.arr 0 (.fz true) [] qT0,.arr 0 (.fz true) [] qT0]⟩
def qje:Shp:=⟨[(0,.ptr 0),(1,.d true qT1),(2,.d true qT1),(9,.d true (.int .u64))],[.cs 95 2 1 (.cons (.own 1) (.cons (.own 2) .nil)),.arr 25 (.fz true) [3] qT1,.arr 25 (.fz true) [3] qT1,.arr 0 (.fz true) [] qT0,.arr 0 (.fz true) [] qT0]⟩
def q7q {R:Type} (left_1:qL1) (made_2:qL1) (own_9:Int) (v_69:qL2) (v_70:Int) (r_00:qL2) (r_01:qL2) (v_71:Int) (keep_120:qL2) (keep_121:qL2) (k4:qL1) (nx:(Int×qL2×qL2×qL1)→Option R) (dn:(qL2×qL2×qL1)→Option R) (rt:(qL2×qL2×qL1×qL1)→Option R):Option R :=
 bif decide (v_71 < v_70) then
   ckB (ix v_71 v_69.length) <|
   ckB (ix v_71 v_69.length) <|
   bnd (q72 (v_69.getD (Int.toNat v_71) [])) fun r8 =>
   bif (!decide ((bitI .andNot .u64 own_9 r8)=0)) then
     ckB (ix v_71 r_00.length) <|
     ckB (ix v_71 r_00.length) <|
     ckB (room (keep_120.length+1) 24) <|
     ckB (room (keep_121.length+1) 24) <|
     ckB (inR .i64 (v_71+1)) <|
     nx ((v_71+1),(keep_120++[(r_00.getD (Int.toNat v_71) [])]),(keep_121++[(v_69.getD (Int.toNat v_71) [])]),[])
   else
     ckB (inR .i64 (v_71+1)) <|
     nx ((v_71+1),keep_120,keep_121,[])
 else
   dn (keep_120,keep_121,[])
def qka (left_1:qL1) (made_2:qL1) (own_9:Int) (v_69:qL2) (v_70:Int) (r_00:qL2) (r_01:qL2) (s0:(Int×qL2×qL2×qL1)):Option ((qL2×qL2×qL1)⊕(qL2×qL2×qL1×qL1)) :=
 loopM (fun a=>q7q left_1 made_2 own_9 v_69 v_70 r_00 r_01 a.1 a.2.1 a.2.2.1 a.2.2.2 (fun a'=>some (.next a')) (fun e=>some (.done e)) (fun r=>some (.ret r))) s0
def qji:Shp:=⟨[(0,.ptr 0),(1,.d true qT1),(2,.d true qT1),(9,.d true (.int .u64)),(12,.ptr 1),(69,.d true qT2),(70,.d true qT0),(71,.d true qT0)],[.cs 95 2 1 (.cons (.d true qT2) (.cons (.d true qT2) .nil)),.cs 95 2 1 (.cons (.own 2) (.cons (.own 3) .nil)),.arr 25 (.fz true) [3] qT1,.arr 25 (.fz true) [3] qT1,.arr 0 (.fz true) [] qT0]⟩
def qjh:Shp:=⟨[(0,.ptr 0),(1,.d true qT1),(2,.d true qT1),(12,.ptr 1)],[.cs 95 2 1 (.cons (.d true qT2) (.cons (.d true qT2) .nil)),.cs 95 2 1 (.cons (.own 2) (.cons (.own 3) .nil)),.arr 25 (.fz true) [3] qT1,.arr 25 (.fz true) [3] qT1,.arr 0 (.fz true) [] qT0]⟩
def qdp {R:Type} (left_1:qL1) (made_2:qL1) (r_00:qL2) (r_01:qL2) (k3:qL1) (k4:qL1) (dn:(qL2×qL2×qL1×qL1)→Option R) (rt:(qL2×qL2×qL1×qL1)→Option R):Option R :=
 bnd (q72 made_2) fun r5 =>
 bnd (ql8 left_1 made_2 r5 (r_01.length:Int) r_01 r_00 (0,[],[])) fun oe7 =>
 lk oe7 (fun e7 =>
   bnd (qka left_1 made_2 r5 r_01 (r_01.length:Int) r_00 r_01 (0,[],[],[])) fun oe9 =>
   lk oe9 (fun e9 =>
     ckB (room (e9.1.length+1) 24) <|
     ckB (room (e9.2.1.length+1) 24) <|
     dn ((e9.1++[left_1]),(e9.2.1++[made_2]),[],[])) (fun r=>rt r)) (fun r=>rt r)
def qbe (left_1:qL1) (made_2:qL1) (r_00:qL2) (r_01:qL2) (k3:qL1) (k4:qL1):Option ((qL2×qL2×qL1×qL1)⊕(qL2×qL2×qL1×qL1)) :=
 qdp left_1 made_2 r_00 r_01 k3 k4 (fun e=>some (.inl e)) (fun r=>some (.inr r))
def qjk:Shp:=⟨[(0,.ptr 0),(1,.d true qT1),(2,.d true qT1)],[.cs 95 2 1 (.cons (.own 1) (.cons (.own 2) .nil)),.arr 25 (.fz true) [3] qT1,.arr 25 (.fz true) [3] qT1,.arr 0 (.fz true) [] qT0,.arr 0 (.fz true) [] qT0]⟩
def qjm:Shp:=⟨[],[.cs 95 2 1 (.cons (.own 1) (.cons (.own 2) .nil)),.arr 25 (.fz true) [3] qT1,.arr 25 (.fz true) [3] qT1,.arr 0 (.fz true) [] qT0,.arr 0 (.fz true) [] qT0]⟩
def qcz (left_1:qL1) (made_2:qL1) (r_00:qL2) (r_01:qL2):Option (qL2×qL2×qL1×qL1) :=
 bnd (q20 left_1) fun r1 =>
 ckB (room (r1.length+made_2.length) 8) <|
 bnd (qlk (r1++made_2)) fun r2 =>
 bif decide ((1:Int) < r2) then
   bnd (qkr r2 (left_1.length:Int) made_2 r_00 r_01 (0,left_1)) fun oe3 =>
   lk oe3 (fun e3 =>
     bnd (qlh e3 r2 (made_2.length:Int) r_00 r_01 (0,made_2,[])) fun oe4 =>
     lk oe4 (fun e4 =>
       bnd (qbe e3 e4.1 r_00 r_01 [] []) fun oe10 =>
       lk oe10 (fun e10 =>
         some (e10.1,e10.2.1,[],[])) (fun r=>some r)) (fun r=>some r)) (fun r=>some r)
 else
   bnd (qbe left_1 made_2 r_00 r_01 [] []) fun oe11 =>
   lk oe11 (fun e11 =>
     some (e11.1,e11.2.1,[],[])) (fun r=>some r)
def q4e {R:Type} (c_1:Int) (v_17:Int) (r_00:qL2) (r_01:qL2) (v_18:Int) (next_50:qL2) (next_51:qL2) (nx:(Int×qL2×qL2)→Option R) (dn:(qL2×qL2)→Option R) (rt:(Bool×qL2×qL2)→Option R):Option R :=
 bif decide (v_18 < v_17) then
   ckB (ix v_18 r_00.length) <|
   ckB (ix v_18 r_00.length) <|
   ckB (ix c_1 (r_00.getD (Int.toNat v_18) []).length) <|
   ckB (ix c_1 (r_00.getD (Int.toNat v_18) []).length) <|
   bif decide (((r_00.getD (Int.toNat v_18) []).getD (Int.toNat c_1) 0)=0) then
     ckB (ix v_18 r_00.length) <|
     ckB (ix v_18 r_00.length) <|
     ckB (ix v_18 r_01.length) <|
     ckB (ix v_18 r_01.length) <|
     bnd (qem (r_00.getD (Int.toNat v_18) []) (r_01.getD (Int.toNat v_18) []) next_50 next_51) fun r1 =>
     ckB (inR .i64 (v_18+1)) <|
     nx ((v_18+1),r1.1,r1.2)
   else
     ckB (inR .i64 (v_18+1)) <|
     nx ((v_18+1),next_50,next_51)
 else
   dn (next_50,next_51)
def qfe (c_1:Int) (v_17:Int) (r_00:qL2) (r_01:qL2) (s0:(Int×qL2×qL2)):Option ((qL2×qL2)⊕(Bool×qL2×qL2)) :=
 loopM (fun a=>q4e c_1 v_17 r_00 r_01 a.1 a.2.1 a.2.2 (fun a'=>some (.next a')) (fun e=>some (.done e)) (fun r=>some (.ret r))) s0
def qef:Shp:=⟨[(0,.ptr 0),(1,.d true qT0),(5,.ptr 1),(17,.d true qT0),(18,.d true qT0)],[.cs 95 2 1 (.cons (.own 2) (.cons (.own 3) .nil)),.cs 95 2 1 (.cons (.own 4) (.cons (.own 5) .nil)),.arr 25 (.fz true) [3] qT1,.arr 25 (.fz true) [3] qT1,.arr 25 (.fz true) [3] qT1,.arr 25 (.fz true) [3] qT1]⟩
def qe0:Shp:=⟨[(0,.ptr 0),(1,.d true qT0),(5,.ptr 1)],[.cs 95 2 1 (.cons (.own 2) (.cons (.own 3) .nil)),.cs 95 2 1 (.cons (.own 4) (.cons (.own 5) .nil)),.arr 25 (.fz true) [3] qT1,.arr 25 (.fz true) [3] qT1,.arr 25 (.fz true) [3] qT1,.arr 25 (.fz true) [3] qT1]⟩
def q2v {R:Type} (c_1:Int) (i_7:Int) (v_53:Int) (v_54:Int) (v_61:Int) (r_00:qL2) (r_01:qL2) (v_62:Int) (next_50:qL2) (next_51:qL2) (nx:(Int×qL2×qL2)→Option R) (dn:(qL2×qL2)→Option R) (rt:(Bool×qL2×qL2)→Option R):Option R :=
 bif decide (v_62 < v_61) then
   ckB (ix i_7 r_00.length) <|
   ckB (ix i_7 r_00.length) <|
   ckB (ix c_1 (r_00.getD (Int.toNat i_7) []).length) <|
   ckB (ix c_1 (r_00.getD (Int.toNat i_7) []).length) <|
   ckB (ix v_62 r_00.length) <|
   ckB (ix v_62 r_00.length) <|
   ckB (ix c_1 (r_00.getD (Int.toNat v_62) []).length) <|
   ckB (ix c_1 (r_00.getD (Int.toNat v_62) []).length) <|
   bif decide (((r_00.getD (Int.toNat i_7) []).getD (Int.toNat c_1) 0)≤0) then
     ckB (inR .i64 (v_62+1)) <|
     nx ((v_62+1),next_50,next_51)
   else
     bif decide ((0:Int)≤((r_00.getD (Int.toNat v_62) []).getD (Int.toNat c_1) 0)) then
       ckB (inR .i64 (v_62+1)) <|
       nx ((v_62+1),next_50,next_51)
     else
       ckB (inR .i64 (0 - ((r_00.getD (Int.toNat v_62) []).getD (Int.toNat c_1) 0))) <|
       ckB (ix i_7 r_00.length) <|
       ckB (ix i_7 r_00.length) <|
       ckB (ix v_62 r_00.length) <|
       ckB (ix v_62 r_00.length) <|
       bnd (qf5 (0 - ((r_00.getD (Int.toNat v_62) []).getD (Int.toNat c_1) 0)) (r_00.getD (Int.toNat i_7) []) ((r_00.getD (Int.toNat i_7) []).getD (Int.toNat c_1) 0) (r_00.getD (Int.toNat v_62) [])) fun r3 =>
       ckB (inR .i64 (0 - ((r_00.getD (Int.toNat v_62) []).getD (Int.toNat c_1) 0))) <|
       ckB (ix i_7 r_01.length) <|
       ckB (ix i_7 r_01.length) <|
       ckB (ix v_62 r_01.length) <|
       ckB (ix v_62 r_01.length) <|
       bnd (qf5 (0 - ((r_00.getD (Int.toNat v_62) []).getD (Int.toNat c_1) 0)) (r_01.getD (Int.toNat i_7) []) ((r_00.getD (Int.toNat i_7) []).getD (Int.toNat c_1) 0) (r_01.getD (Int.toNat v_62) [])) fun r4 =>
       bnd (qcz r3 r4 next_50 next_51) fun r5 =>
       bif decide ((40000:Int) < (r5.2.1.length:Int)) then
         rt (false,r_00,r_01)
       else
         ckB (inR .i64 (v_62+1)) <|
         nx ((v_62+1),r5.1,r5.2.1)
 else
   dn (next_50,next_51)
def qfb (c_1:Int) (i_7:Int) (v_53:Int) (v_54:Int) (v_61:Int) (r_00:qL2) (r_01:qL2) (s0:(Int×qL2×qL2)):Option ((qL2×qL2)⊕(Bool×qL2×qL2)) :=
 loopM (fun a=>q2v c_1 i_7 v_53 v_54 v_61 r_00 r_01 a.1 a.2.1 a.2.2 (fun a'=>some (.next a')) (fun e=>some (.done e)) (fun r=>some (.ret r))) s0
def qdz:Shp:=⟨[(0,.ptr 0),(1,.d true qT0),(5,.ptr 1),(7,.d true qT0),(53,.d true qT0),(54,.d true qT0),(61,.d true qT0),(62,.d true qT0)],[.cs 95 2 1 (.cons (.own 2) (.cons (.own 3) .nil)),.cs 95 2 1 (.cons (.own 4) (.cons (.own 5) .nil)),.arr 25 (.fz true) [3] qT1,.arr 25 (.fz true) [3] qT1,.arr 25 (.fz true) [3] qT1,.arr 25 (.fz true) [3] qT1]⟩
def qe5:Shp:=⟨[(0,.ptr 0),(1,.d true qT0),(5,.ptr 1),(53,.d true qT0),(54,.d true qT0)],[.cs 95 2 1 (.cons (.own 2) (.cons (.own 3) .nil)),.cs 95 2 1 (.cons (.own 4) (.cons (.own 5) .nil)),.arr 25 (.fz true) [3] qT1,.arr 25 (.fz true) [3] qT1,.arr 25 (.fz true) [3] qT1,.arr 25 (.fz true) [3] qT1]⟩
def q6r {R:Type} (c_1:Int) (v_53:Int) (r_00:qL2) (r_01:qL2) (v_54:Int) (next_50:qL2) (next_51:qL2) (nx:(Int×qL2×qL2)→Option R) (dn:(qL2×qL2)→Option R) (rt:(Bool×qL2×qL2)→Option R):Option R :=
 bif decide (v_54 < v_53) then
   bnd (qfb c_1 v_54 v_53 v_54 (r_00.length:Int) r_00 r_01 (0,next_50,next_51)) fun oe6 =>
   lk oe6 (fun e6 =>
     ckB (inR .i64 (v_54+1)) <|
     nx ((v_54+1),e6.1,e6.2)) (fun r=>rt r)
 else
   dn (next_50,next_51)
def qfj (c_1:Int) (v_53:Int) (r_00:qL2) (r_01:qL2) (s0:(Int×qL2×qL2)):Option ((qL2×qL2)⊕(Bool×qL2×qL2)) :=
 loopM (fun a=>q6r c_1 v_53 r_00 r_01 a.1 a.2.1 a.2.2 (fun a'=>some (.next a')) (fun e=>some (.done e)) (fun r=>some (.ret r))) s0
def qe6:Shp:=⟨[(0,.ptr 0),(1,.d true qT0),(5,.ptr 1),(53,.d true qT0),(54,.d true qT0)],[.cs 95 2 1 (.cons (.own 2) (.cons (.own 3) .nil)),.cs 95 2 1 (.cons (.own 4) (.cons (.own 5) .nil)),.arr 25 (.fz true) [3] qT1,.arr 25 (.fz true) [3] qT1,.arr 25 (.fz true) [3] qT1,.arr 25 (.fz true) [3] qT1]⟩
def qec:Shp:=⟨[(0,.ptr 0),(5,.ptr 1)],[.cs 95 2 1 (.cons (.own 2) (.cons (.own 3) .nil)),.cs 95 2 1 (.cons (.own 4) (.cons (.own 5) .nil)),.arr 25 (.fz true) [3] qT1,.arr 25 (.fz true) [3] qT1,.arr 25 (.fz true) [3] qT1,.arr 25 (.fz true) [3] qT1]⟩
def q8r (c_1:Int) (r_00:qL2) (r_01:qL2):Option (Bool×qL2×qL2) :=
 bnd (qfe c_1 (r_00.length:Int) r_00 r_01 (0,[],[])) fun oe2 =>
 lk oe2 (fun e2 =>
   bnd (qfj c_1 (r_00.length:Int) r_00 r_01 (0,e2.1,e2.2)) fun oe7 =>
   lk oe7 (fun e7 =>
     some (true,e7.1,e7.2)) (fun r=>some r)) (fun r=>some r)
def qj0 {R:Type} (x_0:Int) (n_2:Int) (dn:Unit→Option R) (rt:Int→Option R):Option R :=
 bif decide ((256:Int)≤x_0) then
   ckB (decide (0≤(8:Int))) <|
   ckB (inR .i64 (n_2+8)) <|
   ckB (ix (IntKind.wrap .u8 (shrI .u64 x_0 8)) (ByteArray.size bytes0)) <|
   ckB (inR .i64 (((ByteArray.data bytes0).getD (Int.toNat (IntKind.wrap .u8 (shrI .u64 x_0 8))) 0).toNat:Int)) <|
   ckB (inR .i64 ((n_2+8)+(((ByteArray.data bytes0).getD (Int.toNat (IntKind.wrap .u8 (shrI .u64 x_0 8))) 0).toNat:Int))) <|
   rt ((n_2+8)+(((ByteArray.data bytes0).getD (Int.toNat (IntKind.wrap .u8 (shrI .u64 x_0 8))) 0).toNat:Int))
 else
   ckB (ix (IntKind.wrap .u8 x_0) (ByteArray.size bytes0)) <|
   ckB (inR .i64 (((ByteArray.data bytes0).getD (Int.toNat (IntKind.wrap .u8 x_0)) 0).toNat:Int)) <|
   ckB (inR .i64 (n_2+(((ByteArray.data bytes0).getD (Int.toNat (IntKind.wrap .u8 x_0)) 0).toNat:Int))) <|
   rt (n_2+(((ByteArray.data bytes0).getD (Int.toNat (IntKind.wrap .u8 x_0)) 0).toNat:Int))
def qco (x_0:Int) (n_2:Int):Option (Unit⊕Int) :=
 qj0 x_0 n_2 (fun e=>some (.inl e)) (fun r=>some (.inr r))
def qqp:Shp:=⟨[(0,.d true (.int .u64)),(2,.d true qT0)],[]⟩
def qqh:Shp:=⟨[],[]⟩
def qpk (x_0:Int):Option Int :=
 bif decide ((4294967296:Int)≤x_0) then
   ckB (decide (0≤(32:Int))) <|
   bif decide ((65536:Int)≤(shrI .u64 x_0 32)) then
     ckB (decide (0≤(16:Int))) <|
     ckB (inR .i64 ((32:Int)+16)) <|
     bnd (qco (shrI .u64 (shrI .u64 x_0 32) 16) ((32:Int)+16)) fun oe1 =>
     lk oe1 (fun e1 =>
       none) (fun r=>some r)
   else
     bnd (qco (shrI .u64 x_0 32) 32) fun oe2 =>
     lk oe2 (fun e2 =>
       none) (fun r=>some r)
 else
   bif decide ((65536:Int)≤x_0) then
     ckB (decide (0≤(16:Int))) <|
     ckB (inR .i64 ((0:Int)+16)) <|
     bnd (qco (shrI .u64 x_0 16) ((0:Int)+16)) fun oe3 =>
     lk oe3 (fun e3 =>
       none) (fun r=>some r)
   else
     bnd (qco x_0 0) fun oe4 =>
     lk oe4 (fun e4 =>
       none) (fun r=>some r)
def ql1 (x_0:Int):Option Int :=
 bnd (qpk x_0) fun r1 =>
 some r1
def q7j (x_0:Int):Option Bool :=
 some (!decide (x_0=x_0))
def qbv (x_0:Int) (y_1:Int):Option Int :=
 bnd (q7j x_0) fun r1 =>
 bnd (q7j y_1) fun r2 =>
 bif r1 then
   bif r2 then
     some 0
   else
     some (-1)
 else
   bif r2 then
     some 1
   else
     bif decide (x_0 < y_1) then
       some (-1)
     else
       bif decide (y_1 < x_0) then
         some 1
       else
         some 0
def q1p {R:Type} (s1_0:qL1) (s2_1:qL1) (v_9:qL1) (v_10:Int) (v_11:Int) (nx:Int→Option R) (dn:Unit→Option R) (rt:Int→Option R):Option R :=
 bif decide (v_11 < v_10) then
   ckB (ix v_11 v_9.length) <|
   ckB (ix v_11 v_9.length) <|
   bif decide ((s2_1.length:Int)≤v_11) then
     rt 1
   else
     ckB (ix v_11 s2_1.length) <|
     ckB (ix v_11 s2_1.length) <|
     bnd (qbv (v_9.getD (Int.toNat v_11) 0) (s2_1.getD (Int.toNat v_11) 0)) fun r1 =>
     bif (!decide (r1=0)) then
       rt r1
     else
       ckB (inR .i64 (v_11+1)) <|
       nx (v_11+1)
 else
   dn ()
def qcj (s1_0:qL1) (s2_1:qL1) (v_9:qL1) (v_10:Int) (s0:Int):Option (Unit⊕Int) :=
 loopM (fun a=>q1p s1_0 s2_1 v_9 v_10 a (fun a'=>some (.next a')) (fun e=>some (.done e)) (fun r=>some (.ret r))) s0
def qc1:Shp:=⟨[(0,.d false qT1),(1,.d false qT1),(9,.d false qT1),(10,.d true qT0),(11,.d true qT0)],[]⟩
def qbw:Shp:=⟨[(0,.d false qT1),(1,.d false qT1)],[]⟩
def qf (s1_0:qL1) (s2_1:qL1):Option Int :=
 bnd (qcj s1_0 s2_1 s1_0 (s1_0.length:Int) 0) fun oe2 =>
 lk oe2 (fun e2 =>
   bif decide ((s1_0.length:Int) < (s2_1.length:Int)) then
     some (-1)
   else
     some 0) (fun r=>some r)
def qz {R:Type} (a_1:Int) (b_2:Int) (i_8:Int) (j_9:Int) (data_0:qL2) (nx:(Int×qL2)→Option R) (dn:qL2→Option R) (rt:qL2→Option R):Option R :=
 bif decide (a_1 < j_9) then
   ckB (ix j_9 data_0.length) <|
   ckB (ix j_9 data_0.length) <|
   ckB (inR .i64 (j_9 - 1)) <|
   ckB (ix (j_9 - 1) data_0.length) <|
   ckB (ix (j_9 - 1) data_0.length) <|
   bnd (qf (data_0.getD (Int.toNat j_9) []) (data_0.getD (Int.toNat (j_9 - 1)) [])) fun r1 =>
   bif decide (r1 < 0) then
     ckB (inR .i64 (j_9 - 1)) <|
     ckB (inR .i64 (j_9 - 1)) <|
     ckB (ix (j_9 - 1) data_0.length) <|
     ckB (ix (j_9 - 1) data_0.length) <|
     ckB (ix j_9 data_0.length) <|
     ckB (ix j_9 data_0.length) <|
     ckB (ix j_9 data_0.length) <|
     ckB (ix j_9 data_0.length) <|
     ckB (ix (j_9 - 1) (data_0.set (Int.toNat j_9) (data_0.getD (Int.toNat (j_9 - 1)) [])).length) <|
     ckB (ix (j_9 - 1) (data_0.set (Int.toNat j_9) (data_0.getD (Int.toNat (j_9 - 1)) [])).length) <|
     ckB (inR .i64 (j_9 - 1)) <|
     nx ((j_9 - 1),((data_0.set (Int.toNat j_9) (data_0.getD (Int.toNat (j_9 - 1)) [])).set (Int.toNat (j_9 - 1)) (data_0.getD (Int.toNat j_9) [])))
   else
     dn data_0
 else
   dn data_0
def q3j (a_1:Int) (b_2:Int) (i_8:Int) (s0:(Int×qL2)):Option (qL2⊕qL2) :=
 loopM (fun a=>qz a_1 b_2 i_8 a.1 a.2 (fun a'=>some (.next a')) (fun e=>some (.done e)) (fun r=>some (.ret r))) s0
def q6i:Shp:=⟨[(0,.own 0),(1,.d true qT0),(2,.d true qT0),(3,.fn 64 .nil),(8,.d true qT0),(9,.d true qT0)],[.arr 25 (.fz true) [3] qT1]⟩
def q6o:Shp:=⟨[(0,.own 0),(1,.d true qT0),(2,.d true qT0),(3,.fn 64 .nil),(8,.d true qT0)],[.arr 25 (.fz true) [3] qT1]⟩
def q1x {R:Type} (a_1:Int) (b_2:Int) (i_8:Int) (data_0:qL2) (nx:(Int×qL2)→Option R) (dn:qL2→Option R) (rt:qL2→Option R):Option R :=
 bif decide (i_8 < b_2) then
   bnd (q3j a_1 b_2 i_8 (i_8,data_0)) fun oe2 =>
   lk oe2 (fun e2 =>
     ckB (inR .i64 (i_8+1)) <|
     nx ((i_8+1),e2)) (fun r=>rt r)
 else
   dn data_0
def q6y (a_1:Int) (b_2:Int) (s0:(Int×qL2)):Option (qL2⊕qL2) :=
 loopM (fun a=>q1x a_1 b_2 a.1 a.2 (fun a'=>some (.next a')) (fun e=>some (.done e)) (fun r=>some (.ret r))) s0
def q6p:Shp:=⟨[(0,.own 0),(1,.d true qT0),(2,.d true qT0),(3,.fn 64 .nil),(8,.d true qT0)],[.arr 25 (.fz true) [3] qT1]⟩
def q6m:Shp:=⟨[],[.arr 25 (.fz true) [3] qT1]⟩
def q1k (a_1:Int) (b_2:Int) (data_0:qL2):Option qL2 :=
 ckB (inR .i64 (a_1+1)) <|
 bnd (q6y a_1 b_2 ((a_1+1),data_0)) fun oe3 =>
 lk oe3 (fun e3 =>
   some e3) (fun r=>some r)
def q4j {R:Type} (hi_2:Int) (first_3:Int) (root_10:Int) (child_11:Int) (data_0:qL2) (dn:qL2→Option R) (rt:qL2→Option R):Option R :=
 ckB (inR .i64 (first_3+root_10)) <|
 ckB (ix (first_3+root_10) data_0.length) <|
 ckB (ix (first_3+root_10) data_0.length) <|
 ckB (inR .i64 (first_3+child_11)) <|
 ckB (ix (first_3+child_11) data_0.length) <|
 ckB (ix (first_3+child_11) data_0.length) <|
 bnd (qf (data_0.getD (Int.toNat (first_3+root_10)) []) (data_0.getD (Int.toNat (first_3+child_11)) [])) fun r2 =>
 bif (!(decide (r2 < 0))) then
   rt data_0
 else
   ckB (inR .i64 (first_3+root_10)) <|
   ckB (inR .i64 (first_3+child_11)) <|
   ckB (inR .i64 (first_3+child_11)) <|
   ckB (ix (first_3+child_11) data_0.length) <|
   ckB (ix (first_3+child_11) data_0.length) <|
   ckB (inR .i64 (first_3+root_10)) <|
   ckB (ix (first_3+root_10) data_0.length) <|
   ckB (ix (first_3+root_10) data_0.length) <|
   ckB (ix (first_3+root_10) data_0.length) <|
   ckB (ix (first_3+root_10) data_0.length) <|
   ckB (ix (first_3+child_11) (data_0.set (Int.toNat (first_3+root_10)) (data_0.getD (Int.toNat (first_3+child_11)) [])).length) <|
   ckB (ix (first_3+child_11) (data_0.set (Int.toNat (first_3+root_10)) (data_0.getD (Int.toNat (first_3+child_11)) [])).length) <|
   dn ((data_0.set (Int.toNat (first_3+root_10)) (data_0.getD (Int.toNat (first_3+child_11)) [])).set (Int.toNat (first_3+child_11)) (data_0.getD (Int.toNat (first_3+root_10)) []))
def q1w (hi_2:Int) (first_3:Int) (root_10:Int) (child_11:Int) (data_0:qL2):Option (qL2⊕qL2) :=
 q4j hi_2 first_3 root_10 child_11 data_0 (fun e=>some (.inl e)) (fun r=>some (.inr r))
def q8n:Shp:=⟨[(0,.own 0),(2,.d true qT0),(3,.d true qT0),(4,.fn 64 .nil),(10,.d true qT0),(11,.d true qT0)],[.arr 25 (.fz true) [3] qT1]⟩
def q8p:Shp:=⟨[(0,.own 0),(2,.d true qT0),(3,.d true qT0),(4,.fn 64 .nil),(10,.d true qT0)],[.arr 25 (.fz true) [3] qT1]⟩
def qp {R:Type} (hi_2:Int) (first_3:Int) (root_10:Int) (data_0:qL2) (nx:(Int×qL2)→Option R) (dn:qL2→Option R) (rt:qL2→Option R):Option R :=
 ckB (inR .i64 ((2:Int)*root_10)) <|
 ckB (inR .i64 (((2:Int)*root_10)+1)) <|
 bif decide (hi_2≤(((2:Int)*root_10)+1)) then
   dn data_0
 else
   ckB (inR .i64 ((((2:Int)*root_10)+1)+1)) <|
   bif decide (((((2:Int)*root_10)+1)+1) < hi_2) then
     ckB (inR .i64 (first_3+(((2:Int)*root_10)+1))) <|
     ckB (ix (first_3+(((2:Int)*root_10)+1)) data_0.length) <|
     ckB (ix (first_3+(((2:Int)*root_10)+1)) data_0.length) <|
     ckB (inR .i64 (first_3+(((2:Int)*root_10)+1))) <|
     ckB (inR .i64 ((first_3+(((2:Int)*root_10)+1))+1)) <|
     ckB (ix ((first_3+(((2:Int)*root_10)+1))+1) data_0.length) <|
     ckB (ix ((first_3+(((2:Int)*root_10)+1))+1) data_0.length) <|
     bnd (qf (data_0.getD (Int.toNat (first_3+(((2:Int)*root_10)+1))) []) (data_0.getD (Int.toNat ((first_3+(((2:Int)*root_10)+1))+1)) [])) fun r1 =>
     bif decide (r1 < 0) then
       ckB (inR .i64 ((((2:Int)*root_10)+1)+1)) <|
       bnd (q1w hi_2 first_3 root_10 ((((2:Int)*root_10)+1)+1) data_0) fun oe3 =>
       lk oe3 (fun e3 =>
         nx (((((2:Int)*root_10)+1)+1),e3)) (fun r=>rt r)
     else
       bnd (q1w hi_2 first_3 root_10 (((2:Int)*root_10)+1) data_0) fun oe4 =>
       lk oe4 (fun e4 =>
         nx ((((2:Int)*root_10)+1),e4)) (fun r=>rt r)
   else
     bnd (q1w hi_2 first_3 root_10 (((2:Int)*root_10)+1) data_0) fun oe5 =>
     lk oe5 (fun e5 =>
       nx ((((2:Int)*root_10)+1),e5)) (fun r=>rt r)
def q90 (hi_2:Int) (first_3:Int) (s0:(Int×qL2)):Option (qL2⊕qL2) :=
 loopM (fun a=>qp hi_2 first_3 a.1 a.2 (fun a'=>some (.next a')) (fun e=>some (.done e)) (fun r=>some (.ret r))) s0
def q8m:Shp:=⟨[(0,.own 0),(2,.d true qT0),(3,.d true qT0),(4,.fn 64 .nil),(10,.d true qT0)],[.arr 25 (.fz true) [3] qT1]⟩
def q8h:Shp:=⟨[],[.arr 25 (.fz true) [3] qT1]⟩
def q25 (lo_1:Int) (hi_2:Int) (first_3:Int) (data_0:qL2):Option qL2 :=
 bnd (q90 hi_2 first_3 (lo_1,data_0)) fun oe6 =>
 lk oe6 (fun e6 =>
   some e6) (fun r=>some r)
def q1s {R:Type} (first_8:Int) (lo_9:Int) (hi_10:Int) (i_11:Int) (data_0:qL2) (nx:(Int×qL2)→Option R) (dn:qL2→Option R) (rt:qL2→Option R):Option R :=
 bif decide ((0:Int)≤i_11) then
   bnd (q25 i_11 hi_10 first_8 data_0) fun r1 =>
   ckB (decide (r1.length=data_0.length)) <|
   ckB (inR .i64 (i_11 - 1)) <|
   nx ((i_11 - 1),r1)
 else
   dn data_0
def qfx (first_8:Int) (lo_9:Int) (hi_10:Int) (s0:(Int×qL2)):Option (qL2⊕qL2) :=
 loopM (fun a=>q1s first_8 lo_9 hi_10 a.1 a.2 (fun a'=>some (.next a')) (fun e=>some (.done e)) (fun r=>some (.ret r))) s0
def q8f:Shp:=⟨[(0,.own 0),(3,.fn 64 .nil),(8,.d true qT0),(9,.d true qT0),(10,.d true qT0),(11,.d true qT0)],[.arr 25 (.fz true) [3] qT1]⟩
def q8o:Shp:=⟨[(0,.own 0),(3,.fn 64 .nil),(8,.d true qT0),(9,.d true qT0),(10,.d true qT0)],[.arr 25 (.fz true) [3] qT1]⟩
def q16 {R:Type} (first_8:Int) (lo_9:Int) (i_12:Int) (data_0:qL2) (nx:(Int×qL2)→Option R) (dn:qL2→Option R) (rt:qL2→Option R):Option R :=
 bif decide ((0:Int)≤i_12) then
   ckB (inR .i64 (first_8+i_12)) <|
   ckB (inR .i64 (first_8+i_12)) <|
   ckB (ix (first_8+i_12) data_0.length) <|
   ckB (ix (first_8+i_12) data_0.length) <|
   ckB (ix first_8 data_0.length) <|
   ckB (ix first_8 data_0.length) <|
   ckB (ix first_8 data_0.length) <|
   ckB (ix first_8 data_0.length) <|
   ckB (ix (first_8+i_12) (data_0.set (Int.toNat first_8) (data_0.getD (Int.toNat (first_8+i_12)) [])).length) <|
   ckB (ix (first_8+i_12) (data_0.set (Int.toNat first_8) (data_0.getD (Int.toNat (first_8+i_12)) [])).length) <|
   bnd (q25 lo_9 i_12 first_8 ((data_0.set (Int.toNat first_8) (data_0.getD (Int.toNat (first_8+i_12)) [])).set (Int.toNat (first_8+i_12)) (data_0.getD (Int.toNat first_8) []))) fun r3 =>
   ckB (decide (r3.length=((data_0.set (Int.toNat first_8) (data_0.getD (Int.toNat (first_8+i_12)) [])).set (Int.toNat (first_8+i_12)) (data_0.getD (Int.toNat first_8) [])).length)) <|
   ckB (inR .i64 (i_12 - 1)) <|
   nx ((i_12 - 1),r3)
 else
   dn data_0
def qfu (first_8:Int) (lo_9:Int) (s0:(Int×qL2)):Option (qL2⊕qL2) :=
 loopM (fun a=>q16 first_8 lo_9 a.1 a.2 (fun a'=>some (.next a')) (fun e=>some (.done e)) (fun r=>some (.ret r))) s0
def q89:Shp:=⟨[(0,.own 0),(3,.fn 64 .nil),(8,.d true qT0),(9,.d true qT0),(12,.d true qT0)],[.arr 25 (.fz true) [3] qT1]⟩
def q8b:Shp:=⟨[],[.arr 25 (.fz true) [3] qT1]⟩
def q27 (a_1:Int) (b_2:Int) (data_0:qL2):Option qL2 :=
 ckB (inR .i64 (b_2 - a_1)) <|
 ckB (inR .i64 ((b_2 - a_1) - 1)) <|
 ckB (!decide ((2:Int)=0)) <|
 ckB (inR .i64 (Int.tdiv ((b_2 - a_1) - 1) 2)) <|
 bnd (qfx a_1 0 (b_2 - a_1) ((Int.tdiv ((b_2 - a_1) - 1) 2),data_0)) fun oe2 =>
 lk oe2 (fun e2 =>
   ckB (inR .i64 ((b_2 - a_1) - 1)) <|
   bnd (qfu a_1 0 (((b_2 - a_1) - 1),e2)) fun oe4 =>
   lk oe4 (fun e4 =>
     some e4) (fun r=>some r)) (fun r=>some r)
def q79 (length_0:Int):Option Int :=
 bnd (ql1 (IntKind.wrap .u64 length_0)) fun r1 =>
 ckB (decide (0≤r1)) <|
 some (shlI .u64 1 r1)
def qba (r_0:Int):Option (Int×Int) :=
 ckB (decide (0≤(13:Int))) <|
 ckB (decide (0≤(7:Int))) <|
 ckB (decide (0≤(17:Int))) <|
 some ((bitI .xor .u64 (bitI .xor .u64 (bitI .xor .u64 r_0 (shlI .u64 r_0 13)) (shrI .u64 (bitI .xor .u64 r_0 (shlI .u64 r_0 13)) 7)) (shlI .u64 (bitI .xor .u64 (bitI .xor .u64 r_0 (shlI .u64 r_0 13)) (shrI .u64 (bitI .xor .u64 r_0 (shlI .u64 r_0 13)) 7)) 17)),(bitI .xor .u64 (bitI .xor .u64 (bitI .xor .u64 r_0 (shlI .u64 r_0 13)) (shrI .u64 (bitI .xor .u64 r_0 (shlI .u64 r_0 13)) 7)) (shlI .u64 (bitI .xor .u64 (bitI .xor .u64 r_0 (shlI .u64 r_0 13)) (shrI .u64 (bitI .xor .u64 r_0 (shlI .u64 r_0 13)) 7)) 17)))
def q18 {R:Type} (a_1:Int) (length_8:Int) (modulus_10:Int) (idx_11:Int) (data_0:qL2) (random_9:Int) (nx:(Int×qL2×Int)→Option R) (dn:qL2→Option R) (rt:qL2→Option R):Option R :=
 ckB (!decide ((4:Int)=0)) <|
 ckB (inR .i64 (Int.tdiv length_8 4)) <|
 ckB (inR .i64 ((Int.tdiv length_8 4)*2)) <|
 ckB (inR .i64 (a_1+((Int.tdiv length_8 4)*2))) <|
 ckB (inR .i64 ((a_1+((Int.tdiv length_8 4)*2))+1)) <|
 bif decide (idx_11≤((a_1+((Int.tdiv length_8 4)*2))+1)) then
   bnd (qba random_9) fun r2 =>
   ckB (inR .i64 (bitI .and .u64 r2.1 (IntKind.wrap .u64 (modulus_10 - 1)))) <|
   bif decide (length_8≤(bitI .and .u64 r2.1 (IntKind.wrap .u64 (modulus_10 - 1)))) then
     ckB (inR .i64 ((bitI .and .u64 r2.1 (IntKind.wrap .u64 (modulus_10 - 1))) - length_8)) <|
     ckB (inR .i64 (a_1+((bitI .and .u64 r2.1 (IntKind.wrap .u64 (modulus_10 - 1))) - length_8))) <|
     ckB (inR .i64 (a_1+((bitI .and .u64 r2.1 (IntKind.wrap .u64 (modulus_10 - 1))) - length_8))) <|
     ckB (ix (a_1+((bitI .and .u64 r2.1 (IntKind.wrap .u64 (modulus_10 - 1))) - length_8)) data_0.length) <|
     ckB (ix (a_1+((bitI .and .u64 r2.1 (IntKind.wrap .u64 (modulus_10 - 1))) - length_8)) data_0.length) <|
     ckB (ix idx_11 data_0.length) <|
     ckB (ix idx_11 data_0.length) <|
     ckB (ix idx_11 data_0.length) <|
     ckB (ix idx_11 data_0.length) <|
     ckB (ix (a_1+((bitI .and .u64 r2.1 (IntKind.wrap .u64 (modulus_10 - 1))) - length_8)) (data_0.set (Int.toNat idx_11) (data_0.getD (Int.toNat (a_1+((bitI .and .u64 r2.1 (IntKind.wrap .u64 (modulus_10 - 1))) - length_8))) [])).length) <|
     ckB (ix (a_1+((bitI .and .u64 r2.1 (IntKind.wrap .u64 (modulus_10 - 1))) - length_8)) (data_0.set (Int.toNat idx_11) (data_0.getD (Int.toNat (a_1+((bitI .and .u64 r2.1 (IntKind.wrap .u64 (modulus_10 - 1))) - length_8))) [])).length) <|
     ckB (inR .i64 (idx_11+1)) <|
     nx ((idx_11+1),((data_0.set (Int.toNat idx_11) (data_0.getD (Int.toNat (a_1+((bitI .and .u64 r2.1 (IntKind.wrap .u64 (modulus_10 - 1))) - length_8))) [])).set (Int.toNat (a_1+((bitI .and .u64 r2.1 (IntKind.wrap .u64 (modulus_10 - 1))) - length_8))) (data_0.getD (Int.toNat idx_11) [])),r2.2)
   else
     ckB (inR .i64 (a_1+(bitI .and .u64 r2.1 (IntKind.wrap .u64 (modulus_10 - 1))))) <|
     ckB (inR .i64 (a_1+(bitI .and .u64 r2.1 (IntKind.wrap .u64 (modulus_10 - 1))))) <|
     ckB (ix (a_1+(bitI .and .u64 r2.1 (IntKind.wrap .u64 (modulus_10 - 1)))) data_0.length) <|
     ckB (ix (a_1+(bitI .and .u64 r2.1 (IntKind.wrap .u64 (modulus_10 - 1)))) data_0.length) <|
     ckB (ix idx_11 data_0.length) <|
     ckB (ix idx_11 data_0.length) <|
     ckB (ix idx_11 data_0.length) <|
     ckB (ix idx_11 data_0.length) <|
     ckB (ix (a_1+(bitI .and .u64 r2.1 (IntKind.wrap .u64 (modulus_10 - 1)))) (data_0.set (Int.toNat idx_11) (data_0.getD (Int.toNat (a_1+(bitI .and .u64 r2.1 (IntKind.wrap .u64 (modulus_10 - 1))))) [])).length) <|
     ckB (ix (a_1+(bitI .and .u64 r2.1 (IntKind.wrap .u64 (modulus_10 - 1)))) (data_0.set (Int.toNat idx_11) (data_0.getD (Int.toNat (a_1+(bitI .and .u64 r2.1 (IntKind.wrap .u64 (modulus_10 - 1))))) [])).length) <|
     ckB (inR .i64 (idx_11+1)) <|
     nx ((idx_11+1),((data_0.set (Int.toNat idx_11) (data_0.getD (Int.toNat (a_1+(bitI .and .u64 r2.1 (IntKind.wrap .u64 (modulus_10 - 1))))) [])).set (Int.toNat (a_1+(bitI .and .u64 r2.1 (IntKind.wrap .u64 (modulus_10 - 1))))) (data_0.getD (Int.toNat idx_11) [])),r2.2)
 else
   dn data_0
def q73 (a_1:Int) (length_8:Int) (modulus_10:Int) (s0:(Int×qL2×Int)):Option (qL2⊕qL2) :=
 loopM (fun a=>q18 a_1 length_8 modulus_10 a.1 a.2.1 a.2.2 (fun a'=>some (.next a')) (fun e=>some (.done e)) (fun r=>some (.ret r))) s0
def q6k:Shp:=⟨[(0,.own 0),(1,.d true qT0),(8,.d true qT0),(9,.ptr 1),(10,.d true (.int .u64)),(11,.d true qT0)],[.arr 25 (.fz true) [3] qT1,.cs 123 1 1 (.cons (.d true (.int .u64)) .nil)]⟩
def q6n:Shp:=⟨[],[.arr 25 (.fz true) [3] qT1]⟩
def q1m (a_1:Int) (b_2:Int) (data_0:qL2):Option qL2 :=
 ckB (inR .i64 (b_2 - a_1)) <|
 bif decide ((8:Int)≤(b_2 - a_1)) then
   bnd (q79 (b_2 - a_1)) fun r1 =>
   ckB (!decide ((4:Int)=0)) <|
   ckB (inR .i64 (Int.tdiv (b_2 - a_1) 4)) <|
   ckB (inR .i64 ((Int.tdiv (b_2 - a_1) 4)*2)) <|
   ckB (inR .i64 (a_1+((Int.tdiv (b_2 - a_1) 4)*2))) <|
   ckB (inR .i64 ((a_1+((Int.tdiv (b_2 - a_1) 4)*2)) - 1)) <|
   bnd (q73 a_1 (b_2 - a_1) r1 (((a_1+((Int.tdiv (b_2 - a_1) 4)*2)) - 1),data_0,(IntKind.wrap .u64 (b_2 - a_1)))) fun oe3 =>
   lk oe3 (fun e3 =>
     some e3) (fun r=>some r)
 else
   some data_0
def q1d (data_0:qL2) (a_1:Int) (b_2:Int) (swaps_3:Int):Option (Int×Int×Int) :=
 ckB (ix b_2 data_0.length) <|
 ckB (ix b_2 data_0.length) <|
 ckB (ix a_1 data_0.length) <|
 ckB (ix a_1 data_0.length) <|
 bnd (qf (data_0.getD (Int.toNat b_2) []) (data_0.getD (Int.toNat a_1) [])) fun r1 =>
 bif decide (r1 < 0) then
   ckB (inR .i64 (swaps_3+1)) <|
   some (b_2,a_1,(swaps_3+1))
 else
   some (a_1,b_2,swaps_3)
def q1c (data_0:qL2) (a_1:Int) (b_2:Int) (c_3:Int) (swaps_4:Int):Option (Int×Int) :=
 bnd (q1d data_0 a_1 b_2 swaps_4) fun r1 =>
 bnd (q1d data_0 r1.2.1 c_3 r1.2.2) fun r2 =>
 bnd (q1d data_0 r1.1 r2.1 r2.2.2) fun r3 =>
 some (r3.2.1,r3.2.2)
def qt (data_0:qL2) (a_1:Int) (swaps_2:Int):Option (Int×Int) :=
 ckB (inR .i64 (a_1 - 1)) <|
 ckB (inR .i64 (a_1+1)) <|
 bnd (q1c data_0 (a_1 - 1) a_1 (a_1+1) swaps_2) fun r1 =>
 some (r1.1,r1.2)
def q3r {R:Type} (j_13:Int) (swaps_11:Int) (dn:Unit→Option R) (rt:(Int×Int)→Option R):Option R :=
 bif decide (swaps_11=0) then
   rt (j_13,1)
 else
   bif decide (swaps_11=12) then
     rt (j_13,2)
   else
     rt (j_13,0)
def q1l (j_13:Int) (swaps_11:Int):Option (Unit⊕(Int×Int)) :=
 q3r j_13 swaps_11 (fun e=>some (.inl e)) (fun r=>some (.inr r))
def q7d:Shp:=⟨[(11,.ptr 0),(13,.d true qT0)],[.cs 3 1 1 (.cons (.d true qT0) .nil)]⟩
def q7e:Shp:=⟨[],[]⟩
def q17 (data_0:qL2) (a_1:Int) (b_2:Int):Option (Int×Int) :=
 ckB (inR .i64 (b_2 - a_1)) <|
 ckB (!decide ((4:Int)=0)) <|
 ckB (inR .i64 (Int.tdiv (b_2 - a_1) 4)) <|
 ckB (inR .i64 ((Int.tdiv (b_2 - a_1) 4)*1)) <|
 ckB (inR .i64 (a_1+((Int.tdiv (b_2 - a_1) 4)*1))) <|
 ckB (!decide ((4:Int)=0)) <|
 ckB (inR .i64 (Int.tdiv (b_2 - a_1) 4)) <|
 ckB (inR .i64 ((Int.tdiv (b_2 - a_1) 4)*2)) <|
 ckB (inR .i64 (a_1+((Int.tdiv (b_2 - a_1) 4)*2))) <|
 ckB (!decide ((4:Int)=0)) <|
 ckB (inR .i64 (Int.tdiv (b_2 - a_1) 4)) <|
 ckB (inR .i64 ((Int.tdiv (b_2 - a_1) 4)*3)) <|
 ckB (inR .i64 (a_1+((Int.tdiv (b_2 - a_1) 4)*3))) <|
 bif decide ((8:Int)≤(b_2 - a_1)) then
   bif decide ((50:Int)≤(b_2 - a_1)) then
     bnd (qt data_0 (a_1+((Int.tdiv (b_2 - a_1) 4)*1)) 0) fun r1 =>
     bnd (qt data_0 (a_1+((Int.tdiv (b_2 - a_1) 4)*2)) r1.2) fun r2 =>
     bnd (qt data_0 (a_1+((Int.tdiv (b_2 - a_1) 4)*3)) r2.2) fun r3 =>
     bnd (q1c data_0 r1.1 r2.1 r3.1 r3.2) fun r4 =>
     bnd (q1l r4.1 r4.2) fun oe5 =>
     lk oe5 (fun e5 =>
       none) (fun r=>some r)
   else
     bnd (q1c data_0 (a_1+((Int.tdiv (b_2 - a_1) 4)*1)) (a_1+((Int.tdiv (b_2 - a_1) 4)*2)) (a_1+((Int.tdiv (b_2 - a_1) 4)*3)) 0) fun r6 =>
     bnd (q1l r6.1 r6.2) fun oe7 =>
     lk oe7 (fun e7 =>
       none) (fun r=>some r)
 else
   bnd (q1l (a_1+((Int.tdiv (b_2 - a_1) 4)*2)) 0) fun oe8 =>
   lk oe8 (fun e8 =>
     none) (fun r=>some r)
def q21 {R:Type}  (i_8:Int) (j_9:Int) (data_0:qL2) (nx:(Int×Int×qL2)→Option R) (dn:qL2→Option R) (rt:qL2→Option R):Option R :=
 bif decide (i_8 < j_9) then
   ckB (ix j_9 data_0.length) <|
   ckB (ix j_9 data_0.length) <|
   ckB (ix i_8 data_0.length) <|
   ckB (ix i_8 data_0.length) <|
   ckB (ix i_8 data_0.length) <|
   ckB (ix i_8 data_0.length) <|
   ckB (ix j_9 (data_0.set (Int.toNat i_8) (data_0.getD (Int.toNat j_9) [])).length) <|
   ckB (ix j_9 (data_0.set (Int.toNat i_8) (data_0.getD (Int.toNat j_9) [])).length) <|
   ckB (inR .i64 (i_8+1)) <|
   ckB (inR .i64 (j_9 - 1)) <|
   nx ((i_8+1),(j_9 - 1),((data_0.set (Int.toNat i_8) (data_0.getD (Int.toNat j_9) [])).set (Int.toNat j_9) (data_0.getD (Int.toNat i_8) [])))
 else
   dn data_0
def q7a  (s0:(Int×Int×qL2)):Option (qL2⊕qL2) :=
 loopM (fun a=>q21  a.1 a.2.1 a.2.2 (fun a'=>some (.next a')) (fun e=>some (.done e)) (fun r=>some (.ret r))) s0
def q75:Shp:=⟨[(0,.own 0),(8,.d true qT0),(9,.d true qT0)],[.arr 25 (.fz true) [3] qT1]⟩
def q76:Shp:=⟨[],[.arr 25 (.fz true) [3] qT1]⟩
def q15 (a_1:Int) (b_2:Int) (data_0:qL2):Option qL2 :=
 ckB (inR .i64 (b_2 - 1)) <|
 bnd (q7a  (a_1,(b_2 - 1),data_0)) fun oe1 =>
 lk oe1 (fun e1 =>
   some e1) (fun r=>some r)
def qy {R:Type} (a_1:Int) (b_2:Int) (j_10:Int) (data_0:qL2) (i_9:Int) (nx:Int→Option R) (dn:Int→Option R) (rt:(Bool×qL2)→Option R):Option R :=
 bif decide (i_9 < b_2) then
   ckB (ix i_9 data_0.length) <|
   ckB (ix i_9 data_0.length) <|
   ckB (inR .i64 (i_9 - 1)) <|
   ckB (ix (i_9 - 1) data_0.length) <|
   ckB (ix (i_9 - 1) data_0.length) <|
   bnd (qf (data_0.getD (Int.toNat i_9) []) (data_0.getD (Int.toNat (i_9 - 1)) [])) fun r1 =>
   bif (!(decide (r1 < 0))) then
     ckB (inR .i64 (i_9+1)) <|
     nx (i_9+1)
   else
     dn i_9
 else
   dn i_9
def q2c (a_1:Int) (b_2:Int) (j_10:Int) (data_0:qL2) (s0:Int):Option (Int⊕(Bool×qL2)) :=
 loopM (fun a=>qy a_1 b_2 j_10 data_0 a (fun a'=>some (.next a')) (fun e=>some (.done e)) (fun r=>some (.ret r))) s0
def q43:Shp:=⟨[(0,.own 0),(1,.d true qT0),(2,.d true qT0),(3,.fn 64 .nil),(9,.d true qT0),(10,.d true qT0)],[.arr 25 (.fz true) [3] qT1]⟩
def q47:Shp:=⟨[(0,.own 0),(1,.d true qT0),(2,.d true qT0),(3,.fn 64 .nil),(9,.d true qT0),(10,.d true qT0)],[.arr 25 (.fz true) [3] qT1]⟩
def qw {R:Type} (a_1:Int) (b_2:Int) (i_9:Int) (j_10:Int) (j_11:Int) (data_0:qL2) (nx:(Int×qL2)→Option R) (dn:qL2→Option R) (rt:(Bool×qL2)→Option R):Option R :=
 bif decide ((1:Int)≤j_11) then
   ckB (ix j_11 data_0.length) <|
   ckB (ix j_11 data_0.length) <|
   ckB (inR .i64 (j_11 - 1)) <|
   ckB (ix (j_11 - 1) data_0.length) <|
   ckB (ix (j_11 - 1) data_0.length) <|
   bnd (qf (data_0.getD (Int.toNat j_11) []) (data_0.getD (Int.toNat (j_11 - 1)) [])) fun r3 =>
   bif (!(decide (r3 < 0))) then
     dn data_0
   else
     ckB (inR .i64 (j_11 - 1)) <|
     ckB (inR .i64 (j_11 - 1)) <|
     ckB (ix (j_11 - 1) data_0.length) <|
     ckB (ix (j_11 - 1) data_0.length) <|
     ckB (ix j_11 data_0.length) <|
     ckB (ix j_11 data_0.length) <|
     ckB (ix j_11 data_0.length) <|
     ckB (ix j_11 data_0.length) <|
     ckB (ix (j_11 - 1) (data_0.set (Int.toNat j_11) (data_0.getD (Int.toNat (j_11 - 1)) [])).length) <|
     ckB (ix (j_11 - 1) (data_0.set (Int.toNat j_11) (data_0.getD (Int.toNat (j_11 - 1)) [])).length) <|
     ckB (inR .i64 (j_11 - 1)) <|
     nx ((j_11 - 1),((data_0.set (Int.toNat j_11) (data_0.getD (Int.toNat (j_11 - 1)) [])).set (Int.toNat (j_11 - 1)) (data_0.getD (Int.toNat j_11) [])))
 else
   dn data_0
def q29 (a_1:Int) (b_2:Int) (i_9:Int) (j_10:Int) (s0:(Int×qL2)):Option (qL2⊕(Bool×qL2)) :=
 loopM (fun a=>qw a_1 b_2 i_9 j_10 a.1 a.2 (fun a'=>some (.next a')) (fun e=>some (.done e)) (fun r=>some (.ret r))) s0
def q4c:Shp:=⟨[(0,.own 0),(1,.d true qT0),(2,.d true qT0),(3,.fn 64 .nil),(9,.d true qT0),(10,.d true qT0),(11,.d true qT0)],[.arr 25 (.fz true) [3] qT1]⟩
def q44:Shp:=⟨[(0,.own 0),(1,.d true qT0),(2,.d true qT0),(3,.fn 64 .nil),(9,.d true qT0),(10,.d true qT0)],[.arr 25 (.fz true) [3] qT1]⟩
def qv {R:Type} (a_1:Int) (b_2:Int) (i_9:Int) (j_10:Int) (j_12:Int) (data_0:qL2) (nx:(Int×qL2)→Option R) (dn:qL2→Option R) (rt:(Bool×qL2)→Option R):Option R :=
 bif decide (j_12 < b_2) then
   ckB (ix j_12 data_0.length) <|
   ckB (ix j_12 data_0.length) <|
   ckB (inR .i64 (j_12 - 1)) <|
   ckB (ix (j_12 - 1) data_0.length) <|
   ckB (ix (j_12 - 1) data_0.length) <|
   bnd (qf (data_0.getD (Int.toNat j_12) []) (data_0.getD (Int.toNat (j_12 - 1)) [])) fun r5 =>
   bif (!(decide (r5 < 0))) then
     dn data_0
   else
     ckB (inR .i64 (j_12 - 1)) <|
     ckB (inR .i64 (j_12 - 1)) <|
     ckB (ix (j_12 - 1) data_0.length) <|
     ckB (ix (j_12 - 1) data_0.length) <|
     ckB (ix j_12 data_0.length) <|
     ckB (ix j_12 data_0.length) <|
     ckB (ix j_12 data_0.length) <|
     ckB (ix j_12 data_0.length) <|
     ckB (ix (j_12 - 1) (data_0.set (Int.toNat j_12) (data_0.getD (Int.toNat (j_12 - 1)) [])).length) <|
     ckB (ix (j_12 - 1) (data_0.set (Int.toNat j_12) (data_0.getD (Int.toNat (j_12 - 1)) [])).length) <|
     ckB (inR .i64 (j_12+1)) <|
     nx ((j_12+1),((data_0.set (Int.toNat j_12) (data_0.getD (Int.toNat (j_12 - 1)) [])).set (Int.toNat (j_12 - 1)) (data_0.getD (Int.toNat j_12) [])))
 else
   dn data_0
def q2a (a_1:Int) (b_2:Int) (i_9:Int) (j_10:Int) (s0:(Int×qL2)):Option (qL2⊕(Bool×qL2)) :=
 loopM (fun a=>qv a_1 b_2 i_9 j_10 a.1 a.2 (fun a'=>some (.next a')) (fun e=>some (.done e)) (fun r=>some (.ret r))) s0
def q46:Shp:=⟨[(0,.own 0),(1,.d true qT0),(2,.d true qT0),(3,.fn 64 .nil),(9,.d true qT0),(10,.d true qT0),(12,.d true qT0)],[.arr 25 (.fz true) [3] qT1]⟩
def q45:Shp:=⟨[(0,.own 0),(1,.d true qT0),(2,.d true qT0),(3,.fn 64 .nil),(9,.d true qT0),(10,.d true qT0)],[.arr 25 (.fz true) [3] qT1]⟩
def q19 {R:Type} (a_1:Int) (b_2:Int) (i_9:Int) (j_10:Int) (data_0:qL2) (dn:qL2→Option R) (rt:(Bool×qL2)→Option R):Option R :=
 ckB (inR .i64 (b_2 - i_9)) <|
 bif decide ((2:Int)≤(b_2 - i_9)) then
   ckB (inR .i64 (i_9+1)) <|
   bnd (q2a a_1 b_2 i_9 j_10 ((i_9+1),data_0)) fun oe6 =>
   lk oe6 (fun e6 =>
     dn e6) (fun r=>rt r)
 else
   dn data_0
def q1f (a_1:Int) (b_2:Int) (i_9:Int) (j_10:Int) (data_0:qL2):Option (qL2⊕(Bool×qL2)) :=
 q19 a_1 b_2 i_9 j_10 data_0 (fun e=>some (.inl e)) (fun r=>some (.inr r))
def q4d:Shp:=⟨[(0,.own 0),(1,.d true qT0),(2,.d true qT0),(3,.fn 64 .nil),(9,.d true qT0),(10,.d true qT0)],[.arr 25 (.fz true) [3] qT1]⟩
def q49:Shp:=⟨[(0,.own 0),(1,.d true qT0),(2,.d true qT0),(3,.fn 64 .nil),(9,.d true qT0),(10,.d true qT0)],[.arr 25 (.fz true) [3] qT1]⟩
def qn {R:Type} (a_1:Int) (b_2:Int) (i_9:Int) (j_10:Int) (data_0:qL2) (nx:(Int×Int×qL2)→Option R) (dn:qL2→Option R) (rt:(Bool×qL2)→Option R):Option R :=
 bif decide (j_10 < 5) then
   bnd (q2c a_1 b_2 j_10 data_0 i_9) fun oe2 =>
   lk oe2 (fun e2 =>
     bif decide (e2=b_2) then
       rt (true,data_0)
     else
       ckB (inR .i64 (b_2 - a_1)) <|
       bif decide ((b_2 - a_1) < 50) then
         rt (false,data_0)
       else
         ckB (inR .i64 (e2 - 1)) <|
         ckB (inR .i64 (e2 - 1)) <|
         ckB (ix (e2 - 1) data_0.length) <|
         ckB (ix (e2 - 1) data_0.length) <|
         ckB (ix e2 data_0.length) <|
         ckB (ix e2 data_0.length) <|
         ckB (ix e2 data_0.length) <|
         ckB (ix e2 data_0.length) <|
         ckB (ix (e2 - 1) (data_0.set (Int.toNat e2) (data_0.getD (Int.toNat (e2 - 1)) [])).length) <|
         ckB (ix (e2 - 1) (data_0.set (Int.toNat e2) (data_0.getD (Int.toNat (e2 - 1)) [])).length) <|
         ckB (inR .i64 (e2 - a_1)) <|
         bif decide ((2:Int)≤(e2 - a_1)) then
           ckB (inR .i64 (e2 - 1)) <|
           bnd (q29 a_1 b_2 e2 j_10 ((e2 - 1),((data_0.set (Int.toNat e2) (data_0.getD (Int.toNat (e2 - 1)) [])).set (Int.toNat (e2 - 1)) (data_0.getD (Int.toNat e2) [])))) fun oe4 =>
           lk oe4 (fun e4 =>
             bnd (q1f a_1 b_2 e2 j_10 e4) fun oe7 =>
             lk oe7 (fun e7 =>
               ckB (inR .i64 (j_10+1)) <|
               nx (e2,(j_10+1),e7)) (fun r=>rt r)) (fun r=>rt r)
         else
           bnd (q1f a_1 b_2 e2 j_10 ((data_0.set (Int.toNat e2) (data_0.getD (Int.toNat (e2 - 1)) [])).set (Int.toNat (e2 - 1)) (data_0.getD (Int.toNat e2) []))) fun oe8 =>
           lk oe8 (fun e8 =>
             ckB (inR .i64 (j_10+1)) <|
             nx (e2,(j_10+1),e8)) (fun r=>rt r)) (fun r=>rt r)
 else
   dn data_0
def q4h (a_1:Int) (b_2:Int) (s0:(Int×Int×qL2)):Option (qL2⊕(Bool×qL2)) :=
 loopM (fun a=>qn a_1 b_2 a.1 a.2.1 a.2.2 (fun a'=>some (.next a')) (fun e=>some (.done e)) (fun r=>some (.ret r))) s0
def q42:Shp:=⟨[(0,.own 0),(1,.d true qT0),(2,.d true qT0),(3,.fn 64 .nil),(9,.d true qT0),(10,.d true qT0)],[.arr 25 (.fz true) [3] qT1]⟩
def q4b:Shp:=⟨[],[.arr 25 (.fz true) [3] qT1]⟩
def q1j (a_1:Int) (b_2:Int) (data_0:qL2):Option (Bool×qL2) :=
 ckB (inR .i64 (a_1+1)) <|
 bnd (q4h a_1 b_2 ((a_1+1),0,data_0)) fun oe9 =>
 lk oe9 (fun e9 =>
   some (false,e9)) (fun r=>some r)
def q1t {R:Type} (a_1:Int) (j_12:Int) (data_0:qL2) (i_11:Int) (nx:Int→Option R) (dn:Int→Option R) (rt:(Int×qL2)→Option R):Option R :=
 bif decide (i_11≤j_12) then
   ckB (ix a_1 data_0.length) <|
   ckB (ix a_1 data_0.length) <|
   ckB (ix i_11 data_0.length) <|
   ckB (ix i_11 data_0.length) <|
   bnd (qf (data_0.getD (Int.toNat a_1) []) (data_0.getD (Int.toNat i_11) [])) fun r1 =>
   bif (!(decide (r1 < 0))) then
     ckB (inR .i64 (i_11+1)) <|
     nx (i_11+1)
   else
     dn i_11
 else
   dn i_11
def q6j (a_1:Int) (j_12:Int) (data_0:qL2) (s0:Int):Option (Int⊕(Int×qL2)) :=
 loopM (fun a=>q1t a_1 j_12 data_0 a (fun a'=>some (.next a')) (fun e=>some (.done e)) (fun r=>some (.ret r))) s0
def q61:Shp:=⟨[(0,.own 0),(1,.d true qT0),(4,.fn 64 .nil),(11,.d true qT0),(12,.d true qT0)],[.arr 25 (.fz true) [3] qT1]⟩
def q5w:Shp:=⟨[(0,.own 0),(1,.d true qT0),(4,.fn 64 .nil),(11,.d true qT0),(12,.d true qT0)],[.arr 25 (.fz true) [3] qT1]⟩
def q1u {R:Type} (a_1:Int) (i_11:Int) (data_0:qL2) (j_12:Int) (nx:Int→Option R) (dn:Int→Option R) (rt:(Int×qL2)→Option R):Option R :=
 bif decide (i_11≤j_12) then
   ckB (ix a_1 data_0.length) <|
   ckB (ix a_1 data_0.length) <|
   ckB (ix j_12 data_0.length) <|
   ckB (ix j_12 data_0.length) <|
   bnd (qf (data_0.getD (Int.toNat a_1) []) (data_0.getD (Int.toNat j_12) [])) fun r3 =>
   bif decide (r3 < 0) then
     ckB (inR .i64 (j_12 - 1)) <|
     nx (j_12 - 1)
   else
     dn j_12
 else
   dn j_12
def q6l (a_1:Int) (i_11:Int) (data_0:qL2) (s0:Int):Option (Int⊕(Int×qL2)) :=
 loopM (fun a=>q1u a_1 i_11 data_0 a (fun a'=>some (.next a')) (fun e=>some (.done e)) (fun r=>some (.ret r))) s0
def q5x:Shp:=⟨[(0,.own 0),(1,.d true qT0),(4,.fn 64 .nil),(11,.d true qT0),(12,.d true qT0)],[.arr 25 (.fz true) [3] qT1]⟩
def q5y:Shp:=⟨[(0,.own 0),(1,.d true qT0),(4,.fn 64 .nil),(11,.d true qT0),(12,.d true qT0)],[.arr 25 (.fz true) [3] qT1]⟩
def q1v {R:Type} (a_1:Int) (i_11:Int) (j_12:Int) (data_0:qL2) (nx:(Int×Int×qL2)→Option R) (dn:(Int×qL2)→Option R) (rt:(Int×qL2)→Option R):Option R :=
 bnd (q6j a_1 j_12 data_0 i_11) fun oe2 =>
 lk oe2 (fun e2 =>
   bnd (q6l a_1 e2 data_0 j_12) fun oe4 =>
   lk oe4 (fun e4 =>
     bif decide (e4 < e2) then
       dn (e2,data_0)
     else
       ckB (ix e4 data_0.length) <|
       ckB (ix e4 data_0.length) <|
       ckB (ix e2 data_0.length) <|
       ckB (ix e2 data_0.length) <|
       ckB (ix e2 data_0.length) <|
       ckB (ix e2 data_0.length) <|
       ckB (ix e4 (data_0.set (Int.toNat e2) (data_0.getD (Int.toNat e4) [])).length) <|
       ckB (ix e4 (data_0.set (Int.toNat e2) (data_0.getD (Int.toNat e4) [])).length) <|
       ckB (inR .i64 (e2+1)) <|
       ckB (inR .i64 (e4 - 1)) <|
       nx ((e2+1),(e4 - 1),((data_0.set (Int.toNat e2) (data_0.getD (Int.toNat e4) [])).set (Int.toNat e4) (data_0.getD (Int.toNat e2) [])))) (fun r=>rt r)) (fun r=>rt r)
def q38 (a_1:Int) (s0:(Int×Int×qL2)):Option ((Int×qL2)⊕(Int×qL2)) :=
 loopM (fun a=>q1v a_1 a.1 a.2.1 a.2.2 (fun a'=>some (.next a')) (fun e=>some (.done e)) (fun r=>some (.ret r))) s0
def q5z:Shp:=⟨[(0,.own 0),(1,.d true qT0),(4,.fn 64 .nil),(11,.d true qT0),(12,.d true qT0)],[.arr 25 (.fz true) [3] qT1]⟩
def q60:Shp:=⟨[(11,.d true qT0)],[.arr 25 (.fz true) [3] qT1]⟩
def qh (a_1:Int) (b_2:Int) (pivot_3:Int) (data_0:qL2):Option (Int×qL2) :=
 ckB (ix pivot_3 data_0.length) <|
 ckB (ix pivot_3 data_0.length) <|
 ckB (ix a_1 data_0.length) <|
 ckB (ix a_1 data_0.length) <|
 ckB (ix a_1 data_0.length) <|
 ckB (ix a_1 data_0.length) <|
 ckB (ix pivot_3 (data_0.set (Int.toNat a_1) (data_0.getD (Int.toNat pivot_3) [])).length) <|
 ckB (ix pivot_3 (data_0.set (Int.toNat a_1) (data_0.getD (Int.toNat pivot_3) [])).length) <|
 ckB (inR .i64 (a_1+1)) <|
 ckB (inR .i64 (b_2 - 1)) <|
 bnd (q38 a_1 ((a_1+1),(b_2 - 1),((data_0.set (Int.toNat a_1) (data_0.getD (Int.toNat pivot_3) [])).set (Int.toNat pivot_3) (data_0.getD (Int.toNat a_1) [])))) fun oe5 =>
 lk oe5 (fun e5 =>
   some (e5.1,e5.2)) (fun r=>some r)
def q2l {R:Type} (a_1:Int) (j_13:Int) (data_0:qL2) (i_12:Int) (nx:Int→Option R) (dn:Int→Option R) (rt:(Int×Bool×qL2)→Option R):Option R :=
 bif decide (i_12≤j_13) then
   ckB (ix i_12 data_0.length) <|
   ckB (ix i_12 data_0.length) <|
   ckB (ix a_1 data_0.length) <|
   ckB (ix a_1 data_0.length) <|
   bnd (qf (data_0.getD (Int.toNat i_12) []) (data_0.getD (Int.toNat a_1) [])) fun r1 =>
   bif decide (r1 < 0) then
     ckB (inR .i64 (i_12+1)) <|
     nx (i_12+1)
   else
     dn i_12
 else
   dn i_12
def q8e (a_1:Int) (j_13:Int) (data_0:qL2) (s0:Int):Option (Int⊕(Int×Bool×qL2)) :=
 loopM (fun a=>q2l a_1 j_13 data_0 a (fun a'=>some (.next a')) (fun e=>some (.done e)) (fun r=>some (.ret r))) s0
def q7z:Shp:=⟨[(0,.own 0),(1,.d true qT0),(4,.fn 64 .nil),(12,.d true qT0),(13,.d true qT0)],[.arr 25 (.fz true) [3] qT1]⟩
def q80:Shp:=⟨[(0,.own 0),(1,.d true qT0),(4,.fn 64 .nil),(12,.d true qT0),(13,.d true qT0)],[.arr 25 (.fz true) [3] qT1]⟩
def q2j {R:Type} (a_1:Int) (i_12:Int) (data_0:qL2) (j_13:Int) (nx:Int→Option R) (dn:Int→Option R) (rt:(Int×Bool×qL2)→Option R):Option R :=
 bif decide (i_12≤j_13) then
   ckB (ix j_13 data_0.length) <|
   ckB (ix j_13 data_0.length) <|
   ckB (ix a_1 data_0.length) <|
   ckB (ix a_1 data_0.length) <|
   bnd (qf (data_0.getD (Int.toNat j_13) []) (data_0.getD (Int.toNat a_1) [])) fun r3 =>
   bif (!(decide (r3 < 0))) then
     ckB (inR .i64 (j_13 - 1)) <|
     nx (j_13 - 1)
   else
     dn j_13
 else
   dn j_13
def q8q (a_1:Int) (i_12:Int) (data_0:qL2) (s0:Int):Option (Int⊕(Int×Bool×qL2)) :=
 loopM (fun a=>q2j a_1 i_12 data_0 a (fun a'=>some (.next a')) (fun e=>some (.done e)) (fun r=>some (.ret r))) s0
def q7y:Shp:=⟨[(0,.own 0),(1,.d true qT0),(4,.fn 64 .nil),(12,.d true qT0),(13,.d true qT0)],[.arr 25 (.fz true) [3] qT1]⟩
def q84:Shp:=⟨[(0,.own 0),(1,.d true qT0),(4,.fn 64 .nil),(12,.d true qT0),(13,.d true qT0)],[.arr 25 (.fz true) [3] qT1]⟩
def q2k {R:Type} (a_1:Int) (j_13:Int) (data_0:qL2) (i_12:Int) (nx:Int→Option R) (dn:Int→Option R) (rt:(Int×Bool×qL2)→Option R):Option R :=
 bif decide (i_12≤j_13) then
   ckB (ix i_12 data_0.length) <|
   ckB (ix i_12 data_0.length) <|
   ckB (ix a_1 data_0.length) <|
   ckB (ix a_1 data_0.length) <|
   bnd (qf (data_0.getD (Int.toNat i_12) []) (data_0.getD (Int.toNat a_1) [])) fun r5 =>
   bif decide (r5 < 0) then
     ckB (inR .i64 (i_12+1)) <|
     nx (i_12+1)
   else
     dn i_12
 else
   dn i_12
def q8c (a_1:Int) (j_13:Int) (data_0:qL2) (s0:Int):Option (Int⊕(Int×Bool×qL2)) :=
 loopM (fun a=>q2k a_1 j_13 data_0 a (fun a'=>some (.next a')) (fun e=>some (.done e)) (fun r=>some (.ret r))) s0
def q86:Shp:=⟨[(0,.own 0),(1,.d true qT0),(4,.fn 64 .nil),(12,.d true qT0),(13,.d true qT0)],[.arr 25 (.fz true) [3] qT1]⟩
def q83:Shp:=⟨[(0,.own 0),(1,.d true qT0),(4,.fn 64 .nil),(12,.d true qT0),(13,.d true qT0)],[.arr 25 (.fz true) [3] qT1]⟩
def q2h {R:Type} (a_1:Int) (i_12:Int) (data_0:qL2) (j_13:Int) (nx:Int→Option R) (dn:Int→Option R) (rt:(Int×Bool×qL2)→Option R):Option R :=
 bif decide (i_12≤j_13) then
   ckB (ix j_13 data_0.length) <|
   ckB (ix j_13 data_0.length) <|
   ckB (ix a_1 data_0.length) <|
   ckB (ix a_1 data_0.length) <|
   bnd (qf (data_0.getD (Int.toNat j_13) []) (data_0.getD (Int.toNat a_1) [])) fun r7 =>
   bif (!(decide (r7 < 0))) then
     ckB (inR .i64 (j_13 - 1)) <|
     nx (j_13 - 1)
   else
     dn j_13
 else
   dn j_13
def q8d (a_1:Int) (i_12:Int) (data_0:qL2) (s0:Int):Option (Int⊕(Int×Bool×qL2)) :=
 loopM (fun a=>q2h a_1 i_12 data_0 a (fun a'=>some (.next a')) (fun e=>some (.done e)) (fun r=>some (.ret r))) s0
def q7v:Shp:=⟨[(0,.own 0),(1,.d true qT0),(4,.fn 64 .nil),(12,.d true qT0),(13,.d true qT0)],[.arr 25 (.fz true) [3] qT1]⟩
def q81:Shp:=⟨[(0,.own 0),(1,.d true qT0),(4,.fn 64 .nil),(12,.d true qT0),(13,.d true qT0)],[.arr 25 (.fz true) [3] qT1]⟩
def q2i {R:Type} (a_1:Int) (i_12:Int) (j_13:Int) (data_0:qL2) (nx:(Int×Int×qL2)→Option R) (dn:(Int×qL2)→Option R) (rt:(Int×Bool×qL2)→Option R):Option R :=
 bnd (q8c a_1 j_13 data_0 i_12) fun oe6 =>
 lk oe6 (fun e6 =>
   bnd (q8d a_1 e6 data_0 j_13) fun oe8 =>
   lk oe8 (fun e8 =>
     bif decide (e8 < e6) then
       dn (e8,data_0)
     else
       ckB (ix e8 data_0.length) <|
       ckB (ix e8 data_0.length) <|
       ckB (ix e6 data_0.length) <|
       ckB (ix e6 data_0.length) <|
       ckB (ix e6 data_0.length) <|
       ckB (ix e6 data_0.length) <|
       ckB (ix e8 (data_0.set (Int.toNat e6) (data_0.getD (Int.toNat e8) [])).length) <|
       ckB (ix e8 (data_0.set (Int.toNat e6) (data_0.getD (Int.toNat e8) [])).length) <|
       ckB (inR .i64 (e6+1)) <|
       ckB (inR .i64 (e8 - 1)) <|
       nx ((e6+1),(e8 - 1),((data_0.set (Int.toNat e6) (data_0.getD (Int.toNat e8) [])).set (Int.toNat e8) (data_0.getD (Int.toNat e6) [])))) (fun r=>rt r)) (fun r=>rt r)
def q4m (a_1:Int) (s0:(Int×Int×qL2)):Option ((Int×qL2)⊕(Int×Bool×qL2)) :=
 loopM (fun a=>q2i a_1 a.1 a.2.1 a.2.2 (fun a'=>some (.next a')) (fun e=>some (.done e)) (fun r=>some (.ret r))) s0
def q7w:Shp:=⟨[(0,.own 0),(1,.d true qT0),(4,.fn 64 .nil),(12,.d true qT0),(13,.d true qT0)],[.arr 25 (.fz true) [3] qT1]⟩
def q7x:Shp:=⟨[(0,.own 0),(1,.d true qT0),(13,.d true qT0)],[.arr 25 (.fz true) [3] qT1]⟩
def q2z (a_1:Int) (b_2:Int) (pivot_3:Int) (data_0:qL2):Option (Int×Bool×qL2) :=
 ckB (ix pivot_3 data_0.length) <|
 ckB (ix pivot_3 data_0.length) <|
 ckB (ix a_1 data_0.length) <|
 ckB (ix a_1 data_0.length) <|
 ckB (ix a_1 data_0.length) <|
 ckB (ix a_1 data_0.length) <|
 ckB (ix pivot_3 (data_0.set (Int.toNat a_1) (data_0.getD (Int.toNat pivot_3) [])).length) <|
 ckB (ix pivot_3 (data_0.set (Int.toNat a_1) (data_0.getD (Int.toNat pivot_3) [])).length) <|
 ckB (inR .i64 (a_1+1)) <|
 ckB (inR .i64 (b_2 - 1)) <|
 bnd (q8e a_1 (b_2 - 1) ((data_0.set (Int.toNat a_1) (data_0.getD (Int.toNat pivot_3) [])).set (Int.toNat pivot_3) (data_0.getD (Int.toNat a_1) [])) (a_1+1)) fun oe2 =>
 lk oe2 (fun e2 =>
   bnd (q8q a_1 e2 ((data_0.set (Int.toNat a_1) (data_0.getD (Int.toNat pivot_3) [])).set (Int.toNat pivot_3) (data_0.getD (Int.toNat a_1) [])) (b_2 - 1)) fun oe4 =>
   lk oe4 (fun e4 =>
     bif decide (e4 < e2) then
       ckB (ix a_1 ((data_0.set (Int.toNat a_1) (data_0.getD (Int.toNat pivot_3) [])).set (Int.toNat pivot_3) (data_0.getD (Int.toNat a_1) [])).length) <|
       ckB (ix a_1 ((data_0.set (Int.toNat a_1) (data_0.getD (Int.toNat pivot_3) [])).set (Int.toNat pivot_3) (data_0.getD (Int.toNat a_1) [])).length) <|
       ckB (ix e4 ((data_0.set (Int.toNat a_1) (data_0.getD (Int.toNat pivot_3) [])).set (Int.toNat pivot_3) (data_0.getD (Int.toNat a_1) [])).length) <|
       ckB (ix e4 ((data_0.set (Int.toNat a_1) (data_0.getD (Int.toNat pivot_3) [])).set (Int.toNat pivot_3) (data_0.getD (Int.toNat a_1) [])).length) <|
       ckB (ix e4 ((data_0.set (Int.toNat a_1) (data_0.getD (Int.toNat pivot_3) [])).set (Int.toNat pivot_3) (data_0.getD (Int.toNat a_1) [])).length) <|
       ckB (ix e4 ((data_0.set (Int.toNat a_1) (data_0.getD (Int.toNat pivot_3) [])).set (Int.toNat pivot_3) (data_0.getD (Int.toNat a_1) [])).length) <|
       ckB (ix a_1 (((data_0.set (Int.toNat a_1) (data_0.getD (Int.toNat pivot_3) [])).set (Int.toNat pivot_3) (data_0.getD (Int.toNat a_1) [])).set (Int.toNat e4) (((data_0.set (Int.toNat a_1) (data_0.getD (Int.toNat pivot_3) [])).set (Int.toNat pivot_3) (data_0.getD (Int.toNat a_1) [])).getD (Int.toNat a_1) [])).length) <|
       ckB (ix a_1 (((data_0.set (Int.toNat a_1) (data_0.getD (Int.toNat pivot_3) [])).set (Int.toNat pivot_3) (data_0.getD (Int.toNat a_1) [])).set (Int.toNat e4) (((data_0.set (Int.toNat a_1) (data_0.getD (Int.toNat pivot_3) [])).set (Int.toNat pivot_3) (data_0.getD (Int.toNat a_1) [])).getD (Int.toNat a_1) [])).length) <|
       some (e4,true,((((data_0.set (Int.toNat a_1) (data_0.getD (Int.toNat pivot_3) [])).set (Int.toNat pivot_3) (data_0.getD (Int.toNat a_1) [])).set (Int.toNat e4) (((data_0.set (Int.toNat a_1) (data_0.getD (Int.toNat pivot_3) [])).set (Int.toNat pivot_3) (data_0.getD (Int.toNat a_1) [])).getD (Int.toNat a_1) [])).set (Int.toNat a_1) (((data_0.set (Int.toNat a_1) (data_0.getD (Int.toNat pivot_3) [])).set (Int.toNat pivot_3) (data_0.getD (Int.toNat a_1) [])).getD (Int.toNat e4) [])))
     else
       ckB (ix e4 ((data_0.set (Int.toNat a_1) (data_0.getD (Int.toNat pivot_3) [])).set (Int.toNat pivot_3) (data_0.getD (Int.toNat a_1) [])).length) <|
       ckB (ix e4 ((data_0.set (Int.toNat a_1) (data_0.getD (Int.toNat pivot_3) [])).set (Int.toNat pivot_3) (data_0.getD (Int.toNat a_1) [])).length) <|
       ckB (ix e2 ((data_0.set (Int.toNat a_1) (data_0.getD (Int.toNat pivot_3) [])).set (Int.toNat pivot_3) (data_0.getD (Int.toNat a_1) [])).length) <|
       ckB (ix e2 ((data_0.set (Int.toNat a_1) (data_0.getD (Int.toNat pivot_3) [])).set (Int.toNat pivot_3) (data_0.getD (Int.toNat a_1) [])).length) <|
       ckB (ix e2 ((data_0.set (Int.toNat a_1) (data_0.getD (Int.toNat pivot_3) [])).set (Int.toNat pivot_3) (data_0.getD (Int.toNat a_1) [])).length) <|
       ckB (ix e2 ((data_0.set (Int.toNat a_1) (data_0.getD (Int.toNat pivot_3) [])).set (Int.toNat pivot_3) (data_0.getD (Int.toNat a_1) [])).length) <|
       ckB (ix e4 (((data_0.set (Int.toNat a_1) (data_0.getD (Int.toNat pivot_3) [])).set (Int.toNat pivot_3) (data_0.getD (Int.toNat a_1) [])).set (Int.toNat e2) (((data_0.set (Int.toNat a_1) (data_0.getD (Int.toNat pivot_3) [])).set (Int.toNat pivot_3) (data_0.getD (Int.toNat a_1) [])).getD (Int.toNat e4) [])).length) <|
       ckB (ix e4 (((data_0.set (Int.toNat a_1) (data_0.getD (Int.toNat pivot_3) [])).set (Int.toNat pivot_3) (data_0.getD (Int.toNat a_1) [])).set (Int.toNat e2) (((data_0.set (Int.toNat a_1) (data_0.getD (Int.toNat pivot_3) [])).set (Int.toNat pivot_3) (data_0.getD (Int.toNat a_1) [])).getD (Int.toNat e4) [])).length) <|
       ckB (inR .i64 (e2+1)) <|
       ckB (inR .i64 (e4 - 1)) <|
       bnd (q4m a_1 ((e2+1),(e4 - 1),((((data_0.set (Int.toNat a_1) (data_0.getD (Int.toNat pivot_3) [])).set (Int.toNat pivot_3) (data_0.getD (Int.toNat a_1) [])).set (Int.toNat e2) (((data_0.set (Int.toNat a_1) (data_0.getD (Int.toNat pivot_3) [])).set (Int.toNat pivot_3) (data_0.getD (Int.toNat a_1) [])).getD (Int.toNat e4) [])).set (Int.toNat e4) (((data_0.set (Int.toNat a_1) (data_0.getD (Int.toNat pivot_3) [])).set (Int.toNat pivot_3) (data_0.getD (Int.toNat a_1) [])).getD (Int.toNat e2) [])))) fun oe9 =>
       lk oe9 (fun e9 =>
         ckB (ix a_1 e9.2.length) <|
         ckB (ix a_1 e9.2.length) <|
         ckB (ix e9.1 e9.2.length) <|
         ckB (ix e9.1 e9.2.length) <|
         ckB (ix e9.1 e9.2.length) <|
         ckB (ix e9.1 e9.2.length) <|
         ckB (ix a_1 (e9.2.set (Int.toNat e9.1) (e9.2.getD (Int.toNat a_1) [])).length) <|
         ckB (ix a_1 (e9.2.set (Int.toNat e9.1) (e9.2.getD (Int.toNat a_1) [])).length) <|
         some (e9.1,false,((e9.2.set (Int.toNat e9.1) (e9.2.getD (Int.toNat a_1) [])).set (Int.toNat a_1) (e9.2.getD (Int.toNat e9.1) [])))) (fun r=>some r)) (fun r=>some r)) (fun r=>some r)
def q50 {R:Type} (rec:((Unit×Int×Int×Int×(Unit)×Unit)×(qL2×Unit))→Option qL2) (a_1:Int) (b_2:Int) (limit_3:Int) (wasBalanced_10:Bool) (wasPartitioned_11:Bool) (length_12:Int) (pivot_13:Int) (v_75:Bool) (data_0:qL2) (dn:qL2→Option R) (rt:qL2→Option R):Option R :=
 bif v_75 then
   bnd (q1j a_1 b_2 data_0) fun r6 =>
   ckB (decide (r6.2.length=data_0.length)) <|
   bif r6.1 then
     rt r6.2
   else
     dn r6.2
 else
   dn data_0
def qj (rec:((Unit×Int×Int×Int×(Unit)×Unit)×(qL2×Unit))→Option qL2) (a_1:Int) (b_2:Int) (limit_3:Int) (wasBalanced_10:Bool) (wasPartitioned_11:Bool) (length_12:Int) (pivot_13:Int) (v_75:Bool) (data_0:qL2):Option (qL2⊕qL2) :=
 q50 rec a_1 b_2 limit_3 wasBalanced_10 wasPartitioned_11 length_12 pivot_13 v_75 data_0 (fun e=>some (.inl e)) (fun r=>some (.inr r))
def q93:Shp:=⟨[(0,.own 0),(1,.d true qT0),(2,.d true qT0),(3,.d true qT0),(4,.fn 64 .nil),(10,.d true .bool),(11,.d true .bool),(12,.d true qT0),(13,.d true qT0),(75,.d true .bool)],[.arr 25 (.fz true) [3] qT1]⟩
def q8y:Shp:=⟨[(0,.own 0),(1,.d true qT0),(2,.d true qT0),(3,.d true qT0),(4,.fn 64 .nil),(10,.d true .bool),(11,.d true .bool),(12,.d true qT0),(13,.d true qT0)],[.arr 25 (.fz true) [3] qT1]⟩
def q2u {R:Type} (rec:((Unit×Int×Int×Int×(Unit)×Unit)×(qL2×Unit))→Option qL2) (a_1:Int) (b_2:Int) (limit_3:Int) (length_12:Int) (pivot_13:Int) (data_0:qL2) (dn:(Int×Int×Bool×Bool×qL2)→Option R) (rt:qL2→Option R):Option R :=
 bnd (q2z a_1 b_2 pivot_13 data_0) fun r10 =>
 ckB (decide (r10.2.2.length=data_0.length)) <|
 ckB (inR .i64 (r10.1 - a_1)) <|
 ckB (inR .i64 (b_2 - r10.1)) <|
 ckB (!decide ((8:Int)=0)) <|
 ckB (inR .i64 (Int.tdiv length_12 8)) <|
 bif decide ((r10.1 - a_1) < (b_2 - r10.1)) then
   bnd (rec (((),a_1,r10.1,limit_3,(()),()),(r10.2.2,()))) fun r11 =>
   ckB (decide (r11.length=r10.2.2.length)) <|
   ckB (inR .i64 (r10.1+1)) <|
   dn ((r10.1+1),b_2,decide ((Int.tdiv length_12 8)≤(r10.1 - a_1)),r10.2.1,r11)
 else
   ckB (inR .i64 (r10.1+1)) <|
   bnd (rec (((),(r10.1+1),b_2,limit_3,(()),()),(r10.2.2,()))) fun r12 =>
   ckB (decide (r12.length=r10.2.2.length)) <|
   dn (a_1,r10.1,decide ((Int.tdiv length_12 8)≤(b_2 - r10.1)),r10.2.1,r12)
def qd (rec:((Unit×Int×Int×Int×(Unit)×Unit)×(qL2×Unit))→Option qL2) (a_1:Int) (b_2:Int) (limit_3:Int) (length_12:Int) (pivot_13:Int) (data_0:qL2):Option ((Int×Int×Bool×Bool×qL2)⊕qL2) :=
 q2u rec a_1 b_2 limit_3 length_12 pivot_13 data_0 (fun e=>some (.inl e)) (fun r=>some (.inr r))
def q8s:Shp:=⟨[(0,.own 0),(1,.d true qT0),(2,.d true qT0),(3,.d true qT0),(4,.fn 64 .nil),(12,.d true qT0),(13,.d true qT0)],[.arr 25 (.fz true) [3] qT1]⟩
def q91:Shp:=⟨[(0,.own 0),(1,.d true qT0),(2,.d true qT0),(3,.d true qT0),(4,.fn 64 .nil),(10,.d true .bool),(11,.d true .bool)],[.arr 25 (.fz true) [3] qT1]⟩
def q2t {R:Type} (rec:((Unit×Int×Int×Int×(Unit)×Unit)×(qL2×Unit))→Option qL2)  (a_1:Int) (b_2:Int) (limit_3:Int) (wasBalanced_10:Bool) (wasPartitioned_11:Bool) (data_0:qL2) (nx:(Int×Int×Int×Bool×Bool×qL2)→Option R) (dn:Unit→Option R) (rt:qL2→Option R):Option R :=
 ckB (inR .i64 (b_2 - a_1)) <|
 bif decide ((b_2 - a_1)≤12) then
   bnd (q1k a_1 b_2 data_0) fun r1 =>
   ckB (decide (r1.length=data_0.length)) <|
   rt r1
 else
   bif decide (limit_3=0) then
     bnd (q27 a_1 b_2 data_0) fun r2 =>
     ckB (decide (r2.length=data_0.length)) <|
     rt r2
   else
     bif (!wasBalanced_10) then
       bnd (q1m a_1 b_2 data_0) fun r3 =>
       ckB (decide (r3.length=data_0.length)) <|
       ckB (inR .i64 (limit_3 - 1)) <|
       bnd (q17 r3 a_1 b_2) fun r4 =>
       bif decide (r4.2=2) then
         bnd (q15 a_1 b_2 r3) fun r5 =>
         ckB (decide (r5.length=r3.length)) <|
         ckB (inR .i64 (b_2 - 1)) <|
         ckB (inR .i64 (r4.1 - a_1)) <|
         ckB (inR .i64 ((b_2 - 1) - (r4.1 - a_1))) <|
         bif wasBalanced_10 then
           bif wasPartitioned_11 then
             bnd (qj rec a_1 b_2 (limit_3 - 1) wasBalanced_10 wasPartitioned_11 (b_2 - a_1) ((b_2 - 1) - (r4.1 - a_1)) (decide ((1:Int)=1)) r5) fun oe7 =>
             lk oe7 (fun e7 =>
               bif decide ((0:Int) < a_1) then
                 ckB (inR .i64 (a_1 - 1)) <|
                 ckB (ix (a_1 - 1) e7.length) <|
                 ckB (ix (a_1 - 1) e7.length) <|
                 ckB (ix ((b_2 - 1) - (r4.1 - a_1)) e7.length) <|
                 ckB (ix ((b_2 - 1) - (r4.1 - a_1)) e7.length) <|
                 bnd (qf (e7.getD (Int.toNat (a_1 - 1)) []) (e7.getD (Int.toNat ((b_2 - 1) - (r4.1 - a_1))) [])) fun r8 =>
                 bif (!(decide (r8 < 0))) then
                   bnd (qh a_1 b_2 ((b_2 - 1) - (r4.1 - a_1)) e7) fun r9 =>
                   ckB (decide (r9.2.length=e7.length)) <|
                   nx (r9.1,b_2,(limit_3 - 1),wasBalanced_10,wasPartitioned_11,r9.2)
                 else
                   bnd (qd rec a_1 b_2 (limit_3 - 1) (b_2 - a_1) ((b_2 - 1) - (r4.1 - a_1)) e7) fun oe13 =>
                   lk oe13 (fun e13 =>
                     nx (e13.1,e13.2.1,(limit_3 - 1),e13.2.2.1,e13.2.2.2.1,e13.2.2.2.2)) (fun r=>rt r)
               else
                 bnd (qd rec a_1 b_2 (limit_3 - 1) (b_2 - a_1) ((b_2 - 1) - (r4.1 - a_1)) e7) fun oe14 =>
                 lk oe14 (fun e14 =>
                   nx (e14.1,e14.2.1,(limit_3 - 1),e14.2.2.1,e14.2.2.2.1,e14.2.2.2.2)) (fun r=>rt r)) (fun r=>rt r)
           else
             bnd (qj rec a_1 b_2 (limit_3 - 1) wasBalanced_10 wasPartitioned_11 (b_2 - a_1) ((b_2 - 1) - (r4.1 - a_1)) false r5) fun oe15 =>
             lk oe15 (fun e15 =>
               bif decide ((0:Int) < a_1) then
                 ckB (inR .i64 (a_1 - 1)) <|
                 ckB (ix (a_1 - 1) e15.length) <|
                 ckB (ix (a_1 - 1) e15.length) <|
                 ckB (ix ((b_2 - 1) - (r4.1 - a_1)) e15.length) <|
                 ckB (ix ((b_2 - 1) - (r4.1 - a_1)) e15.length) <|
                 bnd (qf (e15.getD (Int.toNat (a_1 - 1)) []) (e15.getD (Int.toNat ((b_2 - 1) - (r4.1 - a_1))) [])) fun r16 =>
                 bif (!(decide (r16 < 0))) then
                   bnd (qh a_1 b_2 ((b_2 - 1) - (r4.1 - a_1)) e15) fun r17 =>
                   ckB (decide (r17.2.length=e15.length)) <|
                   nx (r17.1,b_2,(limit_3 - 1),wasBalanced_10,wasPartitioned_11,r17.2)
                 else
                   bnd (qd rec a_1 b_2 (limit_3 - 1) (b_2 - a_1) ((b_2 - 1) - (r4.1 - a_1)) e15) fun oe18 =>
                   lk oe18 (fun e18 =>
                     nx (e18.1,e18.2.1,(limit_3 - 1),e18.2.2.1,e18.2.2.2.1,e18.2.2.2.2)) (fun r=>rt r)
               else
                 bnd (qd rec a_1 b_2 (limit_3 - 1) (b_2 - a_1) ((b_2 - 1) - (r4.1 - a_1)) e15) fun oe19 =>
                 lk oe19 (fun e19 =>
                   nx (e19.1,e19.2.1,(limit_3 - 1),e19.2.2.1,e19.2.2.2.1,e19.2.2.2.2)) (fun r=>rt r)) (fun r=>rt r)
         else
           bnd (qj rec a_1 b_2 (limit_3 - 1) wasBalanced_10 wasPartitioned_11 (b_2 - a_1) ((b_2 - 1) - (r4.1 - a_1)) false r5) fun oe20 =>
           lk oe20 (fun e20 =>
             bif decide ((0:Int) < a_1) then
               ckB (inR .i64 (a_1 - 1)) <|
               ckB (ix (a_1 - 1) e20.length) <|
               ckB (ix (a_1 - 1) e20.length) <|
               ckB (ix ((b_2 - 1) - (r4.1 - a_1)) e20.length) <|
               ckB (ix ((b_2 - 1) - (r4.1 - a_1)) e20.length) <|
               bnd (qf (e20.getD (Int.toNat (a_1 - 1)) []) (e20.getD (Int.toNat ((b_2 - 1) - (r4.1 - a_1))) [])) fun r21 =>
               bif (!(decide (r21 < 0))) then
                 bnd (qh a_1 b_2 ((b_2 - 1) - (r4.1 - a_1)) e20) fun r22 =>
                 ckB (decide (r22.2.length=e20.length)) <|
                 nx (r22.1,b_2,(limit_3 - 1),wasBalanced_10,wasPartitioned_11,r22.2)
               else
                 bnd (qd rec a_1 b_2 (limit_3 - 1) (b_2 - a_1) ((b_2 - 1) - (r4.1 - a_1)) e20) fun oe23 =>
                 lk oe23 (fun e23 =>
                   nx (e23.1,e23.2.1,(limit_3 - 1),e23.2.2.1,e23.2.2.2.1,e23.2.2.2.2)) (fun r=>rt r)
             else
               bnd (qd rec a_1 b_2 (limit_3 - 1) (b_2 - a_1) ((b_2 - 1) - (r4.1 - a_1)) e20) fun oe24 =>
               lk oe24 (fun e24 =>
                 nx (e24.1,e24.2.1,(limit_3 - 1),e24.2.2.1,e24.2.2.2.1,e24.2.2.2.2)) (fun r=>rt r)) (fun r=>rt r)
       else
         bif wasBalanced_10 then
           bif wasPartitioned_11 then
             bnd (qj rec a_1 b_2 (limit_3 - 1) wasBalanced_10 wasPartitioned_11 (b_2 - a_1) r4.1 (decide (r4.2=1)) r3) fun oe25 =>
             lk oe25 (fun e25 =>
               bif decide ((0:Int) < a_1) then
                 ckB (inR .i64 (a_1 - 1)) <|
                 ckB (ix (a_1 - 1) e25.length) <|
                 ckB (ix (a_1 - 1) e25.length) <|
                 ckB (ix r4.1 e25.length) <|
                 ckB (ix r4.1 e25.length) <|
                 bnd (qf (e25.getD (Int.toNat (a_1 - 1)) []) (e25.getD (Int.toNat r4.1) [])) fun r26 =>
                 bif (!(decide (r26 < 0))) then
                   bnd (qh a_1 b_2 r4.1 e25) fun r27 =>
                   ckB (decide (r27.2.length=e25.length)) <|
                   nx (r27.1,b_2,(limit_3 - 1),wasBalanced_10,wasPartitioned_11,r27.2)
                 else
                   bnd (qd rec a_1 b_2 (limit_3 - 1) (b_2 - a_1) r4.1 e25) fun oe28 =>
                   lk oe28 (fun e28 =>
                     nx (e28.1,e28.2.1,(limit_3 - 1),e28.2.2.1,e28.2.2.2.1,e28.2.2.2.2)) (fun r=>rt r)
               else
                 bnd (qd rec a_1 b_2 (limit_3 - 1) (b_2 - a_1) r4.1 e25) fun oe29 =>
                 lk oe29 (fun e29 =>
                   nx (e29.1,e29.2.1,(limit_3 - 1),e29.2.2.1,e29.2.2.2.1,e29.2.2.2.2)) (fun r=>rt r)) (fun r=>rt r)
           else
             bnd (qj rec a_1 b_2 (limit_3 - 1) wasBalanced_10 wasPartitioned_11 (b_2 - a_1) r4.1 false r3) fun oe30 =>
             lk oe30 (fun e30 =>
               bif decide ((0:Int) < a_1) then
                 ckB (inR .i64 (a_1 - 1)) <|
                 ckB (ix (a_1 - 1) e30.length) <|
                 ckB (ix (a_1 - 1) e30.length) <|
                 ckB (ix r4.1 e30.length) <|
                 ckB (ix r4.1 e30.length) <|
                 bnd (qf (e30.getD (Int.toNat (a_1 - 1)) []) (e30.getD (Int.toNat r4.1) [])) fun r31 =>
                 bif (!(decide (r31 < 0))) then
                   bnd (qh a_1 b_2 r4.1 e30) fun r32 =>
                   ckB (decide (r32.2.length=e30.length)) <|
                   nx (r32.1,b_2,(limit_3 - 1),wasBalanced_10,wasPartitioned_11,r32.2)
                 else
                   bnd (qd rec a_1 b_2 (limit_3 - 1) (b_2 - a_1) r4.1 e30) fun oe33 =>
                   lk oe33 (fun e33 =>
                     nx (e33.1,e33.2.1,(limit_3 - 1),e33.2.2.1,e33.2.2.2.1,e33.2.2.2.2)) (fun r=>rt r)
               else
                 bnd (qd rec a_1 b_2 (limit_3 - 1) (b_2 - a_1) r4.1 e30) fun oe34 =>
                 lk oe34 (fun e34 =>
                   nx (e34.1,e34.2.1,(limit_3 - 1),e34.2.2.1,e34.2.2.2.1,e34.2.2.2.2)) (fun r=>rt r)) (fun r=>rt r)
         else
           bnd (qj rec a_1 b_2 (limit_3 - 1) wasBalanced_10 wasPartitioned_11 (b_2 - a_1) r4.1 false r3) fun oe35 =>
           lk oe35 (fun e35 =>
             bif decide ((0:Int) < a_1) then
               ckB (inR .i64 (a_1 - 1)) <|
               ckB (ix (a_1 - 1) e35.length) <|
               ckB (ix (a_1 - 1) e35.length) <|
               ckB (ix r4.1 e35.length) <|
               ckB (ix r4.1 e35.length) <|
               bnd (qf (e35.getD (Int.toNat (a_1 - 1)) []) (e35.getD (Int.toNat r4.1) [])) fun r36 =>
               bif (!(decide (r36 < 0))) then
                 bnd (qh a_1 b_2 r4.1 e35) fun r37 =>
                 ckB (decide (r37.2.length=e35.length)) <|
                 nx (r37.1,b_2,(limit_3 - 1),wasBalanced_10,wasPartitioned_11,r37.2)
               else
                 bnd (qd rec a_1 b_2 (limit_3 - 1) (b_2 - a_1) r4.1 e35) fun oe38 =>
                 lk oe38 (fun e38 =>
                   nx (e38.1,e38.2.1,(limit_3 - 1),e38.2.2.1,e38.2.2.2.1,e38.2.2.2.2)) (fun r=>rt r)
             else
               bnd (qd rec a_1 b_2 (limit_3 - 1) (b_2 - a_1) r4.1 e35) fun oe39 =>
               lk oe39 (fun e39 =>
                 nx (e39.1,e39.2.1,(limit_3 - 1),e39.2.2.1,e39.2.2.2.1,e39.2.2.2.2)) (fun r=>rt r)) (fun r=>rt r)
     else
       bnd (q17 data_0 a_1 b_2) fun r40 =>
       bif decide (r40.2=2) then
         bnd (q15 a_1 b_2 data_0) fun r41 =>
         ckB (decide (r41.length=data_0.length)) <|
         ckB (inR .i64 (b_2 - 1)) <|
         ckB (inR .i64 (r40.1 - a_1)) <|
         ckB (inR .i64 ((b_2 - 1) - (r40.1 - a_1))) <|
         bif wasBalanced_10 then
           bif wasPartitioned_11 then
             bnd (qj rec a_1 b_2 limit_3 wasBalanced_10 wasPartitioned_11 (b_2 - a_1) ((b_2 - 1) - (r40.1 - a_1)) (decide ((1:Int)=1)) r41) fun oe42 =>
             lk oe42 (fun e42 =>
               bif decide ((0:Int) < a_1) then
                 ckB (inR .i64 (a_1 - 1)) <|
                 ckB (ix (a_1 - 1) e42.length) <|
                 ckB (ix (a_1 - 1) e42.length) <|
                 ckB (ix ((b_2 - 1) - (r40.1 - a_1)) e42.length) <|
                 ckB (ix ((b_2 - 1) - (r40.1 - a_1)) e42.length) <|
                 bnd (qf (e42.getD (Int.toNat (a_1 - 1)) []) (e42.getD (Int.toNat ((b_2 - 1) - (r40.1 - a_1))) [])) fun r43 =>
                 bif (!(decide (r43 < 0))) then
                   bnd (qh a_1 b_2 ((b_2 - 1) - (r40.1 - a_1)) e42) fun r44 =>
                   ckB (decide (r44.2.length=e42.length)) <|
                   nx (r44.1,b_2,limit_3,wasBalanced_10,wasPartitioned_11,r44.2)
                 else
                   bnd (qd rec a_1 b_2 limit_3 (b_2 - a_1) ((b_2 - 1) - (r40.1 - a_1)) e42) fun oe45 =>
                   lk oe45 (fun e45 =>
                     nx (e45.1,e45.2.1,limit_3,e45.2.2.1,e45.2.2.2.1,e45.2.2.2.2)) (fun r=>rt r)
               else
                 bnd (qd rec a_1 b_2 limit_3 (b_2 - a_1) ((b_2 - 1) - (r40.1 - a_1)) e42) fun oe46 =>
                 lk oe46 (fun e46 =>
                   nx (e46.1,e46.2.1,limit_3,e46.2.2.1,e46.2.2.2.1,e46.2.2.2.2)) (fun r=>rt r)) (fun r=>rt r)
           else
             bnd (qj rec a_1 b_2 limit_3 wasBalanced_10 wasPartitioned_11 (b_2 - a_1) ((b_2 - 1) - (r40.1 - a_1)) false r41) fun oe47 =>
             lk oe47 (fun e47 =>
               bif decide ((0:Int) < a_1) then
                 ckB (inR .i64 (a_1 - 1)) <|
                 ckB (ix (a_1 - 1) e47.length) <|
                 ckB (ix (a_1 - 1) e47.length) <|
                 ckB (ix ((b_2 - 1) - (r40.1 - a_1)) e47.length) <|
                 ckB (ix ((b_2 - 1) - (r40.1 - a_1)) e47.length) <|
                 bnd (qf (e47.getD (Int.toNat (a_1 - 1)) []) (e47.getD (Int.toNat ((b_2 - 1) - (r40.1 - a_1))) [])) fun r48 =>
                 bif (!(decide (r48 < 0))) then
                   bnd (qh a_1 b_2 ((b_2 - 1) - (r40.1 - a_1)) e47) fun r49 =>
                   ckB (decide (r49.2.length=e47.length)) <|
                   nx (r49.1,b_2,limit_3,wasBalanced_10,wasPartitioned_11,r49.2)
                 else
                   bnd (qd rec a_1 b_2 limit_3 (b_2 - a_1) ((b_2 - 1) - (r40.1 - a_1)) e47) fun oe50 =>
                   lk oe50 (fun e50 =>
                     nx (e50.1,e50.2.1,limit_3,e50.2.2.1,e50.2.2.2.1,e50.2.2.2.2)) (fun r=>rt r)
               else
                 bnd (qd rec a_1 b_2 limit_3 (b_2 - a_1) ((b_2 - 1) - (r40.1 - a_1)) e47) fun oe51 =>
                 lk oe51 (fun e51 =>
                   nx (e51.1,e51.2.1,limit_3,e51.2.2.1,e51.2.2.2.1,e51.2.2.2.2)) (fun r=>rt r)) (fun r=>rt r)
         else
           bnd (qj rec a_1 b_2 limit_3 wasBalanced_10 wasPartitioned_11 (b_2 - a_1) ((b_2 - 1) - (r40.1 - a_1)) false r41) fun oe52 =>
           lk oe52 (fun e52 =>
             bif decide ((0:Int) < a_1) then
               ckB (inR .i64 (a_1 - 1)) <|
               ckB (ix (a_1 - 1) e52.length) <|
               ckB (ix (a_1 - 1) e52.length) <|
               ckB (ix ((b_2 - 1) - (r40.1 - a_1)) e52.length) <|
               ckB (ix ((b_2 - 1) - (r40.1 - a_1)) e52.length) <|
               bnd (qf (e52.getD (Int.toNat (a_1 - 1)) []) (e52.getD (Int.toNat ((b_2 - 1) - (r40.1 - a_1))) [])) fun r53 =>
               bif (!(decide (r53 < 0))) then
                 bnd (qh a_1 b_2 ((b_2 - 1) - (r40.1 - a_1)) e52) fun r54 =>
                 ckB (decide (r54.2.length=e52.length)) <|
                 nx (r54.1,b_2,limit_3,wasBalanced_10,wasPartitioned_11,r54.2)
               else
                 bnd (qd rec a_1 b_2 limit_3 (b_2 - a_1) ((b_2 - 1) - (r40.1 - a_1)) e52) fun oe55 =>
                 lk oe55 (fun e55 =>
                   nx (e55.1,e55.2.1,limit_3,e55.2.2.1,e55.2.2.2.1,e55.2.2.2.2)) (fun r=>rt r)
             else
               bnd (qd rec a_1 b_2 limit_3 (b_2 - a_1) ((b_2 - 1) - (r40.1 - a_1)) e52) fun oe56 =>
               lk oe56 (fun e56 =>
                 nx (e56.1,e56.2.1,limit_3,e56.2.2.1,e56.2.2.2.1,e56.2.2.2.2)) (fun r=>rt r)) (fun r=>rt r)
       else
         bif wasBalanced_10 then
           bif wasPartitioned_11 then
             bnd (qj rec a_1 b_2 limit_3 wasBalanced_10 wasPartitioned_11 (b_2 - a_1) r40.1 (decide (r40.2=1)) data_0) fun oe57 =>
             lk oe57 (fun e57 =>
               bif decide ((0:Int) < a_1) then
                 ckB (inR .i64 (a_1 - 1)) <|
                 ckB (ix (a_1 - 1) e57.length) <|
                 ckB (ix (a_1 - 1) e57.length) <|
                 ckB (ix r40.1 e57.length) <|
                 ckB (ix r40.1 e57.length) <|
                 bnd (qf (e57.getD (Int.toNat (a_1 - 1)) []) (e57.getD (Int.toNat r40.1) [])) fun r58 =>
                 bif (!(decide (r58 < 0))) then
                   bnd (qh a_1 b_2 r40.1 e57) fun r59 =>
                   ckB (decide (r59.2.length=e57.length)) <|
                   nx (r59.1,b_2,limit_3,wasBalanced_10,wasPartitioned_11,r59.2)
                 else
                   bnd (qd rec a_1 b_2 limit_3 (b_2 - a_1) r40.1 e57) fun oe60 =>
                   lk oe60 (fun e60 =>
                     nx (e60.1,e60.2.1,limit_3,e60.2.2.1,e60.2.2.2.1,e60.2.2.2.2)) (fun r=>rt r)
               else
                 bnd (qd rec a_1 b_2 limit_3 (b_2 - a_1) r40.1 e57) fun oe61 =>
                 lk oe61 (fun e61 =>
                   nx (e61.1,e61.2.1,limit_3,e61.2.2.1,e61.2.2.2.1,e61.2.2.2.2)) (fun r=>rt r)) (fun r=>rt r)
           else
             bnd (qj rec a_1 b_2 limit_3 wasBalanced_10 wasPartitioned_11 (b_2 - a_1) r40.1 false data_0) fun oe62 =>
             lk oe62 (fun e62 =>
               bif decide ((0:Int) < a_1) then
                 ckB (inR .i64 (a_1 - 1)) <|
                 ckB (ix (a_1 - 1) e62.length) <|
                 ckB (ix (a_1 - 1) e62.length) <|
                 ckB (ix r40.1 e62.length) <|
                 ckB (ix r40.1 e62.length) <|
                 bnd (qf (e62.getD (Int.toNat (a_1 - 1)) []) (e62.getD (Int.toNat r40.1) [])) fun r63 =>
                 bif (!(decide (r63 < 0))) then
                   bnd (qh a_1 b_2 r40.1 e62) fun r64 =>
                   ckB (decide (r64.2.length=e62.length)) <|
                   nx (r64.1,b_2,limit_3,wasBalanced_10,wasPartitioned_11,r64.2)
                 else
                   bnd (qd rec a_1 b_2 limit_3 (b_2 - a_1) r40.1 e62) fun oe65 =>
                   lk oe65 (fun e65 =>
                     nx (e65.1,e65.2.1,limit_3,e65.2.2.1,e65.2.2.2.1,e65.2.2.2.2)) (fun r=>rt r)
               else
                 bnd (qd rec a_1 b_2 limit_3 (b_2 - a_1) r40.1 e62) fun oe66 =>
                 lk oe66 (fun e66 =>
                   nx (e66.1,e66.2.1,limit_3,e66.2.2.1,e66.2.2.2.1,e66.2.2.2.2)) (fun r=>rt r)) (fun r=>rt r)
         else
           bnd (qj rec a_1 b_2 limit_3 wasBalanced_10 wasPartitioned_11 (b_2 - a_1) r40.1 false data_0) fun oe67 =>
           lk oe67 (fun e67 =>
             bif decide ((0:Int) < a_1) then
               ckB (inR .i64 (a_1 - 1)) <|
               ckB (ix (a_1 - 1) e67.length) <|
               ckB (ix (a_1 - 1) e67.length) <|
               ckB (ix r40.1 e67.length) <|
               ckB (ix r40.1 e67.length) <|
               bnd (qf (e67.getD (Int.toNat (a_1 - 1)) []) (e67.getD (Int.toNat r40.1) [])) fun r68 =>
               bif (!(decide (r68 < 0))) then
                 bnd (qh a_1 b_2 r40.1 e67) fun r69 =>
                 ckB (decide (r69.2.length=e67.length)) <|
                 nx (r69.1,b_2,limit_3,wasBalanced_10,wasPartitioned_11,r69.2)
               else
                 bnd (qd rec a_1 b_2 limit_3 (b_2 - a_1) r40.1 e67) fun oe70 =>
                 lk oe70 (fun e70 =>
                   nx (e70.1,e70.2.1,limit_3,e70.2.2.1,e70.2.2.2.1,e70.2.2.2.2)) (fun r=>rt r)
             else
               bnd (qd rec a_1 b_2 limit_3 (b_2 - a_1) r40.1 e67) fun oe71 =>
               lk oe71 (fun e71 =>
                 nx (e71.1,e71.2.1,limit_3,e71.2.2.1,e71.2.2.2.1,e71.2.2.2.2)) (fun r=>rt r)) (fun r=>rt r)
def q9b (rec:((Unit×Int×Int×Int×(Unit)×Unit)×(qL2×Unit))→Option qL2)  (s0:(Int×Int×Int×Bool×Bool×qL2)):Option (Unit⊕qL2) :=
 loopM (fun a=>q2t rec  a.1 a.2.1 a.2.2.1 a.2.2.2.1 a.2.2.2.2.1 a.2.2.2.2.2 (fun a'=>some (.next a')) (fun e=>some (.done e)) (fun r=>some (.ret r))) s0
def q8t:Shp:=⟨[(0,.own 0),(1,.d true qT0),(2,.d true qT0),(3,.d true qT0),(4,.fn 64 .nil),(10,.d true .bool),(11,.d true .bool)],[.arr 25 (.fz true) [3] qT1]⟩
def q8z:Shp:=⟨[],[]⟩
def q1n (rec:((Unit×Int×Int×Int×(Unit)×Unit)×(qL2×Unit))→Option qL2) (a_1:Int) (b_2:Int) (limit_3:Int) (data_0:qL2):Option qL2 :=
 bnd (q9b rec  (a_1,b_2,limit_3,true,true,data_0)) fun oe72 =>
 lk oe72 (fun e72 =>
   none) (fun r=>some r)
def q9y (a:((Unit×Int×Int×Int×(Unit)×Unit)×(qL2×Unit))):Option qL2 :=
 recM (fun (rec:((Unit×Int×Int×Int×(Unit)×Unit)×(qL2×Unit))→Option qL2) (a:((Unit×Int×Int×Int×(Unit)×Unit)×(qL2×Unit)))=>q1n rec a.1.2.1 a.1.2.2.1 a.1.2.2.2.1 a.2.1) many a
def q6g (a_1:Int) (b_2:Int) (limit_3:Int) (data_0:qL2):Option qL2 :=
 q9y (((),a_1,b_2,limit_3,(()),()),(data_0,()))
def q4g (x_0:qL2):Option qL2 :=
 bnd (ql1 (IntKind.wrap .u64 (x_0.length:Int))) fun r1 =>
 bnd (q6g 0 (x_0.length:Int) r1 x_0) fun r2 =>
 ckB (decide (r2.length=x_0.length)) <|
 some r2
def qhk (k_0:Int):Option Bool :=
 some (decide ((1048576:Int) < k_0))
def q35 {R:Type} (s_0:qL1) (v_7:Int) (v_8:Int) (nx:Int→Option R) (dn:Unit→Option R) (rt:Int→Option R):Option R :=
 bif decide (v_8 < v_7) then
   ckB (ix v_8 s_0.length) <|
   ckB (ix v_8 s_0.length) <|
   bnd (qhk (s_0.getD (Int.toNat v_8) 0)) fun r1 =>
   bif r1 then
     rt v_8
   else
     ckB (inR .i64 (v_8+1)) <|
     nx (v_8+1)
 else
   dn ()
def qa1 (s_0:qL1) (v_7:Int) (s0:Int):Option (Unit⊕Int) :=
 loopM (fun a=>q35 s_0 v_7 a (fun a'=>some (.next a')) (fun e=>some (.done e)) (fun r=>some (.ret r))) s0
def q9j:Shp:=⟨[(0,.d false qT1),(1,.fn 79 .nil),(7,.d true qT0),(8,.d true qT0)],[]⟩
def q9a:Shp:=⟨[],[]⟩
def q6v (s_0:qL1):Option Int :=
 bnd (qa1 s_0 (s_0.length:Int) 0) fun oe2 =>
 lk oe2 (fun e2 =>
   some (-1)) (fun r=>some r)
def q34 (s_0:qL1):Option Bool :=
 bnd (q6v s_0) fun r1 =>
 some (decide ((0:Int)≤r1))
def qc0 {R:Type} (matrix_0:qL2) (v_14:qL2) (v_15:Int) (v_16:Int) (r_40:qL2) (r_41:qL2) (nx:(Int×qL2×qL2)→Option R) (dn:(qL2×qL2)→Option R) (rt:(qL2×Int)→Option R):Option R :=
 bif decide (v_16 < v_15) then
   ckB (ix v_16 v_14.length) <|
   ckB (ix v_16 v_14.length) <|
   ckB (mkOk (matrix_0.length:Int) (matrix_0.length:Int) 8) <|
   ckB (ix v_16 (List.replicate (Int.toNat (matrix_0.length:Int)) (0:Int)).length) <|
   ckB (ix v_16 (List.replicate (Int.toNat (matrix_0.length:Int)) (0:Int)).length) <|
   bnd (q20 (v_14.getD (Int.toNat v_16) [])) fun r1 =>
   ckB (room (r_40.length+1) 24) <|
   ckB (room (r_41.length+1) 24) <|
   ckB (inR .i64 (v_16+1)) <|
   nx ((v_16+1),(r_40++[r1]),(r_41++[((List.replicate (Int.toNat (matrix_0.length:Int)) (0:Int)).set (Int.toNat v_16) 1)]))
 else
   dn (r_40,r_41)
def qny (matrix_0:qL2) (v_14:qL2) (v_15:Int) (s0:(Int×qL2×qL2)):Option ((qL2×qL2)⊕(qL2×Int)) :=
 loopM (fun a=>qc0 matrix_0 v_14 v_15 a.1 a.2.1 a.2.2 (fun a'=>some (.next a')) (fun e=>some (.done e)) (fun r=>some (.ret r))) s0
def qmh:Shp:=⟨[(0,.d false qT2),(4,.ptr 0),(14,.d false qT2),(15,.d true qT0),(16,.d true qT0)],[.cs 95 2 1 (.cons (.own 1) (.cons (.own 2) .nil)),.arr 25 (.fz true) [3] qT1,.arr 25 (.fz true) [3] qT1]⟩
def qme:Shp:=⟨[(0,.d false qT2),(4,.ptr 0)],[.cs 95 2 1 (.cons (.own 1) (.cons (.own 2) .nil)),.arr 25 (.fz true) [3] qT1,.arr 25 (.fz true) [3] qT1]⟩
def qbx {R:Type} (v_55:Int) (v_56:Int) (r_40:qL2) (r_41:qL2) (nx:(Int×qL2×qL2)→Option R) (dn:(qL2×qL2)→Option R) (rt:(qL2×Int)→Option R):Option R :=
 bif decide (v_56 < v_55) then
   bnd (q8r v_56 r_40 r_41) fun r3 =>
   bif (!r3.1) then
     rt ([],5)
   else
     ckB (inR .i64 (v_56+1)) <|
     nx ((v_56+1),r3.2.1,r3.2.2)
 else
   dn (r_40,r_41)
def qnw (v_55:Int) (s0:(Int×qL2×qL2)):Option ((qL2×qL2)⊕(qL2×Int)) :=
 loopM (fun a=>qbx v_55 a.1 a.2.1 a.2.2 (fun a'=>some (.next a')) (fun e=>some (.done e)) (fun r=>some (.ret r))) s0
def qmo:Shp:=⟨[(4,.ptr 0),(55,.d true qT0),(56,.d true qT0)],[.cs 95 2 1 (.cons (.own 1) (.cons (.own 2) .nil)),.arr 25 (.fz true) [3] qT1,.arr 25 (.fz true) [3] qT1]⟩
def qm5:Shp:=⟨[(4,.ptr 0)],[.cs 95 2 1 (.cons (.own 1) (.cons (.own 2) .nil)),.arr 25 (.fz true) [3] qT1,.arr 25 (.fz true) [3] qT1]⟩
def qc2 {R:Type} (out_9:qL2) (v_73:qL2) (v_74:Int) (v_75:Int) (nx:Int→Option R) (dn:Unit→Option R) (rt:(qL2×Int)→Option R):Option R :=
 bif decide (v_75 < v_74) then
   ckB (ix v_75 v_73.length) <|
   ckB (ix v_75 v_73.length) <|
   bnd (q34 (v_73.getD (Int.toNat v_75) [])) fun r6 =>
   bif r6 then
     rt ([],6)
   else
     ckB (inR .i64 (v_75+1)) <|
     nx (v_75+1)
 else
   dn ()
def qo4 (out_9:qL2) (v_73:qL2) (v_74:Int) (s0:Int):Option (Unit⊕(qL2×Int)) :=
 loopM (fun a=>qc2 out_9 v_73 v_74 a (fun a'=>some (.next a')) (fun e=>some (.done e)) (fun r=>some (.ret r))) s0
def qm3:Shp:=⟨[(9,.d true qT2),(73,.d true qT2),(74,.d true qT0),(75,.d true qT0)],[]⟩
def qmc:Shp:=⟨[(9,.d true qT2)],[]⟩
def qgw {R:Type} (r_40:qL2) (r_41:qL2) (dn:Unit→Option R) (rt:(qL2×Int)→Option R):Option R :=
 bnd (q4g r_41) fun r5 =>
 ckB (decide (r5.length=r_41.length)) <|
 bif decide ((1000:Int) < (r5.length:Int)) then
   rt ([],5)
 else
   bnd (qo4 r5 r5 (r5.length:Int) 0) fun oe7 =>
   lk oe7 (fun e7 =>
     rt (r5,0)) (fun r=>rt r)
def qaw (r_40:qL2) (r_41:qL2):Option (Unit⊕(qL2×Int)) :=
 qgw r_40 r_41 (fun e=>some (.inl e)) (fun r=>some (.inr r))
def qm1:Shp:=⟨[(4,.ptr 0)],[.cs 95 2 1 (.cons (.d true qT2) (.cons (.own 1) .nil)),.arr 25 (.fz true) [3] qT1]⟩
def qm7:Shp:=⟨[],[]⟩
def qb0 (matrix_0:qL2):Option (qL2×Int) :=
 bnd (qny matrix_0 matrix_0 (matrix_0.length:Int) (0,[],[])) fun oe2 =>
 lk oe2 (fun e2 =>
   bif decide ((0:Int) < (matrix_0.length:Int)) then
     ckB (ix 0 matrix_0.length) <|
     ckB (ix 0 matrix_0.length) <|
     bnd (qnw ((matrix_0.getD 0 []).length:Int) (0,e2.1,e2.2)) fun oe4 =>
     lk oe4 (fun e4 =>
       bnd (qaw e4.1 e4.2) fun oe8 =>
       lk oe8 (fun e8 =>
         none) (fun r=>some r)) (fun r=>some r)
   else
     bnd (qaw e2.1 e2.2) fun oe9 =>
     lk oe9 (fun e9 =>
       none) (fun r=>some r)) (fun r=>some r)
def qd9 {R:Type} (p_5:Int) (v_15:Int) (v_16:Int) (v_21:(List Trans)) (v_22:Int) (n_10:Int) (n_11:(List Trans)) (n_12:Int) (n_13:Int) (matrix_4:qL2) (v_23:Int) (row_6:qL1) (nx:(Int×qL1)→Option R) (dn:qL1→Option R) (rt:(qL2×Int)→Option R):Option R :=
 bif decide (v_23 < v_22) then
   ckB (ix v_23 v_21.length) <|
   ckB (ix v_23 v_21.length) <|
   bnd (q82 (v_21.getD (Int.toNat v_23) Trans.z) p_5) fun r3 =>
   ckB (room (row_6.length+1) 8) <|
   ckB (inR .i64 (v_23+1)) <|
   nx ((v_23+1),(row_6++[r3]))
 else
   dn row_6
def qqm (p_5:Int) (v_15:Int) (v_16:Int) (v_21:(List Trans)) (v_22:Int) (n_10:Int) (n_11:(List Trans)) (n_12:Int) (n_13:Int) (matrix_4:qL2) (s0:(Int×qL1)):Option (qL1⊕(qL2×Int)) :=
 loopM (fun a=>qd9 p_5 v_15 v_16 v_21 v_22 n_10 n_11 n_12 n_13 matrix_4 a.1 a.2 (fun a'=>some (.next a')) (fun e=>some (.done e)) (fun r=>some (.ret r))) s0
def qnl:Shp:=⟨[(1,.ptr 0),(4,.nl false (.own 1)),(5,.d true qT0),(6,.own 2),(15,.d true qT0),(16,.d true qT0),(21,.d false (.slice Trans.ty)),(22,.d true qT0),(23,.d true qT0)],[.cs 24 4 1 (.cons (.d true qT0) (.cons (.d false (.slice Trans.ty)) (.cons (.d true qT0) (.cons (.d true qT0) .nil)))),.arr 25 (.fz true) [3] qT1,.arr 3 (.fz true) [0] qT0]⟩
def qo7:Shp:=⟨[(1,.ptr 0),(4,.nl false (.own 1)),(6,.own 2),(15,.d true qT0),(16,.d true qT0)],[.cs 24 4 1 (.cons (.d true qT0) (.cons (.d false (.slice Trans.ty)) (.cons (.d true qT0) (.cons (.d true qT0) .nil)))),.arr 25 (.fz true) [3] qT1,.arr 3 (.fz true) [0] qT0]⟩
def qd3 {R:Type} (v_15:Int) (n_10:Int) (n_11:(List Trans)) (n_12:Int) (n_13:Int) (v_16:Int) (matrix_4:qL2) (nx:(Int×qL2)→Option R) (dn:qL2→Option R) (rt:(qL2×Int)→Option R):Option R :=
 bif decide (v_16 < v_15) then
   bnd (qqm v_16 v_15 v_16 n_11 (n_11.length:Int) n_10 n_11 n_12 n_13 matrix_4 (0,[])) fun oe4 =>
   lk oe4 (fun e4 =>
     ckB (room (matrix_4.length+1) 24) <|
     ckB (inR .i64 (v_16+1)) <|
     nx ((v_16+1),(matrix_4++[e4]))) (fun r=>rt r)
 else
   dn matrix_4
def qqn (v_15:Int) (n_10:Int) (n_11:(List Trans)) (n_12:Int) (n_13:Int) (s0:(Int×qL2)):Option (qL2⊕(qL2×Int)) :=
 loopM (fun a=>qd3 v_15 n_10 n_11 n_12 n_13 a.1 a.2 (fun a'=>some (.next a')) (fun e=>some (.done e)) (fun r=>some (.ret r))) s0
def qo9:Shp:=⟨[(1,.ptr 0),(4,.nl false (.own 1)),(15,.d true qT0),(16,.d true qT0)],[.cs 24 4 1 (.cons (.d true qT0) (.cons (.d false (.slice Trans.ty)) (.cons (.d true qT0) (.cons (.d true qT0) .nil)))),.arr 25 (.fz true) [3] qT1]⟩
def qnz:Shp:=⟨[(4,.nl false (.own 0))],[.arr 25 (.fz true) [3] qT1]⟩
def qtd (n_00:Int) (n_01:(List Trans)) (n_02:Int) (n_03:Int):Option (qL2×Int) :=
 bnd (q85 (n_00,n_01,n_02,n_03,())) fun r1 =>
 bif (!r1) then
   some ([],1)
 else
   bnd (qd5 (n_00,n_01,n_02,n_03,())) fun r2 =>
   bif r2 then
     some ([],5)
   else
     bnd (qqn n_00 n_00 n_01 n_02 n_03 (0,[])) fun oe5 =>
     lk oe5 (fun e5 =>
       bnd (qb0 e5) fun r6 =>
       some (r6.1,r6.2)) (fun r=>some r)
def qhe {R:Type} (v_15:(List Trans)) (v_16:Int) (v_17:Int) (v_23:Int) (n_10:Int) (n_11:(List Trans)) (n_12:Int) (n_13:Int) (matrix_4:qL2) (t_60:ByteArray) (t_61:qL1) (t_62:qL1) (v_24:Int) (row_7:qL1) (nx:(Int×qL1)→Option R) (dn:qL1→Option R) (rt:(qL2×Int)→Option R):Option R :=
 bif decide (v_24 < v_23) then
   bnd (q82 (t_60,t_61,t_62,()) v_24) fun r3 =>
   ckB (room (row_7.length+1) 8) <|
   ckB (inR .i64 (v_24+1)) <|
   nx ((v_24+1),(row_7++[r3]))
 else
   dn row_7
def qrh (v_15:(List Trans)) (v_16:Int) (v_17:Int) (v_23:Int) (n_10:Int) (n_11:(List Trans)) (n_12:Int) (n_13:Int) (matrix_4:qL2) (t_60:ByteArray) (t_61:qL1) (t_62:qL1) (s0:(Int×qL1)):Option (qL1⊕(qL2×Int)) :=
 loopM (fun a=>qhe v_15 v_16 v_17 v_23 n_10 n_11 n_12 n_13 matrix_4 t_60 t_61 t_62 a.1 a.2 (fun a'=>some (.next a')) (fun e=>some (.done e)) (fun r=>some (.ret r))) s0
def qhd:Shp:=⟨[(1,.ptr 0),(4,.nl false (.own 1)),(6,.ptr 2),(7,.own 3),(15,.d false (.slice Trans.ty)),(16,.d true qT0),(17,.d true qT0),(23,.d true qT0),(24,.d true qT0)],[.cs 24 4 1 (.cons (.d true qT0) (.cons (.d false (.slice Trans.ty)) (.cons (.d true qT0) (.cons (.d true qT0) .nil)))),.arr 25 (.fz true) [3] qT1,.cs 68 3 1 (.cons (.d true .str) (.cons (.d false qT1) (.cons (.d false qT1) .nil))),.arr 3 (.fz true) [0] qT0]⟩
def qh7:Shp:=⟨[(1,.ptr 0),(4,.nl false (.own 1)),(7,.own 2),(15,.d false (.slice Trans.ty)),(16,.d true qT0),(17,.d true qT0)],[.cs 24 4 1 (.cons (.d true qT0) (.cons (.d false (.slice Trans.ty)) (.cons (.d true qT0) (.cons (.d true qT0) .nil)))),.arr 25 (.fz true) [3] qT1,.arr 3 (.fz true) [0] qT0]⟩
def qh9 {R:Type} (v_15:(List Trans)) (v_16:Int) (n_10:Int) (n_11:(List Trans)) (n_12:Int) (n_13:Int) (v_17:Int) (matrix_4:qL2) (nx:(Int×qL2)→Option R) (dn:qL2→Option R) (rt:(qL2×Int)→Option R):Option R :=
 bif decide (v_17 < v_16) then
   ckB (ix v_17 v_15.length) <|
   ckB (ix v_17 v_15.length) <|
   bnd (qrh v_15 v_16 v_17 n_10 n_10 n_11 n_12 n_13 matrix_4 (v_15.getD (Int.toNat v_17) Trans.z).1 (v_15.getD (Int.toNat v_17) Trans.z).2.1 (v_15.getD (Int.toNat v_17) Trans.z).2.2.1 (0,[])) fun oe4 =>
   lk oe4 (fun e4 =>
     ckB (room (matrix_4.length+1) 24) <|
     ckB (inR .i64 (v_17+1)) <|
     nx ((v_17+1),(matrix_4++[e4]))) (fun r=>rt r)
 else
   dn matrix_4
def qs3 (v_15:(List Trans)) (v_16:Int) (n_10:Int) (n_11:(List Trans)) (n_12:Int) (n_13:Int) (s0:(Int×qL2)):Option (qL2⊕(qL2×Int)) :=
 loopM (fun a=>qh9 v_15 v_16 n_10 n_11 n_12 n_13 a.1 a.2 (fun a'=>some (.next a')) (fun e=>some (.done e)) (fun r=>some (.ret r))) s0
def qhc:Shp:=⟨[(1,.ptr 0),(4,.nl false (.own 1)),(15,.d false (.slice Trans.ty)),(16,.d true qT0),(17,.d true qT0)],[.cs 24 4 1 (.cons (.d true qT0) (.cons (.d false (.slice Trans.ty)) (.cons (.d true qT0) (.cons (.d true qT0) .nil)))),.arr 25 (.fz true) [3] qT1]⟩
def qh8:Shp:=⟨[(4,.nl false (.own 0))],[.arr 25 (.fz true) [3] qT1]⟩
def qlf (n_00:Int) (n_01:(List Trans)) (n_02:Int) (n_03:Int):Option (qL2×Int) :=
 bnd (q85 (n_00,n_01,n_02,n_03,())) fun r1 =>
 bif (!r1) then
   some ([],1)
 else
   bnd (qd5 (n_00,n_01,n_02,n_03,())) fun r2 =>
   bif r2 then
     some ([],5)
   else
     bnd (qs3 n_01 (n_01.length:Int) n_00 n_01 n_02 n_03 (0,[])) fun oe5 =>
     lk oe5 (fun e5 =>
       bnd (qb0 e5) fun r6 =>
       some (r6.1,r6.2)) (fun r=>some r)
def qgi (k_0:Int):Option Bool :=
 bif decide (k_0 < 0) then
   some true
 else
   some (decide ((100:Int) < k_0))
def q31 {R:Type} (s_0:qL1) (v_7:Int) (v_8:Int) (nx:Int→Option R) (dn:Unit→Option R) (rt:Int→Option R):Option R :=
 bif decide (v_8 < v_7) then
   ckB (ix v_8 s_0.length) <|
   ckB (ix v_8 s_0.length) <|
   bnd (qgi (s_0.getD (Int.toNat v_8) 0)) fun r1 =>
   bif r1 then
     rt v_8
   else
     ckB (inR .i64 (v_8+1)) <|
     nx (v_8+1)
 else
   dn ()
def q9z (s_0:qL1) (v_7:Int) (s0:Int):Option (Unit⊕Int) :=
 loopM (fun a=>q31 s_0 v_7 a (fun a'=>some (.next a')) (fun e=>some (.done e)) (fun r=>some (.ret r))) s0
def q99:Shp:=⟨[(0,.d false qT1),(1,.fn 89 .nil),(7,.d true qT0),(8,.d true qT0)],[]⟩
def q9d:Shp:=⟨[],[]⟩
def q78 (s_0:qL1):Option Int :=
 bnd (q9z s_0 (s_0.length:Int) 0) fun oe2 =>
 lk oe2 (fun e2 =>
   some (-1)) (fun r=>some r)
def q30 (s_0:qL1):Option Bool :=
 bnd (q78 s_0) fun r1 =>
 some (decide ((0:Int)≤r1))
def qbk (n_0:Net) (m_1:qL1):Option Bool :=
 bnd (q85 n_0) fun r1 =>
 bif r1 then
   bif decide ((m_1.length:Int)=n_0.1) then
     bnd (q30 m_1) fun r2 =>
     some (!r2)
   else
     some false
 else
   some false
def qgy (p_0:Int) (p_1:qL1):Option Bool :=
 ckB (ix 0 1) <|
 ckB (ix p_0 p_1.length) <|
 ckB (ix p_0 p_1.length) <|
 some (decide ((p_1.getD (Int.toNat p_0) 0)=0))
def q33 {R:Type} (s_0:qL1) (f_1c0:qL1) (v_7:Int) (v_8:Int) (nx:Int→Option R) (dn:Unit→Option R) (rt:Int→Option R):Option R :=
 bif decide (v_8 < v_7) then
   ckB (ix v_8 s_0.length) <|
   ckB (ix v_8 s_0.length) <|
   bnd (qgy (s_0.getD (Int.toNat v_8) 0) f_1c0) fun r1 =>
   bif r1 then
     rt v_8
   else
     ckB (inR .i64 (v_8+1)) <|
     nx (v_8+1)
 else
   dn ()
def qa0 (s_0:qL1) (f_1c0:qL1) (v_7:Int) (s0:Int):Option (Unit⊕Int) :=
 loopM (fun a=>q33 s_0 f_1c0 v_7 a (fun a'=>some (.next a')) (fun e=>some (.done e)) (fun r=>some (.ret r))) s0
def q9g:Shp:=⟨[(0,.d false qT1),(1,.fn 90 (.cons (.rp false qT1) .nil)),(7,.d true qT0),(8,.d true qT0)],[]⟩
def q9m:Shp:=⟨[],[]⟩
def q77 (s_0:qL1) (f_1c0:qL1):Option Int :=
 bnd (qa0 s_0 f_1c0 (s_0.length:Int) 0) fun oe2 =>
 lk oe2 (fun e2 =>
   some (-1)) (fun r=>some r)
def q5e (s_0:qL1) (f_1c0:qL1):Option Bool :=
 bnd (q77 s_0 f_1c0) fun r1 =>
 some (decide ((0:Int)≤r1))
def qbj (t_0:Trans) (m_1:qL1):Option Bool :=
 bnd (q5e t_0.2.1 m_1) fun r1 =>
 some (!r1)
def q88 {R:Type} (m_1:qL1) (v_14:(List Trans)) (v_15:Int) (v_16:Int) (out_6:qL1) (nx:(Int×qL1)→Option R) (dn:qL1→Option R) (rt:(Int×qL1)→Option R):Option R :=
 bif decide (v_16 < v_15) then
   ckB (ix v_16 v_14.length) <|
   ckB (ix v_16 v_14.length) <|
   bnd (qbj (v_14.getD (Int.toNat v_16) Trans.z) m_1) fun r2 =>
   bif r2 then
     ckB (room (out_6.length+1) 8) <|
     ckB (inR .i64 (v_16+1)) <|
     nx ((v_16+1),(out_6++[v_16]))
   else
     ckB (inR .i64 (v_16+1)) <|
     nx ((v_16+1),out_6)
 else
   dn out_6
def qm0 (m_1:qL1) (v_14:(List Trans)) (v_15:Int) (s0:(Int×qL1)):Option (qL1⊕(Int×qL1)) :=
 loopM (fun a=>q88 m_1 v_14 v_15 a.1 a.2 (fun a'=>some (.next a')) (fun e=>some (.done e)) (fun r=>some (.ret r))) s0
def qlj:Shp:=⟨[(1,.d false qT1),(6,.nl false (.own 0)),(14,.d false (.slice Trans.ty)),(15,.d true qT0),(16,.d true qT0)],[.arr 3 (.fz true) [0] qT0]⟩
def qkj:Shp:=⟨[(6,.nl false (.own 0))],[.arr 3 (.fz true) [0] qT0]⟩
def q7l (n_0:Net) (m_1:qL1):Option (Int×qL1) :=
 bnd (qbk n_0 m_1) fun r1 =>
 bif (!r1) then
   some (1,[])
 else
   bnd (qm0 m_1 n_0.2.1 (n_0.2.1.length:Int) (0,[])) fun oe3 =>
   lk oe3 (fun e3 =>
     some (0,e3)) (fun r=>some r)
def q8k (n_0:Net) (m_1:qL1):Option Bool :=
 bnd (q7l n_0 m_1) fun r1 =>
 some (decide (r1.1=0))
def qmb {R:Type} (p_5:Int) (v_15:Int) (v_16:Int) (v_21:(List Trans)) (v_22:Int) (n_10:Int) (n_11:(List Trans)) (n_12:Int) (n_13:Int) (matrix_4:qL2) (v_23:Int) (row_6:qL1) (nx:(Int×qL1)→Option R) (dn:qL1→Option R) (rt:(qL2×Int)→Option R):Option R :=
 bif decide (v_23 < v_22) then
   ckB (ix v_23 v_21.length) <|
   ckB (ix v_23 v_21.length) <|
   bnd (q82 (v_21.getD (Int.toNat v_23) Trans.z) p_5) fun r3 =>
   ckB (room (row_6.length+1) 8) <|
   ckB (inR .i64 (v_23+1)) <|
   nx ((v_23+1),(row_6++[r3]))
 else
   dn row_6
def qw2 (p_5:Int) (v_15:Int) (v_16:Int) (v_21:(List Trans)) (v_22:Int) (n_10:Int) (n_11:(List Trans)) (n_12:Int) (n_13:Int) (matrix_4:qL2) (s0:(Int×qL1)):Option (qL1⊕(qL2×Int)) :=
 loopM (fun a=>qmb p_5 v_15 v_16 v_21 v_22 n_10 n_11 n_12 n_13 matrix_4 a.1 a.2 (fun a'=>some (.next a')) (fun e=>some (.done e)) (fun r=>some (.ret r))) s0
def qmp:Shp:=⟨[(1,.ptr 0),(4,.nl false (.own 1)),(5,.d true qT0),(6,.own 2),(15,.d true qT0),(16,.d true qT0),(21,.d false (.slice Trans.ty)),(22,.d true qT0),(23,.d true qT0)],[.cs 24 4 1 (.cons (.d true qT0) (.cons (.d false (.slice Trans.ty)) (.cons (.d true qT0) (.cons (.d true qT0) .nil)))),.arr 25 (.fz true) [3] qT1,.arr 3 (.fz true) [0] qT0]⟩
def qma:Shp:=⟨[(1,.ptr 0),(4,.nl false (.own 1)),(6,.own 2),(15,.d true qT0),(16,.d true qT0)],[.cs 24 4 1 (.cons (.d true qT0) (.cons (.d false (.slice Trans.ty)) (.cons (.d true qT0) (.cons (.d true qT0) .nil)))),.arr 25 (.fz true) [3] qT1,.arr 3 (.fz true) [0] qT0]⟩
def qm4 {R:Type} (v_15:Int) (n_10:Int) (n_11:(List Trans)) (n_12:Int) (n_13:Int) (v_16:Int) (matrix_4:qL2) (nx:(Int×qL2)→Option R) (dn:qL2→Option R) (rt:(qL2×Int)→Option R):Option R :=
 bif decide (v_16 < v_15) then
   bnd (qw2 v_16 v_15 v_16 n_11 (n_11.length:Int) n_10 n_11 n_12 n_13 matrix_4 (0,[])) fun oe4 =>
   lk oe4 (fun e4 =>
     ckB (room (matrix_4.length+1) 24) <|
     ckB (inR .i64 (v_16+1)) <|
     nx ((v_16+1),(matrix_4++[e4]))) (fun r=>rt r)
 else
   dn matrix_4
def qnq (v_15:Int) (n_10:Int) (n_11:(List Trans)) (n_12:Int) (n_13:Int) (s0:(Int×qL2)):Option (qL2⊕(qL2×Int)) :=
 loopM (fun a=>qm4 v_15 n_10 n_11 n_12 n_13 a.1 a.2 (fun a'=>some (.next a')) (fun e=>some (.done e)) (fun r=>some (.ret r))) s0
def qm2:Shp:=⟨[(1,.ptr 0),(4,.nl false (.own 1)),(15,.d true qT0),(16,.d true qT0)],[.cs 24 4 1 (.cons (.d true qT0) (.cons (.d false (.slice Trans.ty)) (.cons (.d true qT0) (.cons (.d true qT0) .nil)))),.arr 25 (.fz true) [3] qT1]⟩
def qlz:Shp:=⟨[(4,.nl false (.own 0))],[.arr 25 (.fz true) [3] qT1]⟩
def qar (n_0:Net):Option (qL2×Int) :=
 bnd (q85 n_0) fun r1 =>
 bif (!r1) then
   some ([],1)
 else
   bnd (qd5 n_0) fun r2 =>
   bif r2 then
     some ([],5)
   else
     bnd (qnq n_0.1 n_0.1 n_0.2.1 n_0.2.2.1 n_0.2.2.2.1 (0,[])) fun oe5 =>
     lk oe5 (fun e5 =>
       bnd (qb0 e5) fun r6 =>
       some (r6.1,r6.2)) (fun r=>some r)
def qi9 {R:Type} (a_0:qL1) (b_1:qL1) (v_8:Int) (s_5:Int) (v_9:Int) (nx:(Int×Int)→Option R) (dn:Int→Option R) (rt:Int→Option R):Option R :=
 bif decide (v_9 < v_8) then
   ckB (ix v_9 a_0.length) <|
   ckB (ix v_9 a_0.length) <|
   ckB (ix v_9 b_1.length) <|
   ckB (ix v_9 b_1.length) <|
   ckB (inR .i64 ((a_0.getD (Int.toNat v_9) 0)*(b_1.getD (Int.toNat v_9) 0))) <|
   ckB (inR .i64 (s_5+((a_0.getD (Int.toNat v_9) 0)*(b_1.getD (Int.toNat v_9) 0)))) <|
   ckB (inR .i64 (v_9+1)) <|
   nx ((s_5+((a_0.getD (Int.toNat v_9) 0)*(b_1.getD (Int.toNat v_9) 0))),(v_9+1))
 else
   dn s_5
def qv9 (a_0:qL1) (b_1:qL1) (v_8:Int) (s0:(Int×Int)):Option (Int⊕Int) :=
 loopM (fun a=>qi9 a_0 b_1 v_8 a.1 a.2 (fun a'=>some (.next a')) (fun e=>some (.done e)) (fun r=>some (.ret r))) s0
def qsv:Shp:=⟨[(0,.d false qT1),(1,.d false qT1),(5,.d true qT0),(8,.d true qT0),(9,.d true qT0)],[]⟩
def qti:Shp:=⟨[(5,.d true qT0)],[]⟩
def qi3 (a_0:qL1) (b_1:qL1):Option Int :=
 bnd (qv9 a_0 b_1 (a_0.length:Int) (0,0)) fun oe1 =>
 lk oe1 (fun e1 =>
   some e1) (fun r=>some r)
def qqb {R:Type} (m_1:qL1) (place_2:Int) (v_34:qL2) (v_35:Int) (best_10:Int) (v_36:Int) (nx:(Int×Int)→Option R) (dn:Int→Option R) (rt:(Int×Int)→Option R):Option R :=
 bif decide (v_36 < v_35) then
   ckB (ix v_36 v_34.length) <|
   ckB (ix v_36 v_34.length) <|
   ckB (ix place_2 (v_34.getD (Int.toNat v_36) []).length) <|
   ckB (ix place_2 (v_34.getD (Int.toNat v_36) []).length) <|
   bif decide (((v_34.getD (Int.toNat v_36) []).getD (Int.toNat place_2) 0)=0) then
     ckB (inR .i64 (v_36+1)) <|
     nx (best_10,(v_36+1))
   else
     bnd (qi3 (v_34.getD (Int.toNat v_36) []) m_1) fun r3 =>
     ckB (ix place_2 (v_34.getD (Int.toNat v_36) []).length) <|
     ckB (ix place_2 (v_34.getD (Int.toNat v_36) []).length) <|
     ckB (!decide (((v_34.getD (Int.toNat v_36) []).getD (Int.toNat place_2) 0)=0)) <|
     ckB (inR .i64 (Int.tdiv r3 ((v_34.getD (Int.toNat v_36) []).getD (Int.toNat place_2) 0))) <|
     bif decide (best_10 < 0) then
       ckB (inR .i64 (v_36+1)) <|
       nx ((Int.tdiv r3 ((v_34.getD (Int.toNat v_36) []).getD (Int.toNat place_2) 0)),(v_36+1))
     else
       bif decide ((Int.tdiv r3 ((v_34.getD (Int.toNat v_36) []).getD (Int.toNat place_2) 0)) < best_10) then
         ckB (inR .i64 (v_36+1)) <|
         nx ((Int.tdiv r3 ((v_34.getD (Int.toNat v_36) []).getD (Int.toNat place_2) 0)),(v_36+1))
       else
         ckB (inR .i64 (v_36+1)) <|
         nx (best_10,(v_36+1))
 else
   dn best_10
def qzf (m_1:qL1) (place_2:Int) (v_34:qL2) (v_35:Int) (s0:(Int×Int)):Option (Int⊕(Int×Int)) :=
 loopM (fun a=>qqb m_1 place_2 v_34 v_35 a.1 a.2 (fun a'=>some (.next a')) (fun e=>some (.done e)) (fun r=>some (.ret r))) s0
def qqr:Shp:=⟨[(1,.d false qT1),(2,.d true qT0),(10,.d true qT0),(34,.d true qT2),(35,.d true qT0),(36,.d true qT0)],[]⟩
def qq9:Shp:=⟨[(10,.d true qT0)],[]⟩
def quu (n_00:Int) (n_01:(List Trans)) (n_02:Int) (n_03:Int) (m_1:qL1) (place_2:Int):Option (Int×Int) :=
 bnd (q8k (n_00,n_01,n_02,n_03,()) m_1) fun r1 =>
 bif (!r1) then
   some (0,1)
 else
   bif decide (place_2 < 0) then
     some (0,2)
   else
     bif decide (n_00≤place_2) then
       some (0,2)
     else
       bnd (qar (n_00,n_01,n_02,n_03,())) fun r2 =>
       bif (!decide (r2.2=0)) then
         some (0,r2.2)
       else
         bnd (qzf m_1 place_2 r2.1 (r2.1.length:Int) ((-1),0)) fun oe4 =>
         lk oe4 (fun e4 =>
           bif decide (e4 < 0) then
             some (0,30)
           else
             some (e4,0)) (fun r=>some r)
def qqi {R:Type} (a_0:qL2) (b_1:qL2) (i_5:Int) (k_6:Int) (nx:Int→Option R) (dn:Unit→Option R) (rt:Bool→Option R):Option R :=
 ckB (ix i_5 a_0.length) <|
 ckB (ix i_5 a_0.length) <|
 bif decide (k_6 < ((a_0.getD (Int.toNat i_5) []).length:Int)) then
   ckB (ix i_5 a_0.length) <|
   ckB (ix i_5 a_0.length) <|
   ckB (ix k_6 (a_0.getD (Int.toNat i_5) []).length) <|
   ckB (ix k_6 (a_0.getD (Int.toNat i_5) []).length) <|
   ckB (ix i_5 b_1.length) <|
   ckB (ix i_5 b_1.length) <|
   ckB (ix k_6 (b_1.getD (Int.toNat i_5) []).length) <|
   ckB (ix k_6 (b_1.getD (Int.toNat i_5) []).length) <|
   bif (!decide (((a_0.getD (Int.toNat i_5) []).getD (Int.toNat k_6) 0)=((b_1.getD (Int.toNat i_5) []).getD (Int.toNat k_6) 0))) then
     rt false
   else
     ckB (inR .i64 (k_6+1)) <|
     nx (k_6+1)
 else
   dn ()
def qzr (a_0:qL2) (b_1:qL2) (i_5:Int) (s0:Int):Option (Unit⊕Bool) :=
 loopM (fun a=>qqi a_0 b_1 i_5 a (fun a'=>some (.next a')) (fun e=>some (.done e)) (fun r=>some (.ret r))) s0
def qq3:Shp:=⟨[(0,.d false qT2),(1,.d false qT2),(5,.d true qT0),(6,.d true qT0)],[]⟩
def qqj:Shp:=⟨[(0,.d false qT2),(1,.d false qT2),(5,.d true qT0)],[]⟩
def qq8 {R:Type} (a_0:qL2) (b_1:qL2) (i_5:Int) (nx:Int→Option R) (dn:Unit→Option R) (rt:Bool→Option R):Option R :=
 bif decide (i_5 < (a_0.length:Int)) then
   ckB (ix i_5 a_0.length) <|
   ckB (ix i_5 a_0.length) <|
   ckB (ix i_5 b_1.length) <|
   ckB (ix i_5 b_1.length) <|
   bif (!decide (((a_0.getD (Int.toNat i_5) []).length:Int)=((b_1.getD (Int.toNat i_5) []).length:Int))) then
     rt false
   else
     bnd (qzr a_0 b_1 i_5 0) fun oe1 =>
     lk oe1 (fun e1 =>
       ckB (inR .i64 (i_5+1)) <|
       nx (i_5+1)) (fun r=>rt r)
 else
   dn ()
def q104 (a_0:qL2) (b_1:qL2) (s0:Int):Option (Unit⊕Bool) :=
 loopM (fun a=>qq8 a_0 b_1 a (fun a'=>some (.next a')) (fun e=>some (.done e)) (fun r=>some (.ret r))) s0
def qqc:Shp:=⟨[(0,.d false qT2),(1,.d false qT2),(5,.d true qT0)],[]⟩
def qq2:Shp:=⟨[],[]⟩
def qp7 (a_0:qL2) (b_1:qL2):Option Bool :=
 bif (!decide ((a_0.length:Int)=(b_1.length:Int))) then
   some false
 else
   bnd (q104 a_0 b_1 0) fun oe2 =>
   lk oe2 (fun e2 =>
     some true) (fun r=>some r)
def qnj  : Option Bool :=
 bnd (qtd 3 [(⟨#[97]⟩,[0],[1,2],()),(⟨#[98]⟩,[1,2],[0],())] 0 2) fun r1 =>
 bnd (qlf 3 [(⟨#[97]⟩,[0],[1,2],()),(⟨#[98]⟩,[1,2],[0],())] 0 2) fun r2 =>
 bnd (quu 3 [(⟨#[97]⟩,[0],[1,2],()),(⟨#[98]⟩,[1,2],[0],())] 0 2 [1,0,0] 2) fun r3 =>
 bif decide (r1.2=0) then
   bnd (qp7 r1.1 [[1,0,1],[1,1,0]]) fun r4 =>
   bif r4 then
     bif decide (r2.2=0) then
       bnd (qp7 r2.1 [[1,1]]) fun r5 =>
       bif r5 then
         bif decide (r3.1=1) then
           some (decide (r3.2=0))
         else
           some false
       else
         some false
     else
       some false
   else
     some false
 else
   some false
def qi5 (t_0:Trans):Option Bool :=
 bif decide ((45:Int) < (t_0.2.1.length:Int)) then
   some true
 else
   bif decide ((45:Int) < (t_0.2.2.1.length:Int)) then
     some true
   else
     some (decide ((100:Int) < (ByteArray.size t_0.1:Int)))
def q1i {R:Type} (s_0:(List Trans)) (v_7:Int) (v_8:Int) (nx:Int→Option R) (dn:Unit→Option R) (rt:Int→Option R):Option R :=
 bif decide (v_8 < v_7) then
   ckB (ix v_8 s_0.length) <|
   ckB (ix v_8 s_0.length) <|
   bnd (qi5 (s_0.getD (Int.toNat v_8) Trans.z)) fun r1 =>
   bif r1 then
     rt v_8
   else
     ckB (inR .i64 (v_8+1)) <|
     nx (v_8+1)
 else
   dn ()
def q56 (s_0:(List Trans)) (v_7:Int) (s0:Int):Option (Unit⊕Int) :=
 loopM (fun a=>q1i s_0 v_7 a (fun a'=>some (.next a')) (fun e=>some (.done e)) (fun r=>some (.ret r))) s0
def q4w:Shp:=⟨[(0,.d false (.slice Trans.ty)),(1,.fn 39 .nil),(7,.d true qT0),(8,.d true qT0)],[]⟩
def q4t:Shp:=⟨[],[]⟩
def q2s (s_0:(List Trans)):Option Int :=
 bnd (q56 s_0 (s_0.length:Int) 0) fun oe2 =>
 lk oe2 (fun e2 =>
   some (-1)) (fun r=>some r)
def q1h (s_0:(List Trans)):Option Bool :=
 bnd (q2s s_0) fun r1 =>
 some (decide ((0:Int)≤r1))
def qlx (n_0:Net):Option Bool :=
 bnd (q1h n_0.2.1) fun r1 =>
 bif r1 then
   some false
 else
   bif decide ((100:Int) < (n_0.2.1.length:Int)) then
     some false
   else
     bif decide (n_0.1≤12) then
       bif decide ((n_0.2.1.length:Int)≤14) then
         some true
       else
         bif decide ((20:Int) < n_0.1) then
           some true
         else
           some (decide ((20:Int) < (n_0.2.1.length:Int)))
     else
       bif decide ((20:Int) < n_0.1) then
         some true
       else
         some (decide ((20:Int) < (n_0.2.1.length:Int)))
def q67 {R:Type} (m_1:qL1) (place_2:Int) (v_34:qL2) (v_35:Int) (best_10:Int) (v_36:Int) (nx:(Int×Int)→Option R) (dn:Int→Option R) (rt:(Int×Int)→Option R):Option R :=
 bif decide (v_36 < v_35) then
   ckB (ix v_36 v_34.length) <|
   ckB (ix v_36 v_34.length) <|
   ckB (ix place_2 (v_34.getD (Int.toNat v_36) []).length) <|
   ckB (ix place_2 (v_34.getD (Int.toNat v_36) []).length) <|
   bif decide (((v_34.getD (Int.toNat v_36) []).getD (Int.toNat place_2) 0)=0) then
     ckB (inR .i64 (v_36+1)) <|
     nx (best_10,(v_36+1))
   else
     bnd (qi3 (v_34.getD (Int.toNat v_36) []) m_1) fun r3 =>
     ckB (ix place_2 (v_34.getD (Int.toNat v_36) []).length) <|
     ckB (ix place_2 (v_34.getD (Int.toNat v_36) []).length) <|
     ckB (!decide (((v_34.getD (Int.toNat v_36) []).getD (Int.toNat place_2) 0)=0)) <|
     ckB (inR .i64 (Int.tdiv r3 ((v_34.getD (Int.toNat v_36) []).getD (Int.toNat place_2) 0))) <|
     bif decide (best_10 < 0) then
       ckB (inR .i64 (v_36+1)) <|
       nx ((Int.tdiv r3 ((v_34.getD (Int.toNat v_36) []).getD (Int.toNat place_2) 0)),(v_36+1))
     else
       bif decide ((Int.tdiv r3 ((v_34.getD (Int.toNat v_36) []).getD (Int.toNat place_2) 0)) < best_10) then
         ckB (inR .i64 (v_36+1)) <|
         nx ((Int.tdiv r3 ((v_34.getD (Int.toNat v_36) []).getD (Int.toNat place_2) 0)),(v_36+1))
       else
         ckB (inR .i64 (v_36+1)) <|
         nx (best_10,(v_36+1))
 else
   dn best_10
def qql (m_1:qL1) (place_2:Int) (v_34:qL2) (v_35:Int) (s0:(Int×Int)):Option (Int⊕(Int×Int)) :=
 loopM (fun a=>q67 m_1 place_2 v_34 v_35 a.1 a.2 (fun a'=>some (.next a')) (fun e=>some (.done e)) (fun r=>some (.ret r))) s0
def qo8:Shp:=⟨[(1,.d false qT1),(2,.d true qT0),(10,.d true qT0),(34,.d true qT2),(35,.d true qT0),(36,.d true qT0)],[]⟩
def qno:Shp:=⟨[(10,.d true qT0)],[]⟩
def qdy (n_0:Net) (m_1:qL1) (place_2:Int):Option (Int×Int) :=
 bnd (q8k n_0 m_1) fun r1 =>
 bif (!r1) then
   some (0,1)
 else
   bif decide (place_2 < 0) then
     some (0,2)
   else
     bif decide (n_0.1≤place_2) then
       some (0,2)
     else
       bnd (qar n_0) fun r2 =>
       bif (!decide (r2.2=0)) then
         some (0,r2.2)
       else
         bnd (qql m_1 place_2 r2.1 (r2.1.length:Int) ((-1),0)) fun oe4 =>
         lk oe4 (fun e4 =>
           bif decide (e4 < 0) then
             some (0,30)
           else
             some (e4,0)) (fun r=>some r)
def qhv (k_0:Int):Option Bool :=
 bif decide (k_0 < 0) then
   some true
 else
   some (decide ((1048576:Int) < k_0))
def q2x {R:Type} (s_0:qL1) (v_7:Int) (v_8:Int) (nx:Int→Option R) (dn:Unit→Option R) (rt:Int→Option R):Option R :=
 bif decide (v_8 < v_7) then
   ckB (ix v_8 s_0.length) <|
   ckB (ix v_8 s_0.length) <|
   bnd (qhv (s_0.getD (Int.toNat v_8) 0)) fun r1 =>
   bif r1 then
     rt v_8
   else
     ckB (inR .i64 (v_8+1)) <|
     nx (v_8+1)
 else
   dn ()
def qa3 (s_0:qL1) (v_7:Int) (s0:Int):Option (Unit⊕Int) :=
 loopM (fun a=>q2x s_0 v_7 a (fun a'=>some (.next a')) (fun e=>some (.done e)) (fun r=>some (.ret r))) s0
def q9f:Shp:=⟨[(0,.d false qT1),(1,.fn 84 .nil),(7,.d true qT0),(8,.d true qT0)],[]⟩
def q9k:Shp:=⟨[],[]⟩
def q6u (s_0:qL1):Option Int :=
 bnd (qa3 s_0 (s_0.length:Int) 0) fun oe2 =>
 lk oe2 (fun e2 =>
   some (-1)) (fun r=>some r)
def q37 (s_0:qL1):Option Bool :=
 bnd (q6u s_0) fun r1 =>
 some (decide ((0:Int)≤r1))
def qb2 (l_0:qL1) (n_1:Int):Option Bool :=
 bif decide ((l_0.length:Int)=n_1) then
   bnd (q37 l_0) fun r1 =>
   some (!r1)
 else
   some false
def qn2 (k_0:Int):Option Bool :=
 some (!decide (k_0=0))
def q36 {R:Type} (s_0:qL1) (v_7:Int) (v_8:Int) (nx:Int→Option R) (dn:Unit→Option R) (rt:Int→Option R):Option R :=
 bif decide (v_8 < v_7) then
   ckB (ix v_8 s_0.length) <|
   ckB (ix v_8 s_0.length) <|
   bnd (qn2 (s_0.getD (Int.toNat v_8) 0)) fun r1 =>
   bif r1 then
     rt v_8
   else
     ckB (inR .i64 (v_8+1)) <|
     nx (v_8+1)
 else
   dn ()
def qa2 (s_0:qL1) (v_7:Int) (s0:Int):Option (Unit⊕Int) :=
 loopM (fun a=>q36 s_0 v_7 a (fun a'=>some (.next a')) (fun e=>some (.done e)) (fun r=>some (.ret r))) s0
def q97:Shp:=⟨[(0,.d false qT1),(1,.fn 85 .nil),(7,.d true qT0),(8,.d true qT0)],[]⟩
def q9e:Shp:=⟨[],[]⟩
def q6z (s_0:qL1):Option Int :=
 bnd (qa2 s_0 (s_0.length:Int) 0) fun oe2 =>
 lk oe2 (fun e2 =>
   some (-1)) (fun r=>some r)
def q57 (s_0:qL1):Option Bool :=
 bnd (q6z s_0) fun r1 =>
 some (decide ((0:Int)≤r1))
def qil (l_0:qL1):Option Bool :=
 bnd (q57 l_0) fun r1 =>
 some r1
def qd2 {R:Type} (x_1:qL1) (i_6:Int) (v_13:(List Trans)) (v_14:Int) (v_15:Int) (v_21:Int) (t_70:ByteArray) (t_71:qL1) (t_72:qL1) (v_22:Int) (out_5:qL1) (nx:(Int×qL1)→Option R) (dn:qL1→Option R) (rt:qL1→Option R):Option R :=
 bif decide (v_22 < v_21) then
   ckB (ix v_22 out_5.length) <|
   ckB (ix v_22 out_5.length) <|
   ckB (ix i_6 x_1.length) <|
   ckB (ix i_6 x_1.length) <|
   bnd (q82 (t_70,t_71,t_72,()) v_22) fun r1 =>
   ckB (inR .i64 ((x_1.getD (Int.toNat i_6) 0)*r1)) <|
   ckB (inR .i64 ((out_5.getD (Int.toNat v_22) 0)+((x_1.getD (Int.toNat i_6) 0)*r1))) <|
   ckB (ix v_22 out_5.length) <|
   ckB (ix v_22 out_5.length) <|
   ckB (inR .i64 (v_22+1)) <|
   nx ((v_22+1),(out_5.set (Int.toNat v_22) ((out_5.getD (Int.toNat v_22) 0)+((x_1.getD (Int.toNat i_6) 0)*r1))))
 else
   dn out_5
def qqg (x_1:qL1) (i_6:Int) (v_13:(List Trans)) (v_14:Int) (v_15:Int) (v_21:Int) (t_70:ByteArray) (t_71:qL1) (t_72:qL1) (s0:(Int×qL1)):Option (qL1⊕qL1) :=
 loopM (fun a=>qd2 x_1 i_6 v_13 v_14 v_15 v_21 t_70 t_71 t_72 a.1 a.2 (fun a'=>some (.next a')) (fun e=>some (.done e)) (fun r=>some (.ret r))) s0
def qok:Shp:=⟨[(1,.d false qT1),(5,.own 0),(6,.d true qT0),(7,.ptr 1),(13,.d false (.slice Trans.ty)),(14,.d true qT0),(15,.d true qT0),(21,.d true qT0),(22,.d true qT0)],[.arr 3 (.fz true) [0] qT0,.cs 68 3 1 (.cons (.d true .str) (.cons (.d false qT1) (.cons (.d false qT1) .nil)))]⟩
def qod:Shp:=⟨[(1,.d false qT1),(5,.own 0),(13,.d false (.slice Trans.ty)),(14,.d true qT0),(15,.d true qT0)],[.arr 3 (.fz true) [0] qT0]⟩
def qda {R:Type} (x_1:qL1) (v_13:(List Trans)) (v_14:Int) (v_15:Int) (out_5:qL1) (nx:(Int×qL1)→Option R) (dn:qL1→Option R) (rt:qL1→Option R):Option R :=
 bif decide (v_15 < v_14) then
   ckB (ix v_15 v_13.length) <|
   ckB (ix v_15 v_13.length) <|
   bnd (qqg x_1 v_15 v_13 v_14 v_15 (out_5.length:Int) (v_13.getD (Int.toNat v_15) Trans.z).1 (v_13.getD (Int.toNat v_15) Trans.z).2.1 (v_13.getD (Int.toNat v_15) Trans.z).2.2.1 (0,out_5)) fun oe2 =>
   lk oe2 (fun e2 =>
     ckB (inR .i64 (v_15+1)) <|
     nx ((v_15+1),e2)) (fun r=>rt r)
 else
   dn out_5
def qq6 (x_1:qL1) (v_13:(List Trans)) (v_14:Int) (s0:(Int×qL1)):Option (qL1⊕qL1) :=
 loopM (fun a=>qda x_1 v_13 v_14 a.1 a.2 (fun a'=>some (.next a')) (fun e=>some (.done e)) (fun r=>some (.ret r))) s0
def qnp:Shp:=⟨[(1,.d false qT1),(5,.own 0),(13,.d false (.slice Trans.ty)),(14,.d true qT0),(15,.d true qT0)],[.arr 3 (.fz true) [0] qT0]⟩
def qof:Shp:=⟨[(5,.own 0)],[.arr 3 (.fz true) [0] qT0]⟩
def qee (n_0:Net) (x_1:qL1):Option qL1 :=
 ckB (mkOk n_0.1 n_0.1 8) <|
 bnd (qq6 x_1 n_0.2.1 (n_0.2.1.length:Int) (0,(List.replicate (Int.toNat n_0.1) (0:Int)))) fun oe3 =>
 lk oe3 (fun e3 =>
   some e3) (fun r=>some r)
def q6t (n_0:Net) (x_1:qL1):Option (Bool×Int) :=
 bnd (q85 n_0) fun r1 =>
 bif (!r1) then
   some (false,1)
 else
   bnd (qb2 x_1 (n_0.2.1.length:Int)) fun r2 =>
   bif (!r2) then
     some (false,1)
   else
     bnd (qil x_1) fun r3 =>
     bif r3 then
       bnd (qee n_0 x_1) fun r4 =>
       bnd (qil r4) fun r5 =>
       some ((!r5),0)
     else
       some (false,0)
def q7s (n_0:Net) (y_1:qL1) (m_2:qL1):Option (Int×Int) :=
 bnd (q8k n_0 m_2) fun r1 =>
 bif (!r1) then
   some (0,1)
 else
   bnd (qb2 y_1 n_0.1) fun r2 =>
   bif (!r2) then
     some (0,1)
   else
     bnd (qi3 y_1 m_2) fun r3 =>
     some (r3,0)
def q4r {R:Type} (m_1:qL1) (v_26:Int) (v_27:Int) (out_8:qL1) (nx:(Int×qL1)→Option R) (dn:qL1→Option R) (rt:(Int×qL1)→Option R):Option R :=
 bif decide (v_27 < v_26) then
   ckB (ix v_27 out_8.length) <|
   ckB (ix v_27 out_8.length) <|
   ckB (ix v_27 m_1.length) <|
   ckB (ix v_27 m_1.length) <|
   ckB (inR .i64 ((out_8.getD (Int.toNat v_27) 0)+(m_1.getD (Int.toNat v_27) 0))) <|
   ckB (ix v_27 out_8.length) <|
   ckB (ix v_27 out_8.length) <|
   ckB (ix v_27 (out_8.set (Int.toNat v_27) ((out_8.getD (Int.toNat v_27) 0)+(m_1.getD (Int.toNat v_27) 0))).length) <|
   ckB (ix v_27 (out_8.set (Int.toNat v_27) ((out_8.getD (Int.toNat v_27) 0)+(m_1.getD (Int.toNat v_27) 0))).length) <|
   bif decide (((out_8.set (Int.toNat v_27) ((out_8.getD (Int.toNat v_27) 0)+(m_1.getD (Int.toNat v_27) 0))).getD (Int.toNat v_27) 0) < 0) then
     rt (12,[])
   else
     ckB (ix v_27 (out_8.set (Int.toNat v_27) ((out_8.getD (Int.toNat v_27) 0)+(m_1.getD (Int.toNat v_27) 0))).length) <|
     ckB (ix v_27 (out_8.set (Int.toNat v_27) ((out_8.getD (Int.toNat v_27) 0)+(m_1.getD (Int.toNat v_27) 0))).length) <|
     bif decide ((100:Int) < ((out_8.set (Int.toNat v_27) ((out_8.getD (Int.toNat v_27) 0)+(m_1.getD (Int.toNat v_27) 0))).getD (Int.toNat v_27) 0)) then
       rt (12,[])
     else
       ckB (inR .i64 (v_27+1)) <|
       nx ((v_27+1),(out_8.set (Int.toNat v_27) ((out_8.getD (Int.toNat v_27) 0)+(m_1.getD (Int.toNat v_27) 0))))
 else
   dn out_8
def qmf (m_1:qL1) (v_26:Int) (s0:(Int×qL1)):Option (qL1⊕(Int×qL1)) :=
 loopM (fun a=>q4r m_1 v_26 a.1 a.2 (fun a'=>some (.next a')) (fun e=>some (.done e)) (fun r=>some (.ret r))) s0
def qkc:Shp:=⟨[(1,.d false qT1),(8,.own 0),(26,.d true qT0),(27,.d true qT0)],[.arr 3 (.fz true) [0] qT0]⟩
def qlc:Shp:=⟨[(8,.own 0)],[.arr 3 (.fz true) [0] qT0]⟩
def qbi (n_0:Net) (m_1:qL1) (x_2:qL1):Option (Int×qL1) :=
 bnd (q8k n_0 m_1) fun r1 =>
 bif (!r1) then
   some (1,[])
 else
   bnd (qb2 x_2 (n_0.2.1.length:Int)) fun r2 =>
   bif (!r2) then
     some (1,[])
   else
     bnd (qee n_0 x_2) fun r3 =>
     bnd (qmf m_1 (r3.length:Int) (0,r3)) fun oe4 =>
     lk oe4 (fun e4 =>
       some (0,e4)) (fun r=>some r)
def q1y {R:Type} (s1_0:qL1) (s2_1:qL1) (v_12:Int) (v_13:Int) (nx:Int→Option R) (dn:Unit→Option R) (rt:Bool→Option R):Option R :=
 bif decide (v_13 < v_12) then
   ckB (ix v_13 s1_0.length) <|
   ckB (ix v_13 s1_0.length) <|
   ckB (ix v_13 s2_1.length) <|
   ckB (ix v_13 s2_1.length) <|
   bif (!decide ((s1_0.getD (Int.toNat v_13) 0)=(s2_1.getD (Int.toNat v_13) 0))) then
     rt false
   else
     ckB (inR .i64 (v_13+1)) <|
     nx (v_13+1)
 else
   dn ()
def q9o (s1_0:qL1) (s2_1:qL1) (v_12:Int) (s0:Int):Option (Unit⊕Bool) :=
 loopM (fun a=>q1y s1_0 s2_1 v_12 a (fun a'=>some (.next a')) (fun e=>some (.done e)) (fun r=>some (.ret r))) s0
def qdi:Shp:=⟨[(0,.d false qT1),(1,.d false qT1),(12,.d true qT0),(13,.d true qT0)],[]⟩
def qdj:Shp:=⟨[],[]⟩
def q2r (s1_0:qL1) (s2_1:qL1):Option Bool :=
 bif (!decide ((s1_0.length:Int)=(s2_1.length:Int))) then
   some false
 else
   bnd (q9o s1_0 s2_1 (s1_0.length:Int) 0) fun oe1 =>
   lk oe1 (fun e1 =>
     some true) (fun r=>some r)
def q7h {R:Type} (x_0:qL1) (m_3:Int) (i_4:Int) (nx:(Int×Int)→Option R) (dn:Int→Option R) (rt:Int→Option R):Option R :=
 bif decide (i_4 < (x_0.length:Int)) then
   ckB (ix i_4 x_0.length) <|
   ckB (ix i_4 x_0.length) <|
   ckB (inR .i64 (i_4+1)) <|
   nx ((max m_3 (x_0.getD (Int.toNat i_4) 0)),(i_4+1))
 else
   dn m_3
def qg6 (x_0:qL1) (s0:(Int×Int)):Option (Int⊕Int) :=
 loopM (fun a=>q7h x_0 a.1 a.2 (fun a'=>some (.next a')) (fun e=>some (.done e)) (fun r=>some (.ret r))) s0
def qff:Shp:=⟨[(0,.d false qT1),(3,.d true qT0),(4,.d true qT0)],[]⟩
def qfg:Shp:=⟨[(3,.d true qT0)],[]⟩
def q9c (x_0:qL1):Option Int :=
 bif decide ((x_0.length:Int) < 1) then
   none
 else
   ckB (ix 0 x_0.length) <|
   ckB (ix 0 x_0.length) <|
   bnd (qg6 x_0 ((x_0.getD 0 0),1)) fun oe1 =>
   lk oe1 (fun e1 =>
     some e1) (fun r=>some r)
def qel {R:Type} (v_35:qL1) (v_36:Int) (x_80:ByteArray) (x_81:qL1) (x_82:qL1) (v_37:Int) (out_9:qL1) (nx:(Int×qL1)→Option R) (dn:qL1→Option R) (rt:(Int×qL1)→Option R):Option R :=
 bif decide (v_37 < v_36) then
   ckB (ix v_37 v_35.length) <|
   ckB (ix v_37 v_35.length) <|
   ckB (ix (v_35.getD (Int.toNat v_37) 0) out_9.length) <|
   ckB (ix (v_35.getD (Int.toNat v_37) 0) out_9.length) <|
   ckB (inR .i64 ((out_9.getD (Int.toNat (v_35.getD (Int.toNat v_37) 0)) 0) - 1)) <|
   ckB (ix (v_35.getD (Int.toNat v_37) 0) out_9.length) <|
   ckB (ix (v_35.getD (Int.toNat v_37) 0) out_9.length) <|
   ckB (inR .i64 (v_37+1)) <|
   nx ((v_37+1),(out_9.set (Int.toNat (v_35.getD (Int.toNat v_37) 0)) ((out_9.getD (Int.toNat (v_35.getD (Int.toNat v_37) 0)) 0) - 1)))
 else
   dn out_9
def qrs (v_35:qL1) (v_36:Int) (x_80:ByteArray) (x_81:qL1) (x_82:qL1) (s0:(Int×qL1)):Option (qL1⊕(Int×qL1)) :=
 loopM (fun a=>qel v_35 v_36 x_80 x_81 x_82 a.1 a.2 (fun a'=>some (.next a')) (fun e=>some (.done e)) (fun r=>some (.ret r))) s0
def qqa:Shp:=⟨[(8,.ptr 0),(9,.own 1),(35,.d false qT1),(36,.d true qT0),(37,.d true qT0)],[.cs 68 3 1 (.cons (.d true .str) (.cons (.d false qT1) (.cons (.d false qT1) .nil))),.arr 3 (.fz true) [0] qT0]⟩
def qqd:Shp:=⟨[(8,.ptr 0),(9,.own 1)],[.cs 68 3 1 (.cons (.d true .str) (.cons (.d false qT1) (.cons (.d false qT1) .nil))),.arr 3 (.fz true) [0] qT0]⟩
def qej {R:Type} (v_49:qL1) (v_50:Int) (v_51:Int) (out_9:qL1) (nx:(Int×qL1)→Option R) (dn:qL1→Option R) (rt:(Int×qL1)→Option R):Option R :=
 bif decide (v_51 < v_50) then
   ckB (ix v_51 v_49.length) <|
   ckB (ix v_51 v_49.length) <|
   ckB (ix (v_49.getD (Int.toNat v_51) 0) out_9.length) <|
   ckB (ix (v_49.getD (Int.toNat v_51) 0) out_9.length) <|
   ckB (inR .i64 ((out_9.getD (Int.toNat (v_49.getD (Int.toNat v_51) 0)) 0)+1)) <|
   ckB (ix (v_49.getD (Int.toNat v_51) 0) out_9.length) <|
   ckB (ix (v_49.getD (Int.toNat v_51) 0) out_9.length) <|
   ckB (inR .i64 (v_51+1)) <|
   nx ((v_51+1),(out_9.set (Int.toNat (v_49.getD (Int.toNat v_51) 0)) ((out_9.getD (Int.toNat (v_49.getD (Int.toNat v_51) 0)) 0)+1)))
 else
   dn out_9
def qqx (v_49:qL1) (v_50:Int) (s0:(Int×qL1)):Option (qL1⊕(Int×qL1)) :=
 loopM (fun a=>qej v_49 v_50 a.1 a.2 (fun a'=>some (.next a')) (fun e=>some (.done e)) (fun r=>some (.ret r))) s0
def qqs:Shp:=⟨[(9,.own 0),(49,.d false qT1),(50,.d true qT0),(51,.d true qT0)],[.arr 3 (.fz true) [0] qT0]⟩
def qqo:Shp:=⟨[(9,.own 0)],[.arr 3 (.fz true) [0] qT0]⟩
def qd8 (n_0:Net) (m_1:qL1) (t_2:Int):Option (Int×qL1) :=
 bif decide (t_2 < 0) then
   some (2,[])
 else
   bif decide ((n_0.2.1.length:Int)≤t_2) then
     some (2,[])
   else
     ckB (ix t_2 n_0.2.1.length) <|
     ckB (ix t_2 n_0.2.1.length) <|
     bnd (qbj (n_0.2.1.getD (Int.toNat t_2) Trans.z) m_1) fun r1 =>
     bif (!r1) then
       some (12,[])
     else
       bnd (q20 m_1) fun r2 =>
       bnd (qrs (n_0.2.1.getD (Int.toNat t_2) Trans.z).2.1 ((n_0.2.1.getD (Int.toNat t_2) Trans.z).2.1.length:Int) (n_0.2.1.getD (Int.toNat t_2) Trans.z).1 (n_0.2.1.getD (Int.toNat t_2) Trans.z).2.1 (n_0.2.1.getD (Int.toNat t_2) Trans.z).2.2.1 (0,r2)) fun oe3 =>
       lk oe3 (fun e3 =>
         bnd (qqx (n_0.2.1.getD (Int.toNat t_2) Trans.z).2.2.1 ((n_0.2.1.getD (Int.toNat t_2) Trans.z).2.2.1.length:Int) (0,e3)) fun oe4 =>
         lk oe4 (fun e4 =>
           bnd (q9c e4) fun r5 =>
           bif decide ((100:Int) < r5) then
             some (5,[])
           else
             some (0,e4)) (fun r=>some r)) (fun r=>some r)
def qgb (n_0:Net) (m_1:qL1) (t_2:Int):Option (Int×qL1) :=
 bnd (qbk n_0 m_1) fun r1 =>
 bif (!r1) then
   some (1,[])
 else
   bnd (qd8 n_0 m_1 t_2) fun r2 =>
   some (r2.1,r2.2)
def q3k {R:Type} (m_1:qL1) (run_2:qL1) (l_7:qL2) (v_62:qL2) (v_63:Int) (n_30:Int) (n_31:(List Trans)) (n_32:Int) (n_33:Int) (bounds_10:qL1) (v_64:Int) (values_9:qL1) (nx:(Int×qL1)→Option R) (dn:qL1→Option R) (rt:Bool→Option R):Option R :=
 bif decide (v_64 < v_63) then
   ckB (ix v_64 v_62.length) <|
   ckB (ix v_64 v_62.length) <|
   bnd (q7s (n_30,n_31,n_32,n_33,()) (v_62.getD (Int.toNat v_64) []) m_1) fun r4 =>
   bif (!decide (r4.2=0)) then
     rt (decide (r4.2=1))
   else
     ckB (room (values_9.length+1) 8) <|
     ckB (inR .i64 (v_64+1)) <|
     nx ((v_64+1),(values_9++[r4.1]))
 else
   dn values_9
def qjq (m_1:qL1) (run_2:qL1) (l_7:qL2) (v_62:qL2) (v_63:Int) (n_30:Int) (n_31:(List Trans)) (n_32:Int) (n_33:Int) (bounds_10:qL1) (s0:(Int×qL1)):Option (qL1⊕Bool) :=
 loopM (fun a=>q3k m_1 run_2 l_7 v_62 v_63 n_30 n_31 n_32 n_33 bounds_10 a.1 a.2 (fun a'=>some (.next a')) (fun e=>some (.done e)) (fun r=>some (.ret r))) s0
def qiq:Shp:=⟨[(1,.d true qT1),(2,.d true (.slice (.int .u8))),(3,.ptr 0),(7,.d true qT2),(9,.nl false (.own 1)),(10,.nl false (.own 2)),(62,.d true qT2),(63,.d true qT0),(64,.d true qT0)],[.cs 24 4 1 (.cons (.d true qT0) (.cons (.d true (.slice Trans.ty)) (.cons (.d true qT0) (.cons (.d true qT0) .nil)))),.arr 3 (.fz true) [0] qT0,.arr 3 (.fz true) [0] qT0]⟩
def qij:Shp:=⟨[(1,.d true qT1),(2,.d true (.slice (.int .u8))),(3,.ptr 0),(7,.d true qT2),(9,.nl false (.own 1)),(10,.nl false (.own 2))],[.cs 24 4 1 (.cons (.d true qT0) (.cons (.d true (.slice Trans.ty)) (.cons (.d true qT0) (.cons (.d true qT0) .nil)))),.arr 3 (.fz true) [0] qT0,.arr 3 (.fz true) [0] qT0]⟩
def q6w {R:Type} (m_1:qL1) (run_2:qL1) (l_7:qL2) (values_9:qL1) (v_95:Int) (n_30:Int) (n_31:(List Trans)) (n_32:Int) (n_33:Int) (v_96:Int) (bounds_10:qL1) (nx:(Int×qL1)→Option R) (dn:qL1→Option R) (rt:Bool→Option R):Option R :=
 bif decide (v_96 < v_95) then
   bnd (qdy (n_30,n_31,n_32,n_33,()) m_1 v_96) fun r6 =>
   bif (!decide (r6.2=0)) then
     ckB (room (bounds_10.length+1) 8) <|
     ckB (inR .i64 (v_96+1)) <|
     nx ((v_96+1),(bounds_10++[(-1)]))
   else
     ckB (room (bounds_10.length+1) 8) <|
     ckB (inR .i64 (v_96+1)) <|
     nx ((v_96+1),(bounds_10++[r6.1]))
 else
   dn bounds_10
def qjp (m_1:qL1) (run_2:qL1) (l_7:qL2) (values_9:qL1) (v_95:Int) (n_30:Int) (n_31:(List Trans)) (n_32:Int) (n_33:Int) (s0:(Int×qL1)):Option (qL1⊕Bool) :=
 loopM (fun a=>q6w m_1 run_2 l_7 values_9 v_95 n_30 n_31 n_32 n_33 a.1 a.2 (fun a'=>some (.next a')) (fun e=>some (.done e)) (fun r=>some (.ret r))) s0
def qim:Shp:=⟨[(1,.d true qT1),(2,.d true (.slice (.int .u8))),(3,.ptr 0),(7,.d true qT2),(9,.nl false (.d true qT1)),(10,.nl false (.own 1)),(95,.d true qT0),(96,.d true qT0)],[.cs 24 4 1 (.cons (.d true qT0) (.cons (.d true (.slice Trans.ty)) (.cons (.d true qT0) (.cons (.d true qT0) .nil)))),.arr 3 (.fz true) [0] qT0]⟩
def qig:Shp:=⟨[(1,.d true qT1),(2,.d true (.slice (.int .u8))),(3,.ptr 0),(7,.d true qT2),(9,.nl false (.d true qT1)),(10,.nl false (.own 1))],[.cs 24 4 1 (.cons (.d true qT0) (.cons (.d true (.slice Trans.ty)) (.cons (.d true qT0) (.cons (.d true qT0) .nil)))),.arr 3 (.fz true) [0] qT0]⟩
def q9h {R:Type} (m_1:qL1) (l_7:qL2) (values_9:qL1) (bounds_10:qL1) (now_19:qL1) (v_118:qL1) (v_119:Int) (v_120:Int) (v_180:qL2) (v_181:Int) (n_30:Int) (n_31:(List Trans)) (n_32:Int) (n_33:Int) (fired_18:qL1) (v_182:Int) (nx:Int→Option R) (dn:Unit→Option R) (rt:Bool→Option R):Option R :=
 bif decide (v_182 < v_181) then
   ckB (ix v_182 v_180.length) <|
   ckB (ix v_182 v_180.length) <|
   bnd (q7s (n_30,n_31,n_32,n_33,()) (v_180.getD (Int.toNat v_182) []) now_19) fun r10 =>
   bif (!decide (r10.2=0)) then
     rt false
   else
     ckB (ix v_182 values_9.length) <|
     ckB (ix v_182 values_9.length) <|
     bif (!decide (r10.1=(values_9.getD (Int.toNat v_182) 0))) then
       rt false
     else
       ckB (inR .i64 (v_182+1)) <|
       nx (v_182+1)
 else
   dn ()
def qjj (m_1:qL1) (l_7:qL2) (values_9:qL1) (bounds_10:qL1) (now_19:qL1) (v_118:qL1) (v_119:Int) (v_120:Int) (v_180:qL2) (v_181:Int) (n_30:Int) (n_31:(List Trans)) (n_32:Int) (n_33:Int) (fired_18:qL1) (s0:Int):Option (Unit⊕Bool) :=
 loopM (fun a=>q9h m_1 l_7 values_9 bounds_10 now_19 v_118 v_119 v_120 v_180 v_181 n_30 n_31 n_32 n_33 fired_18 a (fun a'=>some (.next a')) (fun e=>some (.done e)) (fun r=>some (.ret r))) s0
def qik:Shp:=⟨[(1,.d true qT1),(3,.ptr 0),(7,.d true qT2),(9,.nl false (.d true qT1)),(10,.nl false (.d true qT1)),(18,.own 1),(19,.d true qT1),(118,.d true (.slice (.int .u8))),(119,.d true qT0),(120,.d true qT0),(180,.d true qT2),(181,.d true qT0),(182,.d true qT0)],[.cs 24 4 1 (.cons (.d true qT0) (.cons (.d true (.slice Trans.ty)) (.cons (.d true qT0) (.cons (.d true qT0) .nil)))),.arr 3 (.fz true) [0] qT0]⟩
def qid:Shp:=⟨[(1,.d true qT1),(3,.ptr 0),(7,.d true qT2),(9,.nl false (.d true qT1)),(10,.nl false (.d true qT1)),(18,.own 1),(19,.d true qT1),(118,.d true (.slice (.int .u8))),(119,.d true qT0),(120,.d true qT0)],[.cs 24 4 1 (.cons (.d true qT0) (.cons (.d true (.slice Trans.ty)) (.cons (.d true qT0) (.cons (.d true qT0) .nil)))),.arr 3 (.fz true) [0] qT0]⟩
def q6x {R:Type} (m_1:qL1) (l_7:qL2) (values_9:qL1) (bounds_10:qL1) (now_19:qL1) (v_118:qL1) (v_119:Int) (v_120:Int) (v_205:qL1) (v_206:Int) (n_30:Int) (n_31:(List Trans)) (n_32:Int) (n_33:Int) (fired_18:qL1) (v_207:Int) (nx:Int→Option R) (dn:Unit→Option R) (rt:Bool→Option R):Option R :=
 bif decide (v_207 < v_206) then
   ckB (ix v_207 v_205.length) <|
   ckB (ix v_207 v_205.length) <|
   ckB (ix v_207 bounds_10.length) <|
   ckB (ix v_207 bounds_10.length) <|
   bif decide ((0:Int)≤(bounds_10.getD (Int.toNat v_207) 0)) then
     ckB (ix v_207 bounds_10.length) <|
     ckB (ix v_207 bounds_10.length) <|
     bif decide ((bounds_10.getD (Int.toNat v_207) 0) < (v_205.getD (Int.toNat v_207) 0)) then
       rt false
     else
       ckB (inR .i64 (v_207+1)) <|
       nx (v_207+1)
   else
     ckB (inR .i64 (v_207+1)) <|
     nx (v_207+1)
 else
   dn ()
def qjl (m_1:qL1) (l_7:qL2) (values_9:qL1) (bounds_10:qL1) (now_19:qL1) (v_118:qL1) (v_119:Int) (v_120:Int) (v_205:qL1) (v_206:Int) (n_30:Int) (n_31:(List Trans)) (n_32:Int) (n_33:Int) (fired_18:qL1) (s0:Int):Option (Unit⊕Bool) :=
 loopM (fun a=>q6x m_1 l_7 values_9 bounds_10 now_19 v_118 v_119 v_120 v_205 v_206 n_30 n_31 n_32 n_33 fired_18 a (fun a'=>some (.next a')) (fun e=>some (.done e)) (fun r=>some (.ret r))) s0
def qif:Shp:=⟨[(1,.d true qT1),(3,.ptr 0),(7,.d true qT2),(9,.nl false (.d true qT1)),(10,.nl false (.d true qT1)),(18,.own 1),(19,.d true qT1),(118,.d true (.slice (.int .u8))),(119,.d true qT0),(120,.d true qT0),(205,.d true qT1),(206,.d true qT0),(207,.d true qT0)],[.cs 24 4 1 (.cons (.d true qT0) (.cons (.d true (.slice Trans.ty)) (.cons (.d true qT0) (.cons (.d true qT0) .nil)))),.arr 3 (.fz true) [0] qT0]⟩
def qih:Shp:=⟨[(1,.d true qT1),(3,.ptr 0),(7,.d true qT2),(9,.nl false (.d true qT1)),(10,.nl false (.d true qT1)),(18,.own 1),(19,.d true qT1),(118,.d true (.slice (.int .u8))),(119,.d true qT0),(120,.d true qT0)],[.cs 24 4 1 (.cons (.d true qT0) (.cons (.d true (.slice Trans.ty)) (.cons (.d true qT0) (.cons (.d true qT0) .nil)))),.arr 3 (.fz true) [0] qT0]⟩
def q1q {R:Type} (m_1:qL1) (l_7:qL2) (values_9:qL1) (bounds_10:qL1) (v_118:qL1) (v_119:Int) (n_30:Int) (n_31:(List Trans)) (n_32:Int) (n_33:Int) (now_19:qL1) (v_120:Int) (fired_18:qL1) (nx:(qL1×Int×qL1)→Option R) (dn:Unit→Option R) (rt:Bool→Option R):Option R :=
 bif decide (v_120 < v_119) then
   ckB (ix v_120 v_118.length) <|
   ckB (ix v_120 v_118.length) <|
   bnd (q7l (n_30,n_31,n_32,n_33,()) now_19) fun r8 =>
   bif (!decide (r8.1=0)) then
     rt (decide (r8.1=1))
   else
     bif decide ((r8.2.length:Int)=0) then
       dn ()
     else
       ckB (inR .i64 (v_118.getD (Int.toNat v_120) 0)) <|
       ckB (!decide ((r8.2.length:Int)=0)) <|
       ckB (ix (Int.tmod (v_118.getD (Int.toNat v_120) 0) (r8.2.length:Int)) r8.2.length) <|
       ckB (ix (Int.tmod (v_118.getD (Int.toNat v_120) 0) (r8.2.length:Int)) r8.2.length) <|
       bnd (qgb (n_30,n_31,n_32,n_33,()) now_19 (r8.2.getD (Int.toNat (Int.tmod (v_118.getD (Int.toNat v_120) 0) (r8.2.length:Int))) 0)) fun r9 =>
       bif (!decide (r9.1=0)) then
         rt (decide (r9.1=5))
       else
         bif decide ((r8.2.getD (Int.toNat (Int.tmod (v_118.getD (Int.toNat v_120) 0) (r8.2.length:Int))) 0) < 0) then
           rt (decide (r9.1=5))
         else
           bif decide ((fired_18.length:Int)≤(r8.2.getD (Int.toNat (Int.tmod (v_118.getD (Int.toNat v_120) 0) (r8.2.length:Int))) 0)) then
             rt (decide (r9.1=5))
           else
             bif (!decide ((r9.2.length:Int)=n_30)) then
               rt (decide (r9.1=5))
             else
               ckB (ix (r8.2.getD (Int.toNat (Int.tmod (v_118.getD (Int.toNat v_120) 0) (r8.2.length:Int))) 0) fired_18.length) <|
               ckB (ix (r8.2.getD (Int.toNat (Int.tmod (v_118.getD (Int.toNat v_120) 0) (r8.2.length:Int))) 0) fired_18.length) <|
               ckB (inR .i64 ((fired_18.getD (Int.toNat (r8.2.getD (Int.toNat (Int.tmod (v_118.getD (Int.toNat v_120) 0) (r8.2.length:Int))) 0)) 0)+1)) <|
               ckB (ix (r8.2.getD (Int.toNat (Int.tmod (v_118.getD (Int.toNat v_120) 0) (r8.2.length:Int))) 0) fired_18.length) <|
               ckB (ix (r8.2.getD (Int.toNat (Int.tmod (v_118.getD (Int.toNat v_120) 0) (r8.2.length:Int))) 0) fired_18.length) <|
               bnd (qjj m_1 l_7 values_9 bounds_10 r9.2 v_118 v_119 v_120 l_7 (l_7.length:Int) n_30 n_31 n_32 n_33 (fired_18.set (Int.toNat (r8.2.getD (Int.toNat (Int.tmod (v_118.getD (Int.toNat v_120) 0) (r8.2.length:Int))) 0)) ((fired_18.getD (Int.toNat (r8.2.getD (Int.toNat (Int.tmod (v_118.getD (Int.toNat v_120) 0) (r8.2.length:Int))) 0)) 0)+1)) 0) fun oe11 =>
               lk oe11 (fun e11 =>
                 bnd (qjl m_1 l_7 values_9 bounds_10 r9.2 v_118 v_119 v_120 r9.2 (r9.2.length:Int) n_30 n_31 n_32 n_33 (fired_18.set (Int.toNat (r8.2.getD (Int.toNat (Int.tmod (v_118.getD (Int.toNat v_120) 0) (r8.2.length:Int))) 0)) ((fired_18.getD (Int.toNat (r8.2.getD (Int.toNat (Int.tmod (v_118.getD (Int.toNat v_120) 0) (r8.2.length:Int))) 0)) 0)+1)) 0) fun oe12 =>
                 lk oe12 (fun e12 =>
                   bnd (qbi (n_30,n_31,n_32,n_33,()) m_1 (fired_18.set (Int.toNat (r8.2.getD (Int.toNat (Int.tmod (v_118.getD (Int.toNat v_120) 0) (r8.2.length:Int))) 0)) ((fired_18.getD (Int.toNat (r8.2.getD (Int.toNat (Int.tmod (v_118.getD (Int.toNat v_120) 0) (r8.2.length:Int))) 0)) 0)+1))) fun r13 =>
                   bif (!decide (r13.1=0)) then
                     rt false
                   else
                     bnd (q2r r13.2 r9.2) fun r14 =>
                     bif (!r14) then
                       rt false
                     else
                       bnd (q2r r9.2 m_1) fun r15 =>
                       bif r15 then
                         bnd (q6t (n_30,n_31,n_32,n_33,()) (fired_18.set (Int.toNat (r8.2.getD (Int.toNat (Int.tmod (v_118.getD (Int.toNat v_120) 0) (r8.2.length:Int))) 0)) ((fired_18.getD (Int.toNat (r8.2.getD (Int.toNat (Int.tmod (v_118.getD (Int.toNat v_120) 0) (r8.2.length:Int))) 0)) 0)+1))) fun r16 =>
                         bif (!decide (r16.2=0)) then
                           rt false
                         else
                           bif (!r16.1) then
                             rt false
                           else
                             ckB (inR .i64 (v_120+1)) <|
                             nx (r9.2,(v_120+1),(fired_18.set (Int.toNat (r8.2.getD (Int.toNat (Int.tmod (v_118.getD (Int.toNat v_120) 0) (r8.2.length:Int))) 0)) ((fired_18.getD (Int.toNat (r8.2.getD (Int.toNat (Int.tmod (v_118.getD (Int.toNat v_120) 0) (r8.2.length:Int))) 0)) 0)+1)))
                       else
                         ckB (inR .i64 (v_120+1)) <|
                         nx (r9.2,(v_120+1),(fired_18.set (Int.toNat (r8.2.getD (Int.toNat (Int.tmod (v_118.getD (Int.toNat v_120) 0) (r8.2.length:Int))) 0)) ((fired_18.getD (Int.toNat (r8.2.getD (Int.toNat (Int.tmod (v_118.getD (Int.toNat v_120) 0) (r8.2.length:Int))) 0)) 0)+1)))) (fun r=>rt r)) (fun r=>rt r)
 else
   dn ()
def qdt (m_1:qL1) (l_7:qL2) (values_9:qL1) (bounds_10:qL1) (v_118:qL1) (v_119:Int) (n_30:Int) (n_31:(List Trans)) (n_32:Int) (n_33:Int) (s0:(qL1×Int×qL1)):Option (Unit⊕Bool) :=
 loopM (fun a=>q1q m_1 l_7 values_9 bounds_10 v_118 v_119 n_30 n_31 n_32 n_33 a.1 a.2.1 a.2.2 (fun a'=>some (.next a')) (fun e=>some (.done e)) (fun r=>some (.ret r))) s0
def qis:Shp:=⟨[(1,.d true qT1),(3,.ptr 0),(7,.d true qT2),(9,.nl false (.d true qT1)),(10,.nl false (.d true qT1)),(18,.own 1),(19,.d true qT1),(118,.d true (.slice (.int .u8))),(119,.d true qT0),(120,.d true qT0)],[.cs 24 4 1 (.cons (.d true qT0) (.cons (.d true (.slice Trans.ty)) (.cons (.d true qT0) (.cons (.d true qT0) .nil)))),.arr 3 (.fz true) [0] qT0]⟩
def qic:Shp:=⟨[],[]⟩
def qg9 (n_0:Net) (m_1:qL1) (run_2:qL1):Option Bool :=
 bnd (qnj) fun r1 =>
 bif (!r1) then
   some false
 else
   bnd (qlx n_0) fun r2 =>
   bif (!r2) then
     some true
   else
     bif decide ((60:Int) < (m_1.length:Int)) then
       some true
     else
       bif decide ((40:Int) < (run_2.length:Int)) then
         some true
       else
         bnd (qar n_0) fun r3 =>
         bif (!decide (r3.2=0)) then
           some (decide ((r3.1.length:Int)=0))
         else
           bnd (qjq m_1 run_2 r3.1 r3.1 (r3.1.length:Int) n_0.1 n_0.2.1 n_0.2.2.1 n_0.2.2.2.1 [] (0,[])) fun oe5 =>
           lk oe5 (fun e5 =>
             bif decide ((12:Int) < n_0.1) then
               some true
             else
               bif (!decide ((m_1.length:Int)=n_0.1)) then
                 some true
               else
                 bnd (qjp m_1 run_2 r3.1 e5 n_0.1 n_0.1 n_0.2.1 n_0.2.2.1 n_0.2.2.2.1 (0,[])) fun oe7 =>
                 lk oe7 (fun e7 =>
                   ckB (mkOk (n_0.2.1.length:Int) (n_0.2.1.length:Int) 8) <|
                   bnd (qdt m_1 r3.1 e5 e7 run_2 (run_2.length:Int) n_0.1 n_0.2.1 n_0.2.2.1 n_0.2.2.2.1 (m_1,0,(List.replicate (Int.toNat (n_0.2.1.length:Int)) (0:Int)))) fun oe17 =>
                   lk oe17 (fun e17 =>
                     some true) (fun r=>some r)) (fun r=>some r)) (fun r=>some r)
end Go.Proofs.Ythakmiiaejhlbaa
