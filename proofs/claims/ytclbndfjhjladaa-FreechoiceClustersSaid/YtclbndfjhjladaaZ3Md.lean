/-
  What the functions compute, as plain functions of Lean. Made by program (mg3.py) out of the translation.
-/
import Derived.Test.YtclbndfjhjladaaZ3KE
set_option linter.all false
set_option maxRecDepth 100000
namespace Go.Proofs.Ytclbndfjhjladaa
open Go.K Go.M
abbrev qL1:Type:=List Int
abbrev qL2:Type:=List (List Int)
abbrev qT0:Ty:=.int .i64
abbrev qT1:Ty:=.slice qT0
abbrev qT2:Ty:=.slice qT1
abbrev Trans:Type:=ByteArray×qL1×qL1×Unit
abbrev Trans.z:Trans:=(⟨#[]⟩,[],[],())
def Trans.ty:Ty:=.struct (.cons .str (.cons qT1 (.cons qT1 .nil)))
abbrev Net:Type:=Int×(List Trans)×Int×Int×Unit
abbrev Net.z:Net:=(0,[],0,0,())
def Net.ty:Ty:=.struct (.cons qT0 (.cons (.slice Trans.ty) (.cons qT0 (.cons qT0 .nil))))
abbrev St8:Type:=qL1×qL1×Unit
abbrev St8.z:St8:=([],[],())
def St8.ty:Ty:=.struct (.cons qT1 (.cons qT1 .nil))
abbrev q1d:Type:=qL2×qL1×Int×Int×Unit
abbrev q1d.z:q1d:=([],[],0,0,())
def q1d.ty:Ty:=.struct (.cons qT2 (.cons qT1 (.cons qT0 (.cons qT0 .nil))))
abbrev bytes0:ByteArray:=⟨#[0,1,2,2,3,3,3,3,4,4,4,4,4,4,4,4,5,5,5,5,5,5,5,5,5,5,5,5,5,5,5,5,6,6,6,6,6,6,6,6,6,6,6,6,6,6,6,6,6,6,6,6,6,6,6,6,6,6,6,6,6,6,6,6,7,7,7,7,7,7,7,7,7,7,7,7,7,7,7,7,7,7,7,7,7,7,7,7,7,7,7,7,7,7,7,7,7,7,7,7,7,7,7,7,7,7,7,7,7,7,7,7,7,7,7,7,7,7,7,7,7,7,7,7,7,7,7,7,8,8,8,8,8,8,8,8,8,8,8,8,8,8,8,8,8,8,8,8,8,8,8,8,8,8,8,8,8,8,8,8,8,8,8,8,8,8,8,8,8,8,8,8,8,8,8,8,8,8,8,8,8,8,8,8,8,8,8,8,8,8,8,8,8,8,8,8,8,8,8,8,8,8,8,8,8,8,8,8,8,8,8,8,8,8,8,8,8,8,8,8,8,8,8,8,8,8,8,8,8,8,8,8,8,8,8,8,8,8,8,8,8,8,8,8,8,8,8,8,8,8,8,8,8,8,8,8]⟩
def qfg (label_0:ByteArray) (in_1:qL1) (out_2:qL1):Option (Trans×qL1×qL1) :=
 some ((label_0,in_1,out_2,()),[],[])
def qjc (c_0:Int):Option Bool :=
 bif decide ((65:Int)≤c_0) then
   bif decide (c_0≤90) then
     some true
   else
     bif decide ((97:Int)≤c_0) then
       some (decide (c_0≤122))
     else
       some false
 else
   bif decide ((97:Int)≤c_0) then
     some (decide (c_0≤122))
   else
     some false
def qvx (c_0:Int):Option Bool :=
 bnd (qjc c_0) fun r1 =>
 bif r1 then
   some true
 else
   bif decide ((48:Int)≤c_0) then
     bif decide (c_0≤57) then
       some true
     else
       bif decide (c_0=95) then
         some true
       else
         bif decide (c_0=45) then
           some true
         else
           some (decide (c_0=46))
   else
     bif decide (c_0=95) then
       some true
     else
       bif decide (c_0=45) then
         some true
       else
         some (decide (c_0=46))
def qbi {R:Type} (s_0:ByteArray) (v_19:Int) (v_20:Int) (nx:Int→Option R) (dn:Unit→Option R) (rt:Bool→Option R):Option R :=
 bif decide (v_20 < v_19) then
   ckB (ix v_20 (ByteArray.size s_0)) <|
   bnd (qvx (((ByteArray.data s_0).getD (Int.toNat v_20) 0).toNat:Int)) fun r2 =>
   bif (!r2) then
     rt false
   else
     ckB (inR .i64 (v_20+1)) <|
     nx (v_20+1)
 else
   dn ()
def qzt (s_0:ByteArray) (v_19:Int) (s0:Int):Option (Unit⊕Bool) :=
 loopM (fun a=>qbi s_0 v_19 a (fun a'=>some (.next a')) (fun e=>some (.done e)) (fun r=>some (.ret r))) s0
def q18v:Shp:=⟨[(0,.d true .str),(19,.d true qT0),(20,.d true qT0)],[]⟩
def q18x:Shp:=⟨[],[]⟩
def qpp (s_0:ByteArray):Option Bool :=
 bif decide ((ByteArray.size s_0:Int) < 1) then
   some false
 else
   bif decide ((40:Int) < (ByteArray.size s_0:Int)) then
     some false
   else
     ckB (ix 0 (ByteArray.size s_0)) <|
     bnd (qjc (((ByteArray.data s_0).getD 0 0).toNat:Int)) fun r1 =>
     bif (!r1) then
       some false
     else
       bnd (qzt s_0 (ByteArray.size s_0:Int) 0) fun oe3 =>
       lk oe3 (fun e3 =>
         some true) (fun r=>some r)
def q5q {R:Type} (l_1:qL1) (v_7:qL1) (v_8:Int) (n_20:Int) (n_21:(List Trans)) (n_22:Int) (n_23:Int) (v_9:Int) (nx:Int→Option R) (dn:Unit→Option R) (rt:Bool→Option R):Option R :=
 bif decide (v_9 < v_8) then
   ckB (ix v_9 v_7.length) <|
   ckB (ix v_9 v_7.length) <|
   bif decide ((v_7.getD (Int.toNat v_9) 0) < 0) then
     rt false
   else
     bif decide (n_20≤(v_7.getD (Int.toNat v_9) 0)) then
       rt false
     else
       bif decide ((0:Int) < v_9) then
         ckB (inR .i64 (v_9 - 1)) <|
         ckB (ix (v_9 - 1) l_1.length) <|
         ckB (ix (v_9 - 1) l_1.length) <|
         bif decide ((v_7.getD (Int.toNat v_9) 0)≤(l_1.getD (Int.toNat (v_9 - 1)) 0)) then
           rt false
         else
           ckB (inR .i64 (v_9+1)) <|
           nx (v_9+1)
       else
         ckB (inR .i64 (v_9+1)) <|
         nx (v_9+1)
 else
   dn ()
def qy4 (l_1:qL1) (v_7:qL1) (v_8:Int) (n_20:Int) (n_21:(List Trans)) (n_22:Int) (n_23:Int) (s0:Int):Option (Unit⊕Bool) :=
 loopM (fun a=>q5q l_1 v_7 v_8 n_20 n_21 n_22 n_23 a (fun a'=>some (.next a')) (fun e=>some (.done e)) (fun r=>some (.ret r))) s0
def q17r:Shp:=⟨[(1,.d false qT1),(2,.ptr 0),(7,.d false qT1),(8,.d true qT0),(9,.d true qT0)],[.cs 24 4 1 (.cons (.d true qT0) (.cons (.d false (.slice Trans.ty)) (.cons (.d true qT0) (.cons (.d true qT0) .nil))))]⟩
def q17j:Shp:=⟨[],[]⟩
def q43 (n_0:Net) (l_1:qL1):Option Bool :=
 bnd (qy4 l_1 l_1 (l_1.length:Int) n_0.1 n_0.2.1 n_0.2.2.1 n_0.2.2.2.1 0) fun oe1 =>
 lk oe1 (fun e1 =>
   some true) (fun r=>some r)
def qh3 {R:Type} (v_20:(List Trans)) (v_21:Int) (n_10:Int) (n_11:(List Trans)) (n_12:Int) (n_13:Int) (v_22:Int) (nx:Int→Option R) (dn:Unit→Option R) (rt:Bool→Option R):Option R :=
 bif decide (v_22 < v_21) then
   ckB (ix v_22 v_20.length) <|
   ckB (ix v_22 v_20.length) <|
   bif (!(ByteArray.toList (v_20.getD (Int.toNat v_22) Trans.z).1 == ByteArray.toList ⟨#[]⟩)) then
     bnd (qpp (v_20.getD (Int.toNat v_22) Trans.z).1) fun r1 =>
     bif (!r1) then
       rt false
     else
       bnd (q43 (n_10,n_11,n_12,n_13,()) (v_20.getD (Int.toNat v_22) Trans.z).2.1) fun r2 =>
       bif (!r2) then
         rt false
       else
         bnd (q43 (n_10,n_11,n_12,n_13,()) (v_20.getD (Int.toNat v_22) Trans.z).2.2.1) fun r3 =>
         bif (!r3) then
           rt false
         else
           ckB (inR .i64 (v_22+1)) <|
           nx (v_22+1)
   else
     bnd (q43 (n_10,n_11,n_12,n_13,()) (v_20.getD (Int.toNat v_22) Trans.z).2.1) fun r4 =>
     bif (!r4) then
       rt false
     else
       bnd (q43 (n_10,n_11,n_12,n_13,()) (v_20.getD (Int.toNat v_22) Trans.z).2.2.1) fun r5 =>
       bif (!r5) then
         rt false
       else
         ckB (inR .i64 (v_22+1)) <|
         nx (v_22+1)
 else
   dn ()
def q10c (v_20:(List Trans)) (v_21:Int) (n_10:Int) (n_11:(List Trans)) (n_12:Int) (n_13:Int) (s0:Int):Option (Unit⊕Bool) :=
 loopM (fun a=>qh3 v_20 v_21 n_10 n_11 n_12 n_13 a (fun a'=>some (.next a')) (fun e=>some (.done e)) (fun r=>some (.ret r))) s0
def q19c:Shp:=⟨[(1,.ptr 0),(20,.d false (.slice Trans.ty)),(21,.d true qT0),(22,.d true qT0)],[.cs 24 4 1 (.cons (.d true qT0) (.cons (.d false (.slice Trans.ty)) (.cons (.d true qT0) (.cons (.d true qT0) .nil))))]⟩
def q19f:Shp:=⟨[(1,.ptr 0)],[.cs 24 4 1 (.cons (.d true qT0) (.cons (.d false (.slice Trans.ty)) (.cons (.d true qT0) (.cons (.d true qT0) .nil))))]⟩
def q2i (n_0:Net):Option Bool :=
 bif decide (n_0.1 < 1) then
   some false
 else
   bif decide ((40:Int) < n_0.1) then
     some false
   else
     bif decide ((60:Int) < (n_0.2.1.length:Int)) then
       some false
     else
       bnd (q10c n_0.2.1 (n_0.2.1.length:Int) n_0.1 n_0.2.1 n_0.2.2.1 n_0.2.2.2.1 0) fun oe6 =>
       lk oe6 (fun e6 =>
         bnd (q43 n_0 [n_0.2.2.1]) fun r7 =>
         bif r7 then
           bnd (q43 n_0 [n_0.2.2.2.1]) fun r8 =>
           some r8
         else
           some false) (fun r=>some r)
def q4c {R:Type} (v_20:Int) (c_30:Int) (v_21:Int) (c_31:qL1) (nx:(Int×qL1)→Option R) (dn:qL1→Option R) (rt:(Int×qL1)→Option R):Option R :=
 bif decide (v_21 < v_20) then
   ckB (ix v_21 c_31.length) <|
   ckB (ix v_21 c_31.length) <|
   ckB (inR .i64 (v_21+1)) <|
   nx ((v_21+1),(c_31.set (Int.toNat v_21) v_21))
 else
   dn c_31
def qhe (v_20:Int) (c_30:Int) (s0:(Int×qL1)):Option (qL1⊕(Int×qL1)) :=
 loopM (fun a=>q4c v_20 c_30 a.1 a.2 (fun a'=>some (.next a')) (fun e=>some (.done e)) (fun r=>some (.ret r))) s0
def qt5:Shp:=⟨[(3,.ptr 0),(20,.d true qT0),(21,.d true qT0)],[.cs 64 2 1 (.cons (.d true qT0) (.cons (.own 1) .nil)),.arr 3 (.fz true) [0] qT0]⟩
def qtf:Shp:=⟨[(3,.ptr 0)],[.cs 64 2 1 (.cons (.d true qT0) (.cons (.own 1) .nil)),.arr 3 (.fz true) [0] qT0]⟩
def q3q (n_0:Net):Option (Int×qL1) :=
 ckB (inR .i64 (n_0.1+(n_0.2.1.length:Int))) <|
 ckB (mkOk (n_0.1+(n_0.2.1.length:Int)) (n_0.1+(n_0.2.1.length:Int)) 8) <|
 bnd (qhe ((List.replicate (Int.toNat (n_0.1+(n_0.2.1.length:Int))) (0:Int)).length:Int) n_0.1 (0,(List.replicate (Int.toNat (n_0.1+(n_0.2.1.length:Int))) (0:Int)))) fun oe1 =>
 lk oe1 (fun e1 =>
   some (n_0.1,e1)) (fun r=>some r)
def q3g {R:Type} (c_00:Int) (i_1:Int) (c_01:qL1) (nx:(Int×qL1)→Option R) (dn:(Int×qL1)→Option R) (rt:(Int×Int×qL1)→Option R):Option R :=
 ckB (ix i_1 c_01.length) <|
 ckB (ix i_1 c_01.length) <|
 bif (!decide ((c_01.getD (Int.toNat i_1) 0)=i_1)) then
   ckB (ix i_1 c_01.length) <|
   ckB (ix i_1 c_01.length) <|
   ckB (ix (c_01.getD (Int.toNat i_1) 0) c_01.length) <|
   ckB (ix (c_01.getD (Int.toNat i_1) 0) c_01.length) <|
   ckB (ix i_1 c_01.length) <|
   ckB (ix i_1 c_01.length) <|
   ckB (ix i_1 (c_01.set (Int.toNat i_1) (c_01.getD (Int.toNat (c_01.getD (Int.toNat i_1) 0)) 0)).length) <|
   ckB (ix i_1 (c_01.set (Int.toNat i_1) (c_01.getD (Int.toNat (c_01.getD (Int.toNat i_1) 0)) 0)).length) <|
   nx (((c_01.set (Int.toNat i_1) (c_01.getD (Int.toNat (c_01.getD (Int.toNat i_1) 0)) 0)).getD (Int.toNat i_1) 0),(c_01.set (Int.toNat i_1) (c_01.getD (Int.toNat (c_01.getD (Int.toNat i_1) 0)) 0)))
 else
   dn (i_1,c_01)
def qei (c_00:Int) (s0:(Int×qL1)):Option ((Int×qL1)⊕(Int×Int×qL1)) :=
 loopM (fun a=>q3g c_00 a.1 a.2 (fun a'=>some (.next a')) (fun e=>some (.done e)) (fun r=>some (.ret r))) s0
def qqs:Shp:=⟨[(0,.ptr 0),(1,.d true qT0)],[.cs 64 2 1 (.cons (.d true qT0) (.cons (.own 1) .nil)),.arr 3 (.fz true) [0] qT0]⟩
def qr4:Shp:=⟨[(1,.d true qT0)],[.cs 64 2 1 (.cons (.d true qT0) (.cons (.own 1) .nil)),.arr 3 (.fz true) [0] qT0]⟩
def q19 (i_1:Int) (c_00:Int) (c_01:qL1):Option (Int×Int×qL1) :=
 bnd (qei c_00 (i_1,c_01)) fun oe1 =>
 lk oe1 (fun e1 =>
   some (e1.1,c_00,e1.2)) (fun r=>some r)
def q1b (place_1:Int) (trans_2:Int) (c_00:Int) (c_01:qL1):Option (Int×qL1) :=
 ckB (inR .i64 (c_00+trans_2)) <|
 bnd (q19 place_1 c_00 c_01) fun r1 =>
 ckB (decide (r1.2.2.length=c_01.length)) <|
 ckB (decide (c_00=r1.2.1)) <|
 bnd (q19 (c_00+trans_2) r1.2.1 r1.2.2) fun r2 =>
 ckB (decide (r2.2.2.length=r1.2.2.length)) <|
 ckB (ix (max r1.1 r2.1) r2.2.2.length) <|
 ckB (ix (max r1.1 r2.1) r2.2.2.length) <|
 some (r2.2.1,(r2.2.2.set (Int.toNat (max r1.1 r2.1)) (min r1.1 r2.1)))
def q1l {R:Type} (t_4:Int) (v_17:(List Trans)) (v_18:Int) (v_19:Int) (v_25:qL1) (v_26:Int) (n_10:Int) (n_11:(List Trans)) (n_12:Int) (n_13:Int) (v_27:Int) (c_30:Int) (c_31:qL1) (nx:(Int×Int×qL1)→Option R) (dn:(Int×qL1)→Option R) (rt:(List St8)→Option R):Option R :=
 bif decide (v_27 < v_26) then
   ckB (ix v_27 v_25.length) <|
   ckB (ix v_27 v_25.length) <|
   bnd (q1b (v_25.getD (Int.toNat v_27) 0) t_4 c_30 c_31) fun r2 =>
   ckB (decide (r2.2.length=c_31.length)) <|
   ckB (inR .i64 (v_27+1)) <|
   nx ((v_27+1),r2.1,r2.2)
 else
   dn (c_30,c_31)
def ql0 (t_4:Int) (v_17:(List Trans)) (v_18:Int) (v_19:Int) (v_25:qL1) (v_26:Int) (n_10:Int) (n_11:(List Trans)) (n_12:Int) (n_13:Int) (s0:(Int×Int×qL1)):Option ((Int×qL1)⊕(List St8)) :=
 loopM (fun a=>q1l t_4 v_17 v_18 v_19 v_25 v_26 n_10 n_11 n_12 n_13 a.1 a.2.1 a.2.2 (fun a'=>some (.next a')) (fun e=>some (.done e)) (fun r=>some (.ret r))) s0
def qwi:Shp:=⟨[(1,.ptr 0),(3,.ptr 1),(4,.d true qT0),(17,.d false (.slice Trans.ty)),(18,.d true qT0),(19,.d true qT0),(25,.d false qT1),(26,.d true qT0),(27,.d true qT0)],[.cs 24 4 1 (.cons (.d true qT0) (.cons (.d false (.slice Trans.ty)) (.cons (.d true qT0) (.cons (.d true qT0) .nil)))),.cs 64 2 1 (.cons (.d true qT0) (.cons (.own 2) .nil)),.arr 3 (.fz true) [0] qT0]⟩
def qwp:Shp:=⟨[(1,.ptr 0),(3,.ptr 1),(17,.d false (.slice Trans.ty)),(18,.d true qT0),(19,.d true qT0)],[.cs 24 4 1 (.cons (.d true qT0) (.cons (.d false (.slice Trans.ty)) (.cons (.d true qT0) (.cons (.d true qT0) .nil)))),.cs 64 2 1 (.cons (.d true qT0) (.cons (.own 2) .nil)),.arr 3 (.fz true) [0] qT0]⟩
def q58 {R:Type} (v_17:(List Trans)) (v_18:Int) (n_10:Int) (n_11:(List Trans)) (n_12:Int) (n_13:Int) (v_19:Int) (c_30:Int) (c_31:qL1) (nx:(Int×Int×qL1)→Option R) (dn:(Int×qL1)→Option R) (rt:(List St8)→Option R):Option R :=
 bif decide (v_19 < v_18) then
   ckB (ix v_19 v_17.length) <|
   ckB (ix v_19 v_17.length) <|
   bnd (ql0 v_19 v_17 v_18 v_19 (v_17.getD (Int.toNat v_19) Trans.z).2.1 ((v_17.getD (Int.toNat v_19) Trans.z).2.1.length:Int) n_10 n_11 n_12 n_13 (0,c_30,c_31)) fun oe3 =>
   lk oe3 (fun e3 =>
     ckB (inR .i64 (v_19+1)) <|
     nx ((v_19+1),e3.1,e3.2)) (fun r=>rt r)
 else
   dn (c_30,c_31)
def qcn (v_17:(List Trans)) (v_18:Int) (n_10:Int) (n_11:(List Trans)) (n_12:Int) (n_13:Int) (s0:(Int×Int×qL1)):Option ((Int×qL1)⊕(List St8)) :=
 loopM (fun a=>q58 v_17 v_18 n_10 n_11 n_12 n_13 a.1 a.2.1 a.2.2 (fun a'=>some (.next a')) (fun e=>some (.done e)) (fun r=>some (.ret r))) s0
def qwh:Shp:=⟨[(1,.ptr 0),(3,.ptr 1),(17,.d false (.slice Trans.ty)),(18,.d true qT0),(19,.d true qT0)],[.cs 24 4 1 (.cons (.d true qT0) (.cons (.d false (.slice Trans.ty)) (.cons (.d true qT0) (.cons (.d true qT0) .nil)))),.cs 64 2 1 (.cons (.d true qT0) (.cons (.own 2) .nil)),.arr 3 (.fz true) [0] qT0]⟩
def qwr:Shp:=⟨[(1,.ptr 0),(3,.ptr 1)],[.cs 24 4 1 (.cons (.d true qT0) (.cons (.d false (.slice Trans.ty)) (.cons (.d true qT0) (.cons (.d true qT0) .nil)))),.cs 64 2 1 (.cons (.d true qT0) (.cons (.own 2) .nil)),.arr 3 (.fz true) [0] qT0]⟩
def q59 {R:Type} (i_10:Int) (k_12:Int) (v_42:Int) (v_43:Int) (n_10:Int) (n_11:(List Trans)) (n_12:Int) (n_13:Int) (c_30:Int) (number_8:(List (Int×Int))) (out_9:(List St8)) (c_31:qL1) (dn:(List St8)→Option R) (rt:(List St8)→Option R):Option R :=
 bif decide (i_10 < n_10) then
   ckB (ix k_12 out_9.length) <|
   ckB (ix k_12 out_9.length) <|
   ckB (ix k_12 out_9.length) <|
   ckB (room ((out_9.getD (Int.toNat k_12) St8.z).1.length+1) 8) <|
   ckB (decide ((out_9.length:Nat)=(out_9.set (Int.toNat k_12) (((out_9.getD (Int.toNat k_12) St8.z).1++[i_10]),(out_9.getD (Int.toNat k_12) St8.z).2.1,())).length)) <|
   ckB (ix k_12 (out_9.set (Int.toNat k_12) (((out_9.getD (Int.toNat k_12) St8.z).1++[i_10]),(out_9.getD (Int.toNat k_12) St8.z).2.1,())).length) <|
   ckB (decide (((Int.toNat k_12):Nat)=(Int.toNat k_12))) <|
   ckB (decide (((Int.toNat k_12):Nat)=(Int.toNat k_12))) <|
   dn (out_9.set (Int.toNat k_12) (((out_9.getD (Int.toNat k_12) St8.z).1++[i_10]),(out_9.getD (Int.toNat k_12) St8.z).2.1,()))
 else
   ckB (ix k_12 out_9.length) <|
   ckB (ix k_12 out_9.length) <|
   ckB (inR .i64 (i_10 - n_10)) <|
   ckB (ix k_12 out_9.length) <|
   ckB (room ((out_9.getD (Int.toNat k_12) St8.z).2.1.length+1) 8) <|
   ckB (decide ((out_9.length:Nat)=(out_9.set (Int.toNat k_12) ((out_9.getD (Int.toNat k_12) St8.z).1,((out_9.getD (Int.toNat k_12) St8.z).2.1++[(i_10 - n_10)]),())).length)) <|
   ckB (ix k_12 (out_9.set (Int.toNat k_12) ((out_9.getD (Int.toNat k_12) St8.z).1,((out_9.getD (Int.toNat k_12) St8.z).2.1++[(i_10 - n_10)]),())).length) <|
   ckB (decide (((Int.toNat k_12):Nat)=(Int.toNat k_12))) <|
   ckB (decide (((Int.toNat k_12):Nat)=(Int.toNat k_12))) <|
   dn (out_9.set (Int.toNat k_12) ((out_9.getD (Int.toNat k_12) St8.z).1,((out_9.getD (Int.toNat k_12) St8.z).2.1++[(i_10 - n_10)]),()))
def q65 (i_10:Int) (k_12:Int) (v_42:Int) (v_43:Int) (n_10:Int) (n_11:(List Trans)) (n_12:Int) (n_13:Int) (c_30:Int) (number_8:(List (Int×Int))) (out_9:(List St8)) (c_31:qL1):Option ((List St8)⊕(List St8)) :=
 q59 i_10 k_12 v_42 v_43 n_10 n_11 n_12 n_13 c_30 number_8 out_9 c_31 (fun e=>some (.inl e)) (fun r=>some (.inr r))
def qwc:Shp:=⟨[(1,.ptr 0),(3,.ptr 1),(8,.mp 2),(9,.nl false (.own 3)),(10,.d true qT0),(12,.d true qT0),(42,.d true qT0),(43,.d true qT0)],[.cs 24 4 1 (.cons (.d true qT0) (.cons (.d false (.slice Trans.ty)) (.cons (.d true qT0) (.cons (.d true qT0) .nil)))),.cs 64 2 1 (.cons (.d true qT0) (.cons (.own 4) .nil)),.mp qT0 qT0,.arr 34 .own [3,3] St8.ty,.arr 3 (.fz true) [0] qT0]⟩
def qw4:Shp:=⟨[(1,.ptr 0),(3,.ptr 1),(8,.mp 2),(9,.nl false (.own 3)),(42,.d true qT0),(43,.d true qT0)],[.cs 24 4 1 (.cons (.d true qT0) (.cons (.d false (.slice Trans.ty)) (.cons (.d true qT0) (.cons (.d true qT0) .nil)))),.cs 64 2 1 (.cons (.d true qT0) (.cons (.own 4) .nil)),.mp qT0 qT0,.arr 34 .own [3,3] St8.ty,.arr 3 (.fz true) [0] qT0]⟩
def q37 {R:Type} (v_42:Int) (n_10:Int) (n_11:(List Trans)) (n_12:Int) (n_13:Int) (v_43:Int) (c_30:Int) (number_8:(List (Int×Int))) (out_9:(List St8)) (c_31:qL1) (nx:(Int×Int×(List (Int×Int))×(List St8)×qL1)→Option R) (dn:(List St8)→Option R) (rt:(List St8)→Option R):Option R :=
 bif decide (v_43 < v_42) then
   bnd (q19 v_43 c_30 c_31) fun r5 =>
   ckB (decide (r5.2.2.length=c_31.length)) <|
   bif (!(mfind qT0 r5.1 number_8).isSome) then
     ckB (room (out_9.length+1) 48) <|
     bnd (q65 v_43 (out_9.length:Int) v_42 v_43 n_10 n_11 n_12 n_13 r5.2.1 (mput qT0 r5.1 (out_9.length:Int) number_8) (out_9++[([],[],())]) r5.2.2) fun oe6 =>
     lk oe6 (fun e6 =>
       ckB (inR .i64 (v_43+1)) <|
       nx ((v_43+1),r5.2.1,(mput qT0 r5.1 (out_9.length:Int) number_8),e6,r5.2.2)) (fun r=>rt r)
   else
     bnd (q65 v_43 ((mfind qT0 r5.1 number_8).getD 0) v_42 v_43 n_10 n_11 n_12 n_13 r5.2.1 number_8 out_9 r5.2.2) fun oe7 =>
     lk oe7 (fun e7 =>
       ckB (inR .i64 (v_43+1)) <|
       nx ((v_43+1),r5.2.1,number_8,e7,r5.2.2)) (fun r=>rt r)
 else
   dn out_9
def qby (v_42:Int) (n_10:Int) (n_11:(List Trans)) (n_12:Int) (n_13:Int) (s0:(Int×Int×(List (Int×Int))×(List St8)×qL1)):Option ((List St8)⊕(List St8)) :=
 loopM (fun a=>q37 v_42 n_10 n_11 n_12 n_13 a.1 a.2.1 a.2.2.1 a.2.2.2.1 a.2.2.2.2 (fun a'=>some (.next a')) (fun e=>some (.done e)) (fun r=>some (.ret r))) s0
def qw9:Shp:=⟨[(1,.ptr 0),(3,.ptr 1),(8,.mp 2),(9,.nl false (.own 3)),(42,.d true qT0),(43,.d true qT0)],[.cs 24 4 1 (.cons (.d true qT0) (.cons (.d false (.slice Trans.ty)) (.cons (.d true qT0) (.cons (.d true qT0) .nil)))),.cs 64 2 1 (.cons (.d true qT0) (.cons (.own 4) .nil)),.mp qT0 qT0,.arr 34 .own [3,3] St8.ty,.arr 3 (.fz true) [0] qT0]⟩
def qws:Shp:=⟨[(9,.nl false (.own 0))],[.arr 34 .own [3,3] St8.ty]⟩
def q30 (n_0:Net):Option (List St8) :=
 bnd (q3q n_0) fun r1 =>
 bnd (qcn n_0.2.1 (n_0.2.1.length:Int) n_0.1 n_0.2.1 n_0.2.2.1 n_0.2.2.2.1 (0,r1.1,r1.2)) fun oe4 =>
 lk oe4 (fun e4 =>
   bnd (qby (e4.2.length:Int) n_0.1 n_0.2.1 n_0.2.2.1 n_0.2.2.2.1 (0,e4.1,[],[],e4.2)) fun oe8 =>
   lk oe8 (fun e8 =>
     some e8) (fun r=>some r)) (fun r=>some r)
def q80 (n_0:Net):Option (Int×(List St8)) :=
 bnd (q2i n_0) fun r1 =>
 bif (!r1) then
   some (1,[])
 else
   bnd (q30 n_0) fun r2 =>
   some (0,r2)
def q4p {R:Type} (s_0:qL1) (v_1:Int) (v_7:Int) (v_8:Int) (nx:Int→Option R) (dn:Unit→Option R) (rt:Int→Option R):Option R :=
 bif decide (v_8 < v_7) then
   ckB (ix v_8 s_0.length) <|
   ckB (ix v_8 s_0.length) <|
   bif decide (v_1=(s_0.getD (Int.toNat v_8) 0)) then
     rt v_8
   else
     ckB (inR .i64 (v_8+1)) <|
     nx (v_8+1)
 else
   dn ()
def qiz (s_0:qL1) (v_1:Int) (v_7:Int) (s0:Int):Option (Unit⊕Int) :=
 loopM (fun a=>q4p s_0 v_1 v_7 a (fun a'=>some (.next a')) (fun e=>some (.done e)) (fun r=>some (.ret r))) s0
def qv2:Shp:=⟨[(0,.d false qT1),(1,.d true qT0),(7,.d true qT0),(8,.d true qT0)],[]⟩
def quu:Shp:=⟨[],[]⟩
def qd8 (s_0:qL1) (v_1:Int):Option Int :=
 bnd (qiz s_0 v_1 (s_0.length:Int) 0) fun oe1 =>
 lk oe1 (fun e1 =>
   some (-1)) (fun r=>some r)
def qq (s_0:qL1) (v_1:Int):Option Bool :=
 bnd (qd8 s_0 v_1) fun r1 =>
 some (decide ((0:Int)≤r1))
def qve (p_0:Int) (p_1:(List Bool)):Option Bool :=
 ckB (ix 0 1) <|
 ckB (ix p_0 p_1.length) <|
 ckB (ix p_0 p_1.length) <|
 some (p_1.getD (Int.toNat p_0) false)
def q90 {R:Type} (s_0:qL1) (f_1c0:(List Bool)) (v_7:Int) (v_8:Int) (nx:Int→Option R) (dn:Unit→Option R) (rt:Int→Option R):Option R :=
 bif decide (v_8 < v_7) then
   ckB (ix v_8 s_0.length) <|
   ckB (ix v_8 s_0.length) <|
   bnd (qve (s_0.getD (Int.toNat v_8) 0) f_1c0) fun r1 =>
   bif r1 then
     rt v_8
   else
     ckB (inR .i64 (v_8+1)) <|
     nx (v_8+1)
 else
   dn ()
def qoq (s_0:qL1) (f_1c0:(List Bool)) (v_7:Int) (s0:Int):Option (Unit⊕Int) :=
 loopM (fun a=>q90 s_0 f_1c0 v_7 a (fun a'=>some (.next a')) (fun e=>some (.done e)) (fun r=>some (.ret r))) s0
def qo4:Shp:=⟨[(0,.d false qT1),(1,.fn 73 (.cons (.rp false (.slice .bool)) .nil)),(7,.d true qT0),(8,.d true qT0)],[]⟩
def qmx:Shp:=⟨[],[]⟩
def qcu (s_0:qL1) (f_1c0:(List Bool)):Option Int :=
 bnd (qoq s_0 f_1c0 (s_0.length:Int) 0) fun oe2 =>
 lk oe2 (fun e2 =>
   some (-1)) (fun r=>some r)
def q4g (s_0:qL1) (f_1c0:(List Bool)):Option Bool :=
 bnd (qcu s_0 f_1c0) fun r1 =>
 some (decide ((0:Int)≤r1))
def qsp {R:Type} (back_2:Bool) (changed_10:Bool) (v_29:(List Trans)) (v_30:Int) (v_31:Int) (v_56:qL1) (v_57:Int) (n_30:Int) (n_31:(List Trans)) (n_32:Int) (n_33:Int) (trans_9:(List Bool)) (v_58:Int) (place_8:(List Bool)) (nx:(Int×(List Bool))→Option R) (dn:(List Bool)→Option R) (rt:((List Bool)×(List Bool))→Option R):Option R :=
 bif decide (v_58 < v_57) then
   ckB (ix v_58 v_56.length) <|
   ckB (ix v_58 v_56.length) <|
   ckB (ix (v_56.getD (Int.toNat v_58) 0) place_8.length) <|
   ckB (ix (v_56.getD (Int.toNat v_58) 0) place_8.length) <|
   ckB (inR .i64 (v_58+1)) <|
   nx ((v_58+1),(place_8.set (Int.toNat (v_56.getD (Int.toNat v_58) 0)) true))
 else
   dn place_8
def qvr (back_2:Bool) (changed_10:Bool) (v_29:(List Trans)) (v_30:Int) (v_31:Int) (v_56:qL1) (v_57:Int) (n_30:Int) (n_31:(List Trans)) (n_32:Int) (n_33:Int) (trans_9:(List Bool)) (s0:(Int×(List Bool))):Option ((List Bool)⊕((List Bool)×(List Bool))) :=
 loopM (fun a=>qsp back_2 changed_10 v_29 v_30 v_31 v_56 v_57 n_30 n_31 n_32 n_33 trans_9 a.1 a.2 (fun a'=>some (.next a')) (fun e=>some (.done e)) (fun r=>some (.ret r))) s0
def q164:Shp:=⟨[(2,.d true .bool),(3,.ptr 0),(8,.ptr 1),(9,.own 2),(10,.d true .bool),(29,.d false (.slice Trans.ty)),(30,.d true qT0),(31,.d true qT0),(56,.d false qT1),(57,.d true qT0),(58,.d true qT0)],[.cs 24 4 1 (.cons (.d true qT0) (.cons (.d false (.slice Trans.ty)) (.cons (.d true qT0) (.cons (.d true qT0) .nil)))),.cs 80 1 1 (.cons (.own 3) .nil),.arr 4 (.fz true) [0] .bool,.arr 4 (.fz true) [0] .bool]⟩
def q167:Shp:=⟨[(2,.d true .bool),(3,.ptr 0),(8,.ptr 1),(9,.own 2),(10,.d true .bool),(29,.d false (.slice Trans.ty)),(30,.d true qT0),(31,.d true qT0)],[.cs 24 4 1 (.cons (.d true qT0) (.cons (.d false (.slice Trans.ty)) (.cons (.d true qT0) (.cons (.d true qT0) .nil)))),.cs 80 1 1 (.cons (.own 3) .nil),.arr 4 (.fz true) [0] .bool,.arr 4 (.fz true) [0] .bool]⟩
def qt6 {R:Type} (back_2:Bool) (v_29:(List Trans)) (v_30:Int) (n_30:Int) (n_31:(List Trans)) (n_32:Int) (n_33:Int) (changed_10:Bool) (v_31:Int) (trans_9:(List Bool)) (place_8:(List Bool)) (nx:(Bool×Int×(List Bool)×(List Bool))→Option R) (dn:(Bool×(List Bool)×(List Bool))→Option R) (rt:((List Bool)×(List Bool))→Option R):Option R :=
 bif decide (v_31 < v_30) then
   ckB (ix v_31 v_29.length) <|
   ckB (ix v_31 v_29.length) <|
   bif back_2 then
     ckB (ix v_31 trans_9.length) <|
     ckB (ix v_31 trans_9.length) <|
     bif (trans_9.getD (Int.toNat v_31) false) then
       ckB (inR .i64 (v_31+1)) <|
       nx (changed_10,(v_31+1),trans_9,place_8)
     else
       bnd (q4g (v_29.getD (Int.toNat v_31) Trans.z).2.2.1 place_8) fun r1 =>
       bif (!r1) then
         ckB (inR .i64 (v_31+1)) <|
         nx (changed_10,(v_31+1),trans_9,place_8)
       else
         ckB (ix v_31 trans_9.length) <|
         ckB (ix v_31 trans_9.length) <|
         bnd (qvr back_2 true v_29 v_30 v_31 (v_29.getD (Int.toNat v_31) Trans.z).2.1 ((v_29.getD (Int.toNat v_31) Trans.z).2.1.length:Int) n_30 n_31 n_32 n_33 (trans_9.set (Int.toNat v_31) true) (0,place_8)) fun oe2 =>
         lk oe2 (fun e2 =>
           ckB (inR .i64 (v_31+1)) <|
           nx (true,(v_31+1),(trans_9.set (Int.toNat v_31) true),e2)) (fun r=>rt r)
   else
     ckB (ix v_31 trans_9.length) <|
     ckB (ix v_31 trans_9.length) <|
     bif (trans_9.getD (Int.toNat v_31) false) then
       ckB (inR .i64 (v_31+1)) <|
       nx (changed_10,(v_31+1),trans_9,place_8)
     else
       bnd (q4g (v_29.getD (Int.toNat v_31) Trans.z).2.1 place_8) fun r3 =>
       bif (!r3) then
         ckB (inR .i64 (v_31+1)) <|
         nx (changed_10,(v_31+1),trans_9,place_8)
       else
         ckB (ix v_31 trans_9.length) <|
         ckB (ix v_31 trans_9.length) <|
         bnd (qvr back_2 true v_29 v_30 v_31 (v_29.getD (Int.toNat v_31) Trans.z).2.2.1 ((v_29.getD (Int.toNat v_31) Trans.z).2.2.1.length:Int) n_30 n_31 n_32 n_33 (trans_9.set (Int.toNat v_31) true) (0,place_8)) fun oe4 =>
         lk oe4 (fun e4 =>
           ckB (inR .i64 (v_31+1)) <|
           nx (true,(v_31+1),(trans_9.set (Int.toNat v_31) true),e4)) (fun r=>rt r)
 else
   dn (changed_10,trans_9,place_8)
def q18l (back_2:Bool) (v_29:(List Trans)) (v_30:Int) (n_30:Int) (n_31:(List Trans)) (n_32:Int) (n_33:Int) (s0:(Bool×Int×(List Bool)×(List Bool))):Option ((Bool×(List Bool)×(List Bool))⊕((List Bool)×(List Bool))) :=
 loopM (fun a=>qt6 back_2 v_29 v_30 n_30 n_31 n_32 n_33 a.1 a.2.1 a.2.2.1 a.2.2.2 (fun a'=>some (.next a')) (fun e=>some (.done e)) (fun r=>some (.ret r))) s0
def q162:Shp:=⟨[(2,.d true .bool),(3,.ptr 0),(8,.ptr 1),(9,.own 2),(10,.d true .bool),(29,.d false (.slice Trans.ty)),(30,.d true qT0),(31,.d true qT0)],[.cs 24 4 1 (.cons (.d true qT0) (.cons (.d false (.slice Trans.ty)) (.cons (.d true qT0) (.cons (.d true qT0) .nil)))),.cs 80 1 1 (.cons (.own 3) .nil),.arr 4 (.fz true) [0] .bool,.arr 4 (.fz true) [0] .bool]⟩
def q15h:Shp:=⟨[(2,.d true .bool),(3,.ptr 0),(8,.ptr 1),(9,.own 2),(10,.d true .bool)],[.cs 24 4 1 (.cons (.d true qT0) (.cons (.d false (.slice Trans.ty)) (.cons (.d true qT0) (.cons (.d true qT0) .nil)))),.cs 80 1 1 (.cons (.own 3) .nil),.arr 4 (.fz true) [0] .bool,.arr 4 (.fz true) [0] .bool]⟩
def qsl {R:Type} (back_2:Bool) (n_30:Int) (n_31:(List Trans)) (n_32:Int) (n_33:Int) (changed_10:Bool) (trans_9:(List Bool)) (place_8:(List Bool)) (nx:(Bool×(List Bool)×(List Bool))→Option R) (dn:((List Bool)×(List Bool))→Option R) (rt:((List Bool)×(List Bool))→Option R):Option R :=
 bif changed_10 then
   bnd (q18l back_2 n_31 (n_31.length:Int) n_30 n_31 n_32 n_33 (false,0,trans_9,place_8)) fun oe5 =>
   lk oe5 (fun e5 =>
     nx (e5.1,e5.2.1,e5.2.2)) (fun r=>rt r)
 else
   dn (trans_9,place_8)
def q16t (back_2:Bool) (n_30:Int) (n_31:(List Trans)) (n_32:Int) (n_33:Int) (s0:(Bool×(List Bool)×(List Bool))):Option (((List Bool)×(List Bool))⊕((List Bool)×(List Bool))) :=
 loopM (fun a=>qsl back_2 n_30 n_31 n_32 n_33 a.1 a.2.1 a.2.2 (fun a'=>some (.next a')) (fun e=>some (.done e)) (fun r=>some (.ret r))) s0
def q150:Shp:=⟨[(2,.d true .bool),(3,.ptr 0),(8,.ptr 1),(9,.own 2),(10,.d true .bool)],[.cs 24 4 1 (.cons (.d true qT0) (.cons (.d false (.slice Trans.ty)) (.cons (.d true qT0) (.cons (.d true qT0) .nil)))),.cs 80 1 1 (.cons (.own 3) .nil),.arr 4 (.fz true) [0] .bool,.arr 4 (.fz true) [0] .bool]⟩
def q15q:Shp:=⟨[(8,.ptr 0),(9,.own 1)],[.cs 80 1 1 (.cons (.own 2) .nil),.arr 4 (.fz true) [0] .bool,.arr 4 (.fz true) [0] .bool]⟩
def qqt (n_0:Net) (from_1:Int) (back_2:Bool):Option ((List Bool)×(List Bool)) :=
 ckB (mkOk n_0.1 n_0.1 1) <|
 ckB (mkOk (n_0.2.1.length:Int) (n_0.2.1.length:Int) 1) <|
 ckB (ix from_1 (List.replicate (Int.toNat n_0.1) (false:Bool)).length) <|
 ckB (ix from_1 (List.replicate (Int.toNat n_0.1) (false:Bool)).length) <|
 bnd (q16t back_2 n_0.1 n_0.2.1 n_0.2.2.1 n_0.2.2.2.1 (true,(List.replicate (Int.toNat (n_0.2.1.length:Int)) (false:Bool)),((List.replicate (Int.toNat n_0.1) (false:Bool)).set (Int.toNat from_1) true))) fun oe6 =>
 lk oe6 (fun e6 =>
   some (e6.2,e6.1)) (fun r=>some r)
def qef {R:Type} (s_0:(List Bool)) (v_1:Bool) (v_7:Int) (v_8:Int) (nx:Int→Option R) (dn:Unit→Option R) (rt:Int→Option R):Option R :=
 bif decide (v_8 < v_7) then
   ckB (ix v_8 s_0.length) <|
   ckB (ix v_8 s_0.length) <|
   bif (v_1 == (s_0.getD (Int.toNat v_8) false)) then
     rt v_8
   else
     ckB (inR .i64 (v_8+1)) <|
     nx (v_8+1)
 else
   dn ()
def qu5 (s_0:(List Bool)) (v_1:Bool) (v_7:Int) (s0:Int):Option (Unit⊕Int) :=
 loopM (fun a=>qef s_0 v_1 v_7 a (fun a'=>some (.next a')) (fun e=>some (.done e)) (fun r=>some (.ret r))) s0
def qsa:Shp:=⟨[(0,.d false (.slice .bool)),(1,.d true .bool),(7,.d true qT0),(8,.d true qT0)],[]⟩
def qry:Shp:=⟨[],[]⟩
def qhx (s_0:(List Bool)) (v_1:Bool):Option Int :=
 bnd (qu5 s_0 v_1 (s_0.length:Int) 0) fun oe1 =>
 lk oe1 (fun e1 =>
   some (-1)) (fun r=>some r)
def q24 (s_0:(List Bool)) (v_1:Bool):Option Bool :=
 bnd (qhx s_0 v_1) fun r1 =>
 some (decide ((0:Int)≤r1))
def qrh {R:Type} (v_21:(List Trans)) (v_22:Int) (n_10:Int) (n_11:(List Trans)) (n_12:Int) (n_13:Int) (v_23:Int) (nx:Int→Option R) (dn:Unit→Option R) (rt:Bool→Option R):Option R :=
 bif decide (v_23 < v_22) then
   ckB (ix v_23 v_21.length) <|
   ckB (ix v_23 v_21.length) <|
   bnd (qq (v_21.getD (Int.toNat v_23) Trans.z).2.2.1 n_12) fun r2 =>
   bif r2 then
     rt false
   else
     bnd (qq (v_21.getD (Int.toNat v_23) Trans.z).2.1 n_13) fun r3 =>
     bif r3 then
       rt false
     else
       ckB (inR .i64 (v_23+1)) <|
       nx (v_23+1)
 else
   dn ()
def q15w (v_21:(List Trans)) (v_22:Int) (n_10:Int) (n_11:(List Trans)) (n_12:Int) (n_13:Int) (s0:Int):Option (Unit⊕Bool) :=
 loopM (fun a=>qrh v_21 v_22 n_10 n_11 n_12 n_13 a (fun a'=>some (.next a')) (fun e=>some (.done e)) (fun r=>some (.ret r))) s0
def q13k:Shp:=⟨[(1,.ptr 0),(21,.d false (.slice Trans.ty)),(22,.d true qT0),(23,.d true qT0)],[.cs 24 4 1 (.cons (.d true qT0) (.cons (.d false (.slice Trans.ty)) (.cons (.d true qT0) (.cons (.d true qT0) .nil))))]⟩
def q13c:Shp:=⟨[(1,.ptr 0)],[.cs 24 4 1 (.cons (.d true qT0) (.cons (.d false (.slice Trans.ty)) (.cons (.d true qT0) (.cons (.d true qT0) .nil))))]⟩
def qrr {R:Type} (v_40:(List Bool)) (v_41:Int) (n_10:Int) (n_11:(List Trans)) (n_12:Int) (n_13:Int) (v_42:Int) (nx:Int→Option R) (dn:Unit→Option R) (rt:Bool→Option R):Option R :=
 bif decide (v_42 < v_41) then
   ckB (ix v_42 v_40.length) <|
   ckB (ix v_42 v_40.length) <|
   bif (v_40.getD (Int.toNat v_42) false) then
     bnd (qqt (n_10,n_11,n_12,n_13,()) n_13 (v_40.getD (Int.toNat v_42) false)) fun r5 =>
     bnd (q24 r5.1 false) fun r6 =>
     bif r6 then
       rt false
     else
       bnd (q24 r5.2 false) fun r7 =>
       bif r7 then
         rt false
       else
         ckB (inR .i64 (v_42+1)) <|
         nx (v_42+1)
   else
     bnd (qqt (n_10,n_11,n_12,n_13,()) n_12 (v_40.getD (Int.toNat v_42) false)) fun r8 =>
     bnd (q24 r8.1 false) fun r9 =>
     bif r9 then
       rt false
     else
       bnd (q24 r8.2 false) fun r10 =>
       bif r10 then
         rt false
       else
         ckB (inR .i64 (v_42+1)) <|
         nx (v_42+1)
 else
   dn ()
def q151 (v_40:(List Bool)) (v_41:Int) (n_10:Int) (n_11:(List Trans)) (n_12:Int) (n_13:Int) (s0:Int):Option (Unit⊕Bool) :=
 loopM (fun a=>qrr v_40 v_41 n_10 n_11 n_12 n_13 a (fun a'=>some (.next a')) (fun e=>some (.done e)) (fun r=>some (.ret r))) s0
def q133:Shp:=⟨[(1,.ptr 0),(40,.d true (.slice .bool)),(41,.d true qT0),(42,.d true qT0)],[.cs 24 4 1 (.cons (.d true qT0) (.cons (.d false (.slice Trans.ty)) (.cons (.d true qT0) (.cons (.d true qT0) .nil))))]⟩
def q13i:Shp:=⟨[],[]⟩
def qx8 (n_0:Net):Option Bool :=
 bnd (q2i n_0) fun r1 =>
 bif (!r1) then
   some false
 else
   bif decide (n_0.2.2.1=n_0.2.2.2.1) then
     some false
   else
     bnd (q15w n_0.2.1 (n_0.2.1.length:Int) n_0.1 n_0.2.1 n_0.2.2.1 n_0.2.2.2.1 0) fun oe4 =>
     lk oe4 (fun e4 =>
       bnd (q151 [false,true] 2 n_0.1 n_0.2.1 n_0.2.2.1 n_0.2.2.2.1 0) fun oe11 =>
       lk oe11 (fun e11 =>
         some true) (fun r=>some r)) (fun r=>some r)
def qjb (s_0:qL1):Option qL1 :=
 bif decide ((s_0.length:Int)=0) then
   some []
 else
   ckB (room (0+s_0.length) 8) <|
   some ([]++s_0)
def q9l (s_0:qL1):Option qL1 :=
 ckB (room (0+s_0.length) 8) <|
 some ([]++s_0)
def q1k (s_0:qL1):Option qL1:=q9l s_0
def qoy {R:Type} (v_26:(List Trans)) (v_27:Int) (n_10:Int) (n_11:(List Trans)) (n_12:Int) (n_13:Int) (v_20:Int) (v_21:(List Trans)) (v_22:Int) (v_23:Int) (out_40:Int) (out_42:Int) (out_43:Int) (v_28:Int) (out_41:(List Trans)) (nx:(Int×(List Trans))→Option R) (dn:(List Trans)→Option R) (rt:(Net×Int)→Option R):Option R :=
 bif decide (v_28 < v_27) then
   ckB (ix v_28 v_26.length) <|
   ckB (ix v_28 v_26.length) <|
   bnd (q1k (v_26.getD (Int.toNat v_28) Trans.z).2.1) fun r3 =>
   bnd (q1k (v_26.getD (Int.toNat v_28) Trans.z).2.2.1) fun r4 =>
   ckB (room (out_41.length+1) 64) <|
   ckB (inR .i64 (v_28+1)) <|
   nx ((v_28+1),(out_41++[((v_26.getD (Int.toNat v_28) Trans.z).1,r3,r4,())]))
 else
   dn out_41
def q11a (v_26:(List Trans)) (v_27:Int) (n_10:Int) (n_11:(List Trans)) (n_12:Int) (n_13:Int) (v_20:Int) (v_21:(List Trans)) (v_22:Int) (v_23:Int) (out_40:Int) (out_42:Int) (out_43:Int) (s0:(Int×(List Trans))):Option ((List Trans)⊕(Net×Int)) :=
 loopM (fun a=>qoy v_26 v_27 n_10 n_11 n_12 n_13 v_20 v_21 v_22 v_23 out_40 out_42 out_43 a.1 a.2 (fun a'=>some (.next a')) (fun e=>some (.done e)) (fun r=>some (.ret r))) s0
def q10s:Shp:=⟨[(1,.ptr 0),(2,.ptr 1),(4,.ptr 2),(26,.d false (.slice Trans.ty)),(27,.d true qT0),(28,.d true qT0)],[.cs 24 4 1 (.cons (.d true qT0) (.cons (.d false (.slice Trans.ty)) (.cons (.d true qT0) (.cons (.d true qT0) .nil)))),.cs 24 4 1 (.cons (.d true qT0) (.cons (.d true (.slice Trans.ty)) (.cons (.d true qT0) (.cons (.d true qT0) .nil)))),.cs 24 4 1 (.cons (.d true qT0) (.cons (.own 3) (.cons (.d true qT0) (.cons (.d true qT0) .nil)))),.arr 36 (.fz true) [0,3,3] Trans.ty]⟩
def q10x:Shp:=⟨[(1,.ptr 0),(2,.ptr 1),(4,.ptr 2)],[.cs 24 4 1 (.cons (.d true qT0) (.cons (.d false (.slice Trans.ty)) (.cons (.d true qT0) (.cons (.d true qT0) .nil)))),.cs 24 4 1 (.cons (.d true qT0) (.cons (.d true (.slice Trans.ty)) (.cons (.d true qT0) (.cons (.d true qT0) .nil)))),.cs 24 4 1 (.cons (.d true qT0) (.cons (.own 3) (.cons (.d true qT0) (.cons (.d true qT0) .nil)))),.arr 36 (.fz true) [0,3,3] Trans.ty]⟩
def qtt (n_0:Net):Option (Net×Int) :=
 bnd (q2i n_0) fun r1 =>
 bif (!r1) then
   some ((0,[],0,0,()),1)
 else
   bnd (qx8 n_0) fun r2 =>
   bif (!r2) then
     some ((0,[],0,0,()),19)
   else
     bif decide ((60:Int)≤(n_0.2.1.length:Int)) then
       some ((0,[],0,0,()),5)
     else
       bnd (q11a n_0.2.1 (n_0.2.1.length:Int) n_0.1 n_0.2.1 n_0.2.2.1 n_0.2.2.2.1 0 [] 0 0 n_0.1 n_0.2.2.1 n_0.2.2.2.1 (0,[])) fun oe5 =>
       lk oe5 (fun e5 =>
         ckB (room (e5.length+1) 64) <|
         some ((n_0.1,(e5++[(⟨#[]⟩,[n_0.2.2.2.1],[n_0.2.2.1],())]),n_0.2.2.1,n_0.2.2.2.1,()),0)) (fun r=>some r)
def q81 (p_0:Int) (p_1:Trans):Option Bool :=
 ckB (ix 0 1) <|
 bnd (qq p_1.2.1 p_0) fun r1 =>
 some r1
def q22 {R:Type} (s_0:qL1) (f_1c0:Trans) (v_7:Int) (v_8:Int) (nx:Int→Option R) (dn:Unit→Option R) (rt:Int→Option R):Option R :=
 bif decide (v_8 < v_7) then
   ckB (ix v_8 s_0.length) <|
   ckB (ix v_8 s_0.length) <|
   bnd (q81 (s_0.getD (Int.toNat v_8) 0) f_1c0) fun r1 =>
   bif r1 then
     rt v_8
   else
     ckB (inR .i64 (v_8+1)) <|
     nx (v_8+1)
 else
   dn ()
def qac (s_0:qL1) (f_1c0:Trans) (v_7:Int) (s0:Int):Option (Unit⊕Int) :=
 loopM (fun a=>q22 s_0 f_1c0 v_7 a (fun a'=>some (.next a')) (fun e=>some (.done e)) (fun r=>some (.ret r))) s0
def qnk:Shp:=⟨[(0,.d false qT1),(1,.fn 37 (.cons (.rp false Trans.ty) .nil)),(7,.d true qT0),(8,.d true qT0)],[]⟩
def qms:Shp:=⟨[],[]⟩
def q5g (s_0:qL1) (f_1c0:Trans):Option Int :=
 bnd (qac s_0 f_1c0 (s_0.length:Int) 0) fun oe2 =>
 lk oe2 (fun e2 =>
   some (-1)) (fun r=>some r)
def q21 (s_0:qL1) (f_1c0:Trans):Option Bool :=
 bnd (q5g s_0 f_1c0) fun r1 =>
 some (decide ((0:Int)≤r1))
def q2p {R:Type} (s1_0:qL1) (s2_1:qL1) (v_12:Int) (v_13:Int) (nx:Int→Option R) (dn:Unit→Option R) (rt:Bool→Option R):Option R :=
 bif decide (v_13 < v_12) then
   ckB (ix v_13 s1_0.length) <|
   ckB (ix v_13 s1_0.length) <|
   ckB (ix v_13 s2_1.length) <|
   ckB (ix v_13 s2_1.length) <|
   bif (!decide ((s1_0.getD (Int.toNat v_13) 0)=(s2_1.getD (Int.toNat v_13) 0))) then
     rt false
   else
     ckB (inR .i64 (v_13+1)) <|
     nx (v_13+1)
 else
   dn ()
def qi3 (s1_0:qL1) (s2_1:qL1) (v_12:Int) (s0:Int):Option (Unit⊕Bool) :=
 loopM (fun a=>q2p s1_0 s2_1 v_12 a (fun a'=>some (.next a')) (fun e=>some (.done e)) (fun r=>some (.ret r))) s0
def qv3:Shp:=⟨[(0,.d false qT1),(1,.d false qT1),(12,.d true qT0),(13,.d true qT0)],[]⟩
def quf:Shp:=⟨[],[]⟩
def q2m (s1_0:qL1) (s2_1:qL1):Option Bool :=
 bif (!decide ((s1_0.length:Int)=(s2_1.length:Int))) then
   some false
 else
   bnd (qi3 s1_0 s2_1 (s1_0.length:Int) 0) fun oe1 =>
   lk oe1 (fun e1 =>
     some true) (fun r=>some r)
def q44 {R:Type} (v_8:(List Trans)) (v_9:Int) (v_10:Int) (v_18:(List Trans)) (v_19:Int) (n_10:Int) (n_11:(List Trans)) (n_12:Int) (n_13:Int) (x_40:ByteArray) (x_41:qL1) (x_42:qL1) (v_20:Int) (nx:Int→Option R) (dn:Unit→Option R) (rt:Bool→Option R):Option R :=
 bif decide (v_20 < v_19) then
   ckB (ix v_20 v_18.length) <|
   ckB (ix v_20 v_18.length) <|
   bnd (q21 x_41 (v_18.getD (Int.toNat v_20) Trans.z)) fun r1 =>
   bif r1 then
     bnd (q2m x_41 (v_18.getD (Int.toNat v_20) Trans.z).2.1) fun r2 =>
     bif (!r2) then
       rt false
     else
       ckB (inR .i64 (v_20+1)) <|
       nx (v_20+1)
   else
     ckB (inR .i64 (v_20+1)) <|
     nx (v_20+1)
 else
   dn ()
def qp3 (v_8:(List Trans)) (v_9:Int) (v_10:Int) (v_18:(List Trans)) (v_19:Int) (n_10:Int) (n_11:(List Trans)) (n_12:Int) (n_13:Int) (x_40:ByteArray) (x_41:qL1) (x_42:qL1) (s0:Int):Option (Unit⊕Bool) :=
 loopM (fun a=>q44 v_8 v_9 v_10 v_18 v_19 n_10 n_11 n_12 n_13 x_40 x_41 x_42 a (fun a'=>some (.next a')) (fun e=>some (.done e)) (fun r=>some (.ret r))) s0
def qzd:Shp:=⟨[(1,.ptr 0),(4,.ptr 1),(8,.d false (.slice Trans.ty)),(9,.d true qT0),(10,.d true qT0),(18,.d false (.slice Trans.ty)),(19,.d true qT0),(20,.d true qT0)],[.cs 24 4 1 (.cons (.d true qT0) (.cons (.d false (.slice Trans.ty)) (.cons (.d true qT0) (.cons (.d true qT0) .nil)))),.cs 36 3 1 (.cons (.d true .str) (.cons (.d false qT1) (.cons (.d false qT1) .nil)))]⟩
def qz1:Shp:=⟨[(1,.ptr 0),(8,.d false (.slice Trans.ty)),(9,.d true qT0),(10,.d true qT0)],[.cs 24 4 1 (.cons (.d true qT0) (.cons (.d false (.slice Trans.ty)) (.cons (.d true qT0) (.cons (.d true qT0) .nil))))]⟩
def q47 {R:Type} (v_8:(List Trans)) (v_9:Int) (n_10:Int) (n_11:(List Trans)) (n_12:Int) (n_13:Int) (v_10:Int) (nx:Int→Option R) (dn:Unit→Option R) (rt:Bool→Option R):Option R :=
 bif decide (v_10 < v_9) then
   ckB (ix v_10 v_8.length) <|
   ckB (ix v_10 v_8.length) <|
   ckB (cut 0 v_10 n_11.length) <|
   bnd (qp3 v_8 v_9 v_10 (n_11.take (Int.toNat v_10)) ((n_11.take (Int.toNat v_10)).length:Int) n_10 n_11 n_12 n_13 (v_8.getD (Int.toNat v_10) Trans.z).1 (v_8.getD (Int.toNat v_10) Trans.z).2.1 (v_8.getD (Int.toNat v_10) Trans.z).2.2.1 0) fun oe3 =>
   lk oe3 (fun e3 =>
     ckB (inR .i64 (v_10+1)) <|
     nx (v_10+1)) (fun r=>rt r)
 else
   dn ()
def qov (v_8:(List Trans)) (v_9:Int) (n_10:Int) (n_11:(List Trans)) (n_12:Int) (n_13:Int) (s0:Int):Option (Unit⊕Bool) :=
 loopM (fun a=>q47 v_8 v_9 n_10 n_11 n_12 n_13 a (fun a'=>some (.next a')) (fun e=>some (.done e)) (fun r=>some (.ret r))) s0
def qzp:Shp:=⟨[(1,.ptr 0),(8,.d false (.slice Trans.ty)),(9,.d true qT0),(10,.d true qT0)],[.cs 24 4 1 (.cons (.d true qT0) (.cons (.d false (.slice Trans.ty)) (.cons (.d true qT0) (.cons (.d true qT0) .nil))))]⟩
def qzh:Shp:=⟨[],[]⟩
def q2t (n_0:Net):Option Bool :=
 bnd (qov n_0.2.1 (n_0.2.1.length:Int) n_0.1 n_0.2.1 n_0.2.2.1 n_0.2.2.2.1 0) fun oe4 =>
 lk oe4 (fun e4 =>
   some true) (fun r=>some r)
def qp2 (n_1:Int):Option qL1 :=
 bif decide (n_1 < 0) then
   none
 else
   ckB (inR .i64 ((0:Int) - 0)) <|
   ckB (inR .i64 (n_1 - ((0:Int) - 0))) <|
   bif decide ((0:Int) < (n_1 - ((0:Int) - 0))) then
     ckB (cut 0 0 0) <|
     ckB (decide (0 < (n_1 - ((0:Int) - 0)))) <|
     ckB (room (Int.toNat (n_1 - ((0:Int) - 0))) 8) <|
     ckB (cut 0 0 (List.replicate (Int.toNat (n_1 - ((0:Int) - 0))) (0:Int)).length) <|
     some (((List.replicate (Int.toNat (n_1 - ((0:Int) - 0))) (0:Int)).drop 0).take (0 - 0))
   else
     some []
def qg9 {R:Type} (slices_0:qL2) (v_9:qL2) (v_10:Int) (size_3:Int) (v_11:Int) (nx:(Int×Int)→Option R) (dn:Int→Option R) (rt:qL1→Option R):Option R :=
 bif decide (v_11 < v_10) then
   ckB (ix v_11 v_9.length) <|
   ckB (ix v_11 v_9.length) <|
   ckB (inR .i64 (size_3+((v_9.getD (Int.toNat v_11) []).length:Int))) <|
   bif decide ((size_3+((v_9.getD (Int.toNat v_11) []).length:Int)) < 0) then
     none
   else
     ckB (inR .i64 (v_11+1)) <|
     nx ((size_3+((v_9.getD (Int.toNat v_11) []).length:Int)),(v_11+1))
 else
   dn size_3
def quk (slices_0:qL2) (v_9:qL2) (v_10:Int) (s0:(Int×Int)):Option (Int⊕qL1) :=
 loopM (fun a=>qg9 slices_0 v_9 v_10 a.1 a.2 (fun a'=>some (.next a')) (fun e=>some (.done e)) (fun r=>some (.ret r))) s0
def qtm:Shp:=⟨[(0,.d false qT2),(3,.d true qT0),(9,.d false qT2),(10,.d true qT0),(11,.d true qT0)],[]⟩
def qt4:Shp:=⟨[(0,.d false qT2),(3,.d true qT0)],[]⟩
def qg1 {R:Type} (v_25:qL2) (v_26:Int) (v_27:Int) (newslice_6:qL1) (nx:(Int×qL1)→Option R) (dn:qL1→Option R) (rt:qL1→Option R):Option R :=
 bif decide (v_27 < v_26) then
   ckB (ix v_27 v_25.length) <|
   ckB (ix v_27 v_25.length) <|
   ckB (room (newslice_6.length+(v_25.getD (Int.toNat v_27) []).length) 8) <|
   ckB (inR .i64 (v_27+1)) <|
   nx ((v_27+1),(newslice_6++(v_25.getD (Int.toNat v_27) [])))
 else
   dn newslice_6
def que (v_25:qL2) (v_26:Int) (s0:(Int×qL1)):Option (qL1⊕qL1) :=
 loopM (fun a=>qg1 v_25 v_26 a.1 a.2 (fun a'=>some (.next a')) (fun e=>some (.done e)) (fun r=>some (.ret r))) s0
def qu7:Shp:=⟨[(6,.own 0),(25,.d false qT2),(26,.d true qT0),(27,.d true qT0)],[.arr 3 (.fz true) [0] qT0]⟩
def qtc:Shp:=⟨[(6,.own 0)],[.arr 3 (.fz true) [0] qT0]⟩
def qkt (slices_0:qL2):Option qL1 :=
 bnd (quk slices_0 slices_0 (slices_0.length:Int) (0,0)) fun oe1 =>
 lk oe1 (fun e1 =>
   bnd (qp2 e1) fun r2 =>
   bnd (que slices_0 (slices_0.length:Int) (0,r2)) fun oe3 =>
   lk oe3 (fun e3 =>
     some e3) (fun r=>some r)) (fun r=>some r)
def qhl {R:Type} (t_4:Int) (v_16:(List Trans)) (v_17:Int) (v_18:Int) (v_28:qL1) (v_29:Int) (v_30:Int) (c_30:Int) (c_31:qL1) (nx:(Int×Int×qL1)→Option R) (dn:(Int×qL1)→Option R) (rt:Bool→Option R):Option R :=
 bif decide (v_30 < v_29) then
   ckB (ix v_30 v_28.length) <|
   ckB (ix v_30 v_28.length) <|
   bnd (q1b (v_28.getD (Int.toNat v_30) 0) t_4 c_30 c_31) fun r3 =>
   ckB (decide (r3.2.length=c_31.length)) <|
   ckB (inR .i64 (v_30+1)) <|
   nx ((v_30+1),r3.1,r3.2)
 else
   dn (c_30,c_31)
def qwe (t_4:Int) (v_16:(List Trans)) (v_17:Int) (v_18:Int) (v_28:qL1) (v_29:Int) (s0:(Int×Int×qL1)):Option ((Int×qL1)⊕Bool) :=
 loopM (fun a=>qhl t_4 v_16 v_17 v_18 v_28 v_29 a.1 a.2.1 a.2.2 (fun a'=>some (.next a')) (fun e=>some (.done e)) (fun r=>some (.ret r))) s0
def qui:Shp:=⟨[(3,.ptr 0),(4,.d true qT0),(16,.d false (.slice Trans.ty)),(17,.d true qT0),(18,.d true qT0),(28,.d true qT1),(29,.d true qT0),(30,.d true qT0)],[.cs 64 2 1 (.cons (.d true qT0) (.cons (.own 1) .nil)),.arr 3 (.fz true) [0] qT0]⟩
def qup:Shp:=⟨[(3,.ptr 0),(16,.d false (.slice Trans.ty)),(17,.d true qT0),(18,.d true qT0)],[.cs 64 2 1 (.cons (.d true qT0) (.cons (.own 1) .nil)),.arr 3 (.fz true) [0] qT0]⟩
def qho {R:Type} (v_16:(List Trans)) (v_17:Int) (v_18:Int) (c_30:Int) (c_31:qL1) (nx:(Int×Int×qL1)→Option R) (dn:(Int×qL1)→Option R) (rt:Bool→Option R):Option R :=
 bif decide (v_18 < v_17) then
   ckB (ix v_18 v_16.length) <|
   ckB (ix v_18 v_16.length) <|
   bnd (qkt [(v_16.getD (Int.toNat v_18) Trans.z).2.1,(v_16.getD (Int.toNat v_18) Trans.z).2.2.1]) fun r2 =>
   bnd (qwe v_18 v_16 v_17 v_18 r2 (r2.length:Int) (0,c_30,c_31)) fun oe4 =>
   lk oe4 (fun e4 =>
     ckB (inR .i64 (v_18+1)) <|
     nx ((v_18+1),e4.1,e4.2)) (fun r=>rt r)
 else
   dn (c_30,c_31)
def qww (v_16:(List Trans)) (v_17:Int) (s0:(Int×Int×qL1)):Option ((Int×qL1)⊕Bool) :=
 loopM (fun a=>qho v_16 v_17 a.1 a.2.1 a.2.2 (fun a'=>some (.next a')) (fun e=>some (.done e)) (fun r=>some (.ret r))) s0
def quz:Shp:=⟨[(3,.ptr 0),(16,.d false (.slice Trans.ty)),(17,.d true qT0),(18,.d true qT0)],[.cs 64 2 1 (.cons (.d true qT0) (.cons (.own 1) .nil)),.arr 3 (.fz true) [0] qT0]⟩
def quv:Shp:=⟨[(3,.ptr 0)],[.cs 64 2 1 (.cons (.d true qT0) (.cons (.own 1) .nil)),.arr 3 (.fz true) [0] qT0]⟩
def qhq {R:Type} (v_44:Int) (v_45:Int) (c_30:Int) (c_31:qL1) (nx:(Int×Int×qL1)→Option R) (dn:Unit→Option R) (rt:Bool→Option R):Option R :=
 bif decide (v_45 < v_44) then
   bnd (q19 v_45 c_30 c_31) fun r6 =>
   ckB (decide (r6.2.2.length=c_31.length)) <|
   bnd (q19 0 r6.2.1 r6.2.2) fun r7 =>
   ckB (decide (r7.2.2.length=r6.2.2.length)) <|
   bif (!decide (r6.1=r7.1)) then
     rt false
   else
     ckB (inR .i64 (v_45+1)) <|
     nx ((v_45+1),r7.2.1,r7.2.2)
 else
   dn ()
def qwo (v_44:Int) (s0:(Int×Int×qL1)):Option (Unit⊕Bool) :=
 loopM (fun a=>qhq v_44 a.1 a.2.1 a.2.2 (fun a'=>some (.next a')) (fun e=>some (.done e)) (fun r=>some (.ret r))) s0
def qur:Shp:=⟨[(3,.ptr 0),(44,.d true qT0),(45,.d true qT0)],[.cs 64 2 1 (.cons (.d true qT0) (.cons (.own 1) .nil)),.arr 3 (.fz true) [0] qT0]⟩
def quj:Shp:=⟨[],[]⟩
def qnt (n_0:Net):Option Bool :=
 bif decide ((n_0.2.1.length:Int)=0) then
   some false
 else
   bnd (q3q n_0) fun r1 =>
   bnd (qww n_0.2.1 (n_0.2.1.length:Int) (0,r1.1,r1.2)) fun oe5 =>
   lk oe5 (fun e5 =>
     bnd (qwo (e5.2.length:Int) (0,e5.1,e5.2)) fun oe8 =>
     lk oe8 (fun e8 =>
       some true) (fun r=>some r)) (fun r=>some r)
def qze (n_0:Net):Option Bool :=
 bif decide ((20:Int) < n_0.1) then
   some true
 else
   some (decide ((20:Int) < (n_0.2.1.length:Int)))
def qw6 (t_0:Trans) (p_1:Int):Option Int :=
 bnd (qq t_0.2.1 p_1) fun r1 =>
 bnd (qq t_0.2.2.1 p_1) fun r2 =>
 bif r2 then
   bif (!r1) then
     some 1
   else
     bif r1 then
       bif (!r2) then
         some (-1)
       else
         some 0
     else
       some 0
 else
   bif r1 then
     bif (!r2) then
       some (-1)
     else
       some 0
   else
     some 0
def q14g {R:Type} (v_6:qL1) (v_7:Int) (v_8:Int) (g_3:Int) (k_5:Int) (nx:(Int×Int)→Option R) (dn:Int→Option R) (rt:Int→Option R):Option R :=
 bif (!decide (k_5=0)) then
   ckB (!decide (k_5=0)) <|
   nx (k_5,(Int.tmod g_3 k_5))
 else
   dn g_3
def q18j (v_6:qL1) (v_7:Int) (v_8:Int) (s0:(Int×Int)):Option (Int⊕Int) :=
 loopM (fun a=>q14g v_6 v_7 v_8 a.1 a.2 (fun a'=>some (.next a')) (fun e=>some (.done e)) (fun r=>some (.ret r))) s0
def q1dv:Shp:=⟨[(3,.d true qT0),(5,.d true qT0),(6,.d false qT1),(7,.d true qT0),(8,.d true qT0)],[]⟩
def q1df:Shp:=⟨[(3,.d true qT0),(6,.d false qT1),(7,.d true qT0),(8,.d true qT0)],[]⟩
def q13y {R:Type} (v_6:qL1) (v_7:Int) (g_3:Int) (v_8:Int) (nx:(Int×Int)→Option R) (dn:Int→Option R) (rt:Int→Option R):Option R :=
 bif decide (v_8 < v_7) then
   ckB (ix v_8 v_6.length) <|
   ckB (ix v_8 v_6.length) <|
   bif decide ((v_6.getD (Int.toNat v_8) 0) < 0) then
     ckB (inR .i64 (0 - (v_6.getD (Int.toNat v_8) 0))) <|
     bnd (q18j v_6 v_7 v_8 (g_3,(0 - (v_6.getD (Int.toNat v_8) 0)))) fun oe1 =>
     lk oe1 (fun e1 =>
       ckB (inR .i64 (v_8+1)) <|
       nx (e1,(v_8+1))) (fun r=>rt r)
   else
     bnd (q18j v_6 v_7 v_8 (g_3,(v_6.getD (Int.toNat v_8) 0))) fun oe2 =>
     lk oe2 (fun e2 =>
       ckB (inR .i64 (v_8+1)) <|
       nx (e2,(v_8+1))) (fun r=>rt r)
 else
   dn g_3
def q1fc (v_6:qL1) (v_7:Int) (s0:(Int×Int)):Option (Int⊕Int) :=
 loopM (fun a=>q13y v_6 v_7 a.1 a.2 (fun a'=>some (.next a')) (fun e=>some (.done e)) (fun r=>some (.ret r))) s0
def q1dl:Shp:=⟨[(3,.d true qT0),(6,.d false qT1),(7,.d true qT0),(8,.d true qT0)],[]⟩
def q1dn:Shp:=⟨[(3,.d true qT0)],[]⟩
def q15a (l_0:qL1):Option Int :=
 bnd (q1fc l_0 (l_0.length:Int) (0,0)) fun oe3 =>
 lk oe3 (fun e3 =>
   some e3) (fun r=>some r)
def q11o {R:Type} (v_6:qL1) (v_7:Int) (m_3:Int) (v_8:Int) (nx:(Int×Int)→Option R) (dn:Int→Option R) (rt:Int→Option R):Option R :=
 bif decide (v_8 < v_7) then
   ckB (ix v_8 v_6.length) <|
   ckB (ix v_8 v_6.length) <|
   bif (!decide ((v_6.getD (Int.toNat v_8) 0)=0)) then
     ckB (decide (0≤v_8)) <|
     ckB (inR .i64 (v_8+1)) <|
     nx ((bitI .or .u64 m_3 (shlI .u64 1 v_8)),(v_8+1))
   else
     ckB (inR .i64 (v_8+1)) <|
     nx (m_3,(v_8+1))
 else
   dn m_3
def q1ds (v_6:qL1) (v_7:Int) (s0:(Int×Int)):Option (Int⊕Int) :=
 loopM (fun a=>q11o v_6 v_7 a.1 a.2 (fun a'=>some (.next a')) (fun e=>some (.done e)) (fun r=>some (.ret r))) s0
def q1cc:Shp:=⟨[(3,.d true (.int .u64)),(6,.d false qT1),(7,.d true qT0),(8,.d true qT0)],[]⟩
def q1d3:Shp:=⟨[(3,.d true (.int .u64))],[]⟩
def qgm (l_0:qL1):Option Int :=
 bnd (q1ds l_0 (l_0.length:Int) (0,0)) fun oe1 =>
 lk oe1 (fun e1 =>
   some e1) (fun r=>some r)
def qsr {R:Type} (left_1:qL1) (made_2:qL1) (own_9:Int) (v_54:Int) (v_53:qL2) (r_00:qL2) (v_55:Int) (nx:Int→Option R) (dn:Unit→Option R) (rt:(qL2×qL2)→Option R):Option R :=
 bif decide (v_55 < v_54) then
   ckB (ix v_55 v_53.length) <|
   ckB (ix v_55 v_53.length) <|
   bnd (qgm (v_53.getD (Int.toNat v_55) [])) fun r4 =>
   bif decide ((bitI .andNot .u64 r4 own_9)=0) then
     rt (r_00,v_53)
   else
     ckB (inR .i64 (v_55+1)) <|
     nx (v_55+1)
 else
   dn ()
def q17v (left_1:qL1) (made_2:qL1) (own_9:Int) (v_54:Int) (v_53:qL2) (r_00:qL2) (s0:Int):Option (Unit⊕(qL2×qL2)) :=
 loopM (fun a=>qsr left_1 made_2 own_9 v_54 v_53 r_00 a (fun a'=>some (.next a')) (fun e=>some (.done e)) (fun r=>some (.ret r))) s0
def q15o:Shp:=⟨[(0,.ptr 0),(1,.d true qT1),(2,.d true qT1),(9,.d true (.int .u64)),(53,.own 1),(54,.d true qT0),(55,.d true qT0)],[.cs 101 2 1 (.cons (.own 2) (.cons (.own 1) .nil)),.arr 33 (.fz true) [3] qT1,.arr 33 (.fz true) [3] qT1]⟩
def q16e:Shp:=⟨[(0,.ptr 0),(1,.d true qT1),(2,.d true qT1),(9,.d true (.int .u64))],[.cs 101 2 1 (.cons (.own 1) (.cons (.own 2) .nil)),.arr 33 (.fz true) [3] qT1,.arr 33 (.fz true) [3] qT1]⟩
def qu8 {R:Type} (left_1:qL1) (made_2:qL1) (own_9:Int) (v_69:qL2) (v_70:Int) (r_00:qL2) (r_01:qL2) (v_71:Int) (keep_120:qL2) (keep_121:qL2) (nx:(Int×qL2×qL2)→Option R) (dn:(qL2×qL2)→Option R) (rt:(qL2×qL2)→Option R):Option R :=
 bif decide (v_71 < v_70) then
   ckB (ix v_71 v_69.length) <|
   ckB (ix v_71 v_69.length) <|
   bnd (qgm (v_69.getD (Int.toNat v_71) [])) fun r6 =>
   bif (!decide ((bitI .andNot .u64 own_9 r6)=0)) then
     ckB (ix v_71 r_00.length) <|
     ckB (ix v_71 r_00.length) <|
     ckB (room (keep_120.length+1) 24) <|
     ckB (room (keep_121.length+1) 24) <|
     ckB (inR .i64 (v_71+1)) <|
     nx ((v_71+1),(keep_120++[(r_00.getD (Int.toNat v_71) [])]),(keep_121++[(v_69.getD (Int.toNat v_71) [])]))
   else
     ckB (inR .i64 (v_71+1)) <|
     nx ((v_71+1),keep_120,keep_121)
 else
   dn (keep_120,keep_121)
def q16s (left_1:qL1) (made_2:qL1) (own_9:Int) (v_69:qL2) (v_70:Int) (r_00:qL2) (r_01:qL2) (s0:(Int×qL2×qL2)):Option ((qL2×qL2)⊕(qL2×qL2)) :=
 loopM (fun a=>qu8 left_1 made_2 own_9 v_69 v_70 r_00 r_01 a.1 a.2.1 a.2.2 (fun a'=>some (.next a')) (fun e=>some (.done e)) (fun r=>some (.ret r))) s0
def q153:Shp:=⟨[(0,.ptr 0),(1,.d true qT1),(2,.d true qT1),(9,.d true (.int .u64)),(12,.ptr 1),(69,.d true qT2),(70,.d true qT0),(71,.d true qT0)],[.cs 101 2 1 (.cons (.d true qT2) (.cons (.d true qT2) .nil)),.cs 101 2 1 (.cons (.own 2) (.cons (.own 3) .nil)),.arr 33 (.fz true) [3] qT1,.arr 33 (.fz true) [3] qT1]⟩
def q15t:Shp:=⟨[(0,.ptr 0),(1,.d true qT1),(2,.d true qT1),(12,.ptr 1)],[.cs 101 2 1 (.cons (.d true qT2) (.cons (.d true qT2) .nil)),.cs 101 2 1 (.cons (.own 2) (.cons (.own 3) .nil)),.arr 33 (.fz true) [3] qT1,.arr 33 (.fz true) [3] qT1]⟩
def q10f (left_1:qL1) (made_2:qL1) (r_00:qL2) (r_01:qL2):Option (qL2×qL2) :=
 bnd (q1k left_1) fun r1 =>
 ckB (room (r1.length+made_2.length) 8) <|
 bnd (q15a (r1++made_2)) fun r2 =>
 bif decide ((1:Int) < r2) then
   none
 else
   bnd (qgm made_2) fun r3 =>
   bnd (q17v left_1 made_2 r3 (r_01.length:Int) r_01 r_00 0) fun oe5 =>
   lk oe5 (fun e5 =>
     bnd (q16s left_1 made_2 r3 r_01 (r_01.length:Int) r_00 r_01 (0,[],[])) fun oe7 =>
     lk oe7 (fun e7 =>
       ckB (room (e7.1.length+1) 24) <|
       ckB (room (e7.2.length+1) 24) <|
       some ((e7.1++[left_1]),(e7.2++[made_2]))) (fun r=>some r)) (fun r=>some r)
def q146 {R:Type} (x_0:Int) (a_1:qL1) (y_2:Int) (b_3:qL1) (v_15:Int) (v_16:Int) (out_9:qL1) (nx:(Int×qL1)→Option R) (dn:qL1→Option R) (rt:qL1→Option R):Option R :=
 bif decide (v_16 < v_15) then
   ckB (ix v_16 a_1.length) <|
   ckB (ix v_16 a_1.length) <|
   ckB (inR .i64 (x_0*(a_1.getD (Int.toNat v_16) 0))) <|
   ckB (ix v_16 b_3.length) <|
   ckB (ix v_16 b_3.length) <|
   ckB (inR .i64 (y_2*(b_3.getD (Int.toNat v_16) 0))) <|
   ckB (inR .i64 ((x_0*(a_1.getD (Int.toNat v_16) 0))+(y_2*(b_3.getD (Int.toNat v_16) 0)))) <|
   ckB (ix v_16 out_9.length) <|
   ckB (ix v_16 out_9.length) <|
   ckB (inR .i64 (v_16+1)) <|
   nx ((v_16+1),(out_9.set (Int.toNat v_16) ((x_0*(a_1.getD (Int.toNat v_16) 0))+(y_2*(b_3.getD (Int.toNat v_16) 0)))))
 else
   dn out_9
def q1f4 (x_0:Int) (a_1:qL1) (y_2:Int) (b_3:qL1) (v_15:Int) (s0:(Int×qL1)):Option (qL1⊕qL1) :=
 loopM (fun a=>q146 x_0 a_1 y_2 b_3 v_15 a.1 a.2 (fun a'=>some (.next a')) (fun e=>some (.done e)) (fun r=>some (.ret r))) s0
def q1dq:Shp:=⟨[(0,.d true qT0),(1,.d false qT1),(2,.d true qT0),(3,.d false qT1),(9,.own 0),(15,.d true qT0),(16,.d true qT0)],[.arr 3 (.fz true) [0] qT0]⟩
def q1de:Shp:=⟨[(9,.own 0)],[.arr 3 (.fz true) [0] qT0]⟩
def q14p (x_0:Int) (a_1:qL1) (y_2:Int) (b_3:qL1):Option qL1 :=
 ckB (mkOk (a_1.length:Int) (a_1.length:Int) 8) <|
 bnd (q1f4 x_0 a_1 y_2 b_3 (a_1.length:Int) (0,(List.replicate (Int.toNat (a_1.length:Int)) (0:Int)))) fun oe1 =>
 lk oe1 (fun e1 =>
   some e1) (fun r=>some r)
def qr9 {R:Type} (g_6:Int) (v_23:Int) (made_2:qL1) (r_00:qL2) (r_01:qL2) (v_24:Int) (left_1:qL1) (nx:(Int×qL1)→Option R) (dn:qL1→Option R) (rt:(qL2×qL2×qL1×qL1)→Option R):Option R :=
 bif decide (v_24 < v_23) then
   ckB (ix v_24 left_1.length) <|
   ckB (ix v_24 left_1.length) <|
   ckB (!decide (g_6=0)) <|
   ckB (inR .i64 (Int.tdiv (left_1.getD (Int.toNat v_24) 0) g_6)) <|
   ckB (ix v_24 left_1.length) <|
   ckB (ix v_24 left_1.length) <|
   ckB (inR .i64 (v_24+1)) <|
   nx ((v_24+1),(left_1.set (Int.toNat v_24) (Int.tdiv (left_1.getD (Int.toNat v_24) 0) g_6)))
 else
   dn left_1
def q14w (g_6:Int) (v_23:Int) (made_2:qL1) (r_00:qL2) (r_01:qL2) (s0:(Int×qL1)):Option (qL1⊕(qL2×qL2×qL1×qL1)) :=
 loopM (fun a=>qr9 g_6 v_23 made_2 r_00 r_01 a.1 a.2 (fun a'=>some (.next a')) (fun e=>some (.done e)) (fun r=>some (.ret r))) s0
def q137:Shp:=⟨[(0,.ptr 0),(1,.own 1),(2,.own 2),(6,.d true qT0),(23,.d true qT0),(24,.d true qT0)],[.cs 101 2 1 (.cons (.own 3) (.cons (.own 4) .nil)),.arr 3 (.fz true) [0] qT0,.arr 3 (.fz true) [0] qT0,.arr 33 (.fz true) [3] qT1,.arr 33 (.fz true) [3] qT1]⟩
def q12z:Shp:=⟨[(0,.ptr 0),(1,.own 1),(2,.own 2),(6,.d true qT0)],[.cs 101 2 1 (.cons (.own 3) (.cons (.own 4) .nil)),.arr 3 (.fz true) [0] qT0,.arr 3 (.fz true) [0] qT0,.arr 33 (.fz true) [3] qT1,.arr 33 (.fz true) [3] qT1]⟩
def qro {R:Type} (left_1:qL1) (g_6:Int) (v_36:Int) (r_00:qL2) (r_01:qL2) (v_37:Int) (made_2:qL1) (k4:qL1) (nx:(Int×qL1×qL1)→Option R) (dn:(qL1×qL1)→Option R) (rt:(qL2×qL2×qL1×qL1)→Option R):Option R :=
 bif decide (v_37 < v_36) then
   ckB (ix v_37 made_2.length) <|
   ckB (ix v_37 made_2.length) <|
   ckB (!decide (g_6=0)) <|
   ckB (inR .i64 (Int.tdiv (made_2.getD (Int.toNat v_37) 0) g_6)) <|
   ckB (ix v_37 made_2.length) <|
   ckB (ix v_37 made_2.length) <|
   ckB (inR .i64 (v_37+1)) <|
   nx ((v_37+1),(made_2.set (Int.toNat v_37) (Int.tdiv (made_2.getD (Int.toNat v_37) 0) g_6)),[])
 else
   dn (made_2,[])
def q15b (left_1:qL1) (g_6:Int) (v_36:Int) (r_00:qL2) (r_01:qL2) (s0:(Int×qL1×qL1)):Option ((qL1×qL1)⊕(qL2×qL2×qL1×qL1)) :=
 loopM (fun a=>qro left_1 g_6 v_36 r_00 r_01 a.1 a.2.1 a.2.2 (fun a'=>some (.next a')) (fun e=>some (.done e)) (fun r=>some (.ret r))) s0
def q13f:Shp:=⟨[(0,.ptr 0),(1,.d true qT1),(2,.own 1),(6,.d true qT0),(36,.d true qT0),(37,.d true qT0)],[.cs 101 2 1 (.cons (.own 2) (.cons (.own 3) .nil)),.arr 3 (.fz true) [0] qT0,.arr 33 (.fz true) [3] qT1,.arr 33 (.fz true) [3] qT1,.arr 0 (.fz true) [] qT0]⟩
def q12t:Shp:=⟨[(0,.ptr 0),(1,.d true qT1),(2,.own 1)],[.cs 101 2 1 (.cons (.own 2) (.cons (.own 3) .nil)),.arr 3 (.fz true) [0] qT0,.arr 33 (.fz true) [3] qT1,.arr 33 (.fz true) [3] qT1,.arr 0 (.fz true) [] qT0]⟩
def qra {R:Type} (left_1:qL1) (made_2:qL1) (own_9:Int) (v_54:Int) (v_53:qL2) (r_00:qL2) (v_55:Int) (k3:qL1) (k4:qL1) (nx:(Int×qL1×qL1)→Option R) (dn:(qL1×qL1)→Option R) (rt:(qL2×qL2×qL1×qL1)→Option R):Option R :=
 bif decide (v_55 < v_54) then
   ckB (ix v_55 v_53.length) <|
   ckB (ix v_55 v_53.length) <|
   bnd (qgm (v_53.getD (Int.toNat v_55) [])) fun r6 =>
   bif decide ((bitI .andNot .u64 r6 own_9)=0) then
     rt (r_00,v_53,[],[])
   else
     ckB (inR .i64 (v_55+1)) <|
     nx ((v_55+1),[],[])
 else
   dn ([],[])
def q14k (left_1:qL1) (made_2:qL1) (own_9:Int) (v_54:Int) (v_53:qL2) (r_00:qL2) (s0:(Int×qL1×qL1)):Option ((qL1×qL1)⊕(qL2×qL2×qL1×qL1)) :=
 loopM (fun a=>qra left_1 made_2 own_9 v_54 v_53 r_00 a.1 a.2.1 a.2.2 (fun a'=>some (.next a')) (fun e=>some (.done e)) (fun r=>some (.ret r))) s0
def q130:Shp:=⟨[(0,.ptr 0),(1,.d true qT1),(2,.d true qT1),(9,.d true (.int .u64)),(53,.own 1),(54,.d true qT0),(55,.d true qT0)],[.cs 101 2 1 (.cons (.own 2) (.cons (.own 1) .nil)),.arr 33 (.fz true) [3] qT1,.arr 33 (.fz true) [3] qT1,.arr 0 (.fz true) [] qT0,.arr 0 (.fz true) [] qT0]⟩
def q12s:Shp:=⟨[(0,.ptr 0),(1,.d true qT1),(2,.d true qT1),(9,.d true (.int .u64))],[.cs 101 2 1 (.cons (.own 1) (.cons (.own 2) .nil)),.arr 33 (.fz true) [3] qT1,.arr 33 (.fz true) [3] qT1,.arr 0 (.fz true) [] qT0,.arr 0 (.fz true) [] qT0]⟩
def qre {R:Type} (left_1:qL1) (made_2:qL1) (own_9:Int) (v_69:qL2) (v_70:Int) (r_00:qL2) (r_01:qL2) (v_71:Int) (keep_120:qL2) (keep_121:qL2) (k4:qL1) (nx:(Int×qL2×qL2×qL1)→Option R) (dn:(qL2×qL2×qL1)→Option R) (rt:(qL2×qL2×qL1×qL1)→Option R):Option R :=
 bif decide (v_71 < v_70) then
   ckB (ix v_71 v_69.length) <|
   ckB (ix v_71 v_69.length) <|
   bnd (qgm (v_69.getD (Int.toNat v_71) [])) fun r8 =>
   bif (!decide ((bitI .andNot .u64 own_9 r8)=0)) then
     ckB (ix v_71 r_00.length) <|
     ckB (ix v_71 r_00.length) <|
     ckB (room (keep_120.length+1) 24) <|
     ckB (room (keep_121.length+1) 24) <|
     ckB (inR .i64 (v_71+1)) <|
     nx ((v_71+1),(keep_120++[(r_00.getD (Int.toNat v_71) [])]),(keep_121++[(v_69.getD (Int.toNat v_71) [])]),[])
   else
     ckB (inR .i64 (v_71+1)) <|
     nx ((v_71+1),keep_120,keep_121,[])
 else
   dn (keep_120,keep_121,[])
def q14m (left_1:qL1) (made_2:qL1) (own_9:Int) (v_69:qL2) (v_70:Int) (r_00:qL2) (r_01:qL2) (s0:(Int×qL2×qL2×qL1)):Option ((qL2×qL2×qL1)⊕(qL2×qL2×qL1×qL1)) :=
 loopM (fun a=>qre left_1 made_2 own_9 v_69 v_70 r_00 r_01 a.1 a.2.1 a.2.2.1 a.2.2.2 (fun a'=>some (.next a')) (fun e=>some (.done e)) (fun r=>some (.ret r))) s0
def q13p:Shp:=⟨[(0,.ptr 0),(1,.d true qT1),(2,.d true qT1),(9,.d true (.int .u64)),(12,.ptr 1),(69,.d true qT2),(70,.d true qT0),(71,.d true qT0)],[.cs 101 2 1 (.cons (.d true qT2) (.cons (.d true qT2) .nil)),.cs 101 2 1 (.cons (.own 2) (.cons (.own 3) .nil)),.arr 33 (.fz true) [3] qT1,.arr 33 (.fz true) [3] qT1,.arr 0 (.fz true) [] qT0]⟩
def q13l:Shp:=⟨[(0,.ptr 0),(1,.d true qT1),(2,.d true qT1),(12,.ptr 1)],[.cs 101 2 1 (.cons (.d true qT2) (.cons (.d true qT2) .nil)),.cs 101 2 1 (.cons (.own 2) (.cons (.own 3) .nil)),.arr 33 (.fz true) [3] qT1,.arr 33 (.fz true) [3] qT1,.arr 0 (.fz true) [] qT0]⟩
def qrp {R:Type} (left_1:qL1) (made_2:qL1) (r_00:qL2) (r_01:qL2) (k3:qL1) (k4:qL1) (dn:(qL2×qL2×qL1×qL1)→Option R) (rt:(qL2×qL2×qL1×qL1)→Option R):Option R :=
 bnd (qgm made_2) fun r5 =>
 bnd (q14k left_1 made_2 r5 (r_01.length:Int) r_01 r_00 (0,[],[])) fun oe7 =>
 lk oe7 (fun e7 =>
   bnd (q14m left_1 made_2 r5 r_01 (r_01.length:Int) r_00 r_01 (0,[],[],[])) fun oe9 =>
   lk oe9 (fun e9 =>
     ckB (room (e9.1.length+1) 24) <|
     ckB (room (e9.2.1.length+1) 24) <|
     dn ((e9.1++[left_1]),(e9.2.1++[made_2]),[],[])) (fun r=>rt r)) (fun r=>rt r)
def qsw (left_1:qL1) (made_2:qL1) (r_00:qL2) (r_01:qL2) (k3:qL1) (k4:qL1):Option ((qL2×qL2×qL1×qL1)⊕(qL2×qL2×qL1×qL1)) :=
 qrp left_1 made_2 r_00 r_01 k3 k4 (fun e=>some (.inl e)) (fun r=>some (.inr r))
def q13w:Shp:=⟨[(0,.ptr 0),(1,.d true qT1),(2,.d true qT1)],[.cs 101 2 1 (.cons (.own 1) (.cons (.own 2) .nil)),.arr 33 (.fz true) [3] qT1,.arr 33 (.fz true) [3] qT1,.arr 0 (.fz true) [] qT0,.arr 0 (.fz true) [] qT0]⟩
def q12x:Shp:=⟨[],[.cs 101 2 1 (.cons (.own 1) (.cons (.own 2) .nil)),.arr 33 (.fz true) [3] qT1,.arr 33 (.fz true) [3] qT1,.arr 0 (.fz true) [] qT0,.arr 0 (.fz true) [] qT0]⟩
def qxk (left_1:qL1) (made_2:qL1) (r_00:qL2) (r_01:qL2):Option (qL2×qL2×qL1×qL1) :=
 bnd (q1k left_1) fun r1 =>
 ckB (room (r1.length+made_2.length) 8) <|
 bnd (q15a (r1++made_2)) fun r2 =>
 bif decide ((1:Int) < r2) then
   bnd (q14w r2 (left_1.length:Int) made_2 r_00 r_01 (0,left_1)) fun oe3 =>
   lk oe3 (fun e3 =>
     bnd (q15b e3 r2 (made_2.length:Int) r_00 r_01 (0,made_2,[])) fun oe4 =>
     lk oe4 (fun e4 =>
       bnd (qsw e3 e4.1 r_00 r_01 [] []) fun oe10 =>
       lk oe10 (fun e10 =>
         some (e10.1,e10.2.1,[],[])) (fun r=>some r)) (fun r=>some r)) (fun r=>some r)
 else
   bnd (qsw left_1 made_2 r_00 r_01 [] []) fun oe11 =>
   lk oe11 (fun e11 =>
     some (e11.1,e11.2.1,[],[])) (fun r=>some r)
def qif {R:Type} (c_1:Int) (v_17:Int) (r_00:qL2) (r_01:qL2) (v_18:Int) (next_50:qL2) (next_51:qL2) (nx:(Int×qL2×qL2)→Option R) (dn:(qL2×qL2)→Option R) (rt:(Bool×qL2×qL2)→Option R):Option R :=
 bif decide (v_18 < v_17) then
   ckB (ix v_18 r_00.length) <|
   ckB (ix v_18 r_00.length) <|
   ckB (ix c_1 (r_00.getD (Int.toNat v_18) []).length) <|
   ckB (ix c_1 (r_00.getD (Int.toNat v_18) []).length) <|
   bif decide (((r_00.getD (Int.toNat v_18) []).getD (Int.toNat c_1) 0)=0) then
     ckB (ix v_18 r_00.length) <|
     ckB (ix v_18 r_00.length) <|
     ckB (ix v_18 r_01.length) <|
     ckB (ix v_18 r_01.length) <|
     bnd (q10f (r_00.getD (Int.toNat v_18) []) (r_01.getD (Int.toNat v_18) []) next_50 next_51) fun r1 =>
     ckB (inR .i64 (v_18+1)) <|
     nx ((v_18+1),r1.1,r1.2)
   else
     ckB (inR .i64 (v_18+1)) <|
     nx ((v_18+1),next_50,next_51)
 else
   dn (next_50,next_51)
def qxr (c_1:Int) (v_17:Int) (r_00:qL2) (r_01:qL2) (s0:(Int×qL2×qL2)):Option ((qL2×qL2)⊕(Bool×qL2×qL2)) :=
 loopM (fun a=>qif c_1 v_17 r_00 r_01 a.1 a.2.1 a.2.2 (fun a'=>some (.next a')) (fun e=>some (.done e)) (fun r=>some (.ret r))) s0
def qw8:Shp:=⟨[(0,.ptr 0),(1,.d true qT0),(5,.ptr 1),(17,.d true qT0),(18,.d true qT0)],[.cs 101 2 1 (.cons (.own 2) (.cons (.own 3) .nil)),.cs 101 2 1 (.cons (.own 4) (.cons (.own 5) .nil)),.arr 33 (.fz true) [3] qT1,.arr 33 (.fz true) [3] qT1,.arr 33 (.fz true) [3] qT1,.arr 33 (.fz true) [3] qT1]⟩
def qwn:Shp:=⟨[(0,.ptr 0),(1,.d true qT0),(5,.ptr 1)],[.cs 101 2 1 (.cons (.own 2) (.cons (.own 3) .nil)),.cs 101 2 1 (.cons (.own 4) (.cons (.own 5) .nil)),.arr 33 (.fz true) [3] qT1,.arr 33 (.fz true) [3] qT1,.arr 33 (.fz true) [3] qT1,.arr 33 (.fz true) [3] qT1]⟩
def qim {R:Type} (c_1:Int) (i_7:Int) (v_53:Int) (v_54:Int) (v_61:Int) (r_00:qL2) (r_01:qL2) (v_62:Int) (next_50:qL2) (next_51:qL2) (nx:(Int×qL2×qL2)→Option R) (dn:(qL2×qL2)→Option R) (rt:(Bool×qL2×qL2)→Option R):Option R :=
 bif decide (v_62 < v_61) then
   ckB (ix i_7 r_00.length) <|
   ckB (ix i_7 r_00.length) <|
   ckB (ix c_1 (r_00.getD (Int.toNat i_7) []).length) <|
   ckB (ix c_1 (r_00.getD (Int.toNat i_7) []).length) <|
   ckB (ix v_62 r_00.length) <|
   ckB (ix v_62 r_00.length) <|
   ckB (ix c_1 (r_00.getD (Int.toNat v_62) []).length) <|
   ckB (ix c_1 (r_00.getD (Int.toNat v_62) []).length) <|
   bif decide (((r_00.getD (Int.toNat i_7) []).getD (Int.toNat c_1) 0)≤0) then
     ckB (inR .i64 (v_62+1)) <|
     nx ((v_62+1),next_50,next_51)
   else
     bif decide ((0:Int)≤((r_00.getD (Int.toNat v_62) []).getD (Int.toNat c_1) 0)) then
       ckB (inR .i64 (v_62+1)) <|
       nx ((v_62+1),next_50,next_51)
     else
       ckB (inR .i64 (0 - ((r_00.getD (Int.toNat v_62) []).getD (Int.toNat c_1) 0))) <|
       ckB (ix i_7 r_00.length) <|
       ckB (ix i_7 r_00.length) <|
       ckB (ix v_62 r_00.length) <|
       ckB (ix v_62 r_00.length) <|
       bnd (q14p (0 - ((r_00.getD (Int.toNat v_62) []).getD (Int.toNat c_1) 0)) (r_00.getD (Int.toNat i_7) []) ((r_00.getD (Int.toNat i_7) []).getD (Int.toNat c_1) 0) (r_00.getD (Int.toNat v_62) [])) fun r3 =>
       ckB (inR .i64 (0 - ((r_00.getD (Int.toNat v_62) []).getD (Int.toNat c_1) 0))) <|
       ckB (ix i_7 r_01.length) <|
       ckB (ix i_7 r_01.length) <|
       ckB (ix v_62 r_01.length) <|
       ckB (ix v_62 r_01.length) <|
       bnd (q14p (0 - ((r_00.getD (Int.toNat v_62) []).getD (Int.toNat c_1) 0)) (r_01.getD (Int.toNat i_7) []) ((r_00.getD (Int.toNat i_7) []).getD (Int.toNat c_1) 0) (r_01.getD (Int.toNat v_62) [])) fun r4 =>
       bnd (qxk r3 r4 next_50 next_51) fun r5 =>
       bif decide ((40000:Int) < (r5.2.1.length:Int)) then
         rt (false,r_00,r_01)
       else
         ckB (inR .i64 (v_62+1)) <|
         nx ((v_62+1),r5.1,r5.2.1)
 else
   dn (next_50,next_51)
def qy5 (c_1:Int) (i_7:Int) (v_53:Int) (v_54:Int) (v_61:Int) (r_00:qL2) (r_01:qL2) (s0:(Int×qL2×qL2)):Option ((qL2×qL2)⊕(Bool×qL2×qL2)) :=
 loopM (fun a=>qim c_1 i_7 v_53 v_54 v_61 r_00 r_01 a.1 a.2.1 a.2.2 (fun a'=>some (.next a')) (fun e=>some (.done e)) (fun r=>some (.ret r))) s0
def qwf:Shp:=⟨[(0,.ptr 0),(1,.d true qT0),(5,.ptr 1),(7,.d true qT0),(53,.d true qT0),(54,.d true qT0),(61,.d true qT0),(62,.d true qT0)],[.cs 101 2 1 (.cons (.own 2) (.cons (.own 3) .nil)),.cs 101 2 1 (.cons (.own 4) (.cons (.own 5) .nil)),.arr 33 (.fz true) [3] qT1,.arr 33 (.fz true) [3] qT1,.arr 33 (.fz true) [3] qT1,.arr 33 (.fz true) [3] qT1]⟩
def qwd:Shp:=⟨[(0,.ptr 0),(1,.d true qT0),(5,.ptr 1),(53,.d true qT0),(54,.d true qT0)],[.cs 101 2 1 (.cons (.own 2) (.cons (.own 3) .nil)),.cs 101 2 1 (.cons (.own 4) (.cons (.own 5) .nil)),.arr 33 (.fz true) [3] qT1,.arr 33 (.fz true) [3] qT1,.arr 33 (.fz true) [3] qT1,.arr 33 (.fz true) [3] qT1]⟩
def qj1 {R:Type} (c_1:Int) (v_53:Int) (r_00:qL2) (r_01:qL2) (v_54:Int) (next_50:qL2) (next_51:qL2) (nx:(Int×qL2×qL2)→Option R) (dn:(qL2×qL2)→Option R) (rt:(Bool×qL2×qL2)→Option R):Option R :=
 bif decide (v_54 < v_53) then
   bnd (qy5 c_1 v_54 v_53 v_54 (r_00.length:Int) r_00 r_01 (0,next_50,next_51)) fun oe6 =>
   lk oe6 (fun e6 =>
     ckB (inR .i64 (v_54+1)) <|
     nx ((v_54+1),e6.1,e6.2)) (fun r=>rt r)
 else
   dn (next_50,next_51)
def qx6 (c_1:Int) (v_53:Int) (r_00:qL2) (r_01:qL2) (s0:(Int×qL2×qL2)):Option ((qL2×qL2)⊕(Bool×qL2×qL2)) :=
 loopM (fun a=>qj1 c_1 v_53 r_00 r_01 a.1 a.2.1 a.2.2 (fun a'=>some (.next a')) (fun e=>some (.done e)) (fun r=>some (.ret r))) s0
def qwm:Shp:=⟨[(0,.ptr 0),(1,.d true qT0),(5,.ptr 1),(53,.d true qT0),(54,.d true qT0)],[.cs 101 2 1 (.cons (.own 2) (.cons (.own 3) .nil)),.cs 101 2 1 (.cons (.own 4) (.cons (.own 5) .nil)),.arr 33 (.fz true) [3] qT1,.arr 33 (.fz true) [3] qT1,.arr 33 (.fz true) [3] qT1,.arr 33 (.fz true) [3] qT1]⟩
def qwt:Shp:=⟨[(0,.ptr 0),(5,.ptr 1)],[.cs 101 2 1 (.cons (.own 2) (.cons (.own 3) .nil)),.cs 101 2 1 (.cons (.own 4) (.cons (.own 5) .nil)),.arr 33 (.fz true) [3] qT1,.arr 33 (.fz true) [3] qT1,.arr 33 (.fz true) [3] qT1,.arr 33 (.fz true) [3] qT1]⟩
def qou (c_1:Int) (r_00:qL2) (r_01:qL2):Option (Bool×qL2×qL2) :=
 bnd (qxr c_1 (r_00.length:Int) r_00 r_01 (0,[],[])) fun oe2 =>
 lk oe2 (fun e2 =>
   bnd (qx6 c_1 (r_00.length:Int) r_00 r_01 (0,e2.1,e2.2)) fun oe7 =>
   lk oe7 (fun e7 =>
     some (true,e7.1,e7.2)) (fun r=>some r)) (fun r=>some r)
def qzx {R:Type} (x_0:Int) (n_2:Int) (dn:Unit→Option R) (rt:Int→Option R):Option R :=
 bif decide ((256:Int)≤x_0) then
   ckB (decide (0≤(8:Int))) <|
   ckB (inR .i64 (n_2+8)) <|
   ckB (ix (IntKind.wrap .u8 (shrI .u64 x_0 8)) (ByteArray.size bytes0)) <|
   ckB (inR .i64 (((ByteArray.data bytes0).getD (Int.toNat (IntKind.wrap .u8 (shrI .u64 x_0 8))) 0).toNat:Int)) <|
   ckB (inR .i64 ((n_2+8)+(((ByteArray.data bytes0).getD (Int.toNat (IntKind.wrap .u8 (shrI .u64 x_0 8))) 0).toNat:Int))) <|
   rt ((n_2+8)+(((ByteArray.data bytes0).getD (Int.toNat (IntKind.wrap .u8 (shrI .u64 x_0 8))) 0).toNat:Int))
 else
   ckB (ix (IntKind.wrap .u8 x_0) (ByteArray.size bytes0)) <|
   ckB (inR .i64 (((ByteArray.data bytes0).getD (Int.toNat (IntKind.wrap .u8 x_0)) 0).toNat:Int)) <|
   ckB (inR .i64 (n_2+(((ByteArray.data bytes0).getD (Int.toNat (IntKind.wrap .u8 x_0)) 0).toNat:Int))) <|
   rt (n_2+(((ByteArray.data bytes0).getD (Int.toNat (IntKind.wrap .u8 x_0)) 0).toNat:Int))
def qmw (x_0:Int) (n_2:Int):Option (Unit⊕Int) :=
 qzx x_0 n_2 (fun e=>some (.inl e)) (fun r=>some (.inr r))
def q1b1:Shp:=⟨[(0,.d true (.int .u64)),(2,.d true qT0)],[]⟩
def q1bj:Shp:=⟨[],[]⟩
def q16f (x_0:Int):Option Int :=
 bif decide ((4294967296:Int)≤x_0) then
   ckB (decide (0≤(32:Int))) <|
   bif decide ((65536:Int)≤(shrI .u64 x_0 32)) then
     ckB (decide (0≤(16:Int))) <|
     ckB (inR .i64 ((32:Int)+16)) <|
     bnd (qmw (shrI .u64 (shrI .u64 x_0 32) 16) ((32:Int)+16)) fun oe1 =>
     lk oe1 (fun e1 =>
       none) (fun r=>some r)
   else
     bnd (qmw (shrI .u64 x_0 32) 32) fun oe2 =>
     lk oe2 (fun e2 =>
       none) (fun r=>some r)
 else
   bif decide ((65536:Int)≤x_0) then
     ckB (decide (0≤(16:Int))) <|
     ckB (inR .i64 ((0:Int)+16)) <|
     bnd (qmw (shrI .u64 x_0 16) ((0:Int)+16)) fun oe3 =>
     lk oe3 (fun e3 =>
       none) (fun r=>some r)
   else
     bnd (qmw x_0 0) fun oe4 =>
     lk oe4 (fun e4 =>
       none) (fun r=>some r)
def qzb (x_0:Int):Option Int :=
 bnd (q16f x_0) fun r1 =>
 some r1
def qqu (x_0:Int):Option Bool :=
 some (!decide (x_0=x_0))
def qv7 (x_0:Int) (y_1:Int):Option Int :=
 bnd (qqu x_0) fun r1 =>
 bnd (qqu y_1) fun r2 =>
 bif r1 then
   bif r2 then
     some 0
   else
     some (-1)
 else
   bif r2 then
     some 1
   else
     bif decide (x_0 < y_1) then
       some (-1)
     else
       bif decide (y_1 < x_0) then
         some 1
       else
         some 0
def qeg {R:Type} (s1_0:qL1) (s2_1:qL1) (v_9:qL1) (v_10:Int) (v_11:Int) (nx:Int→Option R) (dn:Unit→Option R) (rt:Int→Option R):Option R :=
 bif decide (v_11 < v_10) then
   ckB (ix v_11 v_9.length) <|
   ckB (ix v_11 v_9.length) <|
   bif decide ((s2_1.length:Int)≤v_11) then
     rt 1
   else
     ckB (ix v_11 s2_1.length) <|
     ckB (ix v_11 s2_1.length) <|
     bnd (qv7 (v_9.getD (Int.toNat v_11) 0) (s2_1.getD (Int.toNat v_11) 0)) fun r1 =>
     bif (!decide (r1=0)) then
       rt r1
     else
       ckB (inR .i64 (v_11+1)) <|
       nx (v_11+1)
 else
   dn ()
def qte (s1_0:qL1) (s2_1:qL1) (v_9:qL1) (v_10:Int) (s0:Int):Option (Unit⊕Int) :=
 loopM (fun a=>qeg s1_0 s2_1 v_9 v_10 a (fun a'=>some (.next a')) (fun e=>some (.done e)) (fun r=>some (.ret r))) s0
def qsd:Shp:=⟨[(0,.d false qT1),(1,.d false qT1),(9,.d false qT1),(10,.d true qT0),(11,.d true qT0)],[]⟩
def qse:Shp:=⟨[(0,.d false qT1),(1,.d false qT1)],[]⟩
def qa (s1_0:qL1) (s2_1:qL1):Option Int :=
 bnd (qte s1_0 s2_1 s1_0 (s1_0.length:Int) 0) fun oe2 =>
 lk oe2 (fun e2 =>
   bif decide ((s1_0.length:Int) < (s2_1.length:Int)) then
     some (-1)
   else
     some 0) (fun r=>some r)
def q54 {R:Type} (a_1:Int) (b_2:Int) (i_8:Int) (j_9:Int) (data_0:qL2) (nx:(Int×qL2)→Option R) (dn:qL2→Option R) (rt:qL2→Option R):Option R :=
 bif decide (a_1 < j_9) then
   ckB (ix j_9 data_0.length) <|
   ckB (ix j_9 data_0.length) <|
   ckB (inR .i64 (j_9 - 1)) <|
   ckB (ix (j_9 - 1) data_0.length) <|
   ckB (ix (j_9 - 1) data_0.length) <|
   bnd (qa (data_0.getD (Int.toNat j_9) []) (data_0.getD (Int.toNat (j_9 - 1)) [])) fun r1 =>
   bif decide (r1 < 0) then
     ckB (inR .i64 (j_9 - 1)) <|
     ckB (inR .i64 (j_9 - 1)) <|
     ckB (ix (j_9 - 1) data_0.length) <|
     ckB (ix (j_9 - 1) data_0.length) <|
     ckB (ix j_9 data_0.length) <|
     ckB (ix j_9 data_0.length) <|
     ckB (ix j_9 data_0.length) <|
     ckB (ix (j_9 - 1) data_0.length) <|
     ckB (ix j_9 data_0.length) <|
     ckB (decide ((data_0.length:Nat)=(data_0.set (Int.toNat j_9) (data_0.getD (Int.toNat (j_9 - 1)) [])).length)) <|
     ckB (ix (j_9 - 1) (data_0.set (Int.toNat j_9) (data_0.getD (Int.toNat (j_9 - 1)) [])).length) <|
     ckB (inR .i64 (j_9 - 1)) <|
     nx ((j_9 - 1),((data_0.set (Int.toNat j_9) (data_0.getD (Int.toNat (j_9 - 1)) [])).set (Int.toNat (j_9 - 1)) (data_0.getD (Int.toNat j_9) [])))
   else
     dn data_0
 else
   dn data_0
def qg8 (a_1:Int) (b_2:Int) (i_8:Int) (s0:(Int×qL2)):Option (qL2⊕qL2) :=
 loopM (fun a=>q54 a_1 b_2 i_8 a.1 a.2 (fun a'=>some (.next a')) (fun e=>some (.done e)) (fun r=>some (.ret r))) s0
def qet:Shp:=⟨[(0,.own 0),(1,.d true qT0),(2,.d true qT0),(3,.fn 54 .nil),(8,.d true qT0),(9,.d true qT0)],[.arr 33 (.fz true) [3] qT1]⟩
def qf8:Shp:=⟨[(0,.own 0),(1,.d true qT0),(2,.d true qT0),(3,.fn 54 .nil),(8,.d true qT0)],[.arr 33 (.fz true) [3] qT1]⟩
def q4y {R:Type} (a_1:Int) (b_2:Int) (i_8:Int) (data_0:qL2) (nx:(Int×qL2)→Option R) (dn:qL2→Option R) (rt:qL2→Option R):Option R :=
 bif decide (i_8 < b_2) then
   bnd (qg8 a_1 b_2 i_8 (i_8,data_0)) fun oe2 =>
   lk oe2 (fun e2 =>
     ckB (inR .i64 (i_8+1)) <|
     nx ((i_8+1),e2)) (fun r=>rt r)
 else
   dn data_0
def qfm (a_1:Int) (b_2:Int) (s0:(Int×qL2)):Option (qL2⊕qL2) :=
 loopM (fun a=>q4y a_1 b_2 a.1 a.2 (fun a'=>some (.next a')) (fun e=>some (.done e)) (fun r=>some (.ret r))) s0
def qf9:Shp:=⟨[(0,.own 0),(1,.d true qT0),(2,.d true qT0),(3,.fn 54 .nil),(8,.d true qT0)],[.arr 33 (.fz true) [3] qT1]⟩
def qeo:Shp:=⟨[],[.arr 33 (.fz true) [3] qT1]⟩
def q6o (a_1:Int) (b_2:Int) (data_0:qL2):Option qL2 :=
 ckB (inR .i64 (a_1+1)) <|
 bnd (qfm a_1 b_2 ((a_1+1),data_0)) fun oe3 =>
 lk oe3 (fun e3 =>
   some e3) (fun r=>some r)
def q7k {R:Type} (hi_2:Int) (first_3:Int) (root_10:Int) (child_11:Int) (data_0:qL2) (dn:qL2→Option R) (rt:qL2→Option R):Option R :=
 ckB (inR .i64 (first_3+root_10)) <|
 ckB (ix (first_3+root_10) data_0.length) <|
 ckB (ix (first_3+root_10) data_0.length) <|
 ckB (inR .i64 (first_3+child_11)) <|
 ckB (ix (first_3+child_11) data_0.length) <|
 ckB (ix (first_3+child_11) data_0.length) <|
 bnd (qa (data_0.getD (Int.toNat (first_3+root_10)) []) (data_0.getD (Int.toNat (first_3+child_11)) [])) fun r2 =>
 bif (!(decide (r2 < 0))) then
   rt data_0
 else
   ckB (inR .i64 (first_3+root_10)) <|
   ckB (inR .i64 (first_3+child_11)) <|
   ckB (inR .i64 (first_3+child_11)) <|
   ckB (ix (first_3+child_11) data_0.length) <|
   ckB (ix (first_3+child_11) data_0.length) <|
   ckB (inR .i64 (first_3+root_10)) <|
   ckB (ix (first_3+root_10) data_0.length) <|
   ckB (ix (first_3+root_10) data_0.length) <|
   ckB (ix (first_3+root_10) data_0.length) <|
   ckB (ix (first_3+child_11) data_0.length) <|
   ckB (ix (first_3+root_10) data_0.length) <|
   ckB (decide ((data_0.length:Nat)=(data_0.set (Int.toNat (first_3+root_10)) (data_0.getD (Int.toNat (first_3+child_11)) [])).length)) <|
   ckB (ix (first_3+child_11) (data_0.set (Int.toNat (first_3+root_10)) (data_0.getD (Int.toNat (first_3+child_11)) [])).length) <|
   dn ((data_0.set (Int.toNat (first_3+root_10)) (data_0.getD (Int.toNat (first_3+child_11)) [])).set (Int.toNat (first_3+child_11)) (data_0.getD (Int.toNat (first_3+root_10)) []))
def q3u (hi_2:Int) (first_3:Int) (root_10:Int) (child_11:Int) (data_0:qL2):Option (qL2⊕qL2) :=
 q7k hi_2 first_3 root_10 child_11 data_0 (fun e=>some (.inl e)) (fun r=>some (.inr r))
def qjh:Shp:=⟨[(0,.own 0),(2,.d true qT0),(3,.d true qT0),(4,.fn 54 .nil),(10,.d true qT0),(11,.d true qT0)],[.arr 33 (.fz true) [3] qT1]⟩
def qjz:Shp:=⟨[(0,.own 0),(2,.d true qT0),(3,.d true qT0),(4,.fn 54 .nil),(10,.d true qT0)],[.arr 33 (.fz true) [3] qT1]⟩
def q7y {R:Type} (hi_2:Int) (first_3:Int) (root_10:Int) (data_0:qL2) (nx:(Int×qL2)→Option R) (dn:qL2→Option R) (rt:qL2→Option R):Option R :=
 ckB (inR .i64 ((2:Int)*root_10)) <|
 ckB (inR .i64 (((2:Int)*root_10)+1)) <|
 bif decide (hi_2≤(((2:Int)*root_10)+1)) then
   dn data_0
 else
   ckB (inR .i64 ((((2:Int)*root_10)+1)+1)) <|
   bif decide (((((2:Int)*root_10)+1)+1) < hi_2) then
     ckB (inR .i64 (first_3+(((2:Int)*root_10)+1))) <|
     ckB (ix (first_3+(((2:Int)*root_10)+1)) data_0.length) <|
     ckB (ix (first_3+(((2:Int)*root_10)+1)) data_0.length) <|
     ckB (inR .i64 (first_3+(((2:Int)*root_10)+1))) <|
     ckB (inR .i64 ((first_3+(((2:Int)*root_10)+1))+1)) <|
     ckB (ix ((first_3+(((2:Int)*root_10)+1))+1) data_0.length) <|
     ckB (ix ((first_3+(((2:Int)*root_10)+1))+1) data_0.length) <|
     bnd (qa (data_0.getD (Int.toNat (first_3+(((2:Int)*root_10)+1))) []) (data_0.getD (Int.toNat ((first_3+(((2:Int)*root_10)+1))+1)) [])) fun r1 =>
     bif decide (r1 < 0) then
       ckB (inR .i64 ((((2:Int)*root_10)+1)+1)) <|
       bnd (q3u hi_2 first_3 root_10 ((((2:Int)*root_10)+1)+1) data_0) fun oe3 =>
       lk oe3 (fun e3 =>
         nx (((((2:Int)*root_10)+1)+1),e3)) (fun r=>rt r)
     else
       bnd (q3u hi_2 first_3 root_10 (((2:Int)*root_10)+1) data_0) fun oe4 =>
       lk oe4 (fun e4 =>
         nx ((((2:Int)*root_10)+1),e4)) (fun r=>rt r)
   else
     bnd (q3u hi_2 first_3 root_10 (((2:Int)*root_10)+1) data_0) fun oe5 =>
     lk oe5 (fun e5 =>
       nx ((((2:Int)*root_10)+1),e5)) (fun r=>rt r)
def qmk (hi_2:Int) (first_3:Int) (s0:(Int×qL2)):Option (qL2⊕qL2) :=
 loopM (fun a=>q7y hi_2 first_3 a.1 a.2 (fun a'=>some (.next a')) (fun e=>some (.done e)) (fun r=>some (.ret r))) s0
def qk5:Shp:=⟨[(0,.own 0),(2,.d true qT0),(3,.d true qT0),(4,.fn 54 .nil),(10,.d true qT0)],[.arr 33 (.fz true) [3] qT1]⟩
def qk8:Shp:=⟨[],[.arr 33 (.fz true) [3] qT1]⟩
def q4o (lo_1:Int) (hi_2:Int) (first_3:Int) (data_0:qL2):Option qL2 :=
 bnd (qmk hi_2 first_3 (lo_1,data_0)) fun oe6 =>
 lk oe6 (fun e6 =>
   some e6) (fun r=>some r)
def q7l {R:Type} (first_8:Int) (lo_9:Int) (hi_10:Int) (i_11:Int) (data_0:qL2) (nx:(Int×qL2)→Option R) (dn:qL2→Option R) (rt:qL2→Option R):Option R :=
 bif decide ((0:Int)≤i_11) then
   bnd (q4o i_11 hi_10 first_8 data_0) fun r1 =>
   ckB (decide (r1.length=data_0.length)) <|
   ckB (inR .i64 (i_11 - 1)) <|
   nx ((i_11 - 1),r1)
 else
   dn data_0
def qm5 (first_8:Int) (lo_9:Int) (hi_10:Int) (s0:(Int×qL2)):Option (qL2⊕qL2) :=
 loopM (fun a=>q7l first_8 lo_9 hi_10 a.1 a.2 (fun a'=>some (.next a')) (fun e=>some (.done e)) (fun r=>some (.ret r))) s0
def qjp:Shp:=⟨[(0,.own 0),(3,.fn 54 .nil),(8,.d true qT0),(9,.d true qT0),(10,.d true qT0),(11,.d true qT0)],[.arr 33 (.fz true) [3] qT1]⟩
def qk4:Shp:=⟨[(0,.own 0),(3,.fn 54 .nil),(8,.d true qT0),(9,.d true qT0),(10,.d true qT0)],[.arr 33 (.fz true) [3] qT1]⟩
def q7u {R:Type} (first_8:Int) (lo_9:Int) (i_12:Int) (data_0:qL2) (nx:(Int×qL2)→Option R) (dn:qL2→Option R) (rt:qL2→Option R):Option R :=
 bif decide ((0:Int)≤i_12) then
   ckB (inR .i64 (first_8+i_12)) <|
   ckB (inR .i64 (first_8+i_12)) <|
   ckB (ix (first_8+i_12) data_0.length) <|
   ckB (ix (first_8+i_12) data_0.length) <|
   ckB (ix first_8 data_0.length) <|
   ckB (ix first_8 data_0.length) <|
   ckB (ix first_8 data_0.length) <|
   ckB (ix (first_8+i_12) data_0.length) <|
   ckB (ix first_8 data_0.length) <|
   ckB (decide ((data_0.length:Nat)=(data_0.set (Int.toNat first_8) (data_0.getD (Int.toNat (first_8+i_12)) [])).length)) <|
   ckB (ix (first_8+i_12) (data_0.set (Int.toNat first_8) (data_0.getD (Int.toNat (first_8+i_12)) [])).length) <|
   bnd (q4o lo_9 i_12 first_8 ((data_0.set (Int.toNat first_8) (data_0.getD (Int.toNat (first_8+i_12)) [])).set (Int.toNat (first_8+i_12)) (data_0.getD (Int.toNat first_8) []))) fun r3 =>
   ckB (decide (r3.length=((data_0.set (Int.toNat first_8) (data_0.getD (Int.toNat (first_8+i_12)) [])).set (Int.toNat (first_8+i_12)) (data_0.getD (Int.toNat first_8) [])).length)) <|
   ckB (inR .i64 (i_12 - 1)) <|
   nx ((i_12 - 1),r3)
 else
   dn data_0
def qm2 (first_8:Int) (lo_9:Int) (s0:(Int×qL2)):Option (qL2⊕qL2) :=
 loopM (fun a=>q7u first_8 lo_9 a.1 a.2 (fun a'=>some (.next a')) (fun e=>some (.done e)) (fun r=>some (.ret r))) s0
def qjw:Shp:=⟨[(0,.own 0),(3,.fn 54 .nil),(8,.d true qT0),(9,.d true qT0),(12,.d true qT0)],[.arr 33 (.fz true) [3] qT1]⟩
def qjq:Shp:=⟨[],[.arr 33 (.fz true) [3] qT1]⟩
def qaa (a_1:Int) (b_2:Int) (data_0:qL2):Option qL2 :=
 ckB (inR .i64 (b_2 - a_1)) <|
 ckB (inR .i64 ((b_2 - a_1) - 1)) <|
 ckB (!decide ((2:Int)=0)) <|
 ckB (inR .i64 (Int.tdiv ((b_2 - a_1) - 1) 2)) <|
 bnd (qm5 a_1 0 (b_2 - a_1) ((Int.tdiv ((b_2 - a_1) - 1) 2),data_0)) fun oe2 =>
 lk oe2 (fun e2 =>
   ckB (inR .i64 ((b_2 - a_1) - 1)) <|
   bnd (qm2 a_1 0 (((b_2 - a_1) - 1),e2)) fun oe4 =>
   lk oe4 (fun e4 =>
     some e4) (fun r=>some r)) (fun r=>some r)
def qbn (length_0:Int):Option Int :=
 bnd (qzb (IntKind.wrap .u64 length_0)) fun r1 =>
 ckB (decide (0≤r1)) <|
 some (shlI .u64 1 r1)
def qda (r_0:Int):Option (Int×Int) :=
 ckB (decide (0≤(13:Int))) <|
 ckB (decide (0≤(7:Int))) <|
 ckB (decide (0≤(17:Int))) <|
 some ((bitI .xor .u64 (bitI .xor .u64 (bitI .xor .u64 r_0 (shlI .u64 r_0 13)) (shrI .u64 (bitI .xor .u64 r_0 (shlI .u64 r_0 13)) 7)) (shlI .u64 (bitI .xor .u64 (bitI .xor .u64 r_0 (shlI .u64 r_0 13)) (shrI .u64 (bitI .xor .u64 r_0 (shlI .u64 r_0 13)) 7)) 17)),(bitI .xor .u64 (bitI .xor .u64 (bitI .xor .u64 r_0 (shlI .u64 r_0 13)) (shrI .u64 (bitI .xor .u64 r_0 (shlI .u64 r_0 13)) 7)) (shlI .u64 (bitI .xor .u64 (bitI .xor .u64 r_0 (shlI .u64 r_0 13)) (shrI .u64 (bitI .xor .u64 r_0 (shlI .u64 r_0 13)) 7)) 17)))
def q4z {R:Type} (a_1:Int) (length_8:Int) (modulus_10:Int) (idx_11:Int) (data_0:qL2) (random_9:Int) (nx:(Int×qL2×Int)→Option R) (dn:qL2→Option R) (rt:qL2→Option R):Option R :=
 ckB (!decide ((4:Int)=0)) <|
 ckB (inR .i64 (Int.tdiv length_8 4)) <|
 ckB (inR .i64 ((Int.tdiv length_8 4)*2)) <|
 ckB (inR .i64 (a_1+((Int.tdiv length_8 4)*2))) <|
 ckB (inR .i64 ((a_1+((Int.tdiv length_8 4)*2))+1)) <|
 bif decide (idx_11≤((a_1+((Int.tdiv length_8 4)*2))+1)) then
   bnd (qda random_9) fun r2 =>
   ckB (inR .i64 (bitI .and .u64 r2.1 (IntKind.wrap .u64 (modulus_10 - 1)))) <|
   bif decide (length_8≤(bitI .and .u64 r2.1 (IntKind.wrap .u64 (modulus_10 - 1)))) then
     ckB (inR .i64 ((bitI .and .u64 r2.1 (IntKind.wrap .u64 (modulus_10 - 1))) - length_8)) <|
     ckB (inR .i64 (a_1+((bitI .and .u64 r2.1 (IntKind.wrap .u64 (modulus_10 - 1))) - length_8))) <|
     ckB (inR .i64 (a_1+((bitI .and .u64 r2.1 (IntKind.wrap .u64 (modulus_10 - 1))) - length_8))) <|
     ckB (ix (a_1+((bitI .and .u64 r2.1 (IntKind.wrap .u64 (modulus_10 - 1))) - length_8)) data_0.length) <|
     ckB (ix (a_1+((bitI .and .u64 r2.1 (IntKind.wrap .u64 (modulus_10 - 1))) - length_8)) data_0.length) <|
     ckB (ix idx_11 data_0.length) <|
     ckB (ix idx_11 data_0.length) <|
     ckB (ix idx_11 data_0.length) <|
     ckB (ix (a_1+((bitI .and .u64 r2.1 (IntKind.wrap .u64 (modulus_10 - 1))) - length_8)) data_0.length) <|
     ckB (ix idx_11 data_0.length) <|
     ckB (decide ((data_0.length:Nat)=(data_0.set (Int.toNat idx_11) (data_0.getD (Int.toNat (a_1+((bitI .and .u64 r2.1 (IntKind.wrap .u64 (modulus_10 - 1))) - length_8))) [])).length)) <|
     ckB (ix (a_1+((bitI .and .u64 r2.1 (IntKind.wrap .u64 (modulus_10 - 1))) - length_8)) (data_0.set (Int.toNat idx_11) (data_0.getD (Int.toNat (a_1+((bitI .and .u64 r2.1 (IntKind.wrap .u64 (modulus_10 - 1))) - length_8))) [])).length) <|
     ckB (inR .i64 (idx_11+1)) <|
     nx ((idx_11+1),((data_0.set (Int.toNat idx_11) (data_0.getD (Int.toNat (a_1+((bitI .and .u64 r2.1 (IntKind.wrap .u64 (modulus_10 - 1))) - length_8))) [])).set (Int.toNat (a_1+((bitI .and .u64 r2.1 (IntKind.wrap .u64 (modulus_10 - 1))) - length_8))) (data_0.getD (Int.toNat idx_11) [])),r2.2)
   else
     ckB (inR .i64 (a_1+(bitI .and .u64 r2.1 (IntKind.wrap .u64 (modulus_10 - 1))))) <|
     ckB (inR .i64 (a_1+(bitI .and .u64 r2.1 (IntKind.wrap .u64 (modulus_10 - 1))))) <|
     ckB (ix (a_1+(bitI .and .u64 r2.1 (IntKind.wrap .u64 (modulus_10 - 1)))) data_0.length) <|
     ckB (ix (a_1+(bitI .and .u64 r2.1 (IntKind.wrap .u64 (modulus_10 - 1)))) data_0.length) <|
     ckB (ix idx_11 data_0.length) <|
     ckB (ix idx_11 data_0.length) <|
     ckB (ix idx_11 data_0.length) <|
     ckB (ix (a_1+(bitI .and .u64 r2.1 (IntKind.wrap .u64 (modulus_10 - 1)))) data_0.length) <|
     ckB (ix idx_11 data_0.length) <|
     ckB (decide ((data_0.length:Nat)=(data_0.set (Int.toNat idx_11) (data_0.getD (Int.toNat (a_1+(bitI .and .u64 r2.1 (IntKind.wrap .u64 (modulus_10 - 1))))) [])).length)) <|
     ckB (ix (a_1+(bitI .and .u64 r2.1 (IntKind.wrap .u64 (modulus_10 - 1)))) (data_0.set (Int.toNat idx_11) (data_0.getD (Int.toNat (a_1+(bitI .and .u64 r2.1 (IntKind.wrap .u64 (modulus_10 - 1))))) [])).length) <|
     ckB (inR .i64 (idx_11+1)) <|
     nx ((idx_11+1),((data_0.set (Int.toNat idx_11) (data_0.getD (Int.toNat (a_1+(bitI .and .u64 r2.1 (IntKind.wrap .u64 (modulus_10 - 1))))) [])).set (Int.toNat (a_1+(bitI .and .u64 r2.1 (IntKind.wrap .u64 (modulus_10 - 1))))) (data_0.getD (Int.toNat idx_11) [])),r2.2)
 else
   dn data_0
def qg4 (a_1:Int) (length_8:Int) (modulus_10:Int) (s0:(Int×qL2×Int)):Option (qL2⊕qL2) :=
 loopM (fun a=>q4z a_1 length_8 modulus_10 a.1 a.2.1 a.2.2 (fun a'=>some (.next a')) (fun e=>some (.done e)) (fun r=>some (.ret r))) s0
def qez:Shp:=⟨[(0,.own 0),(1,.d true qT0),(8,.d true qT0),(9,.ptr 1),(10,.d true (.int .u64)),(11,.d true qT0)],[.arr 33 (.fz true) [3] qT1,.cs 115 1 1 (.cons (.d true (.int .u64)) .nil)]⟩
def qf0:Shp:=⟨[],[.arr 33 (.fz true) [3] qT1]⟩
def q6q (a_1:Int) (b_2:Int) (data_0:qL2):Option qL2 :=
 ckB (inR .i64 (b_2 - a_1)) <|
 bif decide ((8:Int)≤(b_2 - a_1)) then
   bnd (qbn (b_2 - a_1)) fun r1 =>
   ckB (!decide ((4:Int)=0)) <|
   ckB (inR .i64 (Int.tdiv (b_2 - a_1) 4)) <|
   ckB (inR .i64 ((Int.tdiv (b_2 - a_1) 4)*2)) <|
   ckB (inR .i64 (a_1+((Int.tdiv (b_2 - a_1) 4)*2))) <|
   ckB (inR .i64 ((a_1+((Int.tdiv (b_2 - a_1) 4)*2)) - 1)) <|
   bnd (qg4 a_1 (b_2 - a_1) r1 (((a_1+((Int.tdiv (b_2 - a_1) 4)*2)) - 1),data_0,(IntKind.wrap .u64 (b_2 - a_1)))) fun oe3 =>
   lk oe3 (fun e3 =>
     some e3) (fun r=>some r)
 else
   some data_0
def q2z (data_0:qL2) (a_1:Int) (b_2:Int) (swaps_3:Int):Option (Int×Int×Int) :=
 ckB (ix b_2 data_0.length) <|
 ckB (ix b_2 data_0.length) <|
 ckB (ix a_1 data_0.length) <|
 ckB (ix a_1 data_0.length) <|
 bnd (qa (data_0.getD (Int.toNat b_2) []) (data_0.getD (Int.toNat a_1) [])) fun r1 =>
 bif decide (r1 < 0) then
   ckB (inR .i64 (swaps_3+1)) <|
   some (b_2,a_1,(swaps_3+1))
 else
   some (a_1,b_2,swaps_3)
def q2w (data_0:qL2) (a_1:Int) (b_2:Int) (c_3:Int) (swaps_4:Int):Option (Int×Int) :=
 bnd (q2z data_0 a_1 b_2 swaps_4) fun r1 =>
 bnd (q2z data_0 r1.2.1 c_3 r1.2.2) fun r2 =>
 bnd (q2z data_0 r1.1 r2.1 r2.2.2) fun r3 =>
 some (r3.2.1,r3.2.2)
def q1n (data_0:qL2) (a_1:Int) (swaps_2:Int):Option (Int×Int) :=
 ckB (inR .i64 (a_1 - 1)) <|
 ckB (inR .i64 (a_1+1)) <|
 bnd (q2w data_0 (a_1 - 1) a_1 (a_1+1) swaps_2) fun r1 =>
 some (r1.1,r1.2)
def q64 {R:Type} (j_13:Int) (swaps_11:Int) (dn:Unit→Option R) (rt:(Int×Int)→Option R):Option R :=
 bif decide (swaps_11=0) then
   rt (j_13,1)
 else
   bif decide (swaps_11=12) then
     rt (j_13,2)
   else
     rt (j_13,0)
def q2s (j_13:Int) (swaps_11:Int):Option (Unit⊕(Int×Int)) :=
 q64 j_13 swaps_11 (fun e=>some (.inl e)) (fun r=>some (.inr r))
def qh5:Shp:=⟨[(11,.ptr 0),(13,.d true qT0)],[.cs 3 1 1 (.cons (.d true qT0) .nil)]⟩
def qh6:Shp:=⟨[],[]⟩
def q3n (data_0:qL2) (a_1:Int) (b_2:Int):Option (Int×Int) :=
 ckB (inR .i64 (b_2 - a_1)) <|
 ckB (!decide ((4:Int)=0)) <|
 ckB (inR .i64 (Int.tdiv (b_2 - a_1) 4)) <|
 ckB (inR .i64 ((Int.tdiv (b_2 - a_1) 4)*1)) <|
 ckB (inR .i64 (a_1+((Int.tdiv (b_2 - a_1) 4)*1))) <|
 ckB (!decide ((4:Int)=0)) <|
 ckB (inR .i64 (Int.tdiv (b_2 - a_1) 4)) <|
 ckB (inR .i64 ((Int.tdiv (b_2 - a_1) 4)*2)) <|
 ckB (inR .i64 (a_1+((Int.tdiv (b_2 - a_1) 4)*2))) <|
 ckB (!decide ((4:Int)=0)) <|
 ckB (inR .i64 (Int.tdiv (b_2 - a_1) 4)) <|
 ckB (inR .i64 ((Int.tdiv (b_2 - a_1) 4)*3)) <|
 ckB (inR .i64 (a_1+((Int.tdiv (b_2 - a_1) 4)*3))) <|
 bif decide ((8:Int)≤(b_2 - a_1)) then
   bif decide ((50:Int)≤(b_2 - a_1)) then
     bnd (q1n data_0 (a_1+((Int.tdiv (b_2 - a_1) 4)*1)) 0) fun r1 =>
     bnd (q1n data_0 (a_1+((Int.tdiv (b_2 - a_1) 4)*2)) r1.2) fun r2 =>
     bnd (q1n data_0 (a_1+((Int.tdiv (b_2 - a_1) 4)*3)) r2.2) fun r3 =>
     bnd (q2w data_0 r1.1 r2.1 r3.1 r3.2) fun r4 =>
     bnd (q2s r4.1 r4.2) fun oe5 =>
     lk oe5 (fun e5 =>
       none) (fun r=>some r)
   else
     bnd (q2w data_0 (a_1+((Int.tdiv (b_2 - a_1) 4)*1)) (a_1+((Int.tdiv (b_2 - a_1) 4)*2)) (a_1+((Int.tdiv (b_2 - a_1) 4)*3)) 0) fun r6 =>
     bnd (q2s r6.1 r6.2) fun oe7 =>
     lk oe7 (fun e7 =>
       none) (fun r=>some r)
 else
   bnd (q2s (a_1+((Int.tdiv (b_2 - a_1) 4)*2)) 0) fun oe8 =>
   lk oe8 (fun e8 =>
     none) (fun r=>some r)
def q5h {R:Type}  (i_8:Int) (j_9:Int) (data_0:qL2) (nx:(Int×Int×qL2)→Option R) (dn:qL2→Option R) (rt:qL2→Option R):Option R :=
 bif decide (i_8 < j_9) then
   ckB (ix j_9 data_0.length) <|
   ckB (ix j_9 data_0.length) <|
   ckB (ix i_8 data_0.length) <|
   ckB (ix i_8 data_0.length) <|
   ckB (ix i_8 data_0.length) <|
   ckB (ix j_9 data_0.length) <|
   ckB (ix i_8 data_0.length) <|
   ckB (decide ((data_0.length:Nat)=(data_0.set (Int.toNat i_8) (data_0.getD (Int.toNat j_9) [])).length)) <|
   ckB (ix j_9 (data_0.set (Int.toNat i_8) (data_0.getD (Int.toNat j_9) [])).length) <|
   ckB (inR .i64 (i_8+1)) <|
   ckB (inR .i64 (j_9 - 1)) <|
   nx ((i_8+1),(j_9 - 1),((data_0.set (Int.toNat i_8) (data_0.getD (Int.toNat j_9) [])).set (Int.toNat j_9) (data_0.getD (Int.toNat i_8) [])))
 else
   dn data_0
def qgs  (s0:(Int×Int×qL2)):Option (qL2⊕qL2) :=
 loopM (fun a=>q5h  a.1 a.2.1 a.2.2 (fun a'=>some (.next a')) (fun e=>some (.done e)) (fun r=>some (.ret r))) s0
def qgj:Shp:=⟨[(0,.own 0),(8,.d true qT0),(9,.d true qT0)],[.arr 33 (.fz true) [3] qT1]⟩
def qg0:Shp:=⟨[],[.arr 33 (.fz true) [3] qT1]⟩
def q3f (a_1:Int) (b_2:Int) (data_0:qL2):Option qL2 :=
 ckB (inR .i64 (b_2 - 1)) <|
 bnd (qgs  (a_1,(b_2 - 1),data_0)) fun oe1 =>
 lk oe1 (fun e1 =>
   some e1) (fun r=>some r)
def q38 {R:Type} (a_1:Int) (b_2:Int) (j_10:Int) (data_0:qL2) (i_9:Int) (nx:Int→Option R) (dn:Int→Option R) (rt:(Bool×qL2)→Option R):Option R :=
 bif decide (i_9 < b_2) then
   ckB (ix i_9 data_0.length) <|
   ckB (ix i_9 data_0.length) <|
   ckB (inR .i64 (i_9 - 1)) <|
   ckB (ix (i_9 - 1) data_0.length) <|
   ckB (ix (i_9 - 1) data_0.length) <|
   bnd (qa (data_0.getD (Int.toNat i_9) []) (data_0.getD (Int.toNat (i_9 - 1)) [])) fun r1 =>
   bif (!(decide (r1 < 0))) then
     ckB (inR .i64 (i_9+1)) <|
     nx (i_9+1)
   else
     dn i_9
 else
   dn i_9
def qb2 (a_1:Int) (b_2:Int) (j_10:Int) (data_0:qL2) (s0:Int):Option (Int⊕(Bool×qL2)) :=
 loopM (fun a=>q38 a_1 b_2 j_10 data_0 a (fun a'=>some (.next a')) (fun e=>some (.done e)) (fun r=>some (.ret r))) s0
def q9f:Shp:=⟨[(0,.own 0),(1,.d true qT0),(2,.d true qT0),(3,.fn 54 .nil),(9,.d true qT0),(10,.d true qT0)],[.arr 33 (.fz true) [3] qT1]⟩
def q9g:Shp:=⟨[(0,.own 0),(1,.d true qT0),(2,.d true qT0),(3,.fn 54 .nil),(9,.d true qT0),(10,.d true qT0)],[.arr 33 (.fz true) [3] qT1]⟩
def q3a {R:Type} (a_1:Int) (b_2:Int) (i_9:Int) (j_10:Int) (j_11:Int) (data_0:qL2) (nx:(Int×qL2)→Option R) (dn:qL2→Option R) (rt:(Bool×qL2)→Option R):Option R :=
 bif decide ((1:Int)≤j_11) then
   ckB (ix j_11 data_0.length) <|
   ckB (ix j_11 data_0.length) <|
   ckB (inR .i64 (j_11 - 1)) <|
   ckB (ix (j_11 - 1) data_0.length) <|
   ckB (ix (j_11 - 1) data_0.length) <|
   bnd (qa (data_0.getD (Int.toNat j_11) []) (data_0.getD (Int.toNat (j_11 - 1)) [])) fun r3 =>
   bif (!(decide (r3 < 0))) then
     dn data_0
   else
     ckB (inR .i64 (j_11 - 1)) <|
     ckB (inR .i64 (j_11 - 1)) <|
     ckB (ix (j_11 - 1) data_0.length) <|
     ckB (ix (j_11 - 1) data_0.length) <|
     ckB (ix j_11 data_0.length) <|
     ckB (ix j_11 data_0.length) <|
     ckB (ix j_11 data_0.length) <|
     ckB (ix (j_11 - 1) data_0.length) <|
     ckB (ix j_11 data_0.length) <|
     ckB (decide ((data_0.length:Nat)=(data_0.set (Int.toNat j_11) (data_0.getD (Int.toNat (j_11 - 1)) [])).length)) <|
     ckB (ix (j_11 - 1) (data_0.set (Int.toNat j_11) (data_0.getD (Int.toNat (j_11 - 1)) [])).length) <|
     ckB (inR .i64 (j_11 - 1)) <|
     nx ((j_11 - 1),((data_0.set (Int.toNat j_11) (data_0.getD (Int.toNat (j_11 - 1)) [])).set (Int.toNat (j_11 - 1)) (data_0.getD (Int.toNat j_11) [])))
 else
   dn data_0
def qb5 (a_1:Int) (b_2:Int) (i_9:Int) (j_10:Int) (s0:(Int×qL2)):Option (qL2⊕(Bool×qL2)) :=
 loopM (fun a=>q3a a_1 b_2 i_9 j_10 a.1 a.2 (fun a'=>some (.next a')) (fun e=>some (.done e)) (fun r=>some (.ret r))) s0
def q9k:Shp:=⟨[(0,.own 0),(1,.d true qT0),(2,.d true qT0),(3,.fn 54 .nil),(9,.d true qT0),(10,.d true qT0),(11,.d true qT0)],[.arr 33 (.fz true) [3] qT1]⟩
def q9m:Shp:=⟨[(0,.own 0),(1,.d true qT0),(2,.d true qT0),(3,.fn 54 .nil),(9,.d true qT0),(10,.d true qT0)],[.arr 33 (.fz true) [3] qT1]⟩
def q33 {R:Type} (a_1:Int) (b_2:Int) (i_9:Int) (j_10:Int) (j_12:Int) (data_0:qL2) (nx:(Int×qL2)→Option R) (dn:qL2→Option R) (rt:(Bool×qL2)→Option R):Option R :=
 bif decide (j_12 < b_2) then
   ckB (ix j_12 data_0.length) <|
   ckB (ix j_12 data_0.length) <|
   ckB (inR .i64 (j_12 - 1)) <|
   ckB (ix (j_12 - 1) data_0.length) <|
   ckB (ix (j_12 - 1) data_0.length) <|
   bnd (qa (data_0.getD (Int.toNat j_12) []) (data_0.getD (Int.toNat (j_12 - 1)) [])) fun r5 =>
   bif (!(decide (r5 < 0))) then
     dn data_0
   else
     ckB (inR .i64 (j_12 - 1)) <|
     ckB (inR .i64 (j_12 - 1)) <|
     ckB (ix (j_12 - 1) data_0.length) <|
     ckB (ix (j_12 - 1) data_0.length) <|
     ckB (ix j_12 data_0.length) <|
     ckB (ix j_12 data_0.length) <|
     ckB (ix j_12 data_0.length) <|
     ckB (ix (j_12 - 1) data_0.length) <|
     ckB (ix j_12 data_0.length) <|
     ckB (decide ((data_0.length:Nat)=(data_0.set (Int.toNat j_12) (data_0.getD (Int.toNat (j_12 - 1)) [])).length)) <|
     ckB (ix (j_12 - 1) (data_0.set (Int.toNat j_12) (data_0.getD (Int.toNat (j_12 - 1)) [])).length) <|
     ckB (inR .i64 (j_12+1)) <|
     nx ((j_12+1),((data_0.set (Int.toNat j_12) (data_0.getD (Int.toNat (j_12 - 1)) [])).set (Int.toNat (j_12 - 1)) (data_0.getD (Int.toNat j_12) [])))
 else
   dn data_0
def qb6 (a_1:Int) (b_2:Int) (i_9:Int) (j_10:Int) (s0:(Int×qL2)):Option (qL2⊕(Bool×qL2)) :=
 loopM (fun a=>q33 a_1 b_2 i_9 j_10 a.1 a.2 (fun a'=>some (.next a')) (fun e=>some (.done e)) (fun r=>some (.ret r))) s0
def q9v:Shp:=⟨[(0,.own 0),(1,.d true qT0),(2,.d true qT0),(3,.fn 54 .nil),(9,.d true qT0),(10,.d true qT0),(12,.d true qT0)],[.arr 33 (.fz true) [3] qT1]⟩
def q9w:Shp:=⟨[(0,.own 0),(1,.d true qT0),(2,.d true qT0),(3,.fn 54 .nil),(9,.d true qT0),(10,.d true qT0)],[.arr 33 (.fz true) [3] qT1]⟩
def q3d {R:Type} (a_1:Int) (b_2:Int) (i_9:Int) (j_10:Int) (data_0:qL2) (dn:qL2→Option R) (rt:(Bool×qL2)→Option R):Option R :=
 ckB (inR .i64 (b_2 - i_9)) <|
 bif decide ((2:Int)≤(b_2 - i_9)) then
   ckB (inR .i64 (i_9+1)) <|
   bnd (qb6 a_1 b_2 i_9 j_10 ((i_9+1),data_0)) fun oe6 =>
   lk oe6 (fun e6 =>
     dn e6) (fun r=>rt r)
 else
   dn data_0
def q3m (a_1:Int) (b_2:Int) (i_9:Int) (j_10:Int) (data_0:qL2):Option (qL2⊕(Bool×qL2)) :=
 q3d a_1 b_2 i_9 j_10 data_0 (fun e=>some (.inl e)) (fun r=>some (.inr r))
def qa1:Shp:=⟨[(0,.own 0),(1,.d true qT0),(2,.d true qT0),(3,.fn 54 .nil),(9,.d true qT0),(10,.d true qT0)],[.arr 33 (.fz true) [3] qT1]⟩
def q9o:Shp:=⟨[(0,.own 0),(1,.d true qT0),(2,.d true qT0),(3,.fn 54 .nil),(9,.d true qT0),(10,.d true qT0)],[.arr 33 (.fz true) [3] qT1]⟩
def q34 {R:Type} (a_1:Int) (b_2:Int) (i_9:Int) (j_10:Int) (data_0:qL2) (nx:(Int×Int×qL2)→Option R) (dn:qL2→Option R) (rt:(Bool×qL2)→Option R):Option R :=
 bif decide (j_10 < 5) then
   bnd (qb2 a_1 b_2 j_10 data_0 i_9) fun oe2 =>
   lk oe2 (fun e2 =>
     bif decide (e2=b_2) then
       rt (true,data_0)
     else
       ckB (inR .i64 (b_2 - a_1)) <|
       bif decide ((b_2 - a_1) < 50) then
         rt (false,data_0)
       else
         ckB (inR .i64 (e2 - 1)) <|
         ckB (inR .i64 (e2 - 1)) <|
         ckB (ix (e2 - 1) data_0.length) <|
         ckB (ix (e2 - 1) data_0.length) <|
         ckB (ix e2 data_0.length) <|
         ckB (ix e2 data_0.length) <|
         ckB (ix e2 data_0.length) <|
         ckB (ix (e2 - 1) data_0.length) <|
         ckB (ix e2 data_0.length) <|
         ckB (decide ((data_0.length:Nat)=(data_0.set (Int.toNat e2) (data_0.getD (Int.toNat (e2 - 1)) [])).length)) <|
         ckB (ix (e2 - 1) (data_0.set (Int.toNat e2) (data_0.getD (Int.toNat (e2 - 1)) [])).length) <|
         ckB (inR .i64 (e2 - a_1)) <|
         bif decide ((2:Int)≤(e2 - a_1)) then
           ckB (inR .i64 (e2 - 1)) <|
           bnd (qb5 a_1 b_2 e2 j_10 ((e2 - 1),((data_0.set (Int.toNat e2) (data_0.getD (Int.toNat (e2 - 1)) [])).set (Int.toNat (e2 - 1)) (data_0.getD (Int.toNat e2) [])))) fun oe4 =>
           lk oe4 (fun e4 =>
             bnd (q3m a_1 b_2 e2 j_10 e4) fun oe7 =>
             lk oe7 (fun e7 =>
               ckB (inR .i64 (j_10+1)) <|
               nx (e2,(j_10+1),e7)) (fun r=>rt r)) (fun r=>rt r)
         else
           bnd (q3m a_1 b_2 e2 j_10 ((data_0.set (Int.toNat e2) (data_0.getD (Int.toNat (e2 - 1)) [])).set (Int.toNat (e2 - 1)) (data_0.getD (Int.toNat e2) []))) fun oe8 =>
           lk oe8 (fun e8 =>
             ckB (inR .i64 (j_10+1)) <|
             nx (e2,(j_10+1),e8)) (fun r=>rt r)) (fun r=>rt r)
 else
   dn data_0
def qb8 (a_1:Int) (b_2:Int) (s0:(Int×Int×qL2)):Option (qL2⊕(Bool×qL2)) :=
 loopM (fun a=>q34 a_1 b_2 a.1 a.2.1 a.2.2 (fun a'=>some (.next a')) (fun e=>some (.done e)) (fun r=>some (.ret r))) s0
def qa0:Shp:=⟨[(0,.own 0),(1,.d true qT0),(2,.d true qT0),(3,.fn 54 .nil),(9,.d true qT0),(10,.d true qT0)],[.arr 33 (.fz true) [3] qT1]⟩
def q9t:Shp:=⟨[],[.arr 33 (.fz true) [3] qT1]⟩
def q3w (a_1:Int) (b_2:Int) (data_0:qL2):Option (Bool×qL2) :=
 ckB (inR .i64 (a_1+1)) <|
 bnd (qb8 a_1 b_2 ((a_1+1),0,data_0)) fun oe9 =>
 lk oe9 (fun e9 =>
   some (false,e9)) (fun r=>some r)
def q4r {R:Type} (a_1:Int) (j_12:Int) (data_0:qL2) (i_11:Int) (nx:Int→Option R) (dn:Int→Option R) (rt:(Int×qL2)→Option R):Option R :=
 bif decide (i_11≤j_12) then
   ckB (ix a_1 data_0.length) <|
   ckB (ix a_1 data_0.length) <|
   ckB (ix i_11 data_0.length) <|
   ckB (ix i_11 data_0.length) <|
   bnd (qa (data_0.getD (Int.toNat a_1) []) (data_0.getD (Int.toNat i_11) [])) fun r1 =>
   bif (!(decide (r1 < 0))) then
     ckB (inR .i64 (i_11+1)) <|
     nx (i_11+1)
   else
     dn i_11
 else
   dn i_11
def qf5 (a_1:Int) (j_12:Int) (data_0:qL2) (s0:Int):Option (Int⊕(Int×qL2)) :=
 loopM (fun a=>q4r a_1 j_12 data_0 a (fun a'=>some (.next a')) (fun e=>some (.done e)) (fun r=>some (.ret r))) s0
def qe7:Shp:=⟨[(0,.own 0),(1,.d true qT0),(4,.fn 54 .nil),(11,.d true qT0),(12,.d true qT0)],[.arr 33 (.fz true) [3] qT1]⟩
def qe5:Shp:=⟨[(0,.own 0),(1,.d true qT0),(4,.fn 54 .nil),(11,.d true qT0),(12,.d true qT0)],[.arr 33 (.fz true) [3] qT1]⟩
def q4v {R:Type} (a_1:Int) (i_11:Int) (data_0:qL2) (j_12:Int) (nx:Int→Option R) (dn:Int→Option R) (rt:(Int×qL2)→Option R):Option R :=
 bif decide (i_11≤j_12) then
   ckB (ix a_1 data_0.length) <|
   ckB (ix a_1 data_0.length) <|
   ckB (ix j_12 data_0.length) <|
   ckB (ix j_12 data_0.length) <|
   bnd (qa (data_0.getD (Int.toNat a_1) []) (data_0.getD (Int.toNat j_12) [])) fun r3 =>
   bif decide (r3 < 0) then
     ckB (inR .i64 (j_12 - 1)) <|
     nx (j_12 - 1)
   else
     dn j_12
 else
   dn j_12
def qf7 (a_1:Int) (i_11:Int) (data_0:qL2) (s0:Int):Option (Int⊕(Int×qL2)) :=
 loopM (fun a=>q4v a_1 i_11 data_0 a (fun a'=>some (.next a')) (fun e=>some (.done e)) (fun r=>some (.ret r))) s0
def qdy:Shp:=⟨[(0,.own 0),(1,.d true qT0),(4,.fn 54 .nil),(11,.d true qT0),(12,.d true qT0)],[.arr 33 (.fz true) [3] qT1]⟩
def qe6:Shp:=⟨[(0,.own 0),(1,.d true qT0),(4,.fn 54 .nil),(11,.d true qT0),(12,.d true qT0)],[.arr 33 (.fz true) [3] qT1]⟩
def q4q {R:Type} (a_1:Int) (i_11:Int) (j_12:Int) (data_0:qL2) (nx:(Int×Int×qL2)→Option R) (dn:(Int×qL2)→Option R) (rt:(Int×qL2)→Option R):Option R :=
 bnd (qf5 a_1 j_12 data_0 i_11) fun oe2 =>
 lk oe2 (fun e2 =>
   bnd (qf7 a_1 e2 data_0 j_12) fun oe4 =>
   lk oe4 (fun e4 =>
     bif decide (e4 < e2) then
       dn (e2,data_0)
     else
       ckB (ix e4 data_0.length) <|
       ckB (ix e4 data_0.length) <|
       ckB (ix e2 data_0.length) <|
       ckB (ix e2 data_0.length) <|
       ckB (ix e2 data_0.length) <|
       ckB (ix e4 data_0.length) <|
       ckB (ix e2 data_0.length) <|
       ckB (decide ((data_0.length:Nat)=(data_0.set (Int.toNat e2) (data_0.getD (Int.toNat e4) [])).length)) <|
       ckB (ix e4 (data_0.set (Int.toNat e2) (data_0.getD (Int.toNat e4) [])).length) <|
       ckB (inR .i64 (e2+1)) <|
       ckB (inR .i64 (e4 - 1)) <|
       nx ((e2+1),(e4 - 1),((data_0.set (Int.toNat e2) (data_0.getD (Int.toNat e4) [])).set (Int.toNat e4) (data_0.getD (Int.toNat e2) [])))) (fun r=>rt r)) (fun r=>rt r)
def qes (a_1:Int) (s0:(Int×Int×qL2)):Option ((Int×qL2)⊕(Int×qL2)) :=
 loopM (fun a=>q4q a_1 a.1 a.2.1 a.2.2 (fun a'=>some (.next a')) (fun e=>some (.done e)) (fun r=>some (.ret r))) s0
def qe4:Shp:=⟨[(0,.own 0),(1,.d true qT0),(4,.fn 54 .nil),(11,.d true qT0),(12,.d true qT0)],[.arr 33 (.fz true) [3] qT1]⟩
def qe1:Shp:=⟨[(11,.d true qT0)],[.arr 33 (.fz true) [3] qT1]⟩
def qi (a_1:Int) (b_2:Int) (pivot_3:Int) (data_0:qL2):Option (Int×qL2) :=
 ckB (ix pivot_3 data_0.length) <|
 ckB (ix pivot_3 data_0.length) <|
 ckB (ix a_1 data_0.length) <|
 ckB (ix a_1 data_0.length) <|
 ckB (ix a_1 data_0.length) <|
 ckB (ix pivot_3 data_0.length) <|
 ckB (ix a_1 data_0.length) <|
 ckB (decide ((data_0.length:Nat)=(data_0.set (Int.toNat a_1) (data_0.getD (Int.toNat pivot_3) [])).length)) <|
 ckB (ix pivot_3 (data_0.set (Int.toNat a_1) (data_0.getD (Int.toNat pivot_3) [])).length) <|
 ckB (inR .i64 (a_1+1)) <|
 ckB (inR .i64 (b_2 - 1)) <|
 bnd (qes a_1 ((a_1+1),(b_2 - 1),((data_0.set (Int.toNat a_1) (data_0.getD (Int.toNat pivot_3) [])).set (Int.toNat pivot_3) (data_0.getD (Int.toNat a_1) [])))) fun oe5 =>
 lk oe5 (fun e5 =>
   some (e5.1,e5.2)) (fun r=>some r)
def q6v {R:Type} (a_1:Int) (j_13:Int) (data_0:qL2) (i_12:Int) (nx:Int→Option R) (dn:Int→Option R) (rt:(Int×Bool×qL2)→Option R):Option R :=
 bif decide (i_12≤j_13) then
   ckB (ix i_12 data_0.length) <|
   ckB (ix i_12 data_0.length) <|
   ckB (ix a_1 data_0.length) <|
   ckB (ix a_1 data_0.length) <|
   bnd (qa (data_0.getD (Int.toNat i_12) []) (data_0.getD (Int.toNat a_1) [])) fun r1 =>
   bif decide (r1 < 0) then
     ckB (inR .i64 (i_12+1)) <|
     nx (i_12+1)
   else
     dn i_12
 else
   dn i_12
def qk9 (a_1:Int) (j_13:Int) (data_0:qL2) (s0:Int):Option (Int⊕(Int×Bool×qL2)) :=
 loopM (fun a=>q6v a_1 j_13 data_0 a (fun a'=>some (.next a')) (fun e=>some (.done e)) (fun r=>some (.ret r))) s0
def qj8:Shp:=⟨[(0,.own 0),(1,.d true qT0),(4,.fn 54 .nil),(12,.d true qT0),(13,.d true qT0)],[.arr 33 (.fz true) [3] qT1]⟩
def qj0:Shp:=⟨[(0,.own 0),(1,.d true qT0),(4,.fn 54 .nil),(12,.d true qT0),(13,.d true qT0)],[.arr 33 (.fz true) [3] qT1]⟩
def q79 {R:Type} (a_1:Int) (i_12:Int) (data_0:qL2) (j_13:Int) (nx:Int→Option R) (dn:Int→Option R) (rt:(Int×Bool×qL2)→Option R):Option R :=
 bif decide (i_12≤j_13) then
   ckB (ix j_13 data_0.length) <|
   ckB (ix j_13 data_0.length) <|
   ckB (ix a_1 data_0.length) <|
   ckB (ix a_1 data_0.length) <|
   bnd (qa (data_0.getD (Int.toNat j_13) []) (data_0.getD (Int.toNat a_1) [])) fun r3 =>
   bif (!(decide (r3 < 0))) then
     ckB (inR .i64 (j_13 - 1)) <|
     nx (j_13 - 1)
   else
     dn j_13
 else
   dn j_13
def qks (a_1:Int) (i_12:Int) (data_0:qL2) (s0:Int):Option (Int⊕(Int×Bool×qL2)) :=
 loopM (fun a=>q79 a_1 i_12 data_0 a (fun a'=>some (.next a')) (fun e=>some (.done e)) (fun r=>some (.ret r))) s0
def qi7:Shp:=⟨[(0,.own 0),(1,.d true qT0),(4,.fn 54 .nil),(12,.d true qT0),(13,.d true qT0)],[.arr 33 (.fz true) [3] qT1]⟩
def qi6:Shp:=⟨[(0,.own 0),(1,.d true qT0),(4,.fn 54 .nil),(12,.d true qT0),(13,.d true qT0)],[.arr 33 (.fz true) [3] qT1]⟩
def q74 {R:Type} (a_1:Int) (j_13:Int) (data_0:qL2) (i_12:Int) (nx:Int→Option R) (dn:Int→Option R) (rt:(Int×Bool×qL2)→Option R):Option R :=
 bif decide (i_12≤j_13) then
   ckB (ix i_12 data_0.length) <|
   ckB (ix i_12 data_0.length) <|
   ckB (ix a_1 data_0.length) <|
   ckB (ix a_1 data_0.length) <|
   bnd (qa (data_0.getD (Int.toNat i_12) []) (data_0.getD (Int.toNat a_1) [])) fun r5 =>
   bif decide (r5 < 0) then
     ckB (inR .i64 (i_12+1)) <|
     nx (i_12+1)
   else
     dn i_12
 else
   dn i_12
def qjs (a_1:Int) (j_13:Int) (data_0:qL2) (s0:Int):Option (Int⊕(Int×Bool×qL2)) :=
 loopM (fun a=>q74 a_1 j_13 data_0 a (fun a'=>some (.next a')) (fun e=>some (.done e)) (fun r=>some (.ret r))) s0
def qic:Shp:=⟨[(0,.own 0),(1,.d true qT0),(4,.fn 54 .nil),(12,.d true qT0),(13,.d true qT0)],[.arr 33 (.fz true) [3] qT1]⟩
def qin:Shp:=⟨[(0,.own 0),(1,.d true qT0),(4,.fn 54 .nil),(12,.d true qT0),(13,.d true qT0)],[.arr 33 (.fz true) [3] qT1]⟩
def q72 {R:Type} (a_1:Int) (i_12:Int) (data_0:qL2) (j_13:Int) (nx:Int→Option R) (dn:Int→Option R) (rt:(Int×Bool×qL2)→Option R):Option R :=
 bif decide (i_12≤j_13) then
   ckB (ix j_13 data_0.length) <|
   ckB (ix j_13 data_0.length) <|
   ckB (ix a_1 data_0.length) <|
   ckB (ix a_1 data_0.length) <|
   bnd (qa (data_0.getD (Int.toNat j_13) []) (data_0.getD (Int.toNat a_1) [])) fun r7 =>
   bif (!(decide (r7 < 0))) then
     ckB (inR .i64 (j_13 - 1)) <|
     nx (j_13 - 1)
   else
     dn j_13
 else
   dn j_13
def qka (a_1:Int) (i_12:Int) (data_0:qL2) (s0:Int):Option (Int⊕(Int×Bool×qL2)) :=
 loopM (fun a=>q72 a_1 i_12 data_0 a (fun a'=>some (.next a')) (fun e=>some (.done e)) (fun r=>some (.ret r))) s0
def qj5:Shp:=⟨[(0,.own 0),(1,.d true qT0),(4,.fn 54 .nil),(12,.d true qT0),(13,.d true qT0)],[.arr 33 (.fz true) [3] qT1]⟩
def qi0:Shp:=⟨[(0,.own 0),(1,.d true qT0),(4,.fn 54 .nil),(12,.d true qT0),(13,.d true qT0)],[.arr 33 (.fz true) [3] qT1]⟩
def q77 {R:Type} (a_1:Int) (i_12:Int) (j_13:Int) (data_0:qL2) (nx:(Int×Int×qL2)→Option R) (dn:(Int×qL2)→Option R) (rt:(Int×Bool×qL2)→Option R):Option R :=
 bnd (qjs a_1 j_13 data_0 i_12) fun oe6 =>
 lk oe6 (fun e6 =>
   bnd (qka a_1 e6 data_0 j_13) fun oe8 =>
   lk oe8 (fun e8 =>
     bif decide (e8 < e6) then
       dn (e8,data_0)
     else
       ckB (ix e8 data_0.length) <|
       ckB (ix e8 data_0.length) <|
       ckB (ix e6 data_0.length) <|
       ckB (ix e6 data_0.length) <|
       ckB (ix e6 data_0.length) <|
       ckB (ix e8 data_0.length) <|
       ckB (ix e6 data_0.length) <|
       ckB (decide ((data_0.length:Nat)=(data_0.set (Int.toNat e6) (data_0.getD (Int.toNat e8) [])).length)) <|
       ckB (ix e8 (data_0.set (Int.toNat e6) (data_0.getD (Int.toNat e8) [])).length) <|
       ckB (inR .i64 (e6+1)) <|
       ckB (inR .i64 (e8 - 1)) <|
       nx ((e6+1),(e8 - 1),((data_0.set (Int.toNat e6) (data_0.getD (Int.toNat e8) [])).set (Int.toNat e8) (data_0.getD (Int.toNat e6) [])))) (fun r=>rt r)) (fun r=>rt r)
def qkq (a_1:Int) (s0:(Int×Int×qL2)):Option ((Int×qL2)⊕(Int×Bool×qL2)) :=
 loopM (fun a=>q77 a_1 a.1 a.2.1 a.2.2 (fun a'=>some (.next a')) (fun e=>some (.done e)) (fun r=>some (.ret r))) s0
def qii:Shp:=⟨[(0,.own 0),(1,.d true qT0),(4,.fn 54 .nil),(12,.d true qT0),(13,.d true qT0)],[.arr 33 (.fz true) [3] qT1]⟩
def qit:Shp:=⟨[(0,.own 0),(1,.d true qT0),(13,.d true qT0)],[.arr 33 (.fz true) [3] qT1]⟩
def q8y (a_1:Int) (b_2:Int) (pivot_3:Int) (data_0:qL2):Option (Int×Bool×qL2) :=
 ckB (ix pivot_3 data_0.length) <|
 ckB (ix pivot_3 data_0.length) <|
 ckB (ix a_1 data_0.length) <|
 ckB (ix a_1 data_0.length) <|
 ckB (ix a_1 data_0.length) <|
 ckB (ix pivot_3 data_0.length) <|
 ckB (ix a_1 data_0.length) <|
 ckB (decide ((data_0.length:Nat)=(data_0.set (Int.toNat a_1) (data_0.getD (Int.toNat pivot_3) [])).length)) <|
 ckB (ix pivot_3 (data_0.set (Int.toNat a_1) (data_0.getD (Int.toNat pivot_3) [])).length) <|
 ckB (inR .i64 (a_1+1)) <|
 ckB (inR .i64 (b_2 - 1)) <|
 bnd (qk9 a_1 (b_2 - 1) ((data_0.set (Int.toNat a_1) (data_0.getD (Int.toNat pivot_3) [])).set (Int.toNat pivot_3) (data_0.getD (Int.toNat a_1) [])) (a_1+1)) fun oe2 =>
 lk oe2 (fun e2 =>
   bnd (qks a_1 e2 ((data_0.set (Int.toNat a_1) (data_0.getD (Int.toNat pivot_3) [])).set (Int.toNat pivot_3) (data_0.getD (Int.toNat a_1) [])) (b_2 - 1)) fun oe4 =>
   lk oe4 (fun e4 =>
     bif decide (e4 < e2) then
       ckB (ix a_1 ((data_0.set (Int.toNat a_1) (data_0.getD (Int.toNat pivot_3) [])).set (Int.toNat pivot_3) (data_0.getD (Int.toNat a_1) [])).length) <|
       ckB (ix a_1 ((data_0.set (Int.toNat a_1) (data_0.getD (Int.toNat pivot_3) [])).set (Int.toNat pivot_3) (data_0.getD (Int.toNat a_1) [])).length) <|
       ckB (ix e4 ((data_0.set (Int.toNat a_1) (data_0.getD (Int.toNat pivot_3) [])).set (Int.toNat pivot_3) (data_0.getD (Int.toNat a_1) [])).length) <|
       ckB (ix e4 ((data_0.set (Int.toNat a_1) (data_0.getD (Int.toNat pivot_3) [])).set (Int.toNat pivot_3) (data_0.getD (Int.toNat a_1) [])).length) <|
       ckB (ix e4 ((data_0.set (Int.toNat a_1) (data_0.getD (Int.toNat pivot_3) [])).set (Int.toNat pivot_3) (data_0.getD (Int.toNat a_1) [])).length) <|
       ckB (ix a_1 ((data_0.set (Int.toNat a_1) (data_0.getD (Int.toNat pivot_3) [])).set (Int.toNat pivot_3) (data_0.getD (Int.toNat a_1) [])).length) <|
       ckB (ix e4 ((data_0.set (Int.toNat a_1) (data_0.getD (Int.toNat pivot_3) [])).set (Int.toNat pivot_3) (data_0.getD (Int.toNat a_1) [])).length) <|
       ckB (decide ((((data_0.set (Int.toNat a_1) (data_0.getD (Int.toNat pivot_3) [])).set (Int.toNat pivot_3) (data_0.getD (Int.toNat a_1) [])).length:Nat)=(((data_0.set (Int.toNat a_1) (data_0.getD (Int.toNat pivot_3) [])).set (Int.toNat pivot_3) (data_0.getD (Int.toNat a_1) [])).set (Int.toNat e4) (((data_0.set (Int.toNat a_1) (data_0.getD (Int.toNat pivot_3) [])).set (Int.toNat pivot_3) (data_0.getD (Int.toNat a_1) [])).getD (Int.toNat a_1) [])).length)) <|
       ckB (ix a_1 (((data_0.set (Int.toNat a_1) (data_0.getD (Int.toNat pivot_3) [])).set (Int.toNat pivot_3) (data_0.getD (Int.toNat a_1) [])).set (Int.toNat e4) (((data_0.set (Int.toNat a_1) (data_0.getD (Int.toNat pivot_3) [])).set (Int.toNat pivot_3) (data_0.getD (Int.toNat a_1) [])).getD (Int.toNat a_1) [])).length) <|
       some (e4,true,((((data_0.set (Int.toNat a_1) (data_0.getD (Int.toNat pivot_3) [])).set (Int.toNat pivot_3) (data_0.getD (Int.toNat a_1) [])).set (Int.toNat e4) (((data_0.set (Int.toNat a_1) (data_0.getD (Int.toNat pivot_3) [])).set (Int.toNat pivot_3) (data_0.getD (Int.toNat a_1) [])).getD (Int.toNat a_1) [])).set (Int.toNat a_1) (((data_0.set (Int.toNat a_1) (data_0.getD (Int.toNat pivot_3) [])).set (Int.toNat pivot_3) (data_0.getD (Int.toNat a_1) [])).getD (Int.toNat e4) [])))
     else
       ckB (ix e4 ((data_0.set (Int.toNat a_1) (data_0.getD (Int.toNat pivot_3) [])).set (Int.toNat pivot_3) (data_0.getD (Int.toNat a_1) [])).length) <|
       ckB (ix e4 ((data_0.set (Int.toNat a_1) (data_0.getD (Int.toNat pivot_3) [])).set (Int.toNat pivot_3) (data_0.getD (Int.toNat a_1) [])).length) <|
       ckB (ix e2 ((data_0.set (Int.toNat a_1) (data_0.getD (Int.toNat pivot_3) [])).set (Int.toNat pivot_3) (data_0.getD (Int.toNat a_1) [])).length) <|
       ckB (ix e2 ((data_0.set (Int.toNat a_1) (data_0.getD (Int.toNat pivot_3) [])).set (Int.toNat pivot_3) (data_0.getD (Int.toNat a_1) [])).length) <|
       ckB (ix e2 ((data_0.set (Int.toNat a_1) (data_0.getD (Int.toNat pivot_3) [])).set (Int.toNat pivot_3) (data_0.getD (Int.toNat a_1) [])).length) <|
       ckB (ix e4 ((data_0.set (Int.toNat a_1) (data_0.getD (Int.toNat pivot_3) [])).set (Int.toNat pivot_3) (data_0.getD (Int.toNat a_1) [])).length) <|
       ckB (ix e2 ((data_0.set (Int.toNat a_1) (data_0.getD (Int.toNat pivot_3) [])).set (Int.toNat pivot_3) (data_0.getD (Int.toNat a_1) [])).length) <|
       ckB (decide ((((data_0.set (Int.toNat a_1) (data_0.getD (Int.toNat pivot_3) [])).set (Int.toNat pivot_3) (data_0.getD (Int.toNat a_1) [])).length:Nat)=(((data_0.set (Int.toNat a_1) (data_0.getD (Int.toNat pivot_3) [])).set (Int.toNat pivot_3) (data_0.getD (Int.toNat a_1) [])).set (Int.toNat e2) (((data_0.set (Int.toNat a_1) (data_0.getD (Int.toNat pivot_3) [])).set (Int.toNat pivot_3) (data_0.getD (Int.toNat a_1) [])).getD (Int.toNat e4) [])).length)) <|
       ckB (ix e4 (((data_0.set (Int.toNat a_1) (data_0.getD (Int.toNat pivot_3) [])).set (Int.toNat pivot_3) (data_0.getD (Int.toNat a_1) [])).set (Int.toNat e2) (((data_0.set (Int.toNat a_1) (data_0.getD (Int.toNat pivot_3) [])).set (Int.toNat pivot_3) (data_0.getD (Int.toNat a_1) [])).getD (Int.toNat e4) [])).length) <|
       ckB (inR .i64 (e2+1)) <|
       ckB (inR .i64 (e4 - 1)) <|
       bnd (qkq a_1 ((e2+1),(e4 - 1),((((data_0.set (Int.toNat a_1) (data_0.getD (Int.toNat pivot_3) [])).set (Int.toNat pivot_3) (data_0.getD (Int.toNat a_1) [])).set (Int.toNat e2) (((data_0.set (Int.toNat a_1) (data_0.getD (Int.toNat pivot_3) [])).set (Int.toNat pivot_3) (data_0.getD (Int.toNat a_1) [])).getD (Int.toNat e4) [])).set (Int.toNat e4) (((data_0.set (Int.toNat a_1) (data_0.getD (Int.toNat pivot_3) [])).set (Int.toNat pivot_3) (data_0.getD (Int.toNat a_1) [])).getD (Int.toNat e2) [])))) fun oe9 =>
       lk oe9 (fun e9 =>
         ckB (ix a_1 e9.2.length) <|
         ckB (ix a_1 e9.2.length) <|
         ckB (ix e9.1 e9.2.length) <|
         ckB (ix e9.1 e9.2.length) <|
         ckB (ix e9.1 e9.2.length) <|
         ckB (ix a_1 e9.2.length) <|
         ckB (ix e9.1 e9.2.length) <|
         ckB (decide ((e9.2.length:Nat)=(e9.2.set (Int.toNat e9.1) (e9.2.getD (Int.toNat a_1) [])).length)) <|
         ckB (ix a_1 (e9.2.set (Int.toNat e9.1) (e9.2.getD (Int.toNat a_1) [])).length) <|
         some (e9.1,false,((e9.2.set (Int.toNat e9.1) (e9.2.getD (Int.toNat a_1) [])).set (Int.toNat a_1) (e9.2.getD (Int.toNat e9.1) [])))) (fun r=>some r)) (fun r=>some r)) (fun r=>some r)
def q86 {R:Type} (rec:((Unit×Int×Int×Int×(Unit)×Unit)×(qL2×Unit))→Option qL2) (a_1:Int) (b_2:Int) (limit_3:Int) (wasBalanced_10:Bool) (wasPartitioned_11:Bool) (length_12:Int) (pivot_13:Int) (v_75:Bool) (data_0:qL2) (dn:qL2→Option R) (rt:qL2→Option R):Option R :=
 bif v_75 then
   bnd (q3w a_1 b_2 data_0) fun r6 =>
   ckB (decide (r6.2.length=data_0.length)) <|
   bif r6.1 then
     rt r6.2
   else
     dn r6.2
 else
   dn data_0
def qm (rec:((Unit×Int×Int×Int×(Unit)×Unit)×(qL2×Unit))→Option qL2) (a_1:Int) (b_2:Int) (limit_3:Int) (wasBalanced_10:Bool) (wasPartitioned_11:Bool) (length_12:Int) (pivot_13:Int) (v_75:Bool) (data_0:qL2):Option (qL2⊕qL2) :=
 q86 rec a_1 b_2 limit_3 wasBalanced_10 wasPartitioned_11 length_12 pivot_13 v_75 data_0 (fun e=>some (.inl e)) (fun r=>some (.inr r))
def qlw:Shp:=⟨[(0,.own 0),(1,.d true qT0),(2,.d true qT0),(3,.d true qT0),(4,.fn 54 .nil),(10,.d true .bool),(11,.d true .bool),(12,.d true qT0),(13,.d true qT0),(75,.d true .bool)],[.arr 33 (.fz true) [3] qT1]⟩
def qly:Shp:=⟨[(0,.own 0),(1,.d true qT0),(2,.d true qT0),(3,.d true qT0),(4,.fn 54 .nil),(10,.d true .bool),(11,.d true .bool),(12,.d true qT0),(13,.d true qT0)],[.arr 33 (.fz true) [3] qT1]⟩
def q82 {R:Type} (rec:((Unit×Int×Int×Int×(Unit)×Unit)×(qL2×Unit))→Option qL2) (a_1:Int) (b_2:Int) (limit_3:Int) (length_12:Int) (pivot_13:Int) (data_0:qL2) (dn:(Int×Int×Bool×Bool×qL2)→Option R) (rt:qL2→Option R):Option R :=
 bnd (q8y a_1 b_2 pivot_13 data_0) fun r10 =>
 ckB (decide (r10.2.2.length=data_0.length)) <|
 ckB (inR .i64 (r10.1 - a_1)) <|
 ckB (inR .i64 (b_2 - r10.1)) <|
 ckB (!decide ((8:Int)=0)) <|
 ckB (inR .i64 (Int.tdiv length_12 8)) <|
 bif decide ((r10.1 - a_1) < (b_2 - r10.1)) then
   bnd (rec (((),a_1,r10.1,limit_3,(()),()),(r10.2.2,()))) fun r11 =>
   ckB (decide (r11.length=r10.2.2.length)) <|
   ckB (inR .i64 (r10.1+1)) <|
   dn ((r10.1+1),b_2,decide ((Int.tdiv length_12 8)≤(r10.1 - a_1)),r10.2.1,r11)
 else
   ckB (inR .i64 (r10.1+1)) <|
   bnd (rec (((),(r10.1+1),b_2,limit_3,(()),()),(r10.2.2,()))) fun r12 =>
   ckB (decide (r12.length=r10.2.2.length)) <|
   dn (a_1,r10.1,decide ((Int.tdiv length_12 8)≤(b_2 - r10.1)),r10.2.1,r12)
def q6 (rec:((Unit×Int×Int×Int×(Unit)×Unit)×(qL2×Unit))→Option qL2) (a_1:Int) (b_2:Int) (limit_3:Int) (length_12:Int) (pivot_13:Int) (data_0:qL2):Option ((Int×Int×Bool×Bool×qL2)⊕qL2) :=
 q82 rec a_1 b_2 limit_3 length_12 pivot_13 data_0 (fun e=>some (.inl e)) (fun r=>some (.inr r))
def qmm:Shp:=⟨[(0,.own 0),(1,.d true qT0),(2,.d true qT0),(3,.d true qT0),(4,.fn 54 .nil),(12,.d true qT0),(13,.d true qT0)],[.arr 33 (.fz true) [3] qT1]⟩
def qlo:Shp:=⟨[(0,.own 0),(1,.d true qT0),(2,.d true qT0),(3,.d true qT0),(4,.fn 54 .nil),(10,.d true .bool),(11,.d true .bool)],[.arr 33 (.fz true) [3] qT1]⟩
def q84 {R:Type} (rec:((Unit×Int×Int×Int×(Unit)×Unit)×(qL2×Unit))→Option qL2)  (a_1:Int) (b_2:Int) (limit_3:Int) (wasBalanced_10:Bool) (wasPartitioned_11:Bool) (data_0:qL2) (nx:(Int×Int×Int×Bool×Bool×qL2)→Option R) (dn:Unit→Option R) (rt:qL2→Option R):Option R :=
 ckB (inR .i64 (b_2 - a_1)) <|
 bif decide ((b_2 - a_1)≤12) then
   bnd (q6o a_1 b_2 data_0) fun r1 =>
   ckB (decide (r1.length=data_0.length)) <|
   rt r1
 else
   bif decide (limit_3=0) then
     bnd (qaa a_1 b_2 data_0) fun r2 =>
     ckB (decide (r2.length=data_0.length)) <|
     rt r2
   else
     bif (!wasBalanced_10) then
       bnd (q6q a_1 b_2 data_0) fun r3 =>
       ckB (decide (r3.length=data_0.length)) <|
       ckB (inR .i64 (limit_3 - 1)) <|
       bnd (q3n r3 a_1 b_2) fun r4 =>
       bif decide (r4.2=2) then
         bnd (q3f a_1 b_2 r3) fun r5 =>
         ckB (decide (r5.length=r3.length)) <|
         ckB (inR .i64 (b_2 - 1)) <|
         ckB (inR .i64 (r4.1 - a_1)) <|
         ckB (inR .i64 ((b_2 - 1) - (r4.1 - a_1))) <|
         bif wasBalanced_10 then
           bif wasPartitioned_11 then
             bnd (qm rec a_1 b_2 (limit_3 - 1) wasBalanced_10 wasPartitioned_11 (b_2 - a_1) ((b_2 - 1) - (r4.1 - a_1)) (decide ((1:Int)=1)) r5) fun oe7 =>
             lk oe7 (fun e7 =>
               bif decide ((0:Int) < a_1) then
                 ckB (inR .i64 (a_1 - 1)) <|
                 ckB (ix (a_1 - 1) e7.length) <|
                 ckB (ix (a_1 - 1) e7.length) <|
                 ckB (ix ((b_2 - 1) - (r4.1 - a_1)) e7.length) <|
                 ckB (ix ((b_2 - 1) - (r4.1 - a_1)) e7.length) <|
                 bnd (qa (e7.getD (Int.toNat (a_1 - 1)) []) (e7.getD (Int.toNat ((b_2 - 1) - (r4.1 - a_1))) [])) fun r8 =>
                 bif (!(decide (r8 < 0))) then
                   bnd (qi a_1 b_2 ((b_2 - 1) - (r4.1 - a_1)) e7) fun r9 =>
                   ckB (decide (r9.2.length=e7.length)) <|
                   nx (r9.1,b_2,(limit_3 - 1),wasBalanced_10,wasPartitioned_11,r9.2)
                 else
                   bnd (q6 rec a_1 b_2 (limit_3 - 1) (b_2 - a_1) ((b_2 - 1) - (r4.1 - a_1)) e7) fun oe13 =>
                   lk oe13 (fun e13 =>
                     nx (e13.1,e13.2.1,(limit_3 - 1),e13.2.2.1,e13.2.2.2.1,e13.2.2.2.2)) (fun r=>rt r)
               else
                 bnd (q6 rec a_1 b_2 (limit_3 - 1) (b_2 - a_1) ((b_2 - 1) - (r4.1 - a_1)) e7) fun oe14 =>
                 lk oe14 (fun e14 =>
                   nx (e14.1,e14.2.1,(limit_3 - 1),e14.2.2.1,e14.2.2.2.1,e14.2.2.2.2)) (fun r=>rt r)) (fun r=>rt r)
           else
             bnd (qm rec a_1 b_2 (limit_3 - 1) wasBalanced_10 wasPartitioned_11 (b_2 - a_1) ((b_2 - 1) - (r4.1 - a_1)) false r5) fun oe15 =>
             lk oe15 (fun e15 =>
               bif decide ((0:Int) < a_1) then
                 ckB (inR .i64 (a_1 - 1)) <|
                 ckB (ix (a_1 - 1) e15.length) <|
                 ckB (ix (a_1 - 1) e15.length) <|
                 ckB (ix ((b_2 - 1) - (r4.1 - a_1)) e15.length) <|
                 ckB (ix ((b_2 - 1) - (r4.1 - a_1)) e15.length) <|
                 bnd (qa (e15.getD (Int.toNat (a_1 - 1)) []) (e15.getD (Int.toNat ((b_2 - 1) - (r4.1 - a_1))) [])) fun r16 =>
                 bif (!(decide (r16 < 0))) then
                   bnd (qi a_1 b_2 ((b_2 - 1) - (r4.1 - a_1)) e15) fun r17 =>
                   ckB (decide (r17.2.length=e15.length)) <|
                   nx (r17.1,b_2,(limit_3 - 1),wasBalanced_10,wasPartitioned_11,r17.2)
                 else
                   bnd (q6 rec a_1 b_2 (limit_3 - 1) (b_2 - a_1) ((b_2 - 1) - (r4.1 - a_1)) e15) fun oe18 =>
                   lk oe18 (fun e18 =>
                     nx (e18.1,e18.2.1,(limit_3 - 1),e18.2.2.1,e18.2.2.2.1,e18.2.2.2.2)) (fun r=>rt r)
               else
                 bnd (q6 rec a_1 b_2 (limit_3 - 1) (b_2 - a_1) ((b_2 - 1) - (r4.1 - a_1)) e15) fun oe19 =>
                 lk oe19 (fun e19 =>
                   nx (e19.1,e19.2.1,(limit_3 - 1),e19.2.2.1,e19.2.2.2.1,e19.2.2.2.2)) (fun r=>rt r)) (fun r=>rt r)
         else
           bnd (qm rec a_1 b_2 (limit_3 - 1) wasBalanced_10 wasPartitioned_11 (b_2 - a_1) ((b_2 - 1) - (r4.1 - a_1)) false r5) fun oe20 =>
           lk oe20 (fun e20 =>
             bif decide ((0:Int) < a_1) then
               ckB (inR .i64 (a_1 - 1)) <|
               ckB (ix (a_1 - 1) e20.length) <|
               ckB (ix (a_1 - 1) e20.length) <|
               ckB (ix ((b_2 - 1) - (r4.1 - a_1)) e20.length) <|
               ckB (ix ((b_2 - 1) - (r4.1 - a_1)) e20.length) <|
               bnd (qa (e20.getD (Int.toNat (a_1 - 1)) []) (e20.getD (Int.toNat ((b_2 - 1) - (r4.1 - a_1))) [])) fun r21 =>
               bif (!(decide (r21 < 0))) then
                 bnd (qi a_1 b_2 ((b_2 - 1) - (r4.1 - a_1)) e20) fun r22 =>
                 ckB (decide (r22.2.length=e20.length)) <|
                 nx (r22.1,b_2,(limit_3 - 1),wasBalanced_10,wasPartitioned_11,r22.2)
               else
                 bnd (q6 rec a_1 b_2 (limit_3 - 1) (b_2 - a_1) ((b_2 - 1) - (r4.1 - a_1)) e20) fun oe23 =>
                 lk oe23 (fun e23 =>
                   nx (e23.1,e23.2.1,(limit_3 - 1),e23.2.2.1,e23.2.2.2.1,e23.2.2.2.2)) (fun r=>rt r)
             else
               bnd (q6 rec a_1 b_2 (limit_3 - 1) (b_2 - a_1) ((b_2 - 1) - (r4.1 - a_1)) e20) fun oe24 =>
               lk oe24 (fun e24 =>
                 nx (e24.1,e24.2.1,(limit_3 - 1),e24.2.2.1,e24.2.2.2.1,e24.2.2.2.2)) (fun r=>rt r)) (fun r=>rt r)
       else
         bif wasBalanced_10 then
           bif wasPartitioned_11 then
             bnd (qm rec a_1 b_2 (limit_3 - 1) wasBalanced_10 wasPartitioned_11 (b_2 - a_1) r4.1 (decide (r4.2=1)) r3) fun oe25 =>
             lk oe25 (fun e25 =>
               bif decide ((0:Int) < a_1) then
                 ckB (inR .i64 (a_1 - 1)) <|
                 ckB (ix (a_1 - 1) e25.length) <|
                 ckB (ix (a_1 - 1) e25.length) <|
                 ckB (ix r4.1 e25.length) <|
                 ckB (ix r4.1 e25.length) <|
                 bnd (qa (e25.getD (Int.toNat (a_1 - 1)) []) (e25.getD (Int.toNat r4.1) [])) fun r26 =>
                 bif (!(decide (r26 < 0))) then
                   bnd (qi a_1 b_2 r4.1 e25) fun r27 =>
                   ckB (decide (r27.2.length=e25.length)) <|
                   nx (r27.1,b_2,(limit_3 - 1),wasBalanced_10,wasPartitioned_11,r27.2)
                 else
                   bnd (q6 rec a_1 b_2 (limit_3 - 1) (b_2 - a_1) r4.1 e25) fun oe28 =>
                   lk oe28 (fun e28 =>
                     nx (e28.1,e28.2.1,(limit_3 - 1),e28.2.2.1,e28.2.2.2.1,e28.2.2.2.2)) (fun r=>rt r)
               else
                 bnd (q6 rec a_1 b_2 (limit_3 - 1) (b_2 - a_1) r4.1 e25) fun oe29 =>
                 lk oe29 (fun e29 =>
                   nx (e29.1,e29.2.1,(limit_3 - 1),e29.2.2.1,e29.2.2.2.1,e29.2.2.2.2)) (fun r=>rt r)) (fun r=>rt r)
           else
             bnd (qm rec a_1 b_2 (limit_3 - 1) wasBalanced_10 wasPartitioned_11 (b_2 - a_1) r4.1 false r3) fun oe30 =>
             lk oe30 (fun e30 =>
               bif decide ((0:Int) < a_1) then
                 ckB (inR .i64 (a_1 - 1)) <|
                 ckB (ix (a_1 - 1) e30.length) <|
                 ckB (ix (a_1 - 1) e30.length) <|
                 ckB (ix r4.1 e30.length) <|
                 ckB (ix r4.1 e30.length) <|
                 bnd (qa (e30.getD (Int.toNat (a_1 - 1)) []) (e30.getD (Int.toNat r4.1) [])) fun r31 =>
                 bif (!(decide (r31 < 0))) then
                   bnd (qi a_1 b_2 r4.1 e30) fun r32 =>
                   ckB (decide (r32.2.length=e30.length)) <|
                   nx (r32.1,b_2,(limit_3 - 1),wasBalanced_10,wasPartitioned_11,r32.2)
                 else
                   bnd (q6 rec a_1 b_2 (limit_3 - 1) (b_2 - a_1) r4.1 e30) fun oe33 =>
                   lk oe33 (fun e33 =>
                     nx (e33.1,e33.2.1,(limit_3 - 1),e33.2.2.1,e33.2.2.2.1,e33.2.2.2.2)) (fun r=>rt r)
               else
                 bnd (q6 rec a_1 b_2 (limit_3 - 1) (b_2 - a_1) r4.1 e30) fun oe34 =>
                 lk oe34 (fun e34 =>
                   nx (e34.1,e34.2.1,(limit_3 - 1),e34.2.2.1,e34.2.2.2.1,e34.2.2.2.2)) (fun r=>rt r)) (fun r=>rt r)
         else
           bnd (qm rec a_1 b_2 (limit_3 - 1) wasBalanced_10 wasPartitioned_11 (b_2 - a_1) r4.1 false r3) fun oe35 =>
           lk oe35 (fun e35 =>
             bif decide ((0:Int) < a_1) then
               ckB (inR .i64 (a_1 - 1)) <|
               ckB (ix (a_1 - 1) e35.length) <|
               ckB (ix (a_1 - 1) e35.length) <|
               ckB (ix r4.1 e35.length) <|
               ckB (ix r4.1 e35.length) <|
               bnd (qa (e35.getD (Int.toNat (a_1 - 1)) []) (e35.getD (Int.toNat r4.1) [])) fun r36 =>
               bif (!(decide (r36 < 0))) then
                 bnd (qi a_1 b_2 r4.1 e35) fun r37 =>
                 ckB (decide (r37.2.length=e35.length)) <|
                 nx (r37.1,b_2,(limit_3 - 1),wasBalanced_10,wasPartitioned_11,r37.2)
               else
                 bnd (q6 rec a_1 b_2 (limit_3 - 1) (b_2 - a_1) r4.1 e35) fun oe38 =>
                 lk oe38 (fun e38 =>
                   nx (e38.1,e38.2.1,(limit_3 - 1),e38.2.2.1,e38.2.2.2.1,e38.2.2.2.2)) (fun r=>rt r)
             else
               bnd (q6 rec a_1 b_2 (limit_3 - 1) (b_2 - a_1) r4.1 e35) fun oe39 =>
               lk oe39 (fun e39 =>
                 nx (e39.1,e39.2.1,(limit_3 - 1),e39.2.2.1,e39.2.2.2.1,e39.2.2.2.2)) (fun r=>rt r)) (fun r=>rt r)
     else
       bnd (q3n data_0 a_1 b_2) fun r40 =>
       bif decide (r40.2=2) then
         bnd (q3f a_1 b_2 data_0) fun r41 =>
         ckB (decide (r41.length=data_0.length)) <|
         ckB (inR .i64 (b_2 - 1)) <|
         ckB (inR .i64 (r40.1 - a_1)) <|
         ckB (inR .i64 ((b_2 - 1) - (r40.1 - a_1))) <|
         bif wasBalanced_10 then
           bif wasPartitioned_11 then
             bnd (qm rec a_1 b_2 limit_3 wasBalanced_10 wasPartitioned_11 (b_2 - a_1) ((b_2 - 1) - (r40.1 - a_1)) (decide ((1:Int)=1)) r41) fun oe42 =>
             lk oe42 (fun e42 =>
               bif decide ((0:Int) < a_1) then
                 ckB (inR .i64 (a_1 - 1)) <|
                 ckB (ix (a_1 - 1) e42.length) <|
                 ckB (ix (a_1 - 1) e42.length) <|
                 ckB (ix ((b_2 - 1) - (r40.1 - a_1)) e42.length) <|
                 ckB (ix ((b_2 - 1) - (r40.1 - a_1)) e42.length) <|
                 bnd (qa (e42.getD (Int.toNat (a_1 - 1)) []) (e42.getD (Int.toNat ((b_2 - 1) - (r40.1 - a_1))) [])) fun r43 =>
                 bif (!(decide (r43 < 0))) then
                   bnd (qi a_1 b_2 ((b_2 - 1) - (r40.1 - a_1)) e42) fun r44 =>
                   ckB (decide (r44.2.length=e42.length)) <|
                   nx (r44.1,b_2,limit_3,wasBalanced_10,wasPartitioned_11,r44.2)
                 else
                   bnd (q6 rec a_1 b_2 limit_3 (b_2 - a_1) ((b_2 - 1) - (r40.1 - a_1)) e42) fun oe45 =>
                   lk oe45 (fun e45 =>
                     nx (e45.1,e45.2.1,limit_3,e45.2.2.1,e45.2.2.2.1,e45.2.2.2.2)) (fun r=>rt r)
               else
                 bnd (q6 rec a_1 b_2 limit_3 (b_2 - a_1) ((b_2 - 1) - (r40.1 - a_1)) e42) fun oe46 =>
                 lk oe46 (fun e46 =>
                   nx (e46.1,e46.2.1,limit_3,e46.2.2.1,e46.2.2.2.1,e46.2.2.2.2)) (fun r=>rt r)) (fun r=>rt r)
           else
             bnd (qm rec a_1 b_2 limit_3 wasBalanced_10 wasPartitioned_11 (b_2 - a_1) ((b_2 - 1) - (r40.1 - a_1)) false r41) fun oe47 =>
             lk oe47 (fun e47 =>
               bif decide ((0:Int) < a_1) then
                 ckB (inR .i64 (a_1 - 1)) <|
                 ckB (ix (a_1 - 1) e47.length) <|
                 ckB (ix (a_1 - 1) e47.length) <|
                 ckB (ix ((b_2 - 1) - (r40.1 - a_1)) e47.length) <|
                 ckB (ix ((b_2 - 1) - (r40.1 - a_1)) e47.length) <|
                 bnd (qa (e47.getD (Int.toNat (a_1 - 1)) []) (e47.getD (Int.toNat ((b_2 - 1) - (r40.1 - a_1))) [])) fun r48 =>
                 bif (!(decide (r48 < 0))) then
                   bnd (qi a_1 b_2 ((b_2 - 1) - (r40.1 - a_1)) e47) fun r49 =>
                   ckB (decide (r49.2.length=e47.length)) <|
                   nx (r49.1,b_2,limit_3,wasBalanced_10,wasPartitioned_11,r49.2)
                 else
                   bnd (q6 rec a_1 b_2 limit_3 (b_2 - a_1) ((b_2 - 1) - (r40.1 - a_1)) e47) fun oe50 =>
                   lk oe50 (fun e50 =>
                     nx (e50.1,e50.2.1,limit_3,e50.2.2.1,e50.2.2.2.1,e50.2.2.2.2)) (fun r=>rt r)
               else
                 bnd (q6 rec a_1 b_2 limit_3 (b_2 - a_1) ((b_2 - 1) - (r40.1 - a_1)) e47) fun oe51 =>
                 lk oe51 (fun e51 =>
                   nx (e51.1,e51.2.1,limit_3,e51.2.2.1,e51.2.2.2.1,e51.2.2.2.2)) (fun r=>rt r)) (fun r=>rt r)
         else
           bnd (qm rec a_1 b_2 limit_3 wasBalanced_10 wasPartitioned_11 (b_2 - a_1) ((b_2 - 1) - (r40.1 - a_1)) false r41) fun oe52 =>
           lk oe52 (fun e52 =>
             bif decide ((0:Int) < a_1) then
               ckB (inR .i64 (a_1 - 1)) <|
               ckB (ix (a_1 - 1) e52.length) <|
               ckB (ix (a_1 - 1) e52.length) <|
               ckB (ix ((b_2 - 1) - (r40.1 - a_1)) e52.length) <|
               ckB (ix ((b_2 - 1) - (r40.1 - a_1)) e52.length) <|
               bnd (qa (e52.getD (Int.toNat (a_1 - 1)) []) (e52.getD (Int.toNat ((b_2 - 1) - (r40.1 - a_1))) [])) fun r53 =>
               bif (!(decide (r53 < 0))) then
                 bnd (qi a_1 b_2 ((b_2 - 1) - (r40.1 - a_1)) e52) fun r54 =>
                 ckB (decide (r54.2.length=e52.length)) <|
                 nx (r54.1,b_2,limit_3,wasBalanced_10,wasPartitioned_11,r54.2)
               else
                 bnd (q6 rec a_1 b_2 limit_3 (b_2 - a_1) ((b_2 - 1) - (r40.1 - a_1)) e52) fun oe55 =>
                 lk oe55 (fun e55 =>
                   nx (e55.1,e55.2.1,limit_3,e55.2.2.1,e55.2.2.2.1,e55.2.2.2.2)) (fun r=>rt r)
             else
               bnd (q6 rec a_1 b_2 limit_3 (b_2 - a_1) ((b_2 - 1) - (r40.1 - a_1)) e52) fun oe56 =>
               lk oe56 (fun e56 =>
                 nx (e56.1,e56.2.1,limit_3,e56.2.2.1,e56.2.2.2.1,e56.2.2.2.2)) (fun r=>rt r)) (fun r=>rt r)
       else
         bif wasBalanced_10 then
           bif wasPartitioned_11 then
             bnd (qm rec a_1 b_2 limit_3 wasBalanced_10 wasPartitioned_11 (b_2 - a_1) r40.1 (decide (r40.2=1)) data_0) fun oe57 =>
             lk oe57 (fun e57 =>
               bif decide ((0:Int) < a_1) then
                 ckB (inR .i64 (a_1 - 1)) <|
                 ckB (ix (a_1 - 1) e57.length) <|
                 ckB (ix (a_1 - 1) e57.length) <|
                 ckB (ix r40.1 e57.length) <|
                 ckB (ix r40.1 e57.length) <|
                 bnd (qa (e57.getD (Int.toNat (a_1 - 1)) []) (e57.getD (Int.toNat r40.1) [])) fun r58 =>
                 bif (!(decide (r58 < 0))) then
                   bnd (qi a_1 b_2 r40.1 e57) fun r59 =>
                   ckB (decide (r59.2.length=e57.length)) <|
                   nx (r59.1,b_2,limit_3,wasBalanced_10,wasPartitioned_11,r59.2)
                 else
                   bnd (q6 rec a_1 b_2 limit_3 (b_2 - a_1) r40.1 e57) fun oe60 =>
                   lk oe60 (fun e60 =>
                     nx (e60.1,e60.2.1,limit_3,e60.2.2.1,e60.2.2.2.1,e60.2.2.2.2)) (fun r=>rt r)
               else
                 bnd (q6 rec a_1 b_2 limit_3 (b_2 - a_1) r40.1 e57) fun oe61 =>
                 lk oe61 (fun e61 =>
                   nx (e61.1,e61.2.1,limit_3,e61.2.2.1,e61.2.2.2.1,e61.2.2.2.2)) (fun r=>rt r)) (fun r=>rt r)
           else
             bnd (qm rec a_1 b_2 limit_3 wasBalanced_10 wasPartitioned_11 (b_2 - a_1) r40.1 false data_0) fun oe62 =>
             lk oe62 (fun e62 =>
               bif decide ((0:Int) < a_1) then
                 ckB (inR .i64 (a_1 - 1)) <|
                 ckB (ix (a_1 - 1) e62.length) <|
                 ckB (ix (a_1 - 1) e62.length) <|
                 ckB (ix r40.1 e62.length) <|
                 ckB (ix r40.1 e62.length) <|
                 bnd (qa (e62.getD (Int.toNat (a_1 - 1)) []) (e62.getD (Int.toNat r40.1) [])) fun r63 =>
                 bif (!(decide (r63 < 0))) then
                   bnd (qi a_1 b_2 r40.1 e62) fun r64 =>
                   ckB (decide (r64.2.length=e62.length)) <|
                   nx (r64.1,b_2,limit_3,wasBalanced_10,wasPartitioned_11,r64.2)
                 else
                   bnd (q6 rec a_1 b_2 limit_3 (b_2 - a_1) r40.1 e62) fun oe65 =>
                   lk oe65 (fun e65 =>
                     nx (e65.1,e65.2.1,limit_3,e65.2.2.1,e65.2.2.2.1,e65.2.2.2.2)) (fun r=>rt r)
               else
                 bnd (q6 rec a_1 b_2 limit_3 (b_2 - a_1) r40.1 e62) fun oe66 =>
                 lk oe66 (fun e66 =>
                   nx (e66.1,e66.2.1,limit_3,e66.2.2.1,e66.2.2.2.1,e66.2.2.2.2)) (fun r=>rt r)) (fun r=>rt r)
         else
           bnd (qm rec a_1 b_2 limit_3 wasBalanced_10 wasPartitioned_11 (b_2 - a_1) r40.1 false data_0) fun oe67 =>
           lk oe67 (fun e67 =>
             bif decide ((0:Int) < a_1) then
               ckB (inR .i64 (a_1 - 1)) <|
               ckB (ix (a_1 - 1) e67.length) <|
               ckB (ix (a_1 - 1) e67.length) <|
               ckB (ix r40.1 e67.length) <|
               ckB (ix r40.1 e67.length) <|
               bnd (qa (e67.getD (Int.toNat (a_1 - 1)) []) (e67.getD (Int.toNat r40.1) [])) fun r68 =>
               bif (!(decide (r68 < 0))) then
                 bnd (qi a_1 b_2 r40.1 e67) fun r69 =>
                 ckB (decide (r69.2.length=e67.length)) <|
                 nx (r69.1,b_2,limit_3,wasBalanced_10,wasPartitioned_11,r69.2)
               else
                 bnd (q6 rec a_1 b_2 limit_3 (b_2 - a_1) r40.1 e67) fun oe70 =>
                 lk oe70 (fun e70 =>
                   nx (e70.1,e70.2.1,limit_3,e70.2.2.1,e70.2.2.2.1,e70.2.2.2.2)) (fun r=>rt r)
             else
               bnd (q6 rec a_1 b_2 limit_3 (b_2 - a_1) r40.1 e67) fun oe71 =>
               lk oe71 (fun e71 =>
                 nx (e71.1,e71.2.1,limit_3,e71.2.2.1,e71.2.2.2.1,e71.2.2.2.2)) (fun r=>rt r)) (fun r=>rt r)
def qnw (rec:((Unit×Int×Int×Int×(Unit)×Unit)×(qL2×Unit))→Option qL2)  (s0:(Int×Int×Int×Bool×Bool×qL2)):Option (Unit⊕qL2) :=
 loopM (fun a=>q84 rec  a.1 a.2.1 a.2.2.1 a.2.2.2.1 a.2.2.2.2.1 a.2.2.2.2.2 (fun a'=>some (.next a')) (fun e=>some (.done e)) (fun r=>some (.ret r))) s0
def qm7:Shp:=⟨[(0,.own 0),(1,.d true qT0),(2,.d true qT0),(3,.d true qT0),(4,.fn 54 .nil),(10,.d true .bool),(11,.d true .bool)],[.arr 33 (.fz true) [3] qT1]⟩
def qmj:Shp:=⟨[],[]⟩
def q4l (rec:((Unit×Int×Int×Int×(Unit)×Unit)×(qL2×Unit))→Option qL2) (a_1:Int) (b_2:Int) (limit_3:Int) (data_0:qL2):Option qL2 :=
 bnd (qnw rec  (a_1,b_2,limit_3,true,true,data_0)) fun oe72 =>
 lk oe72 (fun e72 =>
   none) (fun r=>some r)
def qat (a:((Unit×Int×Int×Int×(Unit)×Unit)×(qL2×Unit))):Option qL2 :=
 recM (fun (rec:((Unit×Int×Int×Int×(Unit)×Unit)×(qL2×Unit))→Option qL2) (a:((Unit×Int×Int×Int×(Unit)×Unit)×(qL2×Unit)))=>q4l rec a.1.2.1 a.1.2.2.1 a.1.2.2.2.1 a.2.1) many a
def qpm (a_1:Int) (b_2:Int) (limit_3:Int) (data_0:qL2):Option qL2 :=
 qat (((),a_1,b_2,limit_3,(()),()),(data_0,()))
def qdj (x_0:qL2):Option qL2 :=
 bnd (qzb (IntKind.wrap .u64 (x_0.length:Int))) fun r1 =>
 bnd (qpm 0 (x_0.length:Int) r1 x_0) fun r2 =>
 ckB (decide (r2.length=x_0.length)) <|
 some r2
def qxu (k_0:Int):Option Bool :=
 some (decide ((1048576:Int) < k_0))
def q9a {R:Type} (s_0:qL1) (v_7:Int) (v_8:Int) (nx:Int→Option R) (dn:Unit→Option R) (rt:Int→Option R):Option R :=
 bif decide (v_8 < v_7) then
   ckB (ix v_8 s_0.length) <|
   ckB (ix v_8 s_0.length) <|
   bnd (qxu (s_0.getD (Int.toNat v_8) 0)) fun r1 =>
   bif r1 then
     rt v_8
   else
     ckB (inR .i64 (v_8+1)) <|
     nx (v_8+1)
 else
   dn ()
def qoi (s_0:qL1) (v_7:Int) (s0:Int):Option (Unit⊕Int) :=
 loopM (fun a=>q9a s_0 v_7 a (fun a'=>some (.next a')) (fun e=>some (.done e)) (fun r=>some (.ret r))) s0
def qnl:Shp:=⟨[(0,.d false qT1),(1,.fn 77 .nil),(7,.d true qT0),(8,.d true qT0)],[]⟩
def qn1:Shp:=⟨[],[]⟩
def qcy (s_0:qL1):Option Int :=
 bnd (qoi s_0 (s_0.length:Int) 0) fun oe2 =>
 lk oe2 (fun e2 =>
   some (-1)) (fun r=>some r)
def q9d (s_0:qL1):Option Bool :=
 bnd (qcy s_0) fun r1 =>
 some (decide ((0:Int)≤r1))
def qv6 {R:Type} (matrix_0:qL2) (v_14:qL2) (v_15:Int) (v_16:Int) (r_40:qL2) (r_41:qL2) (nx:(Int×qL2×qL2)→Option R) (dn:(qL2×qL2)→Option R) (rt:(qL2×Int)→Option R):Option R :=
 bif decide (v_16 < v_15) then
   ckB (ix v_16 v_14.length) <|
   ckB (ix v_16 v_14.length) <|
   ckB (mkOk (matrix_0.length:Int) (matrix_0.length:Int) 8) <|
   ckB (ix v_16 (List.replicate (Int.toNat (matrix_0.length:Int)) (0:Int)).length) <|
   ckB (ix v_16 (List.replicate (Int.toNat (matrix_0.length:Int)) (0:Int)).length) <|
   bnd (q1k (v_14.getD (Int.toNat v_16) [])) fun r1 =>
   ckB (room (r_40.length+1) 24) <|
   ckB (room (r_41.length+1) 24) <|
   ckB (inR .i64 (v_16+1)) <|
   nx ((v_16+1),(r_40++[r1]),(r_41++[((List.replicate (Int.toNat (matrix_0.length:Int)) (0:Int)).set (Int.toNat v_16) 1)]))
 else
   dn (r_40,r_41)
def q19v (matrix_0:qL2) (v_14:qL2) (v_15:Int) (s0:(Int×qL2×qL2)):Option ((qL2×qL2)⊕(qL2×Int)) :=
 loopM (fun a=>qv6 matrix_0 v_14 v_15 a.1 a.2.1 a.2.2 (fun a'=>some (.next a')) (fun e=>some (.done e)) (fun r=>some (.ret r))) s0
def q185:Shp:=⟨[(0,.d false qT2),(4,.ptr 0),(14,.d false qT2),(15,.d true qT0),(16,.d true qT0)],[.cs 101 2 1 (.cons (.own 1) (.cons (.own 2) .nil)),.arr 33 (.fz true) [3] qT1,.arr 33 (.fz true) [3] qT1]⟩
def q17t:Shp:=⟨[(0,.d false qT2),(4,.ptr 0)],[.cs 101 2 1 (.cons (.own 1) (.cons (.own 2) .nil)),.arr 33 (.fz true) [3] qT1,.arr 33 (.fz true) [3] qT1]⟩
def qvu {R:Type} (v_55:Int) (v_56:Int) (r_40:qL2) (r_41:qL2) (nx:(Int×qL2×qL2)→Option R) (dn:(qL2×qL2)→Option R) (rt:(qL2×Int)→Option R):Option R :=
 bif decide (v_56 < v_55) then
   bnd (qou v_56 r_40 r_41) fun r3 =>
   bif (!r3.1) then
     rt ([],5)
   else
     ckB (inR .i64 (v_56+1)) <|
     nx ((v_56+1),r3.2.1,r3.2.2)
 else
   dn (r_40,r_41)
def q19h (v_55:Int) (s0:(Int×qL2×qL2)):Option ((qL2×qL2)⊕(qL2×Int)) :=
 loopM (fun a=>qvu v_55 a.1 a.2.1 a.2.2 (fun a'=>some (.next a')) (fun e=>some (.done e)) (fun r=>some (.ret r))) s0
def q16o:Shp:=⟨[(4,.ptr 0),(55,.d true qT0),(56,.d true qT0)],[.cs 101 2 1 (.cons (.own 1) (.cons (.own 2) .nil)),.arr 33 (.fz true) [3] qT1,.arr 33 (.fz true) [3] qT1]⟩
def q17c:Shp:=⟨[(4,.ptr 0)],[.cs 101 2 1 (.cons (.own 1) (.cons (.own 2) .nil)),.arr 33 (.fz true) [3] qT1,.arr 33 (.fz true) [3] qT1]⟩
def qvf {R:Type} (out_9:qL2) (v_73:qL2) (v_74:Int) (v_75:Int) (nx:Int→Option R) (dn:Unit→Option R) (rt:(qL2×Int)→Option R):Option R :=
 bif decide (v_75 < v_74) then
   ckB (ix v_75 v_73.length) <|
   ckB (ix v_75 v_73.length) <|
   bnd (q9d (v_73.getD (Int.toNat v_75) [])) fun r6 =>
   bif r6 then
     rt ([],6)
   else
     ckB (inR .i64 (v_75+1)) <|
     nx (v_75+1)
 else
   dn ()
def q199 (out_9:qL2) (v_73:qL2) (v_74:Int) (s0:Int):Option (Unit⊕(qL2×Int)) :=
 loopM (fun a=>qvf out_9 v_73 v_74 a (fun a'=>some (.next a')) (fun e=>some (.done e)) (fun r=>some (.ret r))) s0
def q17g:Shp:=⟨[(9,.d true qT2),(73,.d true qT2),(74,.d true qT0),(75,.d true qT0)],[]⟩
def q16p:Shp:=⟨[(9,.d true qT2)],[]⟩
def qvk {R:Type} (r_40:qL2) (r_41:qL2) (dn:Unit→Option R) (rt:(qL2×Int)→Option R):Option R :=
 bnd (qdj r_41) fun r5 =>
 ckB (decide (r5.length=r_41.length)) <|
 bif decide ((1000:Int) < (r5.length:Int)) then
   rt ([],5)
 else
   bnd (q199 r5 r5 (r5.length:Int) 0) fun oe7 =>
   lk oe7 (fun e7 =>
     rt (r5,0)) (fun r=>rt r)
def qx7 (r_40:qL2) (r_41:qL2):Option (Unit⊕(qL2×Int)) :=
 qvk r_40 r_41 (fun e=>some (.inl e)) (fun r=>some (.inr r))
def q18k:Shp:=⟨[(4,.ptr 0)],[.cs 101 2 1 (.cons (.d true qT2) (.cons (.own 1) .nil)),.arr 33 (.fz true) [3] qT1]⟩
def q171:Shp:=⟨[],[]⟩
def qt8 (matrix_0:qL2):Option (qL2×Int) :=
 bnd (q19v matrix_0 matrix_0 (matrix_0.length:Int) (0,[],[])) fun oe2 =>
 lk oe2 (fun e2 =>
   bif decide ((0:Int) < (matrix_0.length:Int)) then
     ckB (ix 0 matrix_0.length) <|
     ckB (ix 0 matrix_0.length) <|
     bnd (q19h ((matrix_0.getD 0 []).length:Int) (0,e2.1,e2.2)) fun oe4 =>
     lk oe4 (fun e4 =>
       bnd (qx7 e4.1 e4.2) fun oe8 =>
       lk oe8 (fun e8 =>
         none) (fun r=>some r)) (fun r=>some r)
   else
     bnd (qx7 e2.1 e2.2) fun oe9 =>
     lk oe9 (fun e9 =>
       none) (fun r=>some r)) (fun r=>some r)
def qye {R:Type} (p_5:Int) (v_15:Int) (v_16:Int) (v_21:(List Trans)) (v_22:Int) (n_10:Int) (n_11:(List Trans)) (n_12:Int) (n_13:Int) (matrix_4:qL2) (v_23:Int) (row_6:qL1) (nx:(Int×qL1)→Option R) (dn:qL1→Option R) (rt:(qL2×Int)→Option R):Option R :=
 bif decide (v_23 < v_22) then
   ckB (ix v_23 v_21.length) <|
   ckB (ix v_23 v_21.length) <|
   bnd (qw6 (v_21.getD (Int.toNat v_23) Trans.z) p_5) fun r3 =>
   ckB (room (row_6.length+1) 8) <|
   ckB (inR .i64 (v_23+1)) <|
   nx ((v_23+1),(row_6++[r3]))
 else
   dn row_6
def q1b6 (p_5:Int) (v_15:Int) (v_16:Int) (v_21:(List Trans)) (v_22:Int) (n_10:Int) (n_11:(List Trans)) (n_12:Int) (n_13:Int) (matrix_4:qL2) (s0:(Int×qL1)):Option (qL1⊕(qL2×Int)) :=
 loopM (fun a=>qye p_5 v_15 v_16 v_21 v_22 n_10 n_11 n_12 n_13 matrix_4 a.1 a.2 (fun a'=>some (.next a')) (fun e=>some (.done e)) (fun r=>some (.ret r))) s0
def q19a:Shp:=⟨[(1,.ptr 0),(4,.nl false (.own 1)),(5,.d true qT0),(6,.own 2),(15,.d true qT0),(16,.d true qT0),(21,.d false (.slice Trans.ty)),(22,.d true qT0),(23,.d true qT0)],[.cs 24 4 1 (.cons (.d true qT0) (.cons (.d false (.slice Trans.ty)) (.cons (.d true qT0) (.cons (.d true qT0) .nil)))),.arr 33 (.fz true) [3] qT1,.arr 3 (.fz true) [0] qT0]⟩
def q1a0:Shp:=⟨[(1,.ptr 0),(4,.nl false (.own 1)),(6,.own 2),(15,.d true qT0),(16,.d true qT0)],[.cs 24 4 1 (.cons (.d true qT0) (.cons (.d false (.slice Trans.ty)) (.cons (.d true qT0) (.cons (.d true qT0) .nil)))),.arr 33 (.fz true) [3] qT1,.arr 3 (.fz true) [0] qT0]⟩
def qyj {R:Type} (v_15:Int) (n_10:Int) (n_11:(List Trans)) (n_12:Int) (n_13:Int) (v_16:Int) (matrix_4:qL2) (nx:(Int×qL2)→Option R) (dn:qL2→Option R) (rt:(qL2×Int)→Option R):Option R :=
 bif decide (v_16 < v_15) then
   bnd (q1b6 v_16 v_15 v_16 n_11 (n_11.length:Int) n_10 n_11 n_12 n_13 matrix_4 (0,[])) fun oe4 =>
   lk oe4 (fun e4 =>
     ckB (room (matrix_4.length+1) 24) <|
     ckB (inR .i64 (v_16+1)) <|
     nx ((v_16+1),(matrix_4++[e4]))) (fun r=>rt r)
 else
   dn matrix_4
def q1bb (v_15:Int) (n_10:Int) (n_11:(List Trans)) (n_12:Int) (n_13:Int) (s0:(Int×qL2)):Option (qL2⊕(qL2×Int)) :=
 loopM (fun a=>qyj v_15 n_10 n_11 n_12 n_13 a.1 a.2 (fun a'=>some (.next a')) (fun e=>some (.done e)) (fun r=>some (.ret r))) s0
def q1a4:Shp:=⟨[(1,.ptr 0),(4,.nl false (.own 1)),(15,.d true qT0),(16,.d true qT0)],[.cs 24 4 1 (.cons (.d true qT0) (.cons (.d false (.slice Trans.ty)) (.cons (.d true qT0) (.cons (.d true qT0) .nil)))),.arr 33 (.fz true) [3] qT1]⟩
def q18u:Shp:=⟨[(4,.nl false (.own 0))],[.arr 33 (.fz true) [3] qT1]⟩
def q14h (n_0:Net):Option (qL2×Int) :=
 bnd (q2i n_0) fun r1 =>
 bif (!r1) then
   some ([],1)
 else
   bnd (qze n_0) fun r2 =>
   bif r2 then
     some ([],5)
   else
     bnd (q1bb n_0.1 n_0.1 n_0.2.1 n_0.2.2.1 n_0.2.2.2.1 (0,[])) fun oe5 =>
     lk oe5 (fun e5 =>
       bnd (qt8 e5) fun r6 =>
       some (r6.1,r6.2)) (fun r=>some r)
def qoz {R:Type} (v_15:(List Trans)) (v_16:Int) (v_17:Int) (v_23:Int) (n_10:Int) (n_11:(List Trans)) (n_12:Int) (n_13:Int) (matrix_4:qL2) (t_60:ByteArray) (t_61:qL1) (t_62:qL1) (v_24:Int) (row_7:qL1) (nx:(Int×qL1)→Option R) (dn:qL1→Option R) (rt:(qL2×Int)→Option R):Option R :=
 bif decide (v_24 < v_23) then
   bnd (qw6 (t_60,t_61,t_62,()) v_24) fun r3 =>
   ckB (room (row_7.length+1) 8) <|
   ckB (inR .i64 (v_24+1)) <|
   nx ((v_24+1),(row_7++[r3]))
 else
   dn row_7
def q11y (v_15:(List Trans)) (v_16:Int) (v_17:Int) (v_23:Int) (n_10:Int) (n_11:(List Trans)) (n_12:Int) (n_13:Int) (matrix_4:qL2) (t_60:ByteArray) (t_61:qL1) (t_62:qL1) (s0:(Int×qL1)):Option (qL1⊕(qL2×Int)) :=
 loopM (fun a=>qoz v_15 v_16 v_17 v_23 n_10 n_11 n_12 n_13 matrix_4 t_60 t_61 t_62 a.1 a.2 (fun a'=>some (.next a')) (fun e=>some (.done e)) (fun r=>some (.ret r))) s0
def q10n:Shp:=⟨[(1,.ptr 0),(4,.nl false (.own 1)),(6,.ptr 2),(7,.own 3),(15,.d false (.slice Trans.ty)),(16,.d true qT0),(17,.d true qT0),(23,.d true qT0),(24,.d true qT0)],[.cs 24 4 1 (.cons (.d true qT0) (.cons (.d false (.slice Trans.ty)) (.cons (.d true qT0) (.cons (.d true qT0) .nil)))),.arr 33 (.fz true) [3] qT1,.cs 36 3 1 (.cons (.d true .str) (.cons (.d false qT1) (.cons (.d false qT1) .nil))),.arr 3 (.fz true) [0] qT0]⟩
def q10r:Shp:=⟨[(1,.ptr 0),(4,.nl false (.own 1)),(7,.own 2),(15,.d false (.slice Trans.ty)),(16,.d true qT0),(17,.d true qT0)],[.cs 24 4 1 (.cons (.d true qT0) (.cons (.d false (.slice Trans.ty)) (.cons (.d true qT0) (.cons (.d true qT0) .nil)))),.arr 33 (.fz true) [3] qT1,.arr 3 (.fz true) [0] qT0]⟩
def qp4 {R:Type} (v_15:(List Trans)) (v_16:Int) (n_10:Int) (n_11:(List Trans)) (n_12:Int) (n_13:Int) (v_17:Int) (matrix_4:qL2) (nx:(Int×qL2)→Option R) (dn:qL2→Option R) (rt:(qL2×Int)→Option R):Option R :=
 bif decide (v_17 < v_16) then
   ckB (ix v_17 v_15.length) <|
   ckB (ix v_17 v_15.length) <|
   bnd (q11y v_15 v_16 v_17 n_10 n_10 n_11 n_12 n_13 matrix_4 (v_15.getD (Int.toNat v_17) Trans.z).1 (v_15.getD (Int.toNat v_17) Trans.z).2.1 (v_15.getD (Int.toNat v_17) Trans.z).2.2.1 (0,[])) fun oe4 =>
   lk oe4 (fun e4 =>
     ckB (room (matrix_4.length+1) 24) <|
     ckB (inR .i64 (v_17+1)) <|
     nx ((v_17+1),(matrix_4++[e4]))) (fun r=>rt r)
 else
   dn matrix_4
def q125 (v_15:(List Trans)) (v_16:Int) (n_10:Int) (n_11:(List Trans)) (n_12:Int) (n_13:Int) (s0:(Int×qL2)):Option (qL2⊕(qL2×Int)) :=
 loopM (fun a=>qp4 v_15 v_16 n_10 n_11 n_12 n_13 a.1 a.2 (fun a'=>some (.next a')) (fun e=>some (.done e)) (fun r=>some (.ret r))) s0
def q10w:Shp:=⟨[(1,.ptr 0),(4,.nl false (.own 1)),(15,.d false (.slice Trans.ty)),(16,.d true qT0),(17,.d true qT0)],[.cs 24 4 1 (.cons (.d true qT0) (.cons (.d false (.slice Trans.ty)) (.cons (.d true qT0) (.cons (.d true qT0) .nil)))),.arr 33 (.fz true) [3] qT1]⟩
def q10t:Shp:=⟨[(4,.nl false (.own 0))],[.arr 33 (.fz true) [3] qT1]⟩
def qt7 (n_0:Net):Option (qL2×Int) :=
 bnd (q2i n_0) fun r1 =>
 bif (!r1) then
   some ([],1)
 else
   bnd (qze n_0) fun r2 =>
   bif r2 then
     some ([],5)
   else
     bnd (q125 n_0.2.1 (n_0.2.1.length:Int) n_0.1 n_0.2.1 n_0.2.2.1 n_0.2.2.2.1 (0,[])) fun oe5 =>
     lk oe5 (fun e5 =>
       bnd (qt8 e5) fun r6 =>
       some (r6.1,r6.2)) (fun r=>some r)
def qq7 {R:Type} (p_5:Int) (v_32:Int) (v_33:Int) (v_44:(List Trans)) (v_45:Int) (n_10:Int) (n_11:(List Trans)) (n_12:Int) (n_13:Int) (v_46:Int) (out_4:qL2) (nx:(Int×qL2)→Option R) (dn:qL2→Option R) (rt:(Int×qL2)→Option R):Option R :=
 bif decide (v_46 < v_45) then
   ckB (ix v_46 v_44.length) <|
   ckB (ix v_46 v_44.length) <|
   bnd (qq (v_44.getD (Int.toNat v_46) Trans.z).2.2.1 p_5) fun r2 =>
   bif r2 then
     ckB (ix p_5 out_4.length) <|
     ckB (ix p_5 out_4.length) <|
     ckB (ix v_46 (out_4.getD (Int.toNat p_5) []).length) <|
     ckB (ix v_46 (out_4.getD (Int.toNat p_5) []).length) <|
     ckB (inR .i64 (((out_4.getD (Int.toNat p_5) []).getD (Int.toNat v_46) 0)+1)) <|
     ckB (ix v_46 (out_4.getD (Int.toNat p_5) []).length) <|
     ckB (ix v_46 (out_4.getD (Int.toNat p_5) []).length) <|
     bnd (qq (v_44.getD (Int.toNat v_46) Trans.z).2.1 p_5) fun r3 =>
     bif r3 then
       ckB (ix p_5 (out_4.set (Int.toNat p_5) ((out_4.getD (Int.toNat p_5) []).set (Int.toNat v_46) (((out_4.getD (Int.toNat p_5) []).getD (Int.toNat v_46) 0)+1))).length) <|
       ckB (ix p_5 (out_4.set (Int.toNat p_5) ((out_4.getD (Int.toNat p_5) []).set (Int.toNat v_46) (((out_4.getD (Int.toNat p_5) []).getD (Int.toNat v_46) 0)+1))).length) <|
       ckB (ix v_46 ((out_4.set (Int.toNat p_5) ((out_4.getD (Int.toNat p_5) []).set (Int.toNat v_46) (((out_4.getD (Int.toNat p_5) []).getD (Int.toNat v_46) 0)+1))).getD (Int.toNat p_5) []).length) <|
       ckB (ix v_46 ((out_4.set (Int.toNat p_5) ((out_4.getD (Int.toNat p_5) []).set (Int.toNat v_46) (((out_4.getD (Int.toNat p_5) []).getD (Int.toNat v_46) 0)+1))).getD (Int.toNat p_5) []).length) <|
       ckB (inR .i64 ((((out_4.set (Int.toNat p_5) ((out_4.getD (Int.toNat p_5) []).set (Int.toNat v_46) (((out_4.getD (Int.toNat p_5) []).getD (Int.toNat v_46) 0)+1))).getD (Int.toNat p_5) []).getD (Int.toNat v_46) 0) - 1)) <|
       ckB (ix v_46 ((out_4.set (Int.toNat p_5) ((out_4.getD (Int.toNat p_5) []).set (Int.toNat v_46) (((out_4.getD (Int.toNat p_5) []).getD (Int.toNat v_46) 0)+1))).getD (Int.toNat p_5) []).length) <|
       ckB (ix v_46 ((out_4.set (Int.toNat p_5) ((out_4.getD (Int.toNat p_5) []).set (Int.toNat v_46) (((out_4.getD (Int.toNat p_5) []).getD (Int.toNat v_46) 0)+1))).getD (Int.toNat p_5) []).length) <|
       ckB (inR .i64 (v_46+1)) <|
       nx ((v_46+1),((out_4.set (Int.toNat p_5) ((out_4.getD (Int.toNat p_5) []).set (Int.toNat v_46) (((out_4.getD (Int.toNat p_5) []).getD (Int.toNat v_46) 0)+1))).set (Int.toNat p_5) (((out_4.set (Int.toNat p_5) ((out_4.getD (Int.toNat p_5) []).set (Int.toNat v_46) (((out_4.getD (Int.toNat p_5) []).getD (Int.toNat v_46) 0)+1))).getD (Int.toNat p_5) []).set (Int.toNat v_46) ((((out_4.set (Int.toNat p_5) ((out_4.getD (Int.toNat p_5) []).set (Int.toNat v_46) (((out_4.getD (Int.toNat p_5) []).getD (Int.toNat v_46) 0)+1))).getD (Int.toNat p_5) []).getD (Int.toNat v_46) 0) - 1))))
     else
       ckB (inR .i64 (v_46+1)) <|
       nx ((v_46+1),(out_4.set (Int.toNat p_5) ((out_4.getD (Int.toNat p_5) []).set (Int.toNat v_46) (((out_4.getD (Int.toNat p_5) []).getD (Int.toNat v_46) 0)+1))))
   else
     bnd (qq (v_44.getD (Int.toNat v_46) Trans.z).2.1 p_5) fun r4 =>
     bif r4 then
       ckB (ix p_5 out_4.length) <|
       ckB (ix p_5 out_4.length) <|
       ckB (ix v_46 (out_4.getD (Int.toNat p_5) []).length) <|
       ckB (ix v_46 (out_4.getD (Int.toNat p_5) []).length) <|
       ckB (inR .i64 (((out_4.getD (Int.toNat p_5) []).getD (Int.toNat v_46) 0) - 1)) <|
       ckB (ix v_46 (out_4.getD (Int.toNat p_5) []).length) <|
       ckB (ix v_46 (out_4.getD (Int.toNat p_5) []).length) <|
       ckB (inR .i64 (v_46+1)) <|
       nx ((v_46+1),(out_4.set (Int.toNat p_5) ((out_4.getD (Int.toNat p_5) []).set (Int.toNat v_46) (((out_4.getD (Int.toNat p_5) []).getD (Int.toNat v_46) 0) - 1))))
     else
       ckB (inR .i64 (v_46+1)) <|
       nx ((v_46+1),out_4)
 else
   dn out_4
def q13u (p_5:Int) (v_32:Int) (v_33:Int) (v_44:(List Trans)) (v_45:Int) (n_10:Int) (n_11:(List Trans)) (n_12:Int) (n_13:Int) (s0:(Int×qL2)):Option (qL2⊕(Int×qL2)) :=
 loopM (fun a=>qq7 p_5 v_32 v_33 v_44 v_45 n_10 n_11 n_12 n_13 a.1 a.2 (fun a'=>some (.next a')) (fun e=>some (.done e)) (fun r=>some (.ret r))) s0
def q11s:Shp:=⟨[(1,.ptr 0),(4,.own 1),(5,.d true qT0),(32,.d true qT0),(33,.d true qT0),(44,.d false (.slice Trans.ty)),(45,.d true qT0),(46,.d true qT0)],[.cs 24 4 1 (.cons (.d true qT0) (.cons (.d false (.slice Trans.ty)) (.cons (.d true qT0) (.cons (.d true qT0) .nil)))),.arr 33 .own [3] qT1]⟩
def q11l:Shp:=⟨[(1,.ptr 0),(4,.own 1),(32,.d true qT0),(33,.d true qT0)],[.cs 24 4 1 (.cons (.d true qT0) (.cons (.d false (.slice Trans.ty)) (.cons (.d true qT0) (.cons (.d true qT0) .nil)))),.arr 33 .own [3] qT1]⟩
def qq2 {R:Type} (v_32:Int) (n_10:Int) (n_11:(List Trans)) (n_12:Int) (n_13:Int) (v_33:Int) (out_4:qL2) (nx:(Int×qL2)→Option R) (dn:qL2→Option R) (rt:(Int×qL2)→Option R):Option R :=
 bif decide (v_33 < v_32) then
   ckB (mkOk (n_11.length:Int) (n_11.length:Int) 8) <|
   ckB (ix v_33 out_4.length) <|
   ckB (ix v_33 out_4.length) <|
   bnd (q13u v_33 v_32 v_33 n_11 (n_11.length:Int) n_10 n_11 n_12 n_13 (0,(out_4.set (Int.toNat v_33) (List.replicate (Int.toNat (n_11.length:Int)) (0:Int))))) fun oe5 =>
   lk oe5 (fun e5 =>
     ckB (inR .i64 (v_33+1)) <|
     nx ((v_33+1),e5)) (fun r=>rt r)
 else
   dn out_4
def q13o (v_32:Int) (n_10:Int) (n_11:(List Trans)) (n_12:Int) (n_13:Int) (s0:(Int×qL2)):Option (qL2⊕(Int×qL2)) :=
 loopM (fun a=>qq2 v_32 n_10 n_11 n_12 n_13 a.1 a.2 (fun a'=>some (.next a')) (fun e=>some (.done e)) (fun r=>some (.ret r))) s0
def q11e:Shp:=⟨[(1,.ptr 0),(4,.own 1),(32,.d true qT0),(33,.d true qT0)],[.cs 24 4 1 (.cons (.d true qT0) (.cons (.d false (.slice Trans.ty)) (.cons (.d true qT0) (.cons (.d true qT0) .nil)))),.arr 33 .own [3] qT1]⟩
def q121:Shp:=⟨[(4,.own 0)],[.arr 33 .own [3] qT1]⟩
def qv5 (n_0:Net):Option (Int×qL2) :=
 bnd (q2i n_0) fun r1 =>
 bif (!r1) then
   some (1,[])
 else
   bif decide ((n_0.2.1.length:Int)=0) then
     some (5,[])
   else
     bif decide ((20:Int) < (n_0.2.1.length:Int)) then
       some (5,[])
     else
       bif decide ((20:Int) < n_0.1) then
         some (5,[])
       else
         ckB (mkOk n_0.1 n_0.1 24) <|
         bnd (q13o ((List.replicate (Int.toNat n_0.1) ([]:qL1)).length:Int) n_0.1 n_0.2.1 n_0.2.2.1 n_0.2.2.2.1 (0,(List.replicate (Int.toNat n_0.1) ([]:qL1)))) fun oe6 =>
         lk oe6 (fun e6 =>
           some (0,e6)) (fun r=>some r)
def qt9 (n_0:Int):Option Bool :=
 bif decide (n_0 < (-1048576)) then
   some true
 else
   some (decide ((1048576:Int) < n_0))
def q95 {R:Type} (s_0:qL1) (v_7:Int) (v_8:Int) (nx:Int→Option R) (dn:Unit→Option R) (rt:Int→Option R):Option R :=
 bif decide (v_8 < v_7) then
   ckB (ix v_8 s_0.length) <|
   ckB (ix v_8 s_0.length) <|
   bnd (qt9 (s_0.getD (Int.toNat v_8) 0)) fun r1 =>
   bif r1 then
     rt v_8
   else
     ckB (inR .i64 (v_8+1)) <|
     nx (v_8+1)
 else
   dn ()
def qol (s_0:qL1) (v_7:Int) (s0:Int):Option (Unit⊕Int) :=
 loopM (fun a=>q95 s_0 v_7 a (fun a'=>some (.next a')) (fun e=>some (.done e)) (fun r=>some (.ret r))) s0
def qmv:Shp:=⟨[(0,.d false qT1),(1,.fn 95 .nil),(7,.d true qT0),(8,.d true qT0)],[]⟩
def qng:Shp:=⟨[],[]⟩
def qd4 (s_0:qL1):Option Int :=
 bnd (qol s_0 (s_0.length:Int) 0) fun oe2 =>
 lk oe2 (fun e2 =>
   some (-1)) (fun r=>some r)
def q97 (s_0:qL1):Option Bool :=
 bnd (qd4 s_0) fun r1 =>
 some (decide ((0:Int)≤r1))
def qxm (l_0:qL1):Option Bool :=
 bnd (q97 l_0) fun r1 =>
 some (!r1)
def qy8 (row_0:qL1) (p_1:qL2):Option Bool :=
 ckB (ix 0 1) <|
 ckB (ix 0 p_1.length) <|
 ckB (ix 0 p_1.length) <|
 bif (!decide ((row_0.length:Int)=((p_1.getD 0 []).length:Int))) then
   some true
 else
   bnd (qxm row_0) fun r1 =>
   some (!r1)
def q92 {R:Type} (s_0:qL2) (f_1c0:qL2) (v_7:Int) (v_8:Int) (nx:Int→Option R) (dn:Unit→Option R) (rt:Int→Option R):Option R :=
 bif decide (v_8 < v_7) then
   ckB (ix v_8 s_0.length) <|
   ckB (ix v_8 s_0.length) <|
   bnd (qy8 (s_0.getD (Int.toNat v_8) []) f_1c0) fun r1 =>
   bif r1 then
     rt v_8
   else
     ckB (inR .i64 (v_8+1)) <|
     nx (v_8+1)
 else
   dn ()
def qo9 (s_0:qL2) (f_1c0:qL2) (v_7:Int) (s0:Int):Option (Unit⊕Int) :=
 loopM (fun a=>q92 s_0 f_1c0 v_7 a (fun a'=>some (.next a')) (fun e=>some (.done e)) (fun r=>some (.ret r))) s0
def qmu:Shp:=⟨[(0,.d false qT2),(1,.fn 78 (.cons (.rp false qT2) .nil)),(7,.d true qT0),(8,.d true qT0)],[]⟩
def qo2:Shp:=⟨[],[]⟩
def qcv (s_0:qL2) (f_1c0:qL2):Option Int :=
 bnd (qo9 s_0 f_1c0 (s_0.length:Int) 0) fun oe2 =>
 lk oe2 (fun e2 =>
   some (-1)) (fun r=>some r)
def q94 (s_0:qL2) (f_1c0:qL2):Option Bool :=
 bnd (qcv s_0 f_1c0) fun r1 =>
 some (decide ((0:Int)≤r1))
def q11p (m_0:qL2):Option Bool :=
 bif decide ((m_0.length:Int) < 1) then
   some false
 else
   bif decide ((20:Int) < (m_0.length:Int)) then
     some false
   else
     ckB (ix 0 m_0.length) <|
     ckB (ix 0 m_0.length) <|
     bif decide (((m_0.getD 0 []).length:Int) < 1) then
       some false
     else
       ckB (ix 0 m_0.length) <|
       ckB (ix 0 m_0.length) <|
       bif decide ((20:Int) < ((m_0.getD 0 []).length:Int)) then
         some false
       else
         bnd (q94 m_0 m_0) fun r1 =>
         some (!r1)
def q17o (n_0:Int):Option Int :=
 ckB (inR .i64 (0 - n_0)) <|
 some (max n_0 (0 - n_0))
def qvh {R:Type} (product_3:Int) (v_9:qL2) (v_10:Int) (v_11:Int) (v_15:qL1) (v_16:Int) (sum_6:Int) (v_17:Int) (nx:(Int×Int)→Option R) (dn:Int→Option R) (rt:Bool→Option R):Option R :=
 bif decide (v_17 < v_16) then
   ckB (ix v_17 v_15.length) <|
   ckB (ix v_17 v_15.length) <|
   bnd (q17o (v_15.getD (Int.toNat v_17) 0)) fun r1 =>
   ckB (inR .i64 (sum_6+r1)) <|
   ckB (inR .i64 (v_17+1)) <|
   nx ((sum_6+r1),(v_17+1))
 else
   dn sum_6
def q18w (product_3:Int) (v_9:qL2) (v_10:Int) (v_11:Int) (v_15:qL1) (v_16:Int) (s0:(Int×Int)):Option (Int⊕Bool) :=
 loopM (fun a=>qvh product_3 v_9 v_10 v_11 v_15 v_16 a.1 a.2 (fun a'=>some (.next a')) (fun e=>some (.done e)) (fun r=>some (.ret r))) s0
def q18h:Shp:=⟨[(3,.d true qT0),(6,.d true qT0),(9,.d false qT2),(10,.d true qT0),(11,.d true qT0),(15,.d false qT1),(16,.d true qT0),(17,.d true qT0)],[]⟩
def q16l:Shp:=⟨[(3,.d true qT0),(6,.d true qT0),(9,.d false qT2),(10,.d true qT0),(11,.d true qT0)],[]⟩
def qv9 {R:Type} (v_9:qL2) (v_10:Int) (product_3:Int) (v_11:Int) (nx:(Int×Int)→Option R) (dn:Unit→Option R) (rt:Bool→Option R):Option R :=
 bif decide (v_11 < v_10) then
   ckB (ix v_11 v_9.length) <|
   ckB (ix v_11 v_9.length) <|
   bnd (q18w product_3 v_9 v_10 v_11 (v_9.getD (Int.toNat v_11) []) ((v_9.getD (Int.toNat v_11) []).length:Int) (0,0)) fun oe2 =>
   lk oe2 (fun e2 =>
     ckB (inR .i64 (product_3*(max e2 1))) <|
     bif decide ((1073741824:Int) < (product_3*(max e2 1))) then
       rt false
     else
       ckB (inR .i64 (v_11+1)) <|
       nx ((product_3*(max e2 1)),(v_11+1))) (fun r=>rt r)
 else
   dn ()
def q18z (v_9:qL2) (v_10:Int) (s0:(Int×Int)):Option (Unit⊕Bool) :=
 loopM (fun a=>qv9 v_9 v_10 a.1 a.2 (fun a'=>some (.next a')) (fun e=>some (.done e)) (fun r=>some (.ret r))) s0
def q182:Shp:=⟨[(3,.d true qT0),(9,.d false qT2),(10,.d true qT0),(11,.d true qT0)],[]⟩
def q16r:Shp:=⟨[],[]⟩
def q11t (m_0:qL2):Option Bool :=
 bnd (q18z m_0 (m_0.length:Int) (1,0)) fun oe3 =>
 lk oe3 (fun e3 =>
   some true) (fun r=>some r)
def qfi {R:Type} (top_1:Int) (c_2:Int) (pivot_6:Nat) (p_7:Int) (row_9:Nat) (f_10:Int) (v_27:Int) (v_28:Int) (v_41:Int) (r_02:Int) (r_03:Int) (r_01:qL1) (v_42:Int) (v_26:qL2) (nx:(Int×qL2)→Option R) (dn:qL2→Option R) (rt:(Int×Int×qL2×qL1)→Option R):Option R :=
 bif decide (v_42 < v_41) then
   ckB (ix v_42 (v_26.getD row_9 []).length) <|
   ckB (ix v_42 (v_26.getD row_9 []).length) <|
   ckB (ix v_42 (v_26.getD pivot_6 []).length) <|
   ckB (ix v_42 (v_26.getD pivot_6 []).length) <|
   ckB (!decide (r_02=0)) <|
   ckB (ix v_42 (v_26.getD row_9 []).length) <|
   ckB (ix v_42 (v_26.getD row_9 []).length) <|
   nx ((IntKind.wrap .i64 (v_42+1)),(v_26.set row_9 ((v_26.getD row_9 []).set (Int.toNat v_42) (IntKind.wrap .i64 (Int.tdiv (IntKind.wrap .i64 ((IntKind.wrap .i64 (p_7*((v_26.getD row_9 []).getD (Int.toNat v_42) 0))) - (IntKind.wrap .i64 (f_10*((v_26.getD pivot_6 []).getD (Int.toNat v_42) 0))))) r_02)))))
 else
   dn v_26
def qua (top_1:Int) (c_2:Int) (pivot_6:Nat) (p_7:Int) (row_9:Nat) (f_10:Int) (v_27:Int) (v_28:Int) (v_41:Int) (r_02:Int) (r_03:Int) (r_01:qL1) (s0:(Int×qL2)):Option (qL2⊕(Int×Int×qL2×qL1)) :=
 loopM (fun a=>qfi top_1 c_2 pivot_6 p_7 row_9 f_10 v_27 v_28 v_41 r_02 r_03 r_01 a.1 a.2 (fun a'=>some (.next a')) (fun e=>some (.done e)) (fun r=>some (.ret r))) s0
def qtb:Shp:=⟨[(0,.ptr 0),(1,.d true qT0),(2,.d true qT0),(6,.kid 1 0),(7,.d true qT0),(9,.kid 1 0),(10,.d true qT0),(26,.own 1),(27,.d true qT0),(28,.d true qT0),(41,.d true qT0),(42,.d true qT0)],[.cs 89 4 1 (.cons (.own 1) (.cons (.own 2) (.cons (.d true qT0) (.cons (.d true qT0) .nil)))),.arr 33 .own [3] qT1,.arr 3 (.fz true) [0] qT0]⟩
def qu4:Shp:=⟨[(0,.ptr 0),(1,.d true qT0),(2,.d true qT0),(6,.kid 1 0),(7,.d true qT0),(26,.own 1),(27,.d true qT0),(28,.d true qT0)],[.cs 89 4 1 (.cons (.own 1) (.cons (.own 2) (.cons (.d true qT0) (.cons (.d true qT0) .nil)))),.arr 33 .own [3] qT1,.arr 3 (.fz true) [0] qT0]⟩
def qfy {R:Type} (top_1:Int) (c_2:Int) (pivot_6:Nat) (p_7:Int) (v_27:Int) (r_02:Int) (r_03:Int) (r_01:qL1) (v_28:Int) (v_26:qL2) (nx:(Int×qL2)→Option R) (dn:qL2→Option R) (rt:(Int×Int×qL2×qL1)→Option R):Option R :=
 bif decide (v_28 < v_27) then
   ckB (ix v_28 v_26.length) <|
   ckB (ix v_28 v_26.length) <|
   bif decide (v_28=top_1) then
     nx ((IntKind.wrap .i64 (v_28+1)),v_26)
   else
     ckB (ix c_2 (v_26.getD (Int.toNat v_28) []).length) <|
     ckB (ix c_2 (v_26.getD (Int.toNat v_28) []).length) <|
     bnd (qua top_1 c_2 pivot_6 p_7 (Int.toNat v_28) ((v_26.getD (Int.toNat v_28) []).getD (Int.toNat c_2) 0) v_27 v_28 ((v_26.getD (Int.toNat v_28) []).length:Int) r_02 r_03 r_01 (0,v_26)) fun oe1 =>
     lk oe1 (fun e1 =>
       nx ((IntKind.wrap .i64 (v_28+1)),e1)) (fun r=>rt r)
 else
   dn v_26
def qud (top_1:Int) (c_2:Int) (pivot_6:Nat) (p_7:Int) (v_27:Int) (r_02:Int) (r_03:Int) (r_01:qL1) (s0:(Int×qL2)):Option (qL2⊕(Int×Int×qL2×qL1)) :=
 loopM (fun a=>qfy top_1 c_2 pivot_6 p_7 v_27 r_02 r_03 r_01 a.1 a.2 (fun a'=>some (.next a')) (fun e=>some (.done e)) (fun r=>some (.ret r))) s0
def qu1:Shp:=⟨[(0,.ptr 0),(1,.d true qT0),(2,.d true qT0),(6,.kid 1 0),(7,.d true qT0),(26,.own 1),(27,.d true qT0),(28,.d true qT0)],[.cs 89 4 1 (.cons (.own 1) (.cons (.own 2) (.cons (.d true qT0) (.cons (.d true qT0) .nil)))),.arr 33 .own [3] qT1,.arr 3 (.fz true) [0] qT0]⟩
def qsx:Shp:=⟨[(0,.ptr 0),(7,.d true qT0)],[.cs 89 4 1 (.cons (.own 1) (.cons (.own 2) (.cons (.d true qT0) (.cons (.d true qT0) .nil)))),.arr 33 .own [3] qT1,.arr 3 (.fz true) [0] qT0]⟩
def qc2 (top_1:Int) (c_2:Int) (r_02:Int) (r_03:Int) (r_00:qL2) (r_01:qL1):Option (Int×Int×qL2×qL1) :=
 ckB (ix top_1 r_00.length) <|
 ckB (ix top_1 r_00.length) <|
 ckB (ix c_2 (r_00.getD (Int.toNat top_1) []).length) <|
 ckB (ix c_2 (r_00.getD (Int.toNat top_1) []).length) <|
 bnd (qud top_1 c_2 (Int.toNat top_1) ((r_00.getD (Int.toNat top_1) []).getD (Int.toNat c_2) 0) (r_00.length:Int) r_02 r_03 r_01 (0,r_00)) fun oe2 =>
 lk oe2 (fun e2 =>
   some (((r_00.getD (Int.toNat top_1) []).getD (Int.toNat c_2) 0),r_03,e2,r_01)) (fun r=>some r)
def qts {R:Type} (columns_1:Int) (v_12:qL2) (v_13:Int) (v_40:qL2) (v_41:qL1) (v_42:Int) (v_43:Int) (r_52:Int) (r_53:Int) (r_51:qL1) (v_14:Int) (r_50:qL2) (nx:(Int×qL2)→Option R) (dn:qL2→Option R) (rt:q1d→Option R):Option R :=
 bif decide (v_14 < v_13) then
   ckB (ix v_14 v_12.length) <|
   ckB (ix v_14 v_12.length) <|
   bnd (q1k (v_12.getD (Int.toNat v_14) [])) fun r1 =>
   ckB (room (r_50.length+1) 24) <|
   nx ((IntKind.wrap .i64 (v_14+1)),(r_50++[r1]))
 else
   dn r_50
def q181 (columns_1:Int) (v_12:qL2) (v_13:Int) (v_40:qL2) (v_41:qL1) (v_42:Int) (v_43:Int) (r_52:Int) (r_53:Int) (r_51:qL1) (s0:(Int×qL2)):Option (qL2⊕q1d) :=
 loopM (fun a=>qts columns_1 v_12 v_13 v_40 v_41 v_42 v_43 r_52 r_53 r_51 a.1 a.2 (fun a'=>some (.next a')) (fun e=>some (.done e)) (fun r=>some (.ret r))) s0
def q15e:Shp:=⟨[(1,.d true qT0),(4,.ptr 0),(5,.ptr 1),(12,.d false qT2),(13,.d true qT0),(14,.d true qT0)],[.cs 89 4 1 (.cons (.d true qT2) (.cons (.d true qT1) (.cons (.d true qT0) (.cons (.d true qT0) .nil)))),.cs 89 4 1 (.cons (.own 2) (.cons (.own 3) (.cons (.d true qT0) (.cons (.d true qT0) .nil)))),.arr 33 .own [3] qT1,.arr 3 (.fz true) [0] qT0]⟩
def q14y:Shp:=⟨[(1,.d true qT0),(4,.ptr 0),(5,.ptr 1)],[.cs 89 4 1 (.cons (.d true qT2) (.cons (.d true qT1) (.cons (.d true qT0) (.cons (.d true qT0) .nil)))),.cs 89 4 1 (.cons (.own 2) (.cons (.own 3) (.cons (.d true qT0) (.cons (.d true qT0) .nil)))),.arr 33 .own [3] qT1,.arr 3 (.fz true) [0] qT0]⟩
def qtu {R:Type} (columns_1:Int) (c_8:Int) (top_9:Int) (v_40:qL2) (v_41:qL1) (v_42:Int) (v_43:Int) (r_52:Int) (r_53:Int) (r_50:qL2) (r_51:qL1) (k_10:Int) (nx:Int→Option R) (dn:Int→Option R) (rt:q1d→Option R):Option R :=
 bif decide (k_10 < (r_50.length:Int)) then
   ckB (ix k_10 r_50.length) <|
   ckB (ix k_10 r_50.length) <|
   ckB (ix c_8 (r_50.getD (Int.toNat k_10) []).length) <|
   ckB (ix c_8 (r_50.getD (Int.toNat k_10) []).length) <|
   bif decide (((r_50.getD (Int.toNat k_10) []).getD (Int.toNat c_8) 0)=0) then
     nx (IntKind.wrap .i64 (k_10+1))
   else
     dn k_10
 else
   dn k_10
def q16n (columns_1:Int) (c_8:Int) (top_9:Int) (v_40:qL2) (v_41:qL1) (v_42:Int) (v_43:Int) (r_52:Int) (r_53:Int) (r_50:qL2) (r_51:qL1) (s0:Int):Option (Int⊕q1d) :=
 loopM (fun a=>qtu columns_1 c_8 top_9 v_40 v_41 v_42 v_43 r_52 r_53 r_50 r_51 a (fun a'=>some (.next a')) (fun e=>some (.done e)) (fun r=>some (.ret r))) s0
def q15j:Shp:=⟨[(1,.d true qT0),(4,.ptr 0),(5,.ptr 1),(8,.d true qT0),(9,.d true qT0),(10,.d true qT0)],[.cs 89 4 1 (.cons (.d true qT2) (.cons (.d true qT1) (.cons (.d true qT0) (.cons (.d true qT0) .nil)))),.cs 89 4 1 (.cons (.own 2) (.cons (.own 3) (.cons (.d true qT0) (.cons (.d true qT0) .nil)))),.arr 33 .own [3] qT1,.arr 3 (.fz true) [0] qT0]⟩
def q15x:Shp:=⟨[(1,.d true qT0),(4,.ptr 0),(5,.ptr 1),(8,.d true qT0),(9,.d true qT0),(10,.d true qT0)],[.cs 89 4 1 (.cons (.d true qT2) (.cons (.d true qT1) (.cons (.d true qT0) (.cons (.d true qT0) .nil)))),.cs 89 4 1 (.cons (.own 2) (.cons (.own 3) (.cons (.d true qT0) (.cons (.d true qT0) .nil)))),.arr 33 .own [3] qT1,.arr 3 (.fz true) [0] qT0]⟩
def qtw {R:Type} (columns_1:Int) (v_40:qL2) (v_41:qL1) (v_42:Int) (v_43:Int) (c_8:Int) (r_52:Int) (r_53:Int) (r_50:qL2) (r_51:qL1) (nx:(Int×Int×Int×qL2×qL1)→Option R) (dn:(Int×Int×qL2×qL1)→Option R) (rt:q1d→Option R):Option R :=
 bif decide (c_8 < columns_1) then
   bif decide ((r_51.length:Int) < (r_50.length:Int)) then
     bnd (q16n columns_1 c_8 (r_51.length:Int) v_40 v_41 v_42 v_43 r_52 r_53 r_50 r_51 (r_51.length:Int)) fun oe3 =>
     lk oe3 (fun e3 =>
       bif decide (e3=(r_50.length:Int)) then
         nx ((IntKind.wrap .i64 (c_8+1)),r_52,r_53,r_50,r_51)
       else
         bif (!decide (e3=(r_51.length:Int))) then
           ckB (ix (r_51.length:Int) r_50.length) <|
           ckB (ix (r_51.length:Int) r_50.length) <|
           ckB (ix e3 r_50.length) <|
           ckB (ix e3 r_50.length) <|
           ckB (ix e3 r_50.length) <|
           ckB (ix (r_51.length:Int) r_50.length) <|
           ckB (ix e3 r_50.length) <|
           ckB (decide ((r_50.length:Nat)=r_50.length)) <|
           ckB (ix (r_51.length:Int) r_50.length) <|
           ckB (decide (((Int.toNat (r_51.length:Int)):Nat)=(Int.toNat (r_51.length:Int)))) <|
           ckB (decide (((Int.toNat e3):Nat)=(Int.toNat e3))) <|
           bnd (qc2 (r_51.length:Int) c_8 r_52 (IntKind.wrap .i64 (r_53+1)) ((r_50.set (Int.toNat e3) (r_50.getD (Int.toNat (r_51.length:Int)) [])).set (Int.toNat (r_51.length:Int)) (r_50.getD (Int.toNat e3) [])) r_51) fun r4 =>
           ckB (decide (r4.2.2.1.length=((r_50.set (Int.toNat e3) (r_50.getD (Int.toNat (r_51.length:Int)) [])).set (Int.toNat (r_51.length:Int)) (r_50.getD (Int.toNat e3) [])).length)) <|
           ckB (decide (r4.2.2.2.length=r_51.length)) <|
           ckB (room (r4.2.2.2.length+1) 8) <|
           nx ((IntKind.wrap .i64 (c_8+1)),r4.1,r4.2.1,r4.2.2.1,(r4.2.2.2++[c_8]))
         else
           bnd (qc2 (r_51.length:Int) c_8 r_52 r_53 r_50 r_51) fun r5 =>
           ckB (decide (r5.2.2.1.length=r_50.length)) <|
           ckB (decide (r5.2.2.2.length=r_51.length)) <|
           ckB (room (r5.2.2.2.length+1) 8) <|
           nx ((IntKind.wrap .i64 (c_8+1)),r5.1,r5.2.1,r5.2.2.1,(r5.2.2.2++[c_8]))) (fun r=>rt r)
   else
     dn (r_52,r_53,r_50,r_51)
 else
   dn (r_52,r_53,r_50,r_51)
def q17s (columns_1:Int) (v_40:qL2) (v_41:qL1) (v_42:Int) (v_43:Int) (s0:(Int×Int×Int×qL2×qL1)):Option ((Int×Int×qL2×qL1)⊕q1d) :=
 loopM (fun a=>qtw columns_1 v_40 v_41 v_42 v_43 a.1 a.2.1 a.2.2.1 a.2.2.2.1 a.2.2.2.2 (fun a'=>some (.next a')) (fun e=>some (.done e)) (fun r=>some (.ret r))) s0
def q16a:Shp:=⟨[(1,.d true qT0),(4,.ptr 0),(5,.ptr 1),(8,.d true qT0)],[.cs 89 4 1 (.cons (.d true qT2) (.cons (.d true qT1) (.cons (.d true qT0) (.cons (.d true qT0) .nil)))),.cs 89 4 1 (.cons (.own 2) (.cons (.own 3) (.cons (.d true qT0) (.cons (.d true qT0) .nil)))),.arr 33 .own [3] qT1,.arr 3 (.fz true) [0] qT0]⟩
def q15g:Shp:=⟨[(4,.ptr 0),(5,.ptr 1)],[.cs 89 4 1 (.cons (.d true qT2) (.cons (.d true qT1) (.cons (.d true qT0) (.cons (.d true qT0) .nil)))),.cs 89 4 1 (.cons (.own 2) (.cons (.own 3) (.cons (.d true qT0) (.cons (.d true qT0) .nil)))),.arr 33 .own [3] qT1,.arr 3 (.fz true) [0] qT0]⟩
def q10h (m_0:qL2) (columns_1:Int):Option q1d :=
 bnd (q181 columns_1 m_0 (m_0.length:Int) [] [] 0 0 1 0 [] (0,[])) fun oe2 =>
 lk oe2 (fun e2 =>
   bnd (q17s columns_1 [] [] 0 0 (0,1,0,e2,[])) fun oe6 =>
   lk oe6 (fun e6 =>
     some (e6.2.2.1,e6.2.2.2,e6.1,e6.2.1,())) (fun r=>some r)) (fun r=>some r)
def q147 (m_0:qL2):Option (Int×Int) :=
 bnd (q11p m_0) fun r1 =>
 bif (!r1) then
   some (0,1)
 else
   bnd (q11t m_0) fun r2 =>
   bif (!r2) then
     some (0,6)
   else
     ckB (ix 0 m_0.length) <|
     ckB (ix 0 m_0.length) <|
     bnd (q10h m_0 ((m_0.getD 0 []).length:Int)) fun r3 =>
     some ((r3.2.1.length:Int),0)
def qo3 (row_0:qL1) (p_1:Int):Option Bool :=
 ckB (ix 0 1) <|
 bif decide (p_1 < (row_0.length:Int)) then
   ckB (ix 0 1) <|
   ckB (ix p_1 row_0.length) <|
   ckB (ix p_1 row_0.length) <|
   some (decide ((0:Int) < (row_0.getD (Int.toNat p_1) 0)))
 else
   some false
def q9b {R:Type} (s_0:qL2) (f_1c0:Int) (v_7:Int) (v_8:Int) (nx:Int→Option R) (dn:Unit→Option R) (rt:Int→Option R):Option R :=
 bif decide (v_8 < v_7) then
   ckB (ix v_8 s_0.length) <|
   ckB (ix v_8 s_0.length) <|
   bnd (qo3 (s_0.getD (Int.toNat v_8) []) f_1c0) fun r1 =>
   bif r1 then
     rt v_8
   else
     ckB (inR .i64 (v_8+1)) <|
     nx (v_8+1)
 else
   dn ()
def qos (s_0:qL2) (f_1c0:Int) (v_7:Int) (s0:Int):Option (Unit⊕Int) :=
 loopM (fun a=>q9b s_0 f_1c0 v_7 a (fun a'=>some (.next a')) (fun e=>some (.done e)) (fun r=>some (.ret r))) s0
def qnj:Shp:=⟨[(0,.d false qT2),(1,.fn 67 (.cons (.rp false qT0) .nil)),(7,.d true qT0),(8,.d true qT0)],[]⟩
def qnf:Shp:=⟨[],[]⟩
def qcs (s_0:qL2) (f_1c0:Int):Option Int :=
 bnd (qos s_0 f_1c0 (s_0.length:Int) 0) fun oe2 =>
 lk oe2 (fun e2 =>
   some (-1)) (fun r=>some r)
def q99 (s_0:qL2) (f_1c0:Int):Option Bool :=
 bnd (qcs s_0 f_1c0) fun r1 =>
 some (decide ((0:Int)≤r1))
def qle {R:Type} (rows_0:qL2) (v_6:Int) (v_7:Int) (nx:Int→Option R) (dn:Unit→Option R) (rt:Bool→Option R):Option R :=
 bif decide (v_7 < v_6) then
   bnd (q99 rows_0 v_7) fun r1 =>
   bif (!r1) then
     rt false
   else
     ckB (inR .i64 (v_7+1)) <|
     nx (v_7+1)
 else
   dn ()
def qz3 (rows_0:qL2) (v_6:Int) (s0:Int):Option (Unit⊕Bool) :=
 loopM (fun a=>qle rows_0 v_6 a (fun a'=>some (.next a')) (fun e=>some (.done e)) (fun r=>some (.ret r))) s0
def qxz:Shp:=⟨[(0,.d false qT2),(6,.d true qT0),(7,.d true qT0)],[]⟩
def qxb:Shp:=⟨[],[]⟩
def qft (rows_0:qL2) (n_1:Int):Option Bool :=
 bnd (qz3 rows_0 n_1 0) fun oe2 =>
 lk oe2 (fun e2 =>
   some true) (fun r=>some r)
def qhm (p_0:qL2) (p_1:Net):Option Bool :=
 ckB (ix 0 1) <|
 ckB (ix 0 1) <|
 bnd (qft p_0 p_1.1) fun r1 =>
 some r1
def qdh (f_0c0:qL2) (f_0c1:Net):Option Bool :=
 bnd (qhm f_0c0 f_0c1) fun r1 =>
 some (!r1)
def qhf (p_0:qL2) (p_1:Net):Option Bool :=
 ckB (ix 0 1) <|
 ckB (ix 0 1) <|
 bnd (qft p_0 (p_1.2.1.length:Int)) fun r1 =>
 some r1
def qdq (f_0c0:qL2) (f_0c1:Net):Option Bool :=
 bnd (qhf f_0c0 f_0c1) fun r1 =>
 some (!r1)
def qhp (p_0:Int) (p_1:Net):Option Bool :=
 ckB (ix 0 1) <|
 ckB (ix 0 1) <|
 bnd (q30 p_1) fun r1 =>
 ckB (inR .i64 ((r1.length:Int) - 1)) <|
 some (decide (p_0=((r1.length:Int) - 1)))
def qdm (f_0c0:Int) (f_0c1:Net):Option Bool :=
 bnd (qhp f_0c0 f_0c1) fun r1 =>
 some (!r1)
def q2h (s_00c0:qL2) (s_00c10:Int) (s_00c11:(List Trans)) (s_00c12:Int) (s_00c13:Int) (s_01c0:qL2) (s_02c0:Int):Option (Int×qL2×Int×(List Trans)×Int×Int×qL2×Int) :=
 ckB (ix 0 3) <|
 bnd (qdh s_00c0 (s_00c10,s_00c11,s_00c12,s_00c13,())) fun r1 =>
 bif r1 then
   some (0,s_00c0,s_00c10,s_00c11,s_00c12,s_00c13,s_01c0,s_02c0)
 else
   ckB (inR .i64 (1:Int)) <|
   ckB (ix 1 3) <|
   bnd (qdq s_01c0 (s_00c10,s_00c11,s_00c12,s_00c13,())) fun r2 =>
   bif r2 then
     some (1,s_00c0,s_00c10,s_00c11,s_00c12,s_00c13,s_01c0,s_02c0)
   else
     ckB (inR .i64 (2:Int)) <|
     ckB (ix 2 3) <|
     bnd (qdm s_02c0 (s_00c10,s_00c11,s_00c12,s_00c13,())) fun r3 =>
     bif r3 then
       some (2,s_00c0,s_00c10,s_00c11,s_00c12,s_00c13,s_01c0,s_02c0)
     else
       ckB (inR .i64 (3:Int)) <|
       some ((-1),s_00c0,s_00c10,s_00c11,s_00c12,s_00c13,s_01c0,s_02c0)
def q1v (s_00c0:qL2) (s_00c10:Int) (s_00c11:(List Trans)) (s_00c12:Int) (s_00c13:Int) (s_01c0:qL2) (s_02c0:Int):Option (Bool×qL2×Int×(List Trans)×Int×Int×qL2×Int) :=
 bnd (q2h s_00c0 s_00c10 s_00c11 s_00c12 s_00c13 s_01c0 s_02c0) fun r1 =>
 some (decide ((0:Int)≤r1.1),r1.2.1,r1.2.2.1,r1.2.2.2.1,r1.2.2.2.2.1,r1.2.2.2.2.2.1,r1.2.2.2.2.2.2.1,r1.2.2.2.2.2.2.2)
def ql8 (n_0:Net):Option (Bool×Int) :=
 bnd (q2i n_0) fun r1 =>
 bif (!r1) then
   some (false,1)
 else
   bnd (q2t n_0) fun r2 =>
   bif (!r2) then
     some (false,19)
   else
     bnd (qnt n_0) fun r3 =>
     bif (!r3) then
       some (false,0)
     else
       bnd (q14h n_0) fun r4 =>
       bif (!decide (r4.2=0)) then
         some (false,r4.2)
       else
         bnd (qt7 n_0) fun r5 =>
         bif (!decide (r5.2=0)) then
           some (false,r5.2)
         else
           bnd (qv5 n_0) fun r6 =>
           bif (!decide (r6.1=0)) then
             some (false,r6.1)
           else
             bnd (q147 r6.2) fun r7 =>
             bif (!decide (r7.2=0)) then
               some (false,r7.2)
             else
               bnd (q1v r4.1 n_0.1 n_0.2.1 n_0.2.2.1 n_0.2.2.2.1 r5.1 r7.1) fun r8 =>
               some ((!r8.1),0)
def qvy {R:Type} (v_6:qL1) (v_7:Int) (m_3:Int) (v_8:Int) (nx:(Int×Int)→Option R) (dn:Int→Option R) (rt:Int→Option R):Option R :=
 bif decide (v_8 < v_7) then
   ckB (ix v_8 v_6.length) <|
   ckB (ix v_8 v_6.length) <|
   ckB (decide (0≤(v_6.getD (Int.toNat v_8) 0))) <|
   ckB (inR .i64 (v_8+1)) <|
   nx ((bitI .or .u32 m_3 (shlI .u32 1 (v_6.getD (Int.toNat v_8) 0))),(v_8+1))
 else
   dn m_3
def q18n (v_6:qL1) (v_7:Int) (s0:(Int×Int)):Option (Int⊕Int) :=
 loopM (fun a=>qvy v_6 v_7 a.1 a.2 (fun a'=>some (.next a')) (fun e=>some (.done e)) (fun r=>some (.ret r))) s0
def q16v:Shp:=⟨[(3,.d true (.int .u32)),(6,.d false qT1),(7,.d true qT0),(8,.d true qT0)],[]⟩
def q179:Shp:=⟨[(3,.d true (.int .u32))],[]⟩
def qt2 (l_0:qL1):Option Int :=
 bnd (q18n l_0 (l_0.length:Int) (0,0)) fun oe1 =>
 lk oe1 (fun e1 =>
   some e1) (fun r=>some r)
def qrm {R:Type} (v_15:(List Trans)) (v_16:Int) (n_10:Int) (n_11:(List Trans)) (n_12:Int) (n_13:Int) (v_17:Int) (in_3:qL1) (out_4:qL1) (nx:(Int×qL1×qL1)→Option R) (dn:(qL1×qL1)→Option R) (rt:qL1→Option R):Option R :=
 bif decide (v_17 < v_16) then
   ckB (ix v_17 v_15.length) <|
   ckB (ix v_17 v_15.length) <|
   bnd (qt2 (v_15.getD (Int.toNat v_17) Trans.z).2.1) fun r1 =>
   bnd (qt2 (v_15.getD (Int.toNat v_17) Trans.z).2.2.1) fun r2 =>
   ckB (room (in_3.length+1) 4) <|
   ckB (room (out_4.length+1) 4) <|
   ckB (inR .i64 (v_17+1)) <|
   nx ((v_17+1),(in_3++[r1]),(out_4++[r2]))
 else
   dn (in_3,out_4)
def q15r (v_15:(List Trans)) (v_16:Int) (n_10:Int) (n_11:(List Trans)) (n_12:Int) (n_13:Int) (s0:(Int×qL1×qL1)):Option ((qL1×qL1)⊕qL1) :=
 loopM (fun a=>qrm v_15 v_16 n_10 n_11 n_12 n_13 a.1 a.2.1 a.2.2 (fun a'=>some (.next a')) (fun e=>some (.done e)) (fun r=>some (.ret r))) s0
def q139:Shp:=⟨[(1,.ptr 0),(3,.nl false (.own 1)),(4,.nl false (.own 2)),(15,.d false (.slice Trans.ty)),(16,.d true qT0),(17,.d true qT0)],[.cs 24 4 1 (.cons (.d true qT0) (.cons (.d false (.slice Trans.ty)) (.cons (.d true qT0) (.cons (.d true qT0) .nil)))),.arr 76 (.fz true) [0] (.int .u32),.arr 76 (.fz true) [0] (.int .u32)]⟩
def q13b:Shp:=⟨[(1,.ptr 0),(3,.nl false (.own 1)),(4,.nl false (.own 2))],[.cs 24 4 1 (.cons (.d true qT0) (.cons (.d false (.slice Trans.ty)) (.cons (.d true qT0) (.cons (.d true qT0) .nil)))),.arr 76 (.fz true) [0] (.int .u32),.arr 76 (.fz true) [0] (.int .u32)]⟩
def qrn {R:Type} (in_3:qL1) (out_4:qL1) (s_9:Int) (v_46:Int) (n_10:Int) (n_11:(List Trans)) (n_12:Int) (n_13:Int) (found_8:qL1) (v_47:Int) (siphon_7:(List Bool)) (nx:(Int×(List Bool))→Option R) (dn:(List Bool)→Option R) (rt:qL1→Option R):Option R :=
 bif decide (v_47 < v_46) then
   ckB (decide (0≤v_47)) <|
   bif (!decide ((bitI .and .u32 s_9 (shlI .u32 1 v_47))=0)) then
     ckB (ix (bitI .andNot .u32 s_9 (shlI .u32 1 v_47)) siphon_7.length) <|
     ckB (ix (bitI .andNot .u32 s_9 (shlI .u32 1 v_47)) siphon_7.length) <|
     bif (siphon_7.getD (Int.toNat (bitI .andNot .u32 s_9 (shlI .u32 1 v_47))) false) then
       ckB (ix s_9 siphon_7.length) <|
       ckB (ix s_9 siphon_7.length) <|
       ckB (inR .i64 (v_47+1)) <|
       nx ((v_47+1),(siphon_7.set (Int.toNat s_9) true))
     else
       ckB (inR .i64 (v_47+1)) <|
       nx ((v_47+1),siphon_7)
   else
     ckB (inR .i64 (v_47+1)) <|
     nx ((v_47+1),siphon_7)
 else
   dn siphon_7
def q16c (in_3:qL1) (out_4:qL1) (s_9:Int) (v_46:Int) (n_10:Int) (n_11:(List Trans)) (n_12:Int) (n_13:Int) (found_8:qL1) (s0:(Int×(List Bool))):Option ((List Bool)⊕qL1) :=
 loopM (fun a=>qrn in_3 out_4 s_9 v_46 n_10 n_11 n_12 n_13 found_8 a.1 a.2 (fun a'=>some (.next a')) (fun e=>some (.done e)) (fun r=>some (.ret r))) s0
def q13t:Shp:=⟨[(1,.ptr 0),(3,.nl false (.d true (.slice (.int .u32)))),(4,.nl false (.d true (.slice (.int .u32)))),(7,.own 1),(8,.nl false (.own 2)),(9,.d true (.int .u32)),(46,.d true qT0),(47,.d true qT0)],[.cs 24 4 1 (.cons (.d true qT0) (.cons (.d false (.slice Trans.ty)) (.cons (.d true qT0) (.cons (.d true qT0) .nil)))),.arr 4 (.fz true) [0] .bool,.arr 76 (.fz true) [0] (.int .u32)]⟩
def q13d:Shp:=⟨[(1,.ptr 0),(3,.nl false (.d true (.slice (.int .u32)))),(4,.nl false (.d true (.slice (.int .u32)))),(7,.own 1),(8,.nl false (.own 2)),(9,.d true (.int .u32))],[.cs 24 4 1 (.cons (.d true qT0) (.cons (.d false (.slice Trans.ty)) (.cons (.d true qT0) (.cons (.d true qT0) .nil)))),.arr 4 (.fz true) [0] .bool,.arr 76 (.fz true) [0] (.int .u32)]⟩
def qrs {R:Type} (in_3:qL1) (out_4:qL1) (s_9:Int) (v_73:Int) (n_10:Int) (n_11:(List Trans)) (n_12:Int) (n_13:Int) (siphon_7:(List Bool)) (found_8:qL1) (ok_12:Bool) (v_74:Int) (nx:(Bool×Int)→Option R) (dn:Bool→Option R) (rt:qL1→Option R):Option R :=
 bif decide (v_74 < v_73) then
   bif ok_12 then
     ckB (ix v_74 out_4.length) <|
     ckB (ix v_74 out_4.length) <|
     bif decide ((bitI .and .u32 (out_4.getD (Int.toNat v_74) 0) s_9)=0) then
       ckB (inR .i64 (v_74+1)) <|
       nx (true,(v_74+1))
     else
       ckB (ix v_74 in_3.length) <|
       ckB (ix v_74 in_3.length) <|
       ckB (inR .i64 (v_74+1)) <|
       nx ((!decide ((bitI .and .u32 (in_3.getD (Int.toNat v_74) 0) s_9)=0)),(v_74+1))
   else
     ckB (inR .i64 (v_74+1)) <|
     nx (false,(v_74+1))
 else
   dn ok_12
def q152 (in_3:qL1) (out_4:qL1) (s_9:Int) (v_73:Int) (n_10:Int) (n_11:(List Trans)) (n_12:Int) (n_13:Int) (siphon_7:(List Bool)) (found_8:qL1) (s0:(Bool×Int)):Option (Bool⊕qL1) :=
 loopM (fun a=>qrs in_3 out_4 s_9 v_73 n_10 n_11 n_12 n_13 siphon_7 found_8 a.1 a.2 (fun a'=>some (.next a')) (fun e=>some (.done e)) (fun r=>some (.ret r))) s0
def q12r:Shp:=⟨[(1,.ptr 0),(3,.nl false (.d true (.slice (.int .u32)))),(4,.nl false (.d true (.slice (.int .u32)))),(7,.own 1),(8,.nl false (.own 2)),(9,.d true (.int .u32)),(12,.d true .bool),(73,.d true qT0),(74,.d true qT0)],[.cs 24 4 1 (.cons (.d true qT0) (.cons (.d false (.slice Trans.ty)) (.cons (.d true qT0) (.cons (.d true qT0) .nil)))),.arr 4 (.fz true) [0] .bool,.arr 76 (.fz true) [0] (.int .u32)]⟩
def q13j:Shp:=⟨[(1,.ptr 0),(3,.nl false (.d true (.slice (.int .u32)))),(4,.nl false (.d true (.slice (.int .u32)))),(7,.own 1),(8,.nl false (.own 2)),(9,.d true (.int .u32)),(12,.d true .bool)],[.cs 24 4 1 (.cons (.d true qT0) (.cons (.d false (.slice Trans.ty)) (.cons (.d true qT0) (.cons (.d true qT0) .nil)))),.arr 4 (.fz true) [0] .bool,.arr 76 (.fz true) [0] (.int .u32)]⟩
def qrg {R:Type} (in_3:qL1) (out_4:qL1) (n_10:Int) (n_11:(List Trans)) (n_12:Int) (n_13:Int) (s_9:Int) (siphon_7:(List Bool)) (found_8:qL1) (nx:(Int×(List Bool)×qL1)→Option R) (dn:qL1→Option R) (rt:qL1→Option R):Option R :=
 ckB (decide (0≤n_10)) <|
 bif decide (s_9 < (shlI .u32 1 n_10)) then
   bnd (q16c in_3 out_4 s_9 n_10 n_10 n_11 n_12 n_13 found_8 (0,siphon_7)) fun oe4 =>
   lk oe4 (fun e4 =>
     ckB (ix s_9 e4.length) <|
     ckB (ix s_9 e4.length) <|
     bif (e4.getD (Int.toNat s_9) false) then
       nx ((IntKind.wrap .u32 (s_9+1)),e4,found_8)
     else
       bnd (q152 in_3 out_4 s_9 (in_3.length:Int) n_10 n_11 n_12 n_13 e4 found_8 (true,0)) fun oe5 =>
       lk oe5 (fun e5 =>
         bif e5 then
           ckB (ix s_9 e4.length) <|
           ckB (ix s_9 e4.length) <|
           ckB (room (found_8.length+1) 4) <|
           nx ((IntKind.wrap .u32 (s_9+1)),(e4.set (Int.toNat s_9) true),(found_8++[s_9]))
         else
           nx ((IntKind.wrap .u32 (s_9+1)),e4,found_8)) (fun r=>rt r)) (fun r=>rt r)
 else
   dn found_8
def q154 (in_3:qL1) (out_4:qL1) (n_10:Int) (n_11:(List Trans)) (n_12:Int) (n_13:Int) (s0:(Int×(List Bool)×qL1)):Option (qL1⊕qL1) :=
 loopM (fun a=>qrg in_3 out_4 n_10 n_11 n_12 n_13 a.1 a.2.1 a.2.2 (fun a'=>some (.next a')) (fun e=>some (.done e)) (fun r=>some (.ret r))) s0
def q134:Shp:=⟨[(1,.ptr 0),(3,.nl false (.d true (.slice (.int .u32)))),(4,.nl false (.d true (.slice (.int .u32)))),(7,.own 1),(8,.nl false (.own 2)),(9,.d true (.int .u32))],[.cs 24 4 1 (.cons (.d true qT0) (.cons (.d false (.slice Trans.ty)) (.cons (.d true qT0) (.cons (.d true qT0) .nil)))),.arr 4 (.fz true) [0] .bool,.arr 76 (.fz true) [0] (.int .u32)]⟩
def q135:Shp:=⟨[(8,.nl false (.own 0))],[.arr 76 (.fz true) [0] (.int .u32)]⟩
def qxe (n_0:Net):Option qL1 :=
 bnd (q15r n_0.2.1 (n_0.2.1.length:Int) n_0.1 n_0.2.1 n_0.2.2.1 n_0.2.2.2.1 (0,[],[])) fun oe3 =>
 lk oe3 (fun e3 =>
   ckB (decide (0≤n_0.1)) <|
   ckB (mkOk (shlI .i64 1 n_0.1) (shlI .i64 1 n_0.1) 1) <|
   bnd (q154 e3.1 e3.2 n_0.1 n_0.2.1 n_0.2.2.1 n_0.2.2.2.1 (1,(List.replicate (Int.toNat (shlI .i64 1 n_0.1)) (false:Bool)),[])) fun oe6 =>
   lk oe6 (fun e6 =>
     some e6) (fun r=>some r)) (fun r=>some r)
def qk (a_0:qL1) (b_1:qL1):Option Int :=
 bnd (qa a_0 b_1) fun r1 =>
 some r1
def q51 {R:Type} (a_1:Int) (b_2:Int) (i_8:Int) (j_9:Int) (data_0:qL2) (nx:(Int×qL2)→Option R) (dn:qL2→Option R) (rt:qL2→Option R):Option R :=
 bif decide (a_1 < j_9) then
   ckB (ix j_9 data_0.length) <|
   ckB (ix j_9 data_0.length) <|
   ckB (inR .i64 (j_9 - 1)) <|
   ckB (ix (j_9 - 1) data_0.length) <|
   ckB (ix (j_9 - 1) data_0.length) <|
   bnd (qk (data_0.getD (Int.toNat j_9) []) (data_0.getD (Int.toNat (j_9 - 1)) [])) fun r1 =>
   bif decide (r1 < 0) then
     ckB (inR .i64 (j_9 - 1)) <|
     ckB (inR .i64 (j_9 - 1)) <|
     ckB (ix (j_9 - 1) data_0.length) <|
     ckB (ix (j_9 - 1) data_0.length) <|
     ckB (ix j_9 data_0.length) <|
     ckB (ix j_9 data_0.length) <|
     ckB (ix j_9 data_0.length) <|
     ckB (ix (j_9 - 1) data_0.length) <|
     ckB (ix j_9 data_0.length) <|
     ckB (decide ((data_0.length:Nat)=(data_0.set (Int.toNat j_9) (data_0.getD (Int.toNat (j_9 - 1)) [])).length)) <|
     ckB (ix (j_9 - 1) (data_0.set (Int.toNat j_9) (data_0.getD (Int.toNat (j_9 - 1)) [])).length) <|
     ckB (inR .i64 (j_9 - 1)) <|
     nx ((j_9 - 1),((data_0.set (Int.toNat j_9) (data_0.getD (Int.toNat (j_9 - 1)) [])).set (Int.toNat (j_9 - 1)) (data_0.getD (Int.toNat j_9) [])))
   else
     dn data_0
 else
   dn data_0
def qfw (a_1:Int) (b_2:Int) (i_8:Int) (s0:(Int×qL2)):Option (qL2⊕qL2) :=
 loopM (fun a=>q51 a_1 b_2 i_8 a.1 a.2 (fun a'=>some (.next a')) (fun e=>some (.done e)) (fun r=>some (.ret r))) s0
def qex:Shp:=⟨[(0,.own 0),(1,.d true qT0),(2,.d true qT0),(3,.fn 53 .nil),(8,.d true qT0),(9,.d true qT0)],[.arr 33 (.fz true) [3] qT1]⟩
def qep:Shp:=⟨[(0,.own 0),(1,.d true qT0),(2,.d true qT0),(3,.fn 53 .nil),(8,.d true qT0)],[.arr 33 (.fz true) [3] qT1]⟩
def q53 {R:Type} (a_1:Int) (b_2:Int) (i_8:Int) (data_0:qL2) (nx:(Int×qL2)→Option R) (dn:qL2→Option R) (rt:qL2→Option R):Option R :=
 bif decide (i_8 < b_2) then
   bnd (qfw a_1 b_2 i_8 (i_8,data_0)) fun oe2 =>
   lk oe2 (fun e2 =>
     ckB (inR .i64 (i_8+1)) <|
     nx ((i_8+1),e2)) (fun r=>rt r)
 else
   dn data_0
def qgl (a_1:Int) (b_2:Int) (s0:(Int×qL2)):Option (qL2⊕qL2) :=
 loopM (fun a=>q53 a_1 b_2 a.1 a.2 (fun a'=>some (.next a')) (fun e=>some (.done e)) (fun r=>some (.ret r))) s0
def qf3:Shp:=⟨[(0,.own 0),(1,.d true qT0),(2,.d true qT0),(3,.fn 53 .nil),(8,.d true qT0)],[.arr 33 (.fz true) [3] qT1]⟩
def qel:Shp:=⟨[],[.arr 33 (.fz true) [3] qT1]⟩
def q6p (a_1:Int) (b_2:Int) (data_0:qL2):Option qL2 :=
 ckB (inR .i64 (a_1+1)) <|
 bnd (qgl a_1 b_2 ((a_1+1),data_0)) fun oe3 =>
 lk oe3 (fun e3 =>
   some e3) (fun r=>some r)
def q7j {R:Type} (hi_2:Int) (first_3:Int) (root_10:Int) (child_11:Int) (data_0:qL2) (dn:qL2→Option R) (rt:qL2→Option R):Option R :=
 ckB (inR .i64 (first_3+root_10)) <|
 ckB (ix (first_3+root_10) data_0.length) <|
 ckB (ix (first_3+root_10) data_0.length) <|
 ckB (inR .i64 (first_3+child_11)) <|
 ckB (ix (first_3+child_11) data_0.length) <|
 ckB (ix (first_3+child_11) data_0.length) <|
 bnd (qk (data_0.getD (Int.toNat (first_3+root_10)) []) (data_0.getD (Int.toNat (first_3+child_11)) [])) fun r2 =>
 bif (!(decide (r2 < 0))) then
   rt data_0
 else
   ckB (inR .i64 (first_3+root_10)) <|
   ckB (inR .i64 (first_3+child_11)) <|
   ckB (inR .i64 (first_3+child_11)) <|
   ckB (ix (first_3+child_11) data_0.length) <|
   ckB (ix (first_3+child_11) data_0.length) <|
   ckB (inR .i64 (first_3+root_10)) <|
   ckB (ix (first_3+root_10) data_0.length) <|
   ckB (ix (first_3+root_10) data_0.length) <|
   ckB (ix (first_3+root_10) data_0.length) <|
   ckB (ix (first_3+child_11) data_0.length) <|
   ckB (ix (first_3+root_10) data_0.length) <|
   ckB (decide ((data_0.length:Nat)=(data_0.set (Int.toNat (first_3+root_10)) (data_0.getD (Int.toNat (first_3+child_11)) [])).length)) <|
   ckB (ix (first_3+child_11) (data_0.set (Int.toNat (first_3+root_10)) (data_0.getD (Int.toNat (first_3+child_11)) [])).length) <|
   dn ((data_0.set (Int.toNat (first_3+root_10)) (data_0.getD (Int.toNat (first_3+child_11)) [])).set (Int.toNat (first_3+child_11)) (data_0.getD (Int.toNat (first_3+root_10)) []))
def q3v (hi_2:Int) (first_3:Int) (root_10:Int) (child_11:Int) (data_0:qL2):Option (qL2⊕qL2) :=
 q7j hi_2 first_3 root_10 child_11 data_0 (fun e=>some (.inl e)) (fun r=>some (.inr r))
def qk1:Shp:=⟨[(0,.own 0),(2,.d true qT0),(3,.d true qT0),(4,.fn 53 .nil),(10,.d true qT0),(11,.d true qT0)],[.arr 33 (.fz true) [3] qT1]⟩
def qjl:Shp:=⟨[(0,.own 0),(2,.d true qT0),(3,.d true qT0),(4,.fn 53 .nil),(10,.d true qT0)],[.arr 33 (.fz true) [3] qT1]⟩
def q7s {R:Type} (hi_2:Int) (first_3:Int) (root_10:Int) (data_0:qL2) (nx:(Int×qL2)→Option R) (dn:qL2→Option R) (rt:qL2→Option R):Option R :=
 ckB (inR .i64 ((2:Int)*root_10)) <|
 ckB (inR .i64 (((2:Int)*root_10)+1)) <|
 bif decide (hi_2≤(((2:Int)*root_10)+1)) then
   dn data_0
 else
   ckB (inR .i64 ((((2:Int)*root_10)+1)+1)) <|
   bif decide (((((2:Int)*root_10)+1)+1) < hi_2) then
     ckB (inR .i64 (first_3+(((2:Int)*root_10)+1))) <|
     ckB (ix (first_3+(((2:Int)*root_10)+1)) data_0.length) <|
     ckB (ix (first_3+(((2:Int)*root_10)+1)) data_0.length) <|
     ckB (inR .i64 (first_3+(((2:Int)*root_10)+1))) <|
     ckB (inR .i64 ((first_3+(((2:Int)*root_10)+1))+1)) <|
     ckB (ix ((first_3+(((2:Int)*root_10)+1))+1) data_0.length) <|
     ckB (ix ((first_3+(((2:Int)*root_10)+1))+1) data_0.length) <|
     bnd (qk (data_0.getD (Int.toNat (first_3+(((2:Int)*root_10)+1))) []) (data_0.getD (Int.toNat ((first_3+(((2:Int)*root_10)+1))+1)) [])) fun r1 =>
     bif decide (r1 < 0) then
       ckB (inR .i64 ((((2:Int)*root_10)+1)+1)) <|
       bnd (q3v hi_2 first_3 root_10 ((((2:Int)*root_10)+1)+1) data_0) fun oe3 =>
       lk oe3 (fun e3 =>
         nx (((((2:Int)*root_10)+1)+1),e3)) (fun r=>rt r)
     else
       bnd (q3v hi_2 first_3 root_10 (((2:Int)*root_10)+1) data_0) fun oe4 =>
       lk oe4 (fun e4 =>
         nx ((((2:Int)*root_10)+1),e4)) (fun r=>rt r)
   else
     bnd (q3v hi_2 first_3 root_10 (((2:Int)*root_10)+1) data_0) fun oe5 =>
     lk oe5 (fun e5 =>
       nx ((((2:Int)*root_10)+1),e5)) (fun r=>rt r)
def qlu (hi_2:Int) (first_3:Int) (s0:(Int×qL2)):Option (qL2⊕qL2) :=
 loopM (fun a=>q7s hi_2 first_3 a.1 a.2 (fun a'=>some (.next a')) (fun e=>some (.done e)) (fun r=>some (.ret r))) s0
def qjt:Shp:=⟨[(0,.own 0),(2,.d true qT0),(3,.d true qT0),(4,.fn 53 .nil),(10,.d true qT0)],[.arr 33 (.fz true) [3] qT1]⟩
def qjj:Shp:=⟨[],[.arr 33 (.fz true) [3] qT1]⟩
def q4m (lo_1:Int) (hi_2:Int) (first_3:Int) (data_0:qL2):Option qL2 :=
 bnd (qlu hi_2 first_3 (lo_1,data_0)) fun oe6 =>
 lk oe6 (fun e6 =>
   some e6) (fun r=>some r)
def q7r {R:Type} (first_8:Int) (lo_9:Int) (hi_10:Int) (i_11:Int) (data_0:qL2) (nx:(Int×qL2)→Option R) (dn:qL2→Option R) (rt:qL2→Option R):Option R :=
 bif decide ((0:Int)≤i_11) then
   bnd (q4m i_11 hi_10 first_8 data_0) fun r1 =>
   ckB (decide (r1.length=data_0.length)) <|
   ckB (inR .i64 (i_11 - 1)) <|
   nx ((i_11 - 1),r1)
 else
   dn data_0
def qmf (first_8:Int) (lo_9:Int) (hi_10:Int) (s0:(Int×qL2)):Option (qL2⊕qL2) :=
 loopM (fun a=>q7r first_8 lo_9 hi_10 a.1 a.2 (fun a'=>some (.next a')) (fun e=>some (.done e)) (fun r=>some (.ret r))) s0
def qkj:Shp:=⟨[(0,.own 0),(3,.fn 53 .nil),(8,.d true qT0),(9,.d true qT0),(10,.d true qT0),(11,.d true qT0)],[.arr 33 (.fz true) [3] qT1]⟩
def qkk:Shp:=⟨[(0,.own 0),(3,.fn 53 .nil),(8,.d true qT0),(9,.d true qT0),(10,.d true qT0)],[.arr 33 (.fz true) [3] qT1]⟩
def q7i {R:Type} (first_8:Int) (lo_9:Int) (i_12:Int) (data_0:qL2) (nx:(Int×qL2)→Option R) (dn:qL2→Option R) (rt:qL2→Option R):Option R :=
 bif decide ((0:Int)≤i_12) then
   ckB (inR .i64 (first_8+i_12)) <|
   ckB (inR .i64 (first_8+i_12)) <|
   ckB (ix (first_8+i_12) data_0.length) <|
   ckB (ix (first_8+i_12) data_0.length) <|
   ckB (ix first_8 data_0.length) <|
   ckB (ix first_8 data_0.length) <|
   ckB (ix first_8 data_0.length) <|
   ckB (ix (first_8+i_12) data_0.length) <|
   ckB (ix first_8 data_0.length) <|
   ckB (decide ((data_0.length:Nat)=(data_0.set (Int.toNat first_8) (data_0.getD (Int.toNat (first_8+i_12)) [])).length)) <|
   ckB (ix (first_8+i_12) (data_0.set (Int.toNat first_8) (data_0.getD (Int.toNat (first_8+i_12)) [])).length) <|
   bnd (q4m lo_9 i_12 first_8 ((data_0.set (Int.toNat first_8) (data_0.getD (Int.toNat (first_8+i_12)) [])).set (Int.toNat (first_8+i_12)) (data_0.getD (Int.toNat first_8) []))) fun r3 =>
   ckB (decide (r3.length=((data_0.set (Int.toNat first_8) (data_0.getD (Int.toNat (first_8+i_12)) [])).set (Int.toNat (first_8+i_12)) (data_0.getD (Int.toNat first_8) [])).length)) <|
   ckB (inR .i64 (i_12 - 1)) <|
   nx ((i_12 - 1),r3)
 else
   dn data_0
def qml (first_8:Int) (lo_9:Int) (s0:(Int×qL2)):Option (qL2⊕qL2) :=
 loopM (fun a=>q7i first_8 lo_9 a.1 a.2 (fun a'=>some (.next a')) (fun e=>some (.done e)) (fun r=>some (.ret r))) s0
def qkh:Shp:=⟨[(0,.own 0),(3,.fn 53 .nil),(8,.d true qT0),(9,.d true qT0),(12,.d true qT0)],[.arr 33 (.fz true) [3] qT1]⟩
def qk2:Shp:=⟨[],[.arr 33 (.fz true) [3] qT1]⟩
def qaq (a_1:Int) (b_2:Int) (data_0:qL2):Option qL2 :=
 ckB (inR .i64 (b_2 - a_1)) <|
 ckB (inR .i64 ((b_2 - a_1) - 1)) <|
 ckB (!decide ((2:Int)=0)) <|
 ckB (inR .i64 (Int.tdiv ((b_2 - a_1) - 1) 2)) <|
 bnd (qmf a_1 0 (b_2 - a_1) ((Int.tdiv ((b_2 - a_1) - 1) 2),data_0)) fun oe2 =>
 lk oe2 (fun e2 =>
   ckB (inR .i64 ((b_2 - a_1) - 1)) <|
   bnd (qml a_1 0 (((b_2 - a_1) - 1),e2)) fun oe4 =>
   lk oe4 (fun e4 =>
     some e4) (fun r=>some r)) (fun r=>some r)
def q55 {R:Type} (a_1:Int) (length_8:Int) (modulus_10:Int) (idx_11:Int) (data_0:qL2) (random_9:Int) (nx:(Int×qL2×Int)→Option R) (dn:qL2→Option R) (rt:qL2→Option R):Option R :=
 ckB (!decide ((4:Int)=0)) <|
 ckB (inR .i64 (Int.tdiv length_8 4)) <|
 ckB (inR .i64 ((Int.tdiv length_8 4)*2)) <|
 ckB (inR .i64 (a_1+((Int.tdiv length_8 4)*2))) <|
 ckB (inR .i64 ((a_1+((Int.tdiv length_8 4)*2))+1)) <|
 bif decide (idx_11≤((a_1+((Int.tdiv length_8 4)*2))+1)) then
   bnd (qda random_9) fun r2 =>
   ckB (inR .i64 (bitI .and .u64 r2.1 (IntKind.wrap .u64 (modulus_10 - 1)))) <|
   bif decide (length_8≤(bitI .and .u64 r2.1 (IntKind.wrap .u64 (modulus_10 - 1)))) then
     ckB (inR .i64 ((bitI .and .u64 r2.1 (IntKind.wrap .u64 (modulus_10 - 1))) - length_8)) <|
     ckB (inR .i64 (a_1+((bitI .and .u64 r2.1 (IntKind.wrap .u64 (modulus_10 - 1))) - length_8))) <|
     ckB (inR .i64 (a_1+((bitI .and .u64 r2.1 (IntKind.wrap .u64 (modulus_10 - 1))) - length_8))) <|
     ckB (ix (a_1+((bitI .and .u64 r2.1 (IntKind.wrap .u64 (modulus_10 - 1))) - length_8)) data_0.length) <|
     ckB (ix (a_1+((bitI .and .u64 r2.1 (IntKind.wrap .u64 (modulus_10 - 1))) - length_8)) data_0.length) <|
     ckB (ix idx_11 data_0.length) <|
     ckB (ix idx_11 data_0.length) <|
     ckB (ix idx_11 data_0.length) <|
     ckB (ix (a_1+((bitI .and .u64 r2.1 (IntKind.wrap .u64 (modulus_10 - 1))) - length_8)) data_0.length) <|
     ckB (ix idx_11 data_0.length) <|
     ckB (decide ((data_0.length:Nat)=(data_0.set (Int.toNat idx_11) (data_0.getD (Int.toNat (a_1+((bitI .and .u64 r2.1 (IntKind.wrap .u64 (modulus_10 - 1))) - length_8))) [])).length)) <|
     ckB (ix (a_1+((bitI .and .u64 r2.1 (IntKind.wrap .u64 (modulus_10 - 1))) - length_8)) (data_0.set (Int.toNat idx_11) (data_0.getD (Int.toNat (a_1+((bitI .and .u64 r2.1 (IntKind.wrap .u64 (modulus_10 - 1))) - length_8))) [])).length) <|
     ckB (inR .i64 (idx_11+1)) <|
     nx ((idx_11+1),((data_0.set (Int.toNat idx_11) (data_0.getD (Int.toNat (a_1+((bitI .and .u64 r2.1 (IntKind.wrap .u64 (modulus_10 - 1))) - length_8))) [])).set (Int.toNat (a_1+((bitI .and .u64 r2.1 (IntKind.wrap .u64 (modulus_10 - 1))) - length_8))) (data_0.getD (Int.toNat idx_11) [])),r2.2)
   else
     ckB (inR .i64 (a_1+(bitI .and .u64 r2.1 (IntKind.wrap .u64 (modulus_10 - 1))))) <|
     ckB (inR .i64 (a_1+(bitI .and .u64 r2.1 (IntKind.wrap .u64 (modulus_10 - 1))))) <|
     ckB (ix (a_1+(bitI .and .u64 r2.1 (IntKind.wrap .u64 (modulus_10 - 1)))) data_0.length) <|
     ckB (ix (a_1+(bitI .and .u64 r2.1 (IntKind.wrap .u64 (modulus_10 - 1)))) data_0.length) <|
     ckB (ix idx_11 data_0.length) <|
     ckB (ix idx_11 data_0.length) <|
     ckB (ix idx_11 data_0.length) <|
     ckB (ix (a_1+(bitI .and .u64 r2.1 (IntKind.wrap .u64 (modulus_10 - 1)))) data_0.length) <|
     ckB (ix idx_11 data_0.length) <|
     ckB (decide ((data_0.length:Nat)=(data_0.set (Int.toNat idx_11) (data_0.getD (Int.toNat (a_1+(bitI .and .u64 r2.1 (IntKind.wrap .u64 (modulus_10 - 1))))) [])).length)) <|
     ckB (ix (a_1+(bitI .and .u64 r2.1 (IntKind.wrap .u64 (modulus_10 - 1)))) (data_0.set (Int.toNat idx_11) (data_0.getD (Int.toNat (a_1+(bitI .and .u64 r2.1 (IntKind.wrap .u64 (modulus_10 - 1))))) [])).length) <|
     ckB (inR .i64 (idx_11+1)) <|
     nx ((idx_11+1),((data_0.set (Int.toNat idx_11) (data_0.getD (Int.toNat (a_1+(bitI .and .u64 r2.1 (IntKind.wrap .u64 (modulus_10 - 1))))) [])).set (Int.toNat (a_1+(bitI .and .u64 r2.1 (IntKind.wrap .u64 (modulus_10 - 1))))) (data_0.getD (Int.toNat idx_11) [])),r2.2)
 else
   dn data_0
def qg2 (a_1:Int) (length_8:Int) (modulus_10:Int) (s0:(Int×qL2×Int)):Option (qL2⊕qL2) :=
 loopM (fun a=>q55 a_1 length_8 modulus_10 a.1 a.2.1 a.2.2 (fun a'=>some (.next a')) (fun e=>some (.done e)) (fun r=>some (.ret r))) s0
def qfa:Shp:=⟨[(0,.own 0),(1,.d true qT0),(8,.d true qT0),(9,.ptr 1),(10,.d true (.int .u64)),(11,.d true qT0)],[.arr 33 (.fz true) [3] qT1,.cs 115 1 1 (.cons (.d true (.int .u64)) .nil)]⟩
def qem:Shp:=⟨[],[.arr 33 (.fz true) [3] qT1]⟩
def q6r (a_1:Int) (b_2:Int) (data_0:qL2):Option qL2 :=
 ckB (inR .i64 (b_2 - a_1)) <|
 bif decide ((8:Int)≤(b_2 - a_1)) then
   bnd (qbn (b_2 - a_1)) fun r1 =>
   ckB (!decide ((4:Int)=0)) <|
   ckB (inR .i64 (Int.tdiv (b_2 - a_1) 4)) <|
   ckB (inR .i64 ((Int.tdiv (b_2 - a_1) 4)*2)) <|
   ckB (inR .i64 (a_1+((Int.tdiv (b_2 - a_1) 4)*2))) <|
   ckB (inR .i64 ((a_1+((Int.tdiv (b_2 - a_1) 4)*2)) - 1)) <|
   bnd (qg2 a_1 (b_2 - a_1) r1 (((a_1+((Int.tdiv (b_2 - a_1) 4)*2)) - 1),data_0,(IntKind.wrap .u64 (b_2 - a_1)))) fun oe3 =>
   lk oe3 (fun e3 =>
     some e3) (fun r=>some r)
 else
   some data_0
def q2u (data_0:qL2) (a_1:Int) (b_2:Int) (swaps_3:Int):Option (Int×Int×Int) :=
 ckB (ix b_2 data_0.length) <|
 ckB (ix b_2 data_0.length) <|
 ckB (ix a_1 data_0.length) <|
 ckB (ix a_1 data_0.length) <|
 bnd (qk (data_0.getD (Int.toNat b_2) []) (data_0.getD (Int.toNat a_1) [])) fun r1 =>
 bif decide (r1 < 0) then
   ckB (inR .i64 (swaps_3+1)) <|
   some (b_2,a_1,(swaps_3+1))
 else
   some (a_1,b_2,swaps_3)
def q2y (data_0:qL2) (a_1:Int) (b_2:Int) (c_3:Int) (swaps_4:Int):Option (Int×Int) :=
 bnd (q2u data_0 a_1 b_2 swaps_4) fun r1 =>
 bnd (q2u data_0 r1.2.1 c_3 r1.2.2) fun r2 =>
 bnd (q2u data_0 r1.1 r2.1 r2.2.2) fun r3 =>
 some (r3.2.1,r3.2.2)
def q1m (data_0:qL2) (a_1:Int) (swaps_2:Int):Option (Int×Int) :=
 ckB (inR .i64 (a_1 - 1)) <|
 ckB (inR .i64 (a_1+1)) <|
 bnd (q2y data_0 (a_1 - 1) a_1 (a_1+1) swaps_2) fun r1 =>
 some (r1.1,r1.2)
def q67 {R:Type} (j_13:Int) (swaps_11:Int) (dn:Unit→Option R) (rt:(Int×Int)→Option R):Option R :=
 bif decide (swaps_11=0) then
   rt (j_13,1)
 else
   bif decide (swaps_11=12) then
     rt (j_13,2)
   else
     rt (j_13,0)
def q2r (j_13:Int) (swaps_11:Int):Option (Unit⊕(Int×Int)) :=
 q67 j_13 swaps_11 (fun e=>some (.inl e)) (fun r=>some (.inr r))
def qgv:Shp:=⟨[(11,.ptr 0),(13,.d true qT0)],[.cs 3 1 1 (.cons (.d true qT0) .nil)]⟩
def qh1:Shp:=⟨[],[]⟩
def q3o (data_0:qL2) (a_1:Int) (b_2:Int):Option (Int×Int) :=
 ckB (inR .i64 (b_2 - a_1)) <|
 ckB (!decide ((4:Int)=0)) <|
 ckB (inR .i64 (Int.tdiv (b_2 - a_1) 4)) <|
 ckB (inR .i64 ((Int.tdiv (b_2 - a_1) 4)*1)) <|
 ckB (inR .i64 (a_1+((Int.tdiv (b_2 - a_1) 4)*1))) <|
 ckB (!decide ((4:Int)=0)) <|
 ckB (inR .i64 (Int.tdiv (b_2 - a_1) 4)) <|
 ckB (inR .i64 ((Int.tdiv (b_2 - a_1) 4)*2)) <|
 ckB (inR .i64 (a_1+((Int.tdiv (b_2 - a_1) 4)*2))) <|
 ckB (!decide ((4:Int)=0)) <|
 ckB (inR .i64 (Int.tdiv (b_2 - a_1) 4)) <|
 ckB (inR .i64 ((Int.tdiv (b_2 - a_1) 4)*3)) <|
 ckB (inR .i64 (a_1+((Int.tdiv (b_2 - a_1) 4)*3))) <|
 bif decide ((8:Int)≤(b_2 - a_1)) then
   bif decide ((50:Int)≤(b_2 - a_1)) then
     bnd (q1m data_0 (a_1+((Int.tdiv (b_2 - a_1) 4)*1)) 0) fun r1 =>
     bnd (q1m data_0 (a_1+((Int.tdiv (b_2 - a_1) 4)*2)) r1.2) fun r2 =>
     bnd (q1m data_0 (a_1+((Int.tdiv (b_2 - a_1) 4)*3)) r2.2) fun r3 =>
     bnd (q2y data_0 r1.1 r2.1 r3.1 r3.2) fun r4 =>
     bnd (q2r r4.1 r4.2) fun oe5 =>
     lk oe5 (fun e5 =>
       none) (fun r=>some r)
   else
     bnd (q2y data_0 (a_1+((Int.tdiv (b_2 - a_1) 4)*1)) (a_1+((Int.tdiv (b_2 - a_1) 4)*2)) (a_1+((Int.tdiv (b_2 - a_1) 4)*3)) 0) fun r6 =>
     bnd (q2r r6.1 r6.2) fun oe7 =>
     lk oe7 (fun e7 =>
       none) (fun r=>some r)
 else
   bnd (q2r (a_1+((Int.tdiv (b_2 - a_1) 4)*2)) 0) fun oe8 =>
   lk oe8 (fun e8 =>
     none) (fun r=>some r)
def q5b {R:Type}  (i_8:Int) (j_9:Int) (data_0:qL2) (nx:(Int×Int×qL2)→Option R) (dn:qL2→Option R) (rt:qL2→Option R):Option R :=
 bif decide (i_8 < j_9) then
   ckB (ix j_9 data_0.length) <|
   ckB (ix j_9 data_0.length) <|
   ckB (ix i_8 data_0.length) <|
   ckB (ix i_8 data_0.length) <|
   ckB (ix i_8 data_0.length) <|
   ckB (ix j_9 data_0.length) <|
   ckB (ix i_8 data_0.length) <|
   ckB (decide ((data_0.length:Nat)=(data_0.set (Int.toNat i_8) (data_0.getD (Int.toNat j_9) [])).length)) <|
   ckB (ix j_9 (data_0.set (Int.toNat i_8) (data_0.getD (Int.toNat j_9) [])).length) <|
   ckB (inR .i64 (i_8+1)) <|
   ckB (inR .i64 (j_9 - 1)) <|
   nx ((i_8+1),(j_9 - 1),((data_0.set (Int.toNat i_8) (data_0.getD (Int.toNat j_9) [])).set (Int.toNat j_9) (data_0.getD (Int.toNat i_8) [])))
 else
   dn data_0
def qh8  (s0:(Int×Int×qL2)):Option (qL2⊕qL2) :=
 loopM (fun a=>q5b  a.1 a.2.1 a.2.2 (fun a'=>some (.next a')) (fun e=>some (.done e)) (fun r=>some (.ret r))) s0
def qgo:Shp:=⟨[(0,.own 0),(8,.d true qT0),(9,.d true qT0)],[.arr 33 (.fz true) [3] qT1]⟩
def qfr:Shp:=⟨[],[.arr 33 (.fz true) [3] qT1]⟩
def q39 (a_1:Int) (b_2:Int) (data_0:qL2):Option qL2 :=
 ckB (inR .i64 (b_2 - 1)) <|
 bnd (qh8  (a_1,(b_2 - 1),data_0)) fun oe1 =>
 lk oe1 (fun e1 =>
   some e1) (fun r=>some r)
def q3c {R:Type} (a_1:Int) (b_2:Int) (j_10:Int) (data_0:qL2) (i_9:Int) (nx:Int→Option R) (dn:Int→Option R) (rt:(Bool×qL2)→Option R):Option R :=
 bif decide (i_9 < b_2) then
   ckB (ix i_9 data_0.length) <|
   ckB (ix i_9 data_0.length) <|
   ckB (inR .i64 (i_9 - 1)) <|
   ckB (ix (i_9 - 1) data_0.length) <|
   ckB (ix (i_9 - 1) data_0.length) <|
   bnd (qk (data_0.getD (Int.toNat i_9) []) (data_0.getD (Int.toNat (i_9 - 1)) [])) fun r1 =>
   bif (!(decide (r1 < 0))) then
     ckB (inR .i64 (i_9+1)) <|
     nx (i_9+1)
   else
     dn i_9
 else
   dn i_9
def qb3 (a_1:Int) (b_2:Int) (j_10:Int) (data_0:qL2) (s0:Int):Option (Int⊕(Bool×qL2)) :=
 loopM (fun a=>q3c a_1 b_2 j_10 data_0 a (fun a'=>some (.next a')) (fun e=>some (.done e)) (fun r=>some (.ret r))) s0
def q9n:Shp:=⟨[(0,.own 0),(1,.d true qT0),(2,.d true qT0),(3,.fn 53 .nil),(9,.d true qT0),(10,.d true qT0)],[.arr 33 (.fz true) [3] qT1]⟩
def q9j:Shp:=⟨[(0,.own 0),(1,.d true qT0),(2,.d true qT0),(3,.fn 53 .nil),(9,.d true qT0),(10,.d true qT0)],[.arr 33 (.fz true) [3] qT1]⟩
def q32 {R:Type} (a_1:Int) (b_2:Int) (i_9:Int) (j_10:Int) (j_11:Int) (data_0:qL2) (nx:(Int×qL2)→Option R) (dn:qL2→Option R) (rt:(Bool×qL2)→Option R):Option R :=
 bif decide ((1:Int)≤j_11) then
   ckB (ix j_11 data_0.length) <|
   ckB (ix j_11 data_0.length) <|
   ckB (inR .i64 (j_11 - 1)) <|
   ckB (ix (j_11 - 1) data_0.length) <|
   ckB (ix (j_11 - 1) data_0.length) <|
   bnd (qk (data_0.getD (Int.toNat j_11) []) (data_0.getD (Int.toNat (j_11 - 1)) [])) fun r3 =>
   bif (!(decide (r3 < 0))) then
     dn data_0
   else
     ckB (inR .i64 (j_11 - 1)) <|
     ckB (inR .i64 (j_11 - 1)) <|
     ckB (ix (j_11 - 1) data_0.length) <|
     ckB (ix (j_11 - 1) data_0.length) <|
     ckB (ix j_11 data_0.length) <|
     ckB (ix j_11 data_0.length) <|
     ckB (ix j_11 data_0.length) <|
     ckB (ix (j_11 - 1) data_0.length) <|
     ckB (ix j_11 data_0.length) <|
     ckB (decide ((data_0.length:Nat)=(data_0.set (Int.toNat j_11) (data_0.getD (Int.toNat (j_11 - 1)) [])).length)) <|
     ckB (ix (j_11 - 1) (data_0.set (Int.toNat j_11) (data_0.getD (Int.toNat (j_11 - 1)) [])).length) <|
     ckB (inR .i64 (j_11 - 1)) <|
     nx ((j_11 - 1),((data_0.set (Int.toNat j_11) (data_0.getD (Int.toNat (j_11 - 1)) [])).set (Int.toNat (j_11 - 1)) (data_0.getD (Int.toNat j_11) [])))
 else
   dn data_0
def qbc (a_1:Int) (b_2:Int) (i_9:Int) (j_10:Int) (s0:(Int×qL2)):Option (qL2⊕(Bool×qL2)) :=
 loopM (fun a=>q32 a_1 b_2 i_9 j_10 a.1 a.2 (fun a'=>some (.next a')) (fun e=>some (.done e)) (fun r=>some (.ret r))) s0
def q9y:Shp:=⟨[(0,.own 0),(1,.d true qT0),(2,.d true qT0),(3,.fn 53 .nil),(9,.d true qT0),(10,.d true qT0),(11,.d true qT0)],[.arr 33 (.fz true) [3] qT1]⟩
def qa4:Shp:=⟨[(0,.own 0),(1,.d true qT0),(2,.d true qT0),(3,.fn 53 .nil),(9,.d true qT0),(10,.d true qT0)],[.arr 33 (.fz true) [3] qT1]⟩
def q3b {R:Type} (a_1:Int) (b_2:Int) (i_9:Int) (j_10:Int) (j_12:Int) (data_0:qL2) (nx:(Int×qL2)→Option R) (dn:qL2→Option R) (rt:(Bool×qL2)→Option R):Option R :=
 bif decide (j_12 < b_2) then
   ckB (ix j_12 data_0.length) <|
   ckB (ix j_12 data_0.length) <|
   ckB (inR .i64 (j_12 - 1)) <|
   ckB (ix (j_12 - 1) data_0.length) <|
   ckB (ix (j_12 - 1) data_0.length) <|
   bnd (qk (data_0.getD (Int.toNat j_12) []) (data_0.getD (Int.toNat (j_12 - 1)) [])) fun r5 =>
   bif (!(decide (r5 < 0))) then
     dn data_0
   else
     ckB (inR .i64 (j_12 - 1)) <|
     ckB (inR .i64 (j_12 - 1)) <|
     ckB (ix (j_12 - 1) data_0.length) <|
     ckB (ix (j_12 - 1) data_0.length) <|
     ckB (ix j_12 data_0.length) <|
     ckB (ix j_12 data_0.length) <|
     ckB (ix j_12 data_0.length) <|
     ckB (ix (j_12 - 1) data_0.length) <|
     ckB (ix j_12 data_0.length) <|
     ckB (decide ((data_0.length:Nat)=(data_0.set (Int.toNat j_12) (data_0.getD (Int.toNat (j_12 - 1)) [])).length)) <|
     ckB (ix (j_12 - 1) (data_0.set (Int.toNat j_12) (data_0.getD (Int.toNat (j_12 - 1)) [])).length) <|
     ckB (inR .i64 (j_12+1)) <|
     nx ((j_12+1),((data_0.set (Int.toNat j_12) (data_0.getD (Int.toNat (j_12 - 1)) [])).set (Int.toNat (j_12 - 1)) (data_0.getD (Int.toNat j_12) [])))
 else
   dn data_0
def qba (a_1:Int) (b_2:Int) (i_9:Int) (j_10:Int) (s0:(Int×qL2)):Option (qL2⊕(Bool×qL2)) :=
 loopM (fun a=>q3b a_1 b_2 i_9 j_10 a.1 a.2 (fun a'=>some (.next a')) (fun e=>some (.done e)) (fun r=>some (.ret r))) s0
def qa6:Shp:=⟨[(0,.own 0),(1,.d true qT0),(2,.d true qT0),(3,.fn 53 .nil),(9,.d true qT0),(10,.d true qT0),(12,.d true qT0)],[.arr 33 (.fz true) [3] qT1]⟩
def q9h:Shp:=⟨[(0,.own 0),(1,.d true qT0),(2,.d true qT0),(3,.fn 53 .nil),(9,.d true qT0),(10,.d true qT0)],[.arr 33 (.fz true) [3] qT1]⟩
def q35 {R:Type} (a_1:Int) (b_2:Int) (i_9:Int) (j_10:Int) (data_0:qL2) (dn:qL2→Option R) (rt:(Bool×qL2)→Option R):Option R :=
 ckB (inR .i64 (b_2 - i_9)) <|
 bif decide ((2:Int)≤(b_2 - i_9)) then
   ckB (inR .i64 (i_9+1)) <|
   bnd (qba a_1 b_2 i_9 j_10 ((i_9+1),data_0)) fun oe6 =>
   lk oe6 (fun e6 =>
     dn e6) (fun r=>rt r)
 else
   dn data_0
def q3l (a_1:Int) (b_2:Int) (i_9:Int) (j_10:Int) (data_0:qL2):Option (qL2⊕(Bool×qL2)) :=
 q35 a_1 b_2 i_9 j_10 data_0 (fun e=>some (.inl e)) (fun r=>some (.inr r))
def q9i:Shp:=⟨[(0,.own 0),(1,.d true qT0),(2,.d true qT0),(3,.fn 53 .nil),(9,.d true qT0),(10,.d true qT0)],[.arr 33 (.fz true) [3] qT1]⟩
def q9q:Shp:=⟨[(0,.own 0),(1,.d true qT0),(2,.d true qT0),(3,.fn 53 .nil),(9,.d true qT0),(10,.d true qT0)],[.arr 33 (.fz true) [3] qT1]⟩
def q36 {R:Type} (a_1:Int) (b_2:Int) (i_9:Int) (j_10:Int) (data_0:qL2) (nx:(Int×Int×qL2)→Option R) (dn:qL2→Option R) (rt:(Bool×qL2)→Option R):Option R :=
 bif decide (j_10 < 5) then
   bnd (qb3 a_1 b_2 j_10 data_0 i_9) fun oe2 =>
   lk oe2 (fun e2 =>
     bif decide (e2=b_2) then
       rt (true,data_0)
     else
       ckB (inR .i64 (b_2 - a_1)) <|
       bif decide ((b_2 - a_1) < 50) then
         rt (false,data_0)
       else
         ckB (inR .i64 (e2 - 1)) <|
         ckB (inR .i64 (e2 - 1)) <|
         ckB (ix (e2 - 1) data_0.length) <|
         ckB (ix (e2 - 1) data_0.length) <|
         ckB (ix e2 data_0.length) <|
         ckB (ix e2 data_0.length) <|
         ckB (ix e2 data_0.length) <|
         ckB (ix (e2 - 1) data_0.length) <|
         ckB (ix e2 data_0.length) <|
         ckB (decide ((data_0.length:Nat)=(data_0.set (Int.toNat e2) (data_0.getD (Int.toNat (e2 - 1)) [])).length)) <|
         ckB (ix (e2 - 1) (data_0.set (Int.toNat e2) (data_0.getD (Int.toNat (e2 - 1)) [])).length) <|
         ckB (inR .i64 (e2 - a_1)) <|
         bif decide ((2:Int)≤(e2 - a_1)) then
           ckB (inR .i64 (e2 - 1)) <|
           bnd (qbc a_1 b_2 e2 j_10 ((e2 - 1),((data_0.set (Int.toNat e2) (data_0.getD (Int.toNat (e2 - 1)) [])).set (Int.toNat (e2 - 1)) (data_0.getD (Int.toNat e2) [])))) fun oe4 =>
           lk oe4 (fun e4 =>
             bnd (q3l a_1 b_2 e2 j_10 e4) fun oe7 =>
             lk oe7 (fun e7 =>
               ckB (inR .i64 (j_10+1)) <|
               nx (e2,(j_10+1),e7)) (fun r=>rt r)) (fun r=>rt r)
         else
           bnd (q3l a_1 b_2 e2 j_10 ((data_0.set (Int.toNat e2) (data_0.getD (Int.toNat (e2 - 1)) [])).set (Int.toNat (e2 - 1)) (data_0.getD (Int.toNat e2) []))) fun oe8 =>
           lk oe8 (fun e8 =>
             ckB (inR .i64 (j_10+1)) <|
             nx (e2,(j_10+1),e8)) (fun r=>rt r)) (fun r=>rt r)
 else
   dn data_0
def qbd (a_1:Int) (b_2:Int) (s0:(Int×Int×qL2)):Option (qL2⊕(Bool×qL2)) :=
 loopM (fun a=>q36 a_1 b_2 a.1 a.2.1 a.2.2 (fun a'=>some (.next a')) (fun e=>some (.done e)) (fun r=>some (.ret r))) s0
def q9z:Shp:=⟨[(0,.own 0),(1,.d true qT0),(2,.d true qT0),(3,.fn 53 .nil),(9,.d true qT0),(10,.d true qT0)],[.arr 33 (.fz true) [3] qT1]⟩
def q9s:Shp:=⟨[],[.arr 33 (.fz true) [3] qT1]⟩
def q3x (a_1:Int) (b_2:Int) (data_0:qL2):Option (Bool×qL2) :=
 ckB (inR .i64 (a_1+1)) <|
 bnd (qbd a_1 b_2 ((a_1+1),0,data_0)) fun oe9 =>
 lk oe9 (fun e9 =>
   some (false,e9)) (fun r=>some r)
def q4u {R:Type} (a_1:Int) (j_12:Int) (data_0:qL2) (i_11:Int) (nx:Int→Option R) (dn:Int→Option R) (rt:(Int×qL2)→Option R):Option R :=
 bif decide (i_11≤j_12) then
   ckB (ix a_1 data_0.length) <|
   ckB (ix a_1 data_0.length) <|
   ckB (ix i_11 data_0.length) <|
   ckB (ix i_11 data_0.length) <|
   bnd (qk (data_0.getD (Int.toNat a_1) []) (data_0.getD (Int.toNat i_11) [])) fun r1 =>
   bif (!(decide (r1 < 0))) then
     ckB (inR .i64 (i_11+1)) <|
     nx (i_11+1)
   else
     dn i_11
 else
   dn i_11
def qf4 (a_1:Int) (j_12:Int) (data_0:qL2) (s0:Int):Option (Int⊕(Int×qL2)) :=
 loopM (fun a=>q4u a_1 j_12 data_0 a (fun a'=>some (.next a')) (fun e=>some (.done e)) (fun r=>some (.ret r))) s0
def qdz:Shp:=⟨[(0,.own 0),(1,.d true qT0),(4,.fn 53 .nil),(11,.d true qT0),(12,.d true qT0)],[.arr 33 (.fz true) [3] qT1]⟩
def qdw:Shp:=⟨[(0,.own 0),(1,.d true qT0),(4,.fn 53 .nil),(11,.d true qT0),(12,.d true qT0)],[.arr 33 (.fz true) [3] qT1]⟩
def q4t {R:Type} (a_1:Int) (i_11:Int) (data_0:qL2) (j_12:Int) (nx:Int→Option R) (dn:Int→Option R) (rt:(Int×qL2)→Option R):Option R :=
 bif decide (i_11≤j_12) then
   ckB (ix a_1 data_0.length) <|
   ckB (ix a_1 data_0.length) <|
   ckB (ix j_12 data_0.length) <|
   ckB (ix j_12 data_0.length) <|
   bnd (qk (data_0.getD (Int.toNat a_1) []) (data_0.getD (Int.toNat j_12) [])) fun r3 =>
   bif decide (r3 < 0) then
     ckB (inR .i64 (j_12 - 1)) <|
     nx (j_12 - 1)
   else
     dn j_12
 else
   dn j_12
def qf1 (a_1:Int) (i_11:Int) (data_0:qL2) (s0:Int):Option (Int⊕(Int×qL2)) :=
 loopM (fun a=>q4t a_1 i_11 data_0 a (fun a'=>some (.next a')) (fun e=>some (.done e)) (fun r=>some (.ret r))) s0
def qe8:Shp:=⟨[(0,.own 0),(1,.d true qT0),(4,.fn 53 .nil),(11,.d true qT0),(12,.d true qT0)],[.arr 33 (.fz true) [3] qT1]⟩
def qe2:Shp:=⟨[(0,.own 0),(1,.d true qT0),(4,.fn 53 .nil),(11,.d true qT0),(12,.d true qT0)],[.arr 33 (.fz true) [3] qT1]⟩
def q4s {R:Type} (a_1:Int) (i_11:Int) (j_12:Int) (data_0:qL2) (nx:(Int×Int×qL2)→Option R) (dn:(Int×qL2)→Option R) (rt:(Int×qL2)→Option R):Option R :=
 bnd (qf4 a_1 j_12 data_0 i_11) fun oe2 =>
 lk oe2 (fun e2 =>
   bnd (qf1 a_1 e2 data_0 j_12) fun oe4 =>
   lk oe4 (fun e4 =>
     bif decide (e4 < e2) then
       dn (e2,data_0)
     else
       ckB (ix e4 data_0.length) <|
       ckB (ix e4 data_0.length) <|
       ckB (ix e2 data_0.length) <|
       ckB (ix e2 data_0.length) <|
       ckB (ix e2 data_0.length) <|
       ckB (ix e4 data_0.length) <|
       ckB (ix e2 data_0.length) <|
       ckB (decide ((data_0.length:Nat)=(data_0.set (Int.toNat e2) (data_0.getD (Int.toNat e4) [])).length)) <|
       ckB (ix e4 (data_0.set (Int.toNat e2) (data_0.getD (Int.toNat e4) [])).length) <|
       ckB (inR .i64 (e2+1)) <|
       ckB (inR .i64 (e4 - 1)) <|
       nx ((e2+1),(e4 - 1),((data_0.set (Int.toNat e2) (data_0.getD (Int.toNat e4) [])).set (Int.toNat e4) (data_0.getD (Int.toNat e2) [])))) (fun r=>rt r)) (fun r=>rt r)
def qew (a_1:Int) (s0:(Int×Int×qL2)):Option ((Int×qL2)⊕(Int×qL2)) :=
 loopM (fun a=>q4s a_1 a.1 a.2.1 a.2.2 (fun a'=>some (.next a')) (fun e=>some (.done e)) (fun r=>some (.ret r))) s0
def qe9:Shp:=⟨[(0,.own 0),(1,.d true qT0),(4,.fn 53 .nil),(11,.d true qT0),(12,.d true qT0)],[.arr 33 (.fz true) [3] qT1]⟩
def qdx:Shp:=⟨[(11,.d true qT0)],[.arr 33 (.fz true) [3] qT1]⟩
def qj (a_1:Int) (b_2:Int) (pivot_3:Int) (data_0:qL2):Option (Int×qL2) :=
 ckB (ix pivot_3 data_0.length) <|
 ckB (ix pivot_3 data_0.length) <|
 ckB (ix a_1 data_0.length) <|
 ckB (ix a_1 data_0.length) <|
 ckB (ix a_1 data_0.length) <|
 ckB (ix pivot_3 data_0.length) <|
 ckB (ix a_1 data_0.length) <|
 ckB (decide ((data_0.length:Nat)=(data_0.set (Int.toNat a_1) (data_0.getD (Int.toNat pivot_3) [])).length)) <|
 ckB (ix pivot_3 (data_0.set (Int.toNat a_1) (data_0.getD (Int.toNat pivot_3) [])).length) <|
 ckB (inR .i64 (a_1+1)) <|
 ckB (inR .i64 (b_2 - 1)) <|
 bnd (qew a_1 ((a_1+1),(b_2 - 1),((data_0.set (Int.toNat a_1) (data_0.getD (Int.toNat pivot_3) [])).set (Int.toNat pivot_3) (data_0.getD (Int.toNat a_1) [])))) fun oe5 =>
 lk oe5 (fun e5 =>
   some (e5.1,e5.2)) (fun r=>some r)
def q78 {R:Type} (a_1:Int) (j_13:Int) (data_0:qL2) (i_12:Int) (nx:Int→Option R) (dn:Int→Option R) (rt:(Int×Bool×qL2)→Option R):Option R :=
 bif decide (i_12≤j_13) then
   ckB (ix i_12 data_0.length) <|
   ckB (ix i_12 data_0.length) <|
   ckB (ix a_1 data_0.length) <|
   ckB (ix a_1 data_0.length) <|
   bnd (qk (data_0.getD (Int.toNat i_12) []) (data_0.getD (Int.toNat a_1) [])) fun r1 =>
   bif decide (r1 < 0) then
     ckB (inR .i64 (i_12+1)) <|
     nx (i_12+1)
   else
     dn i_12
 else
   dn i_12
def qk6 (a_1:Int) (j_13:Int) (data_0:qL2) (s0:Int):Option (Int⊕(Int×Bool×qL2)) :=
 loopM (fun a=>q78 a_1 j_13 data_0 a (fun a'=>some (.next a')) (fun e=>some (.done e)) (fun r=>some (.ret r))) s0
def qiu:Shp:=⟨[(0,.own 0),(1,.d true qT0),(4,.fn 53 .nil),(12,.d true qT0),(13,.d true qT0)],[.arr 33 (.fz true) [3] qT1]⟩
def qi1:Shp:=⟨[(0,.own 0),(1,.d true qT0),(4,.fn 53 .nil),(12,.d true qT0),(13,.d true qT0)],[.arr 33 (.fz true) [3] qT1]⟩
def q6w {R:Type} (a_1:Int) (i_12:Int) (data_0:qL2) (j_13:Int) (nx:Int→Option R) (dn:Int→Option R) (rt:(Int×Bool×qL2)→Option R):Option R :=
 bif decide (i_12≤j_13) then
   ckB (ix j_13 data_0.length) <|
   ckB (ix j_13 data_0.length) <|
   ckB (ix a_1 data_0.length) <|
   ckB (ix a_1 data_0.length) <|
   bnd (qk (data_0.getD (Int.toNat j_13) []) (data_0.getD (Int.toNat a_1) [])) fun r3 =>
   bif (!(decide (r3 < 0))) then
     ckB (inR .i64 (j_13 - 1)) <|
     nx (j_13 - 1)
   else
     dn j_13
 else
   dn j_13
def qk0 (a_1:Int) (i_12:Int) (data_0:qL2) (s0:Int):Option (Int⊕(Int×Bool×qL2)) :=
 loopM (fun a=>q6w a_1 i_12 data_0 a (fun a'=>some (.next a')) (fun e=>some (.done e)) (fun r=>some (.ret r))) s0
def qip:Shp:=⟨[(0,.own 0),(1,.d true qT0),(4,.fn 53 .nil),(12,.d true qT0),(13,.d true qT0)],[.arr 33 (.fz true) [3] qT1]⟩
def qhy:Shp:=⟨[(0,.own 0),(1,.d true qT0),(4,.fn 53 .nil),(12,.d true qT0),(13,.d true qT0)],[.arr 33 (.fz true) [3] qT1]⟩
def q6y {R:Type} (a_1:Int) (j_13:Int) (data_0:qL2) (i_12:Int) (nx:Int→Option R) (dn:Int→Option R) (rt:(Int×Bool×qL2)→Option R):Option R :=
 bif decide (i_12≤j_13) then
   ckB (ix i_12 data_0.length) <|
   ckB (ix i_12 data_0.length) <|
   ckB (ix a_1 data_0.length) <|
   ckB (ix a_1 data_0.length) <|
   bnd (qk (data_0.getD (Int.toNat i_12) []) (data_0.getD (Int.toNat a_1) [])) fun r5 =>
   bif decide (r5 < 0) then
     ckB (inR .i64 (i_12+1)) <|
     nx (i_12+1)
   else
     dn i_12
 else
   dn i_12
def qjv (a_1:Int) (j_13:Int) (data_0:qL2) (s0:Int):Option (Int⊕(Int×Bool×qL2)) :=
 loopM (fun a=>q6y a_1 j_13 data_0 a (fun a'=>some (.next a')) (fun e=>some (.done e)) (fun r=>some (.ret r))) s0
def qih:Shp:=⟨[(0,.own 0),(1,.d true qT0),(4,.fn 53 .nil),(12,.d true qT0),(13,.d true qT0)],[.arr 33 (.fz true) [3] qT1]⟩
def qir:Shp:=⟨[(0,.own 0),(1,.d true qT0),(4,.fn 53 .nil),(12,.d true qT0),(13,.d true qT0)],[.arr 33 (.fz true) [3] qT1]⟩
def q71 {R:Type} (a_1:Int) (i_12:Int) (data_0:qL2) (j_13:Int) (nx:Int→Option R) (dn:Int→Option R) (rt:(Int×Bool×qL2)→Option R):Option R :=
 bif decide (i_12≤j_13) then
   ckB (ix j_13 data_0.length) <|
   ckB (ix j_13 data_0.length) <|
   ckB (ix a_1 data_0.length) <|
   ckB (ix a_1 data_0.length) <|
   bnd (qk (data_0.getD (Int.toNat j_13) []) (data_0.getD (Int.toNat a_1) [])) fun r7 =>
   bif (!(decide (r7 < 0))) then
     ckB (inR .i64 (j_13 - 1)) <|
     nx (j_13 - 1)
   else
     dn j_13
 else
   dn j_13
def qki (a_1:Int) (i_12:Int) (data_0:qL2) (s0:Int):Option (Int⊕(Int×Bool×qL2)) :=
 loopM (fun a=>q71 a_1 i_12 data_0 a (fun a'=>some (.next a')) (fun e=>some (.done e)) (fun r=>some (.ret r))) s0
def qib:Shp:=⟨[(0,.own 0),(1,.d true qT0),(4,.fn 53 .nil),(12,.d true qT0),(13,.d true qT0)],[.arr 33 (.fz true) [3] qT1]⟩
def qi2:Shp:=⟨[(0,.own 0),(1,.d true qT0),(4,.fn 53 .nil),(12,.d true qT0),(13,.d true qT0)],[.arr 33 (.fz true) [3] qT1]⟩
def q6z {R:Type} (a_1:Int) (i_12:Int) (j_13:Int) (data_0:qL2) (nx:(Int×Int×qL2)→Option R) (dn:(Int×qL2)→Option R) (rt:(Int×Bool×qL2)→Option R):Option R :=
 bnd (qjv a_1 j_13 data_0 i_12) fun oe6 =>
 lk oe6 (fun e6 =>
   bnd (qki a_1 e6 data_0 j_13) fun oe8 =>
   lk oe8 (fun e8 =>
     bif decide (e8 < e6) then
       dn (e8,data_0)
     else
       ckB (ix e8 data_0.length) <|
       ckB (ix e8 data_0.length) <|
       ckB (ix e6 data_0.length) <|
       ckB (ix e6 data_0.length) <|
       ckB (ix e6 data_0.length) <|
       ckB (ix e8 data_0.length) <|
       ckB (ix e6 data_0.length) <|
       ckB (decide ((data_0.length:Nat)=(data_0.set (Int.toNat e6) (data_0.getD (Int.toNat e8) [])).length)) <|
       ckB (ix e8 (data_0.set (Int.toNat e6) (data_0.getD (Int.toNat e8) [])).length) <|
       ckB (inR .i64 (e6+1)) <|
       ckB (inR .i64 (e8 - 1)) <|
       nx ((e6+1),(e8 - 1),((data_0.set (Int.toNat e6) (data_0.getD (Int.toNat e8) [])).set (Int.toNat e8) (data_0.getD (Int.toNat e6) [])))) (fun r=>rt r)) (fun r=>rt r)
def qkc (a_1:Int) (s0:(Int×Int×qL2)):Option ((Int×qL2)⊕(Int×Bool×qL2)) :=
 loopM (fun a=>q6z a_1 a.1 a.2.1 a.2.2 (fun a'=>some (.next a')) (fun e=>some (.done e)) (fun r=>some (.ret r))) s0
def qj3:Shp:=⟨[(0,.own 0),(1,.d true qT0),(4,.fn 53 .nil),(12,.d true qT0),(13,.d true qT0)],[.arr 33 (.fz true) [3] qT1]⟩
def qix:Shp:=⟨[(0,.own 0),(1,.d true qT0),(13,.d true qT0)],[.arr 33 (.fz true) [3] qT1]⟩
def q8s (a_1:Int) (b_2:Int) (pivot_3:Int) (data_0:qL2):Option (Int×Bool×qL2) :=
 ckB (ix pivot_3 data_0.length) <|
 ckB (ix pivot_3 data_0.length) <|
 ckB (ix a_1 data_0.length) <|
 ckB (ix a_1 data_0.length) <|
 ckB (ix a_1 data_0.length) <|
 ckB (ix pivot_3 data_0.length) <|
 ckB (ix a_1 data_0.length) <|
 ckB (decide ((data_0.length:Nat)=(data_0.set (Int.toNat a_1) (data_0.getD (Int.toNat pivot_3) [])).length)) <|
 ckB (ix pivot_3 (data_0.set (Int.toNat a_1) (data_0.getD (Int.toNat pivot_3) [])).length) <|
 ckB (inR .i64 (a_1+1)) <|
 ckB (inR .i64 (b_2 - 1)) <|
 bnd (qk6 a_1 (b_2 - 1) ((data_0.set (Int.toNat a_1) (data_0.getD (Int.toNat pivot_3) [])).set (Int.toNat pivot_3) (data_0.getD (Int.toNat a_1) [])) (a_1+1)) fun oe2 =>
 lk oe2 (fun e2 =>
   bnd (qk0 a_1 e2 ((data_0.set (Int.toNat a_1) (data_0.getD (Int.toNat pivot_3) [])).set (Int.toNat pivot_3) (data_0.getD (Int.toNat a_1) [])) (b_2 - 1)) fun oe4 =>
   lk oe4 (fun e4 =>
     bif decide (e4 < e2) then
       ckB (ix a_1 ((data_0.set (Int.toNat a_1) (data_0.getD (Int.toNat pivot_3) [])).set (Int.toNat pivot_3) (data_0.getD (Int.toNat a_1) [])).length) <|
       ckB (ix a_1 ((data_0.set (Int.toNat a_1) (data_0.getD (Int.toNat pivot_3) [])).set (Int.toNat pivot_3) (data_0.getD (Int.toNat a_1) [])).length) <|
       ckB (ix e4 ((data_0.set (Int.toNat a_1) (data_0.getD (Int.toNat pivot_3) [])).set (Int.toNat pivot_3) (data_0.getD (Int.toNat a_1) [])).length) <|
       ckB (ix e4 ((data_0.set (Int.toNat a_1) (data_0.getD (Int.toNat pivot_3) [])).set (Int.toNat pivot_3) (data_0.getD (Int.toNat a_1) [])).length) <|
       ckB (ix e4 ((data_0.set (Int.toNat a_1) (data_0.getD (Int.toNat pivot_3) [])).set (Int.toNat pivot_3) (data_0.getD (Int.toNat a_1) [])).length) <|
       ckB (ix a_1 ((data_0.set (Int.toNat a_1) (data_0.getD (Int.toNat pivot_3) [])).set (Int.toNat pivot_3) (data_0.getD (Int.toNat a_1) [])).length) <|
       ckB (ix e4 ((data_0.set (Int.toNat a_1) (data_0.getD (Int.toNat pivot_3) [])).set (Int.toNat pivot_3) (data_0.getD (Int.toNat a_1) [])).length) <|
       ckB (decide ((((data_0.set (Int.toNat a_1) (data_0.getD (Int.toNat pivot_3) [])).set (Int.toNat pivot_3) (data_0.getD (Int.toNat a_1) [])).length:Nat)=(((data_0.set (Int.toNat a_1) (data_0.getD (Int.toNat pivot_3) [])).set (Int.toNat pivot_3) (data_0.getD (Int.toNat a_1) [])).set (Int.toNat e4) (((data_0.set (Int.toNat a_1) (data_0.getD (Int.toNat pivot_3) [])).set (Int.toNat pivot_3) (data_0.getD (Int.toNat a_1) [])).getD (Int.toNat a_1) [])).length)) <|
       ckB (ix a_1 (((data_0.set (Int.toNat a_1) (data_0.getD (Int.toNat pivot_3) [])).set (Int.toNat pivot_3) (data_0.getD (Int.toNat a_1) [])).set (Int.toNat e4) (((data_0.set (Int.toNat a_1) (data_0.getD (Int.toNat pivot_3) [])).set (Int.toNat pivot_3) (data_0.getD (Int.toNat a_1) [])).getD (Int.toNat a_1) [])).length) <|
       some (e4,true,((((data_0.set (Int.toNat a_1) (data_0.getD (Int.toNat pivot_3) [])).set (Int.toNat pivot_3) (data_0.getD (Int.toNat a_1) [])).set (Int.toNat e4) (((data_0.set (Int.toNat a_1) (data_0.getD (Int.toNat pivot_3) [])).set (Int.toNat pivot_3) (data_0.getD (Int.toNat a_1) [])).getD (Int.toNat a_1) [])).set (Int.toNat a_1) (((data_0.set (Int.toNat a_1) (data_0.getD (Int.toNat pivot_3) [])).set (Int.toNat pivot_3) (data_0.getD (Int.toNat a_1) [])).getD (Int.toNat e4) [])))
     else
       ckB (ix e4 ((data_0.set (Int.toNat a_1) (data_0.getD (Int.toNat pivot_3) [])).set (Int.toNat pivot_3) (data_0.getD (Int.toNat a_1) [])).length) <|
       ckB (ix e4 ((data_0.set (Int.toNat a_1) (data_0.getD (Int.toNat pivot_3) [])).set (Int.toNat pivot_3) (data_0.getD (Int.toNat a_1) [])).length) <|
       ckB (ix e2 ((data_0.set (Int.toNat a_1) (data_0.getD (Int.toNat pivot_3) [])).set (Int.toNat pivot_3) (data_0.getD (Int.toNat a_1) [])).length) <|
       ckB (ix e2 ((data_0.set (Int.toNat a_1) (data_0.getD (Int.toNat pivot_3) [])).set (Int.toNat pivot_3) (data_0.getD (Int.toNat a_1) [])).length) <|
       ckB (ix e2 ((data_0.set (Int.toNat a_1) (data_0.getD (Int.toNat pivot_3) [])).set (Int.toNat pivot_3) (data_0.getD (Int.toNat a_1) [])).length) <|
       ckB (ix e4 ((data_0.set (Int.toNat a_1) (data_0.getD (Int.toNat pivot_3) [])).set (Int.toNat pivot_3) (data_0.getD (Int.toNat a_1) [])).length) <|
       ckB (ix e2 ((data_0.set (Int.toNat a_1) (data_0.getD (Int.toNat pivot_3) [])).set (Int.toNat pivot_3) (data_0.getD (Int.toNat a_1) [])).length) <|
       ckB (decide ((((data_0.set (Int.toNat a_1) (data_0.getD (Int.toNat pivot_3) [])).set (Int.toNat pivot_3) (data_0.getD (Int.toNat a_1) [])).length:Nat)=(((data_0.set (Int.toNat a_1) (data_0.getD (Int.toNat pivot_3) [])).set (Int.toNat pivot_3) (data_0.getD (Int.toNat a_1) [])).set (Int.toNat e2) (((data_0.set (Int.toNat a_1) (data_0.getD (Int.toNat pivot_3) [])).set (Int.toNat pivot_3) (data_0.getD (Int.toNat a_1) [])).getD (Int.toNat e4) [])).length)) <|
       ckB (ix e4 (((data_0.set (Int.toNat a_1) (data_0.getD (Int.toNat pivot_3) [])).set (Int.toNat pivot_3) (data_0.getD (Int.toNat a_1) [])).set (Int.toNat e2) (((data_0.set (Int.toNat a_1) (data_0.getD (Int.toNat pivot_3) [])).set (Int.toNat pivot_3) (data_0.getD (Int.toNat a_1) [])).getD (Int.toNat e4) [])).length) <|
       ckB (inR .i64 (e2+1)) <|
       ckB (inR .i64 (e4 - 1)) <|
       bnd (qkc a_1 ((e2+1),(e4 - 1),((((data_0.set (Int.toNat a_1) (data_0.getD (Int.toNat pivot_3) [])).set (Int.toNat pivot_3) (data_0.getD (Int.toNat a_1) [])).set (Int.toNat e2) (((data_0.set (Int.toNat a_1) (data_0.getD (Int.toNat pivot_3) [])).set (Int.toNat pivot_3) (data_0.getD (Int.toNat a_1) [])).getD (Int.toNat e4) [])).set (Int.toNat e4) (((data_0.set (Int.toNat a_1) (data_0.getD (Int.toNat pivot_3) [])).set (Int.toNat pivot_3) (data_0.getD (Int.toNat a_1) [])).getD (Int.toNat e2) [])))) fun oe9 =>
       lk oe9 (fun e9 =>
         ckB (ix a_1 e9.2.length) <|
         ckB (ix a_1 e9.2.length) <|
         ckB (ix e9.1 e9.2.length) <|
         ckB (ix e9.1 e9.2.length) <|
         ckB (ix e9.1 e9.2.length) <|
         ckB (ix a_1 e9.2.length) <|
         ckB (ix e9.1 e9.2.length) <|
         ckB (decide ((e9.2.length:Nat)=(e9.2.set (Int.toNat e9.1) (e9.2.getD (Int.toNat a_1) [])).length)) <|
         ckB (ix a_1 (e9.2.set (Int.toNat e9.1) (e9.2.getD (Int.toNat a_1) [])).length) <|
         some (e9.1,false,((e9.2.set (Int.toNat e9.1) (e9.2.getD (Int.toNat a_1) [])).set (Int.toNat a_1) (e9.2.getD (Int.toNat e9.1) [])))) (fun r=>some r)) (fun r=>some r)) (fun r=>some r)
def q8e {R:Type} (rec:((Unit×Int×Int×Int×(Unit)×Unit)×(qL2×Unit))→Option qL2) (a_1:Int) (b_2:Int) (limit_3:Int) (wasBalanced_10:Bool) (wasPartitioned_11:Bool) (length_12:Int) (pivot_13:Int) (v_75:Bool) (data_0:qL2) (dn:qL2→Option R) (rt:qL2→Option R):Option R :=
 bif v_75 then
   bnd (q3x a_1 b_2 data_0) fun r6 =>
   ckB (decide (r6.2.length=data_0.length)) <|
   bif r6.1 then
     rt r6.2
   else
     dn r6.2
 else
   dn data_0
def ql (rec:((Unit×Int×Int×Int×(Unit)×Unit)×(qL2×Unit))→Option qL2) (a_1:Int) (b_2:Int) (limit_3:Int) (wasBalanced_10:Bool) (wasPartitioned_11:Bool) (length_12:Int) (pivot_13:Int) (v_75:Bool) (data_0:qL2):Option (qL2⊕qL2) :=
 q8e rec a_1 b_2 limit_3 wasBalanced_10 wasPartitioned_11 length_12 pivot_13 v_75 data_0 (fun e=>some (.inl e)) (fun r=>some (.inr r))
def qm3:Shp:=⟨[(0,.own 0),(1,.d true qT0),(2,.d true qT0),(3,.d true qT0),(4,.fn 53 .nil),(10,.d true .bool),(11,.d true .bool),(12,.d true qT0),(13,.d true qT0),(75,.d true .bool)],[.arr 33 (.fz true) [3] qT1]⟩
def qln:Shp:=⟨[(0,.own 0),(1,.d true qT0),(2,.d true qT0),(3,.d true qT0),(4,.fn 53 .nil),(10,.d true .bool),(11,.d true .bool),(12,.d true qT0),(13,.d true qT0)],[.arr 33 (.fz true) [3] qT1]⟩
def q8g {R:Type} (rec:((Unit×Int×Int×Int×(Unit)×Unit)×(qL2×Unit))→Option qL2) (a_1:Int) (b_2:Int) (limit_3:Int) (length_12:Int) (pivot_13:Int) (data_0:qL2) (dn:(Int×Int×Bool×Bool×qL2)→Option R) (rt:qL2→Option R):Option R :=
 bnd (q8s a_1 b_2 pivot_13 data_0) fun r10 =>
 ckB (decide (r10.2.2.length=data_0.length)) <|
 ckB (inR .i64 (r10.1 - a_1)) <|
 ckB (inR .i64 (b_2 - r10.1)) <|
 ckB (!decide ((8:Int)=0)) <|
 ckB (inR .i64 (Int.tdiv length_12 8)) <|
 bif decide ((r10.1 - a_1) < (b_2 - r10.1)) then
   bnd (rec (((),a_1,r10.1,limit_3,(()),()),(r10.2.2,()))) fun r11 =>
   ckB (decide (r11.length=r10.2.2.length)) <|
   ckB (inR .i64 (r10.1+1)) <|
   dn ((r10.1+1),b_2,decide ((Int.tdiv length_12 8)≤(r10.1 - a_1)),r10.2.1,r11)
 else
   ckB (inR .i64 (r10.1+1)) <|
   bnd (rec (((),(r10.1+1),b_2,limit_3,(()),()),(r10.2.2,()))) fun r12 =>
   ckB (decide (r12.length=r10.2.2.length)) <|
   dn (a_1,r10.1,decide ((Int.tdiv length_12 8)≤(b_2 - r10.1)),r10.2.1,r12)
def q7 (rec:((Unit×Int×Int×Int×(Unit)×Unit)×(qL2×Unit))→Option qL2) (a_1:Int) (b_2:Int) (limit_3:Int) (length_12:Int) (pivot_13:Int) (data_0:qL2):Option ((Int×Int×Bool×Bool×qL2)⊕qL2) :=
 q8g rec a_1 b_2 limit_3 length_12 pivot_13 data_0 (fun e=>some (.inl e)) (fun r=>some (.inr r))
def qll:Shp:=⟨[(0,.own 0),(1,.d true qT0),(2,.d true qT0),(3,.d true qT0),(4,.fn 53 .nil),(12,.d true qT0),(13,.d true qT0)],[.arr 33 (.fz true) [3] qT1]⟩
def qmp:Shp:=⟨[(0,.own 0),(1,.d true qT0),(2,.d true qT0),(3,.d true qT0),(4,.fn 53 .nil),(10,.d true .bool),(11,.d true .bool)],[.arr 33 (.fz true) [3] qT1]⟩
def q8m {R:Type} (rec:((Unit×Int×Int×Int×(Unit)×Unit)×(qL2×Unit))→Option qL2)  (a_1:Int) (b_2:Int) (limit_3:Int) (wasBalanced_10:Bool) (wasPartitioned_11:Bool) (data_0:qL2) (nx:(Int×Int×Int×Bool×Bool×qL2)→Option R) (dn:Unit→Option R) (rt:qL2→Option R):Option R :=
 ckB (inR .i64 (b_2 - a_1)) <|
 bif decide ((b_2 - a_1)≤12) then
   bnd (q6p a_1 b_2 data_0) fun r1 =>
   ckB (decide (r1.length=data_0.length)) <|
   rt r1
 else
   bif decide (limit_3=0) then
     bnd (qaq a_1 b_2 data_0) fun r2 =>
     ckB (decide (r2.length=data_0.length)) <|
     rt r2
   else
     bif (!wasBalanced_10) then
       bnd (q6r a_1 b_2 data_0) fun r3 =>
       ckB (decide (r3.length=data_0.length)) <|
       ckB (inR .i64 (limit_3 - 1)) <|
       bnd (q3o r3 a_1 b_2) fun r4 =>
       bif decide (r4.2=2) then
         bnd (q39 a_1 b_2 r3) fun r5 =>
         ckB (decide (r5.length=r3.length)) <|
         ckB (inR .i64 (b_2 - 1)) <|
         ckB (inR .i64 (r4.1 - a_1)) <|
         ckB (inR .i64 ((b_2 - 1) - (r4.1 - a_1))) <|
         bif wasBalanced_10 then
           bif wasPartitioned_11 then
             bnd (ql rec a_1 b_2 (limit_3 - 1) wasBalanced_10 wasPartitioned_11 (b_2 - a_1) ((b_2 - 1) - (r4.1 - a_1)) (decide ((1:Int)=1)) r5) fun oe7 =>
             lk oe7 (fun e7 =>
               bif decide ((0:Int) < a_1) then
                 ckB (inR .i64 (a_1 - 1)) <|
                 ckB (ix (a_1 - 1) e7.length) <|
                 ckB (ix (a_1 - 1) e7.length) <|
                 ckB (ix ((b_2 - 1) - (r4.1 - a_1)) e7.length) <|
                 ckB (ix ((b_2 - 1) - (r4.1 - a_1)) e7.length) <|
                 bnd (qk (e7.getD (Int.toNat (a_1 - 1)) []) (e7.getD (Int.toNat ((b_2 - 1) - (r4.1 - a_1))) [])) fun r8 =>
                 bif (!(decide (r8 < 0))) then
                   bnd (qj a_1 b_2 ((b_2 - 1) - (r4.1 - a_1)) e7) fun r9 =>
                   ckB (decide (r9.2.length=e7.length)) <|
                   nx (r9.1,b_2,(limit_3 - 1),wasBalanced_10,wasPartitioned_11,r9.2)
                 else
                   bnd (q7 rec a_1 b_2 (limit_3 - 1) (b_2 - a_1) ((b_2 - 1) - (r4.1 - a_1)) e7) fun oe13 =>
                   lk oe13 (fun e13 =>
                     nx (e13.1,e13.2.1,(limit_3 - 1),e13.2.2.1,e13.2.2.2.1,e13.2.2.2.2)) (fun r=>rt r)
               else
                 bnd (q7 rec a_1 b_2 (limit_3 - 1) (b_2 - a_1) ((b_2 - 1) - (r4.1 - a_1)) e7) fun oe14 =>
                 lk oe14 (fun e14 =>
                   nx (e14.1,e14.2.1,(limit_3 - 1),e14.2.2.1,e14.2.2.2.1,e14.2.2.2.2)) (fun r=>rt r)) (fun r=>rt r)
           else
             bnd (ql rec a_1 b_2 (limit_3 - 1) wasBalanced_10 wasPartitioned_11 (b_2 - a_1) ((b_2 - 1) - (r4.1 - a_1)) false r5) fun oe15 =>
             lk oe15 (fun e15 =>
               bif decide ((0:Int) < a_1) then
                 ckB (inR .i64 (a_1 - 1)) <|
                 ckB (ix (a_1 - 1) e15.length) <|
                 ckB (ix (a_1 - 1) e15.length) <|
                 ckB (ix ((b_2 - 1) - (r4.1 - a_1)) e15.length) <|
                 ckB (ix ((b_2 - 1) - (r4.1 - a_1)) e15.length) <|
                 bnd (qk (e15.getD (Int.toNat (a_1 - 1)) []) (e15.getD (Int.toNat ((b_2 - 1) - (r4.1 - a_1))) [])) fun r16 =>
                 bif (!(decide (r16 < 0))) then
                   bnd (qj a_1 b_2 ((b_2 - 1) - (r4.1 - a_1)) e15) fun r17 =>
                   ckB (decide (r17.2.length=e15.length)) <|
                   nx (r17.1,b_2,(limit_3 - 1),wasBalanced_10,wasPartitioned_11,r17.2)
                 else
                   bnd (q7 rec a_1 b_2 (limit_3 - 1) (b_2 - a_1) ((b_2 - 1) - (r4.1 - a_1)) e15) fun oe18 =>
                   lk oe18 (fun e18 =>
                     nx (e18.1,e18.2.1,(limit_3 - 1),e18.2.2.1,e18.2.2.2.1,e18.2.2.2.2)) (fun r=>rt r)
               else
                 bnd (q7 rec a_1 b_2 (limit_3 - 1) (b_2 - a_1) ((b_2 - 1) - (r4.1 - a_1)) e15) fun oe19 =>
                 lk oe19 (fun e19 =>
                   nx (e19.1,e19.2.1,(limit_3 - 1),e19.2.2.1,e19.2.2.2.1,e19.2.2.2.2)) (fun r=>rt r)) (fun r=>rt r)
         else
           bnd (ql rec a_1 b_2 (limit_3 - 1) wasBalanced_10 wasPartitioned_11 (b_2 - a_1) ((b_2 - 1) - (r4.1 - a_1)) false r5) fun oe20 =>
           lk oe20 (fun e20 =>
             bif decide ((0:Int) < a_1) then
               ckB (inR .i64 (a_1 - 1)) <|
               ckB (ix (a_1 - 1) e20.length) <|
               ckB (ix (a_1 - 1) e20.length) <|
               ckB (ix ((b_2 - 1) - (r4.1 - a_1)) e20.length) <|
               ckB (ix ((b_2 - 1) - (r4.1 - a_1)) e20.length) <|
               bnd (qk (e20.getD (Int.toNat (a_1 - 1)) []) (e20.getD (Int.toNat ((b_2 - 1) - (r4.1 - a_1))) [])) fun r21 =>
               bif (!(decide (r21 < 0))) then
                 bnd (qj a_1 b_2 ((b_2 - 1) - (r4.1 - a_1)) e20) fun r22 =>
                 ckB (decide (r22.2.length=e20.length)) <|
                 nx (r22.1,b_2,(limit_3 - 1),wasBalanced_10,wasPartitioned_11,r22.2)
               else
                 bnd (q7 rec a_1 b_2 (limit_3 - 1) (b_2 - a_1) ((b_2 - 1) - (r4.1 - a_1)) e20) fun oe23 =>
                 lk oe23 (fun e23 =>
                   nx (e23.1,e23.2.1,(limit_3 - 1),e23.2.2.1,e23.2.2.2.1,e23.2.2.2.2)) (fun r=>rt r)
             else
               bnd (q7 rec a_1 b_2 (limit_3 - 1) (b_2 - a_1) ((b_2 - 1) - (r4.1 - a_1)) e20) fun oe24 =>
               lk oe24 (fun e24 =>
                 nx (e24.1,e24.2.1,(limit_3 - 1),e24.2.2.1,e24.2.2.2.1,e24.2.2.2.2)) (fun r=>rt r)) (fun r=>rt r)
       else
         bif wasBalanced_10 then
           bif wasPartitioned_11 then
             bnd (ql rec a_1 b_2 (limit_3 - 1) wasBalanced_10 wasPartitioned_11 (b_2 - a_1) r4.1 (decide (r4.2=1)) r3) fun oe25 =>
             lk oe25 (fun e25 =>
               bif decide ((0:Int) < a_1) then
                 ckB (inR .i64 (a_1 - 1)) <|
                 ckB (ix (a_1 - 1) e25.length) <|
                 ckB (ix (a_1 - 1) e25.length) <|
                 ckB (ix r4.1 e25.length) <|
                 ckB (ix r4.1 e25.length) <|
                 bnd (qk (e25.getD (Int.toNat (a_1 - 1)) []) (e25.getD (Int.toNat r4.1) [])) fun r26 =>
                 bif (!(decide (r26 < 0))) then
                   bnd (qj a_1 b_2 r4.1 e25) fun r27 =>
                   ckB (decide (r27.2.length=e25.length)) <|
                   nx (r27.1,b_2,(limit_3 - 1),wasBalanced_10,wasPartitioned_11,r27.2)
                 else
                   bnd (q7 rec a_1 b_2 (limit_3 - 1) (b_2 - a_1) r4.1 e25) fun oe28 =>
                   lk oe28 (fun e28 =>
                     nx (e28.1,e28.2.1,(limit_3 - 1),e28.2.2.1,e28.2.2.2.1,e28.2.2.2.2)) (fun r=>rt r)
               else
                 bnd (q7 rec a_1 b_2 (limit_3 - 1) (b_2 - a_1) r4.1 e25) fun oe29 =>
                 lk oe29 (fun e29 =>
                   nx (e29.1,e29.2.1,(limit_3 - 1),e29.2.2.1,e29.2.2.2.1,e29.2.2.2.2)) (fun r=>rt r)) (fun r=>rt r)
           else
             bnd (ql rec a_1 b_2 (limit_3 - 1) wasBalanced_10 wasPartitioned_11 (b_2 - a_1) r4.1 false r3) fun oe30 =>
             lk oe30 (fun e30 =>
               bif decide ((0:Int) < a_1) then
                 ckB (inR .i64 (a_1 - 1)) <|
                 ckB (ix (a_1 - 1) e30.length) <|
                 ckB (ix (a_1 - 1) e30.length) <|
                 ckB (ix r4.1 e30.length) <|
                 ckB (ix r4.1 e30.length) <|
                 bnd (qk (e30.getD (Int.toNat (a_1 - 1)) []) (e30.getD (Int.toNat r4.1) [])) fun r31 =>
                 bif (!(decide (r31 < 0))) then
                   bnd (qj a_1 b_2 r4.1 e30) fun r32 =>
                   ckB (decide (r32.2.length=e30.length)) <|
                   nx (r32.1,b_2,(limit_3 - 1),wasBalanced_10,wasPartitioned_11,r32.2)
                 else
                   bnd (q7 rec a_1 b_2 (limit_3 - 1) (b_2 - a_1) r4.1 e30) fun oe33 =>
                   lk oe33 (fun e33 =>
                     nx (e33.1,e33.2.1,(limit_3 - 1),e33.2.2.1,e33.2.2.2.1,e33.2.2.2.2)) (fun r=>rt r)
               else
                 bnd (q7 rec a_1 b_2 (limit_3 - 1) (b_2 - a_1) r4.1 e30) fun oe34 =>
                 lk oe34 (fun e34 =>
                   nx (e34.1,e34.2.1,(limit_3 - 1),e34.2.2.1,e34.2.2.2.1,e34.2.2.2.2)) (fun r=>rt r)) (fun r=>rt r)
         else
           bnd (ql rec a_1 b_2 (limit_3 - 1) wasBalanced_10 wasPartitioned_11 (b_2 - a_1) r4.1 false r3) fun oe35 =>
           lk oe35 (fun e35 =>
             bif decide ((0:Int) < a_1) then
               ckB (inR .i64 (a_1 - 1)) <|
               ckB (ix (a_1 - 1) e35.length) <|
               ckB (ix (a_1 - 1) e35.length) <|
               ckB (ix r4.1 e35.length) <|
               ckB (ix r4.1 e35.length) <|
               bnd (qk (e35.getD (Int.toNat (a_1 - 1)) []) (e35.getD (Int.toNat r4.1) [])) fun r36 =>
               bif (!(decide (r36 < 0))) then
                 bnd (qj a_1 b_2 r4.1 e35) fun r37 =>
                 ckB (decide (r37.2.length=e35.length)) <|
                 nx (r37.1,b_2,(limit_3 - 1),wasBalanced_10,wasPartitioned_11,r37.2)
               else
                 bnd (q7 rec a_1 b_2 (limit_3 - 1) (b_2 - a_1) r4.1 e35) fun oe38 =>
                 lk oe38 (fun e38 =>
                   nx (e38.1,e38.2.1,(limit_3 - 1),e38.2.2.1,e38.2.2.2.1,e38.2.2.2.2)) (fun r=>rt r)
             else
               bnd (q7 rec a_1 b_2 (limit_3 - 1) (b_2 - a_1) r4.1 e35) fun oe39 =>
               lk oe39 (fun e39 =>
                 nx (e39.1,e39.2.1,(limit_3 - 1),e39.2.2.1,e39.2.2.2.1,e39.2.2.2.2)) (fun r=>rt r)) (fun r=>rt r)
     else
       bnd (q3o data_0 a_1 b_2) fun r40 =>
       bif decide (r40.2=2) then
         bnd (q39 a_1 b_2 data_0) fun r41 =>
         ckB (decide (r41.length=data_0.length)) <|
         ckB (inR .i64 (b_2 - 1)) <|
         ckB (inR .i64 (r40.1 - a_1)) <|
         ckB (inR .i64 ((b_2 - 1) - (r40.1 - a_1))) <|
         bif wasBalanced_10 then
           bif wasPartitioned_11 then
             bnd (ql rec a_1 b_2 limit_3 wasBalanced_10 wasPartitioned_11 (b_2 - a_1) ((b_2 - 1) - (r40.1 - a_1)) (decide ((1:Int)=1)) r41) fun oe42 =>
             lk oe42 (fun e42 =>
               bif decide ((0:Int) < a_1) then
                 ckB (inR .i64 (a_1 - 1)) <|
                 ckB (ix (a_1 - 1) e42.length) <|
                 ckB (ix (a_1 - 1) e42.length) <|
                 ckB (ix ((b_2 - 1) - (r40.1 - a_1)) e42.length) <|
                 ckB (ix ((b_2 - 1) - (r40.1 - a_1)) e42.length) <|
                 bnd (qk (e42.getD (Int.toNat (a_1 - 1)) []) (e42.getD (Int.toNat ((b_2 - 1) - (r40.1 - a_1))) [])) fun r43 =>
                 bif (!(decide (r43 < 0))) then
                   bnd (qj a_1 b_2 ((b_2 - 1) - (r40.1 - a_1)) e42) fun r44 =>
                   ckB (decide (r44.2.length=e42.length)) <|
                   nx (r44.1,b_2,limit_3,wasBalanced_10,wasPartitioned_11,r44.2)
                 else
                   bnd (q7 rec a_1 b_2 limit_3 (b_2 - a_1) ((b_2 - 1) - (r40.1 - a_1)) e42) fun oe45 =>
                   lk oe45 (fun e45 =>
                     nx (e45.1,e45.2.1,limit_3,e45.2.2.1,e45.2.2.2.1,e45.2.2.2.2)) (fun r=>rt r)
               else
                 bnd (q7 rec a_1 b_2 limit_3 (b_2 - a_1) ((b_2 - 1) - (r40.1 - a_1)) e42) fun oe46 =>
                 lk oe46 (fun e46 =>
                   nx (e46.1,e46.2.1,limit_3,e46.2.2.1,e46.2.2.2.1,e46.2.2.2.2)) (fun r=>rt r)) (fun r=>rt r)
           else
             bnd (ql rec a_1 b_2 limit_3 wasBalanced_10 wasPartitioned_11 (b_2 - a_1) ((b_2 - 1) - (r40.1 - a_1)) false r41) fun oe47 =>
             lk oe47 (fun e47 =>
               bif decide ((0:Int) < a_1) then
                 ckB (inR .i64 (a_1 - 1)) <|
                 ckB (ix (a_1 - 1) e47.length) <|
                 ckB (ix (a_1 - 1) e47.length) <|
                 ckB (ix ((b_2 - 1) - (r40.1 - a_1)) e47.length) <|
                 ckB (ix ((b_2 - 1) - (r40.1 - a_1)) e47.length) <|
                 bnd (qk (e47.getD (Int.toNat (a_1 - 1)) []) (e47.getD (Int.toNat ((b_2 - 1) - (r40.1 - a_1))) [])) fun r48 =>
                 bif (!(decide (r48 < 0))) then
                   bnd (qj a_1 b_2 ((b_2 - 1) - (r40.1 - a_1)) e47) fun r49 =>
                   ckB (decide (r49.2.length=e47.length)) <|
                   nx (r49.1,b_2,limit_3,wasBalanced_10,wasPartitioned_11,r49.2)
                 else
                   bnd (q7 rec a_1 b_2 limit_3 (b_2 - a_1) ((b_2 - 1) - (r40.1 - a_1)) e47) fun oe50 =>
                   lk oe50 (fun e50 =>
                     nx (e50.1,e50.2.1,limit_3,e50.2.2.1,e50.2.2.2.1,e50.2.2.2.2)) (fun r=>rt r)
               else
                 bnd (q7 rec a_1 b_2 limit_3 (b_2 - a_1) ((b_2 - 1) - (r40.1 - a_1)) e47) fun oe51 =>
                 lk oe51 (fun e51 =>
                   nx (e51.1,e51.2.1,limit_3,e51.2.2.1,e51.2.2.2.1,e51.2.2.2.2)) (fun r=>rt r)) (fun r=>rt r)
         else
           bnd (ql rec a_1 b_2 limit_3 wasBalanced_10 wasPartitioned_11 (b_2 - a_1) ((b_2 - 1) - (r40.1 - a_1)) false r41) fun oe52 =>
           lk oe52 (fun e52 =>
             bif decide ((0:Int) < a_1) then
               ckB (inR .i64 (a_1 - 1)) <|
               ckB (ix (a_1 - 1) e52.length) <|
               ckB (ix (a_1 - 1) e52.length) <|
               ckB (ix ((b_2 - 1) - (r40.1 - a_1)) e52.length) <|
               ckB (ix ((b_2 - 1) - (r40.1 - a_1)) e52.length) <|
               bnd (qk (e52.getD (Int.toNat (a_1 - 1)) []) (e52.getD (Int.toNat ((b_2 - 1) - (r40.1 - a_1))) [])) fun r53 =>
               bif (!(decide (r53 < 0))) then
                 bnd (qj a_1 b_2 ((b_2 - 1) - (r40.1 - a_1)) e52) fun r54 =>
                 ckB (decide (r54.2.length=e52.length)) <|
                 nx (r54.1,b_2,limit_3,wasBalanced_10,wasPartitioned_11,r54.2)
               else
                 bnd (q7 rec a_1 b_2 limit_3 (b_2 - a_1) ((b_2 - 1) - (r40.1 - a_1)) e52) fun oe55 =>
                 lk oe55 (fun e55 =>
                   nx (e55.1,e55.2.1,limit_3,e55.2.2.1,e55.2.2.2.1,e55.2.2.2.2)) (fun r=>rt r)
             else
               bnd (q7 rec a_1 b_2 limit_3 (b_2 - a_1) ((b_2 - 1) - (r40.1 - a_1)) e52) fun oe56 =>
               lk oe56 (fun e56 =>
                 nx (e56.1,e56.2.1,limit_3,e56.2.2.1,e56.2.2.2.1,e56.2.2.2.2)) (fun r=>rt r)) (fun r=>rt r)
       else
         bif wasBalanced_10 then
           bif wasPartitioned_11 then
             bnd (ql rec a_1 b_2 limit_3 wasBalanced_10 wasPartitioned_11 (b_2 - a_1) r40.1 (decide (r40.2=1)) data_0) fun oe57 =>
             lk oe57 (fun e57 =>
               bif decide ((0:Int) < a_1) then
                 ckB (inR .i64 (a_1 - 1)) <|
                 ckB (ix (a_1 - 1) e57.length) <|
                 ckB (ix (a_1 - 1) e57.length) <|
                 ckB (ix r40.1 e57.length) <|
                 ckB (ix r40.1 e57.length) <|
                 bnd (qk (e57.getD (Int.toNat (a_1 - 1)) []) (e57.getD (Int.toNat r40.1) [])) fun r58 =>
                 bif (!(decide (r58 < 0))) then
                   bnd (qj a_1 b_2 r40.1 e57) fun r59 =>
                   ckB (decide (r59.2.length=e57.length)) <|
                   nx (r59.1,b_2,limit_3,wasBalanced_10,wasPartitioned_11,r59.2)
                 else
                   bnd (q7 rec a_1 b_2 limit_3 (b_2 - a_1) r40.1 e57) fun oe60 =>
                   lk oe60 (fun e60 =>
                     nx (e60.1,e60.2.1,limit_3,e60.2.2.1,e60.2.2.2.1,e60.2.2.2.2)) (fun r=>rt r)
               else
                 bnd (q7 rec a_1 b_2 limit_3 (b_2 - a_1) r40.1 e57) fun oe61 =>
                 lk oe61 (fun e61 =>
                   nx (e61.1,e61.2.1,limit_3,e61.2.2.1,e61.2.2.2.1,e61.2.2.2.2)) (fun r=>rt r)) (fun r=>rt r)
           else
             bnd (ql rec a_1 b_2 limit_3 wasBalanced_10 wasPartitioned_11 (b_2 - a_1) r40.1 false data_0) fun oe62 =>
             lk oe62 (fun e62 =>
               bif decide ((0:Int) < a_1) then
                 ckB (inR .i64 (a_1 - 1)) <|
                 ckB (ix (a_1 - 1) e62.length) <|
                 ckB (ix (a_1 - 1) e62.length) <|
                 ckB (ix r40.1 e62.length) <|
                 ckB (ix r40.1 e62.length) <|
                 bnd (qk (e62.getD (Int.toNat (a_1 - 1)) []) (e62.getD (Int.toNat r40.1) [])) fun r63 =>
                 bif (!(decide (r63 < 0))) then
                   bnd (qj a_1 b_2 r40.1 e62) fun r64 =>
                   ckB (decide (r64.2.length=e62.length)) <|
                   nx (r64.1,b_2,limit_3,wasBalanced_10,wasPartitioned_11,r64.2)
                 else
                   bnd (q7 rec a_1 b_2 limit_3 (b_2 - a_1) r40.1 e62) fun oe65 =>
                   lk oe65 (fun e65 =>
                     nx (e65.1,e65.2.1,limit_3,e65.2.2.1,e65.2.2.2.1,e65.2.2.2.2)) (fun r=>rt r)
               else
                 bnd (q7 rec a_1 b_2 limit_3 (b_2 - a_1) r40.1 e62) fun oe66 =>
                 lk oe66 (fun e66 =>
                   nx (e66.1,e66.2.1,limit_3,e66.2.2.1,e66.2.2.2.1,e66.2.2.2.2)) (fun r=>rt r)) (fun r=>rt r)
         else
           bnd (ql rec a_1 b_2 limit_3 wasBalanced_10 wasPartitioned_11 (b_2 - a_1) r40.1 false data_0) fun oe67 =>
           lk oe67 (fun e67 =>
             bif decide ((0:Int) < a_1) then
               ckB (inR .i64 (a_1 - 1)) <|
               ckB (ix (a_1 - 1) e67.length) <|
               ckB (ix (a_1 - 1) e67.length) <|
               ckB (ix r40.1 e67.length) <|
               ckB (ix r40.1 e67.length) <|
               bnd (qk (e67.getD (Int.toNat (a_1 - 1)) []) (e67.getD (Int.toNat r40.1) [])) fun r68 =>
               bif (!(decide (r68 < 0))) then
                 bnd (qj a_1 b_2 r40.1 e67) fun r69 =>
                 ckB (decide (r69.2.length=e67.length)) <|
                 nx (r69.1,b_2,limit_3,wasBalanced_10,wasPartitioned_11,r69.2)
               else
                 bnd (q7 rec a_1 b_2 limit_3 (b_2 - a_1) r40.1 e67) fun oe70 =>
                 lk oe70 (fun e70 =>
                   nx (e70.1,e70.2.1,limit_3,e70.2.2.1,e70.2.2.2.1,e70.2.2.2.2)) (fun r=>rt r)
             else
               bnd (q7 rec a_1 b_2 limit_3 (b_2 - a_1) r40.1 e67) fun oe71 =>
               lk oe71 (fun e71 =>
                 nx (e71.1,e71.2.1,limit_3,e71.2.2.1,e71.2.2.2.1,e71.2.2.2.2)) (fun r=>rt r)) (fun r=>rt r)
def qnm (rec:((Unit×Int×Int×Int×(Unit)×Unit)×(qL2×Unit))→Option qL2)  (s0:(Int×Int×Int×Bool×Bool×qL2)):Option (Unit⊕qL2) :=
 loopM (fun a=>q8m rec  a.1 a.2.1 a.2.2.1 a.2.2.2.1 a.2.2.2.2.1 a.2.2.2.2.2 (fun a'=>some (.next a')) (fun e=>some (.done e)) (fun r=>some (.ret r))) s0
def qm9:Shp:=⟨[(0,.own 0),(1,.d true qT0),(2,.d true qT0),(3,.d true qT0),(4,.fn 53 .nil),(10,.d true .bool),(11,.d true .bool)],[.arr 33 (.fz true) [3] qT1]⟩
def qmo:Shp:=⟨[],[]⟩
def q4n (rec:((Unit×Int×Int×Int×(Unit)×Unit)×(qL2×Unit))→Option qL2) (a_1:Int) (b_2:Int) (limit_3:Int) (data_0:qL2):Option qL2 :=
 bnd (qnm rec  (a_1,b_2,limit_3,true,true,data_0)) fun oe72 =>
 lk oe72 (fun e72 =>
   none) (fun r=>some r)
def qap (a:((Unit×Int×Int×Int×(Unit)×Unit)×(qL2×Unit))):Option qL2 :=
 recM (fun (rec:((Unit×Int×Int×Int×(Unit)×Unit)×(qL2×Unit))→Option qL2) (a:((Unit×Int×Int×Int×(Unit)×Unit)×(qL2×Unit)))=>q4n rec a.1.2.1 a.1.2.2.1 a.1.2.2.2.1 a.2.1) many a
def qpo (a_1:Int) (b_2:Int) (limit_3:Int) (data_0:qL2):Option qL2 :=
 qap (((),a_1,b_2,limit_3,(()),()),(data_0,()))
def qdn (x_0:qL2):Option qL2 :=
 bnd (qzb (IntKind.wrap .u64 (x_0.length:Int))) fun r1 =>
 bnd (qpo 0 (x_0.length:Int) r1 x_0) fun r2 =>
 ckB (decide (r2.length=x_0.length)) <|
 some r2
def qrq {R:Type} (s_6:Int) (v_18:qL1) (v_19:Int) (v_20:Int) (v_25:Int) (n_10:Int) (n_11:(List Trans)) (n_12:Int) (n_13:Int) (out_4:qL2) (v_26:Int) (l_7:qL1) (nx:(Int×qL1)→Option R) (dn:qL1→Option R) (rt:(Int×qL2)→Option R):Option R :=
 bif decide (v_26 < v_25) then
   ckB (decide (0≤v_26)) <|
   bif decide ((bitI .and .u32 (shrI .u32 s_6 v_26) 1)=1) then
     ckB (room (l_7.length+1) 8) <|
     ckB (inR .i64 (v_26+1)) <|
     nx ((v_26+1),(l_7++[v_26]))
   else
     ckB (inR .i64 (v_26+1)) <|
     nx ((v_26+1),l_7)
 else
   dn l_7
def q15c (s_6:Int) (v_18:qL1) (v_19:Int) (v_20:Int) (v_25:Int) (n_10:Int) (n_11:(List Trans)) (n_12:Int) (n_13:Int) (out_4:qL2) (s0:(Int×qL1)):Option (qL1⊕(Int×qL2)) :=
 loopM (fun a=>qrq s_6 v_18 v_19 v_20 v_25 n_10 n_11 n_12 n_13 out_4 a.1 a.2 (fun a'=>some (.next a')) (fun e=>some (.done e)) (fun r=>some (.ret r))) s0
def q13e:Shp:=⟨[(1,.ptr 0),(4,.nl false (.own 1)),(6,.d true (.int .u32)),(7,.nl false (.own 2)),(18,.nl false (.d true (.slice (.int .u32)))),(19,.d true qT0),(20,.d true qT0),(25,.d true qT0),(26,.d true qT0)],[.cs 24 4 1 (.cons (.d true qT0) (.cons (.d false (.slice Trans.ty)) (.cons (.d true qT0) (.cons (.d true qT0) .nil)))),.arr 33 (.fz true) [3] qT1,.arr 3 (.fz true) [0] qT0]⟩
def q138:Shp:=⟨[(1,.ptr 0),(4,.nl false (.own 1)),(7,.nl false (.own 2)),(18,.nl false (.d true (.slice (.int .u32)))),(19,.d true qT0),(20,.d true qT0)],[.cs 24 4 1 (.cons (.d true qT0) (.cons (.d false (.slice Trans.ty)) (.cons (.d true qT0) (.cons (.d true qT0) .nil)))),.arr 33 (.fz true) [3] qT1,.arr 3 (.fz true) [0] qT0]⟩
def qrc {R:Type} (v_18:qL1) (v_19:Int) (n_10:Int) (n_11:(List Trans)) (n_12:Int) (n_13:Int) (v_20:Int) (out_4:qL2) (nx:(Int×qL2)→Option R) (dn:qL2→Option R) (rt:(Int×qL2)→Option R):Option R :=
 bif decide (v_20 < v_19) then
   ckB (ix v_20 v_18.length) <|
   ckB (ix v_20 v_18.length) <|
   bnd (q15c (v_18.getD (Int.toNat v_20) 0) v_18 v_19 v_20 n_10 n_10 n_11 n_12 n_13 out_4 (0,[])) fun oe3 =>
   lk oe3 (fun e3 =>
     ckB (room (out_4.length+1) 24) <|
     ckB (inR .i64 (v_20+1)) <|
     nx ((v_20+1),(out_4++[e3]))) (fun r=>rt r)
 else
   dn out_4
def q169 (v_18:qL1) (v_19:Int) (n_10:Int) (n_11:(List Trans)) (n_12:Int) (n_13:Int) (s0:(Int×qL2)):Option (qL2⊕(Int×qL2)) :=
 loopM (fun a=>qrc v_18 v_19 n_10 n_11 n_12 n_13 a.1 a.2 (fun a'=>some (.next a')) (fun e=>some (.done e)) (fun r=>some (.ret r))) s0
def q12w:Shp:=⟨[(1,.ptr 0),(4,.nl false (.own 1)),(18,.nl false (.d true (.slice (.int .u32)))),(19,.d true qT0),(20,.d true qT0)],[.cs 24 4 1 (.cons (.d true qT0) (.cons (.d false (.slice Trans.ty)) (.cons (.d true qT0) (.cons (.d true qT0) .nil)))),.arr 33 (.fz true) [3] qT1]⟩
def q13r:Shp:=⟨[(4,.nl false (.own 0))],[.arr 33 (.fz true) [3] qT1]⟩
def qxi (n_0:Net):Option (Int×qL2) :=
 bnd (q2i n_0) fun r1 =>
 bif (!r1) then
   some (1,[])
 else
   bif decide ((16:Int) < n_0.1) then
     some (13,[])
   else
     bnd (qxe n_0) fun r2 =>
     bnd (q169 r2 (r2.length:Int) n_0.1 n_0.2.1 n_0.2.2.1 n_0.2.2.2.1 (0,[])) fun oe4 =>
     lk oe4 (fun e4 =>
       bnd (qdn e4) fun r5 =>
       ckB (decide (r5.length=e4.length)) <|
       some (0,r5)) (fun r=>some r)
def qpy (s_0:qL1) (p_1:Net):Option Bool :=
 ckB (ix 0 1) <|
 bnd (qq s_0 p_1.2.2.1) fun r1 =>
 some (!r1)
def q93 {R:Type} (s_0:qL2) (f_1c0:Net) (v_7:Int) (v_8:Int) (nx:Int→Option R) (dn:Unit→Option R) (rt:Int→Option R):Option R :=
 bif decide (v_8 < v_7) then
   ckB (ix v_8 s_0.length) <|
   ckB (ix v_8 s_0.length) <|
   bnd (qpy (s_0.getD (Int.toNat v_8) []) f_1c0) fun r1 =>
   bif r1 then
     rt v_8
   else
     ckB (inR .i64 (v_8+1)) <|
     nx (v_8+1)
 else
   dn ()
def qof (s_0:qL2) (f_1c0:Net) (v_7:Int) (s0:Int):Option (Unit⊕Int) :=
 loopM (fun a=>q93 s_0 f_1c0 v_7 a (fun a'=>some (.next a')) (fun e=>some (.done e)) (fun r=>some (.ret r))) s0
def qno:Shp:=⟨[(0,.d false qT2),(1,.fn 29 (.cons (.rp false Net.ty) .nil)),(7,.d true qT0),(8,.d true qT0)],[]⟩
def qmy:Shp:=⟨[],[]⟩
def qcz (s_0:qL2) (f_1c0:Net):Option Int :=
 bnd (qof s_0 f_1c0 (s_0.length:Int) 0) fun oe2 =>
 lk oe2 (fun e2 =>
   some (-1)) (fun r=>some r)
def q8z (s_0:qL2) (f_1c0:Net):Option Bool :=
 bnd (qcz s_0 f_1c0) fun r1 =>
 some (decide ((0:Int)≤r1))
def qjn (n_0:Net):Option (Bool×Int) :=
 bnd (qtt n_0) fun r1 =>
 bif (!decide (r1.2=0)) then
   some (false,r1.2)
 else
   bnd (q2t n_0) fun r2 =>
   bif (!r2) then
     some (false,19)
   else
     bnd (ql8 r1.1) fun r3 =>
     bif (!decide (r3.2=0)) then
       some (false,r3.2)
     else
       bif (!r3.1) then
         some (false,r3.2)
       else
         bnd (qxi r1.1) fun r4 =>
         bif (!decide (r4.1=0)) then
           some (false,r4.1)
         else
           bnd (q8z r4.2 n_0) fun r5 =>
           some ((!r5),0)
def qje (n_0:Net):Option (Bool×Int) :=
 bnd (q2i n_0) fun r1 =>
 bif (!r1) then
   some (false,1)
 else
   bnd (q2t n_0) fun r2 =>
   some (r2,0)
def qwv  : Option Bool :=
 bnd (qfg ⟨#[97]⟩ [0] [1]) fun r1 =>
 bnd (qfg ⟨#[98]⟩ [0] [2]) fun r2 =>
 bnd (qfg ⟨#[99]⟩ [1] [3]) fun r3 =>
 bnd (qfg ⟨#[100]⟩ [2] [3]) fun r4 =>
 bnd (qfg ⟨#[97]⟩ [0] [1,2]) fun r5 =>
 bnd (qfg ⟨#[98]⟩ [1] [3]) fun r6 =>
 bnd (qfg ⟨#[99]⟩ [2] [3]) fun r7 =>
 bnd (q80 (4,[r1.1,r2.1,r3.1,r4.1],0,3,())) fun r8 =>
 bnd (qjn (4,[r1.1,r2.1,r3.1,r4.1],0,3,())) fun r9 =>
 bnd (qjn (4,[r5.1,r6.1,r7.1],0,3,())) fun r10 =>
 bnd (qje (4,[r5.1,r6.1,r7.1],0,3,())) fun r11 =>
 bif decide (r8.1=0) then
   bif decide ((r8.2.length:Int)=4) then
     ckB (ix 0 r8.2.length) <|
     ckB (ix 0 r8.2.length) <|
     bnd (q2m (r8.2.getD 0 St8.z).2.1 [0,1]) fun r12 =>
     bif r12 then
       bif decide (r9.2=0) then
         bif r9.1 then
           bif decide (r10.2=0) then
             bif (!r10.1) then
               bif decide (r11.2=0) then
                 some r11.1
               else
                 some false
             else
               some false
           else
             some false
         else
           some false
       else
         some false
     else
       some false
   else
     some false
 else
   some false
def qjf (t_0:Trans):Option Bool :=
 bif decide ((60:Int) < (t_0.2.1.length:Int)) then
   some true
 else
   bif decide ((60:Int) < (t_0.2.2.1.length:Int)) then
     some true
   else
     some (decide ((100:Int) < (ByteArray.size t_0.1:Int)))
def q18 {R:Type} (s_0:(List Trans)) (v_7:Int) (v_8:Int) (nx:Int→Option R) (dn:Unit→Option R) (rt:Int→Option R):Option R :=
 bif decide (v_8 < v_7) then
   ckB (ix v_8 s_0.length) <|
   ckB (ix v_8 s_0.length) <|
   bnd (qjf (s_0.getD (Int.toNat v_8) Trans.z)) fun r1 =>
   bif r1 then
     rt v_8
   else
     ckB (inR .i64 (v_8+1)) <|
     nx (v_8+1)
 else
   dn ()
def q3z (s_0:(List Trans)) (v_7:Int) (s0:Int):Option (Unit⊕Int) :=
 loopM (fun a=>q18 s_0 v_7 a (fun a'=>some (.next a')) (fun e=>some (.done e)) (fun r=>some (.ret r))) s0
def qbe:Shp:=⟨[(0,.d false (.slice Trans.ty)),(1,.fn 17 .nil),(7,.d true qT0),(8,.d true qT0)],[]⟩
def qbl:Shp:=⟨[],[]⟩
def q1u (s_0:(List Trans)):Option Int :=
 bnd (q3z s_0 (s_0.length:Int) 0) fun oe2 =>
 lk oe2 (fun e2 =>
   some (-1)) (fun r=>some r)
def qn (s_0:(List Trans)):Option Bool :=
 bnd (q1u s_0) fun r1 =>
 some (decide ((0:Int)≤r1))
def qpr (n_0:Net):Option Bool :=
 bif decide ((12:Int) < n_0.1) then
   bif decide (n_0.1≤40) then
     some true
   else
     bif decide ((12:Int) < (n_0.2.1.length:Int)) then
       bif decide ((n_0.2.1.length:Int) < 60) then
         some true
       else
         bif decide ((80:Int) < (n_0.2.1.length:Int)) then
           some true
         else
           bnd (qn n_0.2.1) fun r1 =>
           some r1
     else
       bif decide ((80:Int) < (n_0.2.1.length:Int)) then
         some true
       else
         bnd (qn n_0.2.1) fun r2 =>
         some r2
 else
   bif decide ((12:Int) < (n_0.2.1.length:Int)) then
     bif decide ((n_0.2.1.length:Int) < 60) then
       some true
     else
       bif decide ((80:Int) < (n_0.2.1.length:Int)) then
         some true
       else
         bnd (qn n_0.2.1) fun r3 =>
         some r3
   else
     bif decide ((80:Int) < (n_0.2.1.length:Int)) then
       some true
     else
       bnd (qn n_0.2.1) fun r4 =>
       some r4
def qg3 (c_0:Int):Option Bool :=
 bif decide ((97:Int)≤c_0) then
   bif decide (c_0≤122) then
     some true
   else
     bif decide ((65:Int)≤c_0) then
       some (decide (c_0≤90))
     else
       some false
 else
   bif decide ((65:Int)≤c_0) then
     some (decide (c_0≤90))
   else
     some false
def q8v {R:Type} (s_0:ByteArray) (i_3:Int) (nx:Int→Option R) (dn:Unit→Option R) (rt:Bool→Option R):Option R :=
 bif decide (i_3 < (ByteArray.size s_0:Int)) then
   ckB (ix i_3 (ByteArray.size s_0)) <|
   bnd (qg3 (((ByteArray.data s_0).getD (Int.toNat i_3) 0).toNat:Int)) fun r2 =>
   bif (!r2) then
     bif decide ((48:Int)≤(((ByteArray.data s_0).getD (Int.toNat i_3) 0).toNat:Int)) then
       bif (!(decide ((((ByteArray.data s_0).getD (Int.toNat i_3) 0).toNat:Int)≤57))) then
         bif (!decide ((((ByteArray.data s_0).getD (Int.toNat i_3) 0).toNat:Int)=95)) then
           bif (!decide ((((ByteArray.data s_0).getD (Int.toNat i_3) 0).toNat:Int)=45)) then
             bif (!decide ((((ByteArray.data s_0).getD (Int.toNat i_3) 0).toNat:Int)=46)) then
               rt false
             else
               ckB (inR .i64 (i_3+1)) <|
               nx (i_3+1)
           else
             ckB (inR .i64 (i_3+1)) <|
             nx (i_3+1)
         else
           ckB (inR .i64 (i_3+1)) <|
           nx (i_3+1)
       else
         ckB (inR .i64 (i_3+1)) <|
         nx (i_3+1)
     else
       bif (!decide ((((ByteArray.data s_0).getD (Int.toNat i_3) 0).toNat:Int)=95)) then
         bif (!decide ((((ByteArray.data s_0).getD (Int.toNat i_3) 0).toNat:Int)=45)) then
           bif (!decide ((((ByteArray.data s_0).getD (Int.toNat i_3) 0).toNat:Int)=46)) then
             rt false
           else
             ckB (inR .i64 (i_3+1)) <|
             nx (i_3+1)
         else
           ckB (inR .i64 (i_3+1)) <|
           nx (i_3+1)
       else
         ckB (inR .i64 (i_3+1)) <|
         nx (i_3+1)
   else
     ckB (inR .i64 (i_3+1)) <|
     nx (i_3+1)
 else
   dn ()
def qx5 (s_0:ByteArray) (s0:Int):Option (Unit⊕Bool) :=
 loopM (fun a=>q8v s_0 a (fun a'=>some (.next a')) (fun e=>some (.done e)) (fun r=>some (.ret r))) s0
def q173:Shp:=⟨[(0,.d true .str),(3,.d true qT0)],[]⟩
def q180:Shp:=⟨[],[]⟩
def qnq (s_0:ByteArray):Option Bool :=
 bif decide ((ByteArray.size s_0:Int) < 1) then
   some false
 else
   bif decide ((40:Int) < (ByteArray.size s_0:Int)) then
     some false
   else
     ckB (ix 0 (ByteArray.size s_0)) <|
     bnd (qg3 (((ByteArray.data s_0).getD 0 0).toNat:Int)) fun r1 =>
     bif (!r1) then
       some false
     else
       bnd (qx5 s_0 1) fun oe3 =>
       lk oe3 (fun e3 =>
         some true) (fun r=>some r)
def q5x {R:Type} (n_0:Int) (l_1:qL1) (i_5:Int) (nx:Int→Option R) (dn:Unit→Option R) (rt:Bool→Option R):Option R :=
 bif decide (i_5 < (l_1.length:Int)) then
   ckB (ix i_5 l_1.length) <|
   ckB (ix i_5 l_1.length) <|
   bif decide ((l_1.getD (Int.toNat i_5) 0) < 0) then
     rt false
   else
     ckB (ix i_5 l_1.length) <|
     ckB (ix i_5 l_1.length) <|
     bif decide (n_0≤(l_1.getD (Int.toNat i_5) 0)) then
       rt false
     else
       bif decide ((0:Int) < i_5) then
         ckB (inR .i64 (i_5 - 1)) <|
         ckB (ix (i_5 - 1) l_1.length) <|
         ckB (ix (i_5 - 1) l_1.length) <|
         ckB (ix i_5 l_1.length) <|
         ckB (ix i_5 l_1.length) <|
         bif decide ((l_1.getD (Int.toNat i_5) 0)≤(l_1.getD (Int.toNat (i_5 - 1)) 0)) then
           rt false
         else
           ckB (inR .i64 (i_5+1)) <|
           nx (i_5+1)
       else
         ckB (inR .i64 (i_5+1)) <|
         nx (i_5+1)
 else
   dn ()
def qyb (n_0:Int) (l_1:qL1) (s0:Int):Option (Unit⊕Bool) :=
 loopM (fun a=>q5x n_0 l_1 a (fun a'=>some (.next a')) (fun e=>some (.done e)) (fun r=>some (.ret r))) s0
def q17a:Shp:=⟨[(0,.d true qT0),(1,.d false qT1),(5,.d true qT0)],[]⟩
def q16g:Shp:=⟨[],[]⟩
def q7z (n_0:Int) (l_1:qL1):Option Bool :=
 bnd (qyb n_0 l_1 0) fun oe1 =>
 lk oe1 (fun e1 =>
   some true) (fun r=>some r)
def qh4 {R:Type} (n_10:Int) (n_11:(List Trans)) (n_12:Int) (n_13:Int) (i_3:Int) (nx:Int→Option R) (dn:Unit→Option R) (rt:Bool→Option R):Option R :=
 bif decide (i_3 < (n_11.length:Int)) then
   ckB (ix i_3 n_11.length) <|
   ckB (ix i_3 n_11.length) <|
   bif (!(ByteArray.toList (n_11.getD (Int.toNat i_3) Trans.z).1 == ByteArray.toList ⟨#[]⟩)) then
     bnd (qnq (n_11.getD (Int.toNat i_3) Trans.z).1) fun r1 =>
     bif (!r1) then
       rt false
     else
       bnd (q7z n_10 (n_11.getD (Int.toNat i_3) Trans.z).2.1) fun r2 =>
       bif (!r2) then
         rt false
       else
         bnd (q7z n_10 (n_11.getD (Int.toNat i_3) Trans.z).2.2.1) fun r3 =>
         bif (!r3) then
           rt false
         else
           ckB (inR .i64 (i_3+1)) <|
           nx (i_3+1)
   else
     bnd (q7z n_10 (n_11.getD (Int.toNat i_3) Trans.z).2.1) fun r4 =>
     bif (!r4) then
       rt false
     else
       bnd (q7z n_10 (n_11.getD (Int.toNat i_3) Trans.z).2.2.1) fun r5 =>
       bif (!r5) then
         rt false
       else
         ckB (inR .i64 (i_3+1)) <|
         nx (i_3+1)
 else
   dn ()
def qzw (n_10:Int) (n_11:(List Trans)) (n_12:Int) (n_13:Int) (s0:Int):Option (Unit⊕Bool) :=
 loopM (fun a=>qh4 n_10 n_11 n_12 n_13 a (fun a'=>some (.next a')) (fun e=>some (.done e)) (fun r=>some (.ret r))) s0
def q18o:Shp:=⟨[(1,.ptr 0),(3,.d true qT0)],[.cs 24 4 1 (.cons (.d true qT0) (.cons (.d false (.slice Trans.ty)) (.cons (.d true qT0) (.cons (.d true qT0) .nil))))]⟩
def q196:Shp:=⟨[],[]⟩
def qps (n_0:Net):Option Bool :=
 bif decide (n_0.1 < 1) then
   some false
 else
   bif decide ((40:Int) < n_0.1) then
     some false
   else
     bif decide ((60:Int) < (n_0.2.1.length:Int)) then
       some false
     else
       bif decide (n_0.2.2.1 < 0) then
         some false
       else
         bif decide (n_0.1≤n_0.2.2.1) then
           some false
         else
           bif decide (n_0.2.2.2.1 < 0) then
             some false
           else
             bif decide (n_0.1≤n_0.2.2.2.1) then
               some false
             else
               bnd (qzw n_0.1 n_0.2.1 n_0.2.2.1 n_0.2.2.2.1 0) fun oe6 =>
               lk oe6 (fun e6 =>
                 some true) (fun r=>some r)
def q3h (p_0:Int) (p_1:St8):Option Bool :=
 ckB (ix 0 1) <|
 bnd (qq p_1.1 p_0) fun r1 =>
 some (!r1)
def q26 {R:Type} (s_0:qL1) (f_1c0:St8) (v_7:Int) (v_8:Int) (nx:Int→Option R) (dn:Unit→Option R) (rt:Int→Option R):Option R :=
 bif decide (v_8 < v_7) then
   ckB (ix v_8 s_0.length) <|
   ckB (ix v_8 s_0.length) <|
   bnd (q3h (s_0.getD (Int.toNat v_8) 0) f_1c0) fun r1 =>
   bif r1 then
     rt v_8
   else
     ckB (inR .i64 (v_8+1)) <|
     nx (v_8+1)
 else
   dn ()
def qa8 (s_0:qL1) (f_1c0:St8) (v_7:Int) (s0:Int):Option (Unit⊕Int) :=
 loopM (fun a=>q26 s_0 f_1c0 v_7 a (fun a'=>some (.next a')) (fun e=>some (.done e)) (fun r=>some (.ret r))) s0
def qo6:Shp:=⟨[(0,.d false qT1),(1,.fn 10 (.cons (.rp false St8.ty) .nil)),(7,.d true qT0),(8,.d true qT0)],[]⟩
def qna:Shp:=⟨[],[]⟩
def q5c (s_0:qL1) (f_1c0:St8):Option Int :=
 bnd (qa8 s_0 f_1c0 (s_0.length:Int) 0) fun oe2 =>
 lk oe2 (fun e2 =>
   some (-1)) (fun r=>some r)
def q23 (s_0:qL1) (f_1c0:St8):Option Bool :=
 bnd (q5c s_0 f_1c0) fun r1 =>
 some (decide ((0:Int)≤r1))
def q6a (k_0:Int):Option Bool :=
 some (!decide (k_0=1))
def q20 {R:Type} (s_0:qL1) (v_7:Int) (v_8:Int) (nx:Int→Option R) (dn:Unit→Option R) (rt:Int→Option R):Option R :=
 bif decide (v_8 < v_7) then
   ckB (ix v_8 s_0.length) <|
   ckB (ix v_8 s_0.length) <|
   bnd (q6a (s_0.getD (Int.toNat v_8) 0)) fun r1 =>
   bif r1 then
     rt v_8
   else
     ckB (inR .i64 (v_8+1)) <|
     nx (v_8+1)
 else
   dn ()
def qab (s_0:qL1) (v_7:Int) (s0:Int):Option (Unit⊕Int) :=
 loopM (fun a=>q20 s_0 v_7 a (fun a'=>some (.next a')) (fun e=>some (.done e)) (fun r=>some (.ret r))) s0
def qo0:Shp:=⟨[(0,.d false qT1),(1,.fn 13 .nil),(7,.d true qT0),(8,.d true qT0)],[]⟩
def qo7:Shp:=⟨[],[]⟩
def q5a (s_0:qL1):Option Int :=
 bnd (qab s_0 (s_0.length:Int) 0) fun oe2 =>
 lk oe2 (fun e2 =>
   some (-1)) (fun r=>some r)
def q1i (s_0:qL1):Option Bool :=
 bnd (q5a s_0) fun r1 =>
 some (decide ((0:Int)≤r1))
def q2x {R:Type} (is_5:Bool) (free_9:Bool) (v_50:(List St8)) (v_51:Int) (v_52:Int) (v_57:qL1) (v_58:Int) (n_10:Int) (n_11:(List Trans)) (n_12:Int) (n_13:Int) (trans_8:qL1) (c_110:qL1) (c_111:qL1) (v_59:Int) (places_7:qL1) (nx:(Int×qL1)→Option R) (dn:qL1→Option R) (rt:Bool→Option R):Option R :=
 bif decide (v_59 < v_58) then
   ckB (ix v_59 v_57.length) <|
   ckB (ix v_59 v_57.length) <|
   bif decide ((v_57.getD (Int.toNat v_59) 0) < 0) then
     rt false
   else
     bif decide (n_10≤(v_57.getD (Int.toNat v_59) 0)) then
       rt false
     else
       ckB (ix (v_57.getD (Int.toNat v_59) 0) places_7.length) <|
       ckB (ix (v_57.getD (Int.toNat v_59) 0) places_7.length) <|
       ckB (inR .i64 ((places_7.getD (Int.toNat (v_57.getD (Int.toNat v_59) 0)) 0)+1)) <|
       ckB (ix (v_57.getD (Int.toNat v_59) 0) places_7.length) <|
       ckB (ix (v_57.getD (Int.toNat v_59) 0) places_7.length) <|
       ckB (inR .i64 (v_59+1)) <|
       nx ((v_59+1),(places_7.set (Int.toNat (v_57.getD (Int.toNat v_59) 0)) ((places_7.getD (Int.toNat (v_57.getD (Int.toNat v_59) 0)) 0)+1)))
 else
   dn places_7
def qdp (is_5:Bool) (free_9:Bool) (v_50:(List St8)) (v_51:Int) (v_52:Int) (v_57:qL1) (v_58:Int) (n_10:Int) (n_11:(List Trans)) (n_12:Int) (n_13:Int) (trans_8:qL1) (c_110:qL1) (c_111:qL1) (s0:(Int×qL1)):Option (qL1⊕Bool) :=
 loopM (fun a=>q2x is_5 free_9 v_50 v_51 v_52 v_57 v_58 n_10 n_11 n_12 n_13 trans_8 c_110 c_111 a.1 a.2 (fun a'=>some (.next a')) (fun e=>some (.done e)) (fun r=>some (.ret r))) s0
def qpx:Shp:=⟨[(1,.ptr 0),(5,.d true .bool),(7,.own 1),(8,.own 2),(9,.d true .bool),(11,.ptr 3),(50,.nl false (.d true (.slice St8.ty))),(51,.d true qT0),(52,.d true qT0),(57,.d true qT1),(58,.d true qT0),(59,.d true qT0)],[.cs 24 4 1 (.cons (.d true qT0) (.cons (.d true (.slice Trans.ty)) (.cons (.d true qT0) (.cons (.d true qT0) .nil)))),.arr 3 (.fz true) [0] qT0,.arr 3 (.fz true) [0] qT0,.cs 34 2 1 (.cons (.d true qT1) (.cons (.d true qT1) .nil))]⟩
def qq5:Shp:=⟨[(1,.ptr 0),(5,.d true .bool),(7,.own 1),(8,.own 2),(9,.d true .bool),(11,.ptr 3),(50,.nl false (.d true (.slice St8.ty))),(51,.d true qT0),(52,.d true qT0)],[.cs 24 4 1 (.cons (.d true qT0) (.cons (.d true (.slice Trans.ty)) (.cons (.d true qT0) (.cons (.d true qT0) .nil)))),.arr 3 (.fz true) [0] qT0,.arr 3 (.fz true) [0] qT0,.cs 34 2 1 (.cons (.d true qT1) (.cons (.d true qT1) .nil))]⟩
def q1q {R:Type} (is_5:Bool) (v_50:(List St8)) (v_51:Int) (v_52:Int) (v_79:qL1) (v_80:Int) (n_10:Int) (n_11:(List Trans)) (n_12:Int) (n_13:Int) (places_7:qL1) (c_110:qL1) (c_111:qL1) (free_9:Bool) (v_81:Int) (trans_8:qL1) (nx:(Bool×Int×qL1)→Option R) (dn:(Bool×qL1)→Option R) (rt:Bool→Option R):Option R :=
 bif decide (v_81 < v_80) then
   ckB (ix v_81 v_79.length) <|
   ckB (ix v_81 v_79.length) <|
   bif decide ((v_79.getD (Int.toNat v_81) 0) < 0) then
     rt false
   else
     bif decide ((n_11.length:Int)≤(v_79.getD (Int.toNat v_81) 0)) then
       rt false
     else
       ckB (ix (v_79.getD (Int.toNat v_81) 0) trans_8.length) <|
       ckB (ix (v_79.getD (Int.toNat v_81) 0) trans_8.length) <|
       ckB (inR .i64 ((trans_8.getD (Int.toNat (v_79.getD (Int.toNat v_81) 0)) 0)+1)) <|
       ckB (ix (v_79.getD (Int.toNat v_81) 0) trans_8.length) <|
       ckB (ix (v_79.getD (Int.toNat v_81) 0) trans_8.length) <|
       ckB (ix (v_79.getD (Int.toNat v_81) 0) n_11.length) <|
       ckB (ix (v_79.getD (Int.toNat v_81) 0) n_11.length) <|
       bnd (q23 (n_11.getD (Int.toNat (v_79.getD (Int.toNat v_81) 0)) Trans.z).2.1 (c_110,c_111,())) fun r7 =>
       bif r7 then
         rt false
       else
         bif free_9 then
           bnd (q2m (n_11.getD (Int.toNat (v_79.getD (Int.toNat v_81) 0)) Trans.z).2.1 c_110) fun r8 =>
           ckB (inR .i64 (v_81+1)) <|
           nx (r8,(v_81+1),(trans_8.set (Int.toNat (v_79.getD (Int.toNat v_81) 0)) ((trans_8.getD (Int.toNat (v_79.getD (Int.toNat v_81) 0)) 0)+1)))
         else
           ckB (inR .i64 (v_81+1)) <|
           nx (false,(v_81+1),(trans_8.set (Int.toNat (v_79.getD (Int.toNat v_81) 0)) ((trans_8.getD (Int.toNat (v_79.getD (Int.toNat v_81) 0)) 0)+1)))
 else
   dn (free_9,trans_8)
def qdf (is_5:Bool) (v_50:(List St8)) (v_51:Int) (v_52:Int) (v_79:qL1) (v_80:Int) (n_10:Int) (n_11:(List Trans)) (n_12:Int) (n_13:Int) (places_7:qL1) (c_110:qL1) (c_111:qL1) (s0:(Bool×Int×qL1)):Option ((Bool×qL1)⊕Bool) :=
 loopM (fun a=>q1q is_5 v_50 v_51 v_52 v_79 v_80 n_10 n_11 n_12 n_13 places_7 c_110 c_111 a.1 a.2.1 a.2.2 (fun a'=>some (.next a')) (fun e=>some (.done e)) (fun r=>some (.ret r))) s0
def qqh:Shp:=⟨[(1,.ptr 0),(5,.d true .bool),(7,.own 1),(8,.own 2),(9,.d true .bool),(11,.ptr 3),(50,.nl false (.d true (.slice St8.ty))),(51,.d true qT0),(52,.d true qT0),(79,.d true qT1),(80,.d true qT0),(81,.d true qT0)],[.cs 24 4 1 (.cons (.d true qT0) (.cons (.d true (.slice Trans.ty)) (.cons (.d true qT0) (.cons (.d true qT0) .nil)))),.arr 3 (.fz true) [0] qT0,.arr 3 (.fz true) [0] qT0,.cs 34 2 1 (.cons (.d true qT1) (.cons (.d true qT1) .nil))]⟩
def qq8:Shp:=⟨[(1,.ptr 0),(5,.d true .bool),(7,.own 1),(8,.own 2),(9,.d true .bool),(11,.ptr 3),(50,.nl false (.d true (.slice St8.ty))),(51,.d true qT0),(52,.d true qT0)],[.cs 24 4 1 (.cons (.d true qT0) (.cons (.d true (.slice Trans.ty)) (.cons (.d true qT0) (.cons (.d true qT0) .nil)))),.arr 3 (.fz true) [0] qT0,.arr 3 (.fz true) [0] qT0,.cs 34 2 1 (.cons (.d true qT1) (.cons (.d true qT1) .nil))]⟩
def q2v {R:Type} (is_5:Bool) (v_50:(List St8)) (v_51:Int) (n_10:Int) (n_11:(List Trans)) (n_12:Int) (n_13:Int) (free_9:Bool) (v_52:Int) (places_7:qL1) (trans_8:qL1) (nx:(Bool×Int×qL1×qL1)→Option R) (dn:(Bool×qL1×qL1)→Option R) (rt:Bool→Option R):Option R :=
 bif decide (v_52 < v_51) then
   ckB (ix v_52 v_50.length) <|
   ckB (ix v_52 v_50.length) <|
   bnd (qdp is_5 free_9 v_50 v_51 v_52 (v_50.getD (Int.toNat v_52) St8.z).1 ((v_50.getD (Int.toNat v_52) St8.z).1.length:Int) n_10 n_11 n_12 n_13 trans_8 (v_50.getD (Int.toNat v_52) St8.z).1 (v_50.getD (Int.toNat v_52) St8.z).2.1 (0,places_7)) fun oe6 =>
   lk oe6 (fun e6 =>
     bnd (qdf is_5 v_50 v_51 v_52 (v_50.getD (Int.toNat v_52) St8.z).2.1 ((v_50.getD (Int.toNat v_52) St8.z).2.1.length:Int) n_10 n_11 n_12 n_13 e6 (v_50.getD (Int.toNat v_52) St8.z).1 (v_50.getD (Int.toNat v_52) St8.z).2.1 (free_9,0,trans_8)) fun oe9 =>
     lk oe9 (fun e9 =>
       bif decide ((1:Int) < ((v_50.getD (Int.toNat v_52) St8.z).1.length:Int)) then
         bif decide (((v_50.getD (Int.toNat v_52) St8.z).2.1.length:Int)=0) then
           rt false
         else
           ckB (inR .i64 (v_52+1)) <|
           nx (e9.1,(v_52+1),e6,e9.2)
       else
         ckB (inR .i64 (v_52+1)) <|
         nx (e9.1,(v_52+1),e6,e9.2)) (fun r=>rt r)) (fun r=>rt r)
 else
   dn (free_9,places_7,trans_8)
def qdk (is_5:Bool) (v_50:(List St8)) (v_51:Int) (n_10:Int) (n_11:(List Trans)) (n_12:Int) (n_13:Int) (s0:(Bool×Int×qL1×qL1)):Option ((Bool×qL1×qL1)⊕Bool) :=
 loopM (fun a=>q2v is_5 v_50 v_51 n_10 n_11 n_12 n_13 a.1 a.2.1 a.2.2.1 a.2.2.2 (fun a'=>some (.next a')) (fun e=>some (.done e)) (fun r=>some (.ret r))) s0
def qq9:Shp:=⟨[(1,.ptr 0),(5,.d true .bool),(7,.own 1),(8,.own 2),(9,.d true .bool),(50,.nl false (.d true (.slice St8.ty))),(51,.d true qT0),(52,.d true qT0)],[.cs 24 4 1 (.cons (.d true qT0) (.cons (.d true (.slice Trans.ty)) (.cons (.d true qT0) (.cons (.d true qT0) .nil)))),.arr 3 (.fz true) [0] qT0,.arr 3 (.fz true) [0] qT0]⟩
def qqq:Shp:=⟨[(5,.d true .bool),(7,.own 0),(8,.own 1),(9,.d true .bool)],[.arr 3 (.fz true) [0] qT0,.arr 3 (.fz true) [0] qT0]⟩
def q7q (n_0:Net):Option Bool :=
 bnd (qwv) fun r1 =>
 bif (!r1) then
   some false
 else
   bnd (qpr n_0) fun r2 =>
   bif r2 then
     some true
   else
     bnd (qps n_0) fun r3 =>
     bif (!r3) then
       some true
     else
       bnd (q80 n_0) fun r4 =>
       bnd (qje n_0) fun r5 =>
       bif (!decide (r4.1=0)) then
         some false
       else
         bif (!decide (r5.2=0)) then
           some false
         else
           ckB (mkOk n_0.1 n_0.1 8) <|
           ckB (mkOk (n_0.2.1.length:Int) (n_0.2.1.length:Int) 8) <|
           bnd (qdk r5.1 r4.2 (r4.2.length:Int) n_0.1 n_0.2.1 n_0.2.2.1 n_0.2.2.2.1 (true,0,(List.replicate (Int.toNat n_0.1) (0:Int)),(List.replicate (Int.toNat (n_0.2.1.length:Int)) (0:Int)))) fun oe10 =>
           lk oe10 (fun e10 =>
             bnd (q1i e10.2.1) fun r11 =>
             bif (!r11) then
               bnd (q1i e10.2.2) fun r12 =>
               bif (!r12) then
                 some (r5.1 == e10.1)
               else
                 some false
             else
               some false) (fun r=>some r)
end Go.Proofs.Ytclbndfjhjladaa
