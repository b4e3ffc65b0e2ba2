/-
  Predict: best and way, with the weight as a parameter. Made by program (gen_d2.py).
-/
import Derived.Test.YtokeielgplbdeaaZ8D1
set_option linter.all false
set_option maxRecDepth 100000
namespace Go.Proofs.Ytokeielgplbdeaa
open Go.K Go.M
noncomputable section
def qk6{R:Type}(W:Int→Option Int)(slow_2:Bool)(i_9:Int)(v_24:Int)(v_25:Int)(v_28:(List (Int×(List ab))))(v_35:(List ab))(v_36:Int)(g_30:(List (Int×(List ab))))(g_31:Int)(g_32:Int)(changed_8:Bool)(v_37:Int)(out_7:(List ae))(nx:(Bool×Int×(List ae))→Option R)(dn:(Bool×(List ae))→Option R)(rt:(List ae)→Option R):Option R:=
 bif decide (v_37<v_36)then
  am (ix v_37 v_35.length)<|
  am (ix v_37 v_35.length)<|
  am (ix (v_35.getD (Int.toNat v_37) ab.z).1 out_7.length)<|
  am (ix (v_35.getD (Int.toNat v_37) ab.z).1 out_7.length)<|
  bif (!(out_7.getD (Int.toNat (v_35.getD (Int.toNat v_37) ab.z).1) ae.z).1)then
   am (di .i64 (v_37+1))<|
   nx (changed_8,(v_37+1),out_7)
  else
   bnd (W (v_35.getD (Int.toNat v_37) ab.z).2.1) fun r1=>
   am (di .i64 ((out_7.getD (Int.toNat (v_35.getD (Int.toNat v_37) ab.z).1) ae.z).2.1+r1))<|
   am (di .i64 ((out_7.getD (Int.toNat (v_35.getD (Int.toNat v_37) ab.z).1) ae.z).2.2.1+1))<|
   am (ix i_9 out_7.length)<|
   am (ix i_9 out_7.length)<|
   bnd (jf ((out_7.getD (Int.toNat (v_35.getD (Int.toNat v_37) ab.z).1) ae.z).1,((out_7.getD (Int.toNat (v_35.getD (Int.toNat v_37) ab.z).1) ae.z).2.1+r1),((out_7.getD (Int.toNat (v_35.getD (Int.toNat v_37) ab.z).1) ae.z).2.2.1+1),()) (out_7.getD (Int.toNat i_9) ae.z) slow_2) fun r2=>
   bif r2 then
    am (ix i_9 out_7.length)<|
    am (ix i_9 out_7.length)<|
    am (di .i64 (v_37+1))<|
    nx (true,(v_37+1),(out_7.set (Int.toNat i_9) ((out_7.getD (Int.toNat (v_35.getD (Int.toNat v_37) ab.z).1) ae.z).1,((out_7.getD (Int.toNat (v_35.getD (Int.toNat v_37) ab.z).1) ae.z).2.1+r1),((out_7.getD (Int.toNat (v_35.getD (Int.toNat v_37) ab.z).1) ae.z).2.2.1+1),())))
   else
    am (di .i64 (v_37+1))<|
    nx (changed_8,(v_37+1),out_7)
 else
  dn (changed_8,out_7)
def q82(W:Int→Option Int)(slow_2:Bool)(i_9:Int)(v_24:Int)(v_25:Int)(v_28:(List (Int×(List ab))))(v_35:(List ab))(v_36:Int)(g_30:(List (Int×(List ab))))(g_31:Int)(g_32:Int)(s0:(Bool×Int×(List ae))):Option ((Bool×(List ae))⊕(List ae)):=
 bv (fun a=>qk6 W slow_2 i_9 v_24 v_25 v_28 v_35 v_36 g_30 g_31 g_32 a.1 a.2.1 a.2.2 (fun a' =>some (.next a')) (fun e=>some (.done e)) (fun r=>some (.ret r))) s0
def qw8{R:Type}(W:Int→Option Int)(slow_2:Bool)(v_24:Int)(v_25:Int)(v_28:(List (Int×(List ab))))(g_30:(List (Int×(List ab))))(g_31:Int)(g_32:Int)(changed_8:Bool)(out_7:(List ae))(en:(Int×(List ab)))(nx:(Bool×(List ae))→Option R)(rt:(List ae)→Option R):Option R:=
 bnd (q82 W slow_2 en.1 v_24 v_25 v_28 en.2 (en.2.length:Int) g_30 g_31 g_32 (changed_8,0,out_7)) fun oe3=>
 lk oe3 (fun e3=>
  nx (e3.1,e3.2)) (fun r=>rt r)
def qw7(W:Int→Option Int)(slow_2:Bool)(v_24:Int)(v_25:Int)(v_28:(List (Int×(List ab))))(g_30:(List (Int×(List ab))))(g_31:Int)(g_32:Int)(l:List (Int×(List ab)))(s0:(Bool×(List ae))):Option ((Bool×(List ae))⊕(List ae)):=
 yl (fun a en=>qw8 W slow_2 v_24 v_25 v_28 g_30 g_31 g_32 a.1 a.2 en (fun a' =>some (.inl a')) (fun r=>some (.inr r))) l s0
def qk7{R:Type}(W:Int→Option Int)(slow_2:Bool)(v_24:Int)(g_30:(List (Int×(List ab))))(g_31:Int)(g_32:Int)(v_25:Int)(out_7:(List ae))(nx:(Int×(List ae))→Option R)(dn:(List ae)→Option R)(rt:(List ae)→Option R):Option R:=
 bif decide (v_25<v_24)then
  qtu (fun l=>qw7 W slow_2 v_24 v_25 g_30 g_30 g_31 g_32 l (false,out_7)) g_30 (fun e4=>
   bif (!e4.1)then
    dn e4.2
   else
    am (di .i64 (v_25+1))<|
    nx ((v_25+1),e4.2)) (fun r=>rt r)
 else
  dn out_7
def q2f(g_00:(List (Int×(List ab))))(g_01:Int)(g_02:Int)(W:Int→Option Int)(slow_2:Bool):Option (List ae):=
 am (qir g_02 g_02 24)<|
 am (ix g_01 (List.replicate (Int.toNat g_02) (ae.z:ae)).length)<|
 am (ix g_01 (List.replicate (Int.toNat g_02) (ae.z:ae)).length)<|
 am (di .i64 (g_02+1))<|
 ndK (fun{Q} a nx dn rt=>qk7 (R:=Q) W slow_2 (g_02+1) g_00 g_01 g_02 a.1 a.2 nx dn rt) (0,((List.replicate (Int.toNat g_02) (ae.z:ae)).set (Int.toNat g_01) (true,((List.replicate (Int.toNat g_02) (ae.z:ae)).getD (Int.toNat g_01) ae.z).2.1,((List.replicate (Int.toNat g_02) (ae.z:ae)).getD (Int.toNat g_01) ae.z).2.2.1,()))) (fun e5=>
  some e5) (fun r=>some r)
def qd6{R:Type}(W:Int→Option Int)(b_7:(List ae))(i_9:Int)(v_29:(List ab))(v_30:Int)(g_30:(List (Int×(List ab))))(g_31:Int)(g_32:Int)(out_8:(List Int))(v_31:Int)(next_100:Int)(next_101:Int)(nx:(Int×Int×Int)→Option R)(dn:(Int×Int)→Option R)(rt:(List Int)→Option R):Option R:=
 bif decide (v_31<v_30)then
  am (ix v_31 v_29.length)<|
  am (ix v_31 v_29.length)<|
  am (ix (v_29.getD (Int.toNat v_31) ab.z).1 b_7.length)<|
  am (ix (v_29.getD (Int.toNat v_31) ab.z).1 b_7.length)<|
  bif (b_7.getD (Int.toNat (v_29.getD (Int.toNat v_31) ab.z).1) ae.z).1 then
   bnd (W (v_29.getD (Int.toNat v_31) ab.z).2.1) fun r2=>
   am (di .i64 ((b_7.getD (Int.toNat (v_29.getD (Int.toNat v_31) ab.z).1) ae.z).2.1+r2))<|
   am (ix i_9 b_7.length)<|
   am (ix i_9 b_7.length)<|
   bif decide (((b_7.getD (Int.toNat (v_29.getD (Int.toNat v_31) ab.z).1) ae.z).2.1+r2)=(b_7.getD (Int.toNat i_9) ae.z).2.1)then
    am (di .i64 ((b_7.getD (Int.toNat (v_29.getD (Int.toNat v_31) ab.z).1) ae.z).2.2.1+1))<|
    am (ix i_9 b_7.length)<|
    am (ix i_9 b_7.length)<|
    bif decide (((b_7.getD (Int.toNat (v_29.getD (Int.toNat v_31) ab.z).1) ae.z).2.2.1+1)=(b_7.getD (Int.toNat i_9) ae.z).2.2.1)then
     bif decide (next_100<0)then
      am (di .i64 (v_31+1))<|
      nx ((v_31+1),(v_29.getD (Int.toNat v_31) ab.z).1,(v_29.getD (Int.toNat v_31) ab.z).2.1)
     else
      bif decide ((v_29.getD (Int.toNat v_31) ab.z).2.1<next_101)then
       am (di .i64 (v_31+1))<|
       nx ((v_31+1),(v_29.getD (Int.toNat v_31) ab.z).1,(v_29.getD (Int.toNat v_31) ab.z).2.1)
      else
       am (di .i64 (v_31+1))<|
       nx ((v_31+1),next_100,next_101)
    else
     am (di .i64 (v_31+1))<|
     nx ((v_31+1),next_100,next_101)
   else
    am (di .i64 (v_31+1))<|
    nx ((v_31+1),next_100,next_101)
  else
   am (di .i64 (v_31+1))<|
   nx ((v_31+1),next_100,next_101)
 else
  dn (next_100,next_101)
def qxf(W:Int→Option Int)(b_7:(List ae))(i_9:Int)(v_29:(List ab))(v_30:Int)(g_30:(List (Int×(List ab))))(g_31:Int)(g_32:Int)(out_8:(List Int))(s0:(Int×Int×Int)):Option ((Int×Int)⊕(List Int)):=
 bv (fun a=>qd6 W b_7 i_9 v_29 v_30 g_30 g_31 g_32 out_8 a.1 a.2.1 a.2.2 (fun a' =>some (.next a')) (fun e=>some (.done e)) (fun r=>some (.ret r))) s0
def qqv{R:Type}(W:Int→Option Int)(b_7:(List ae))(g_30:(List (Int×(List ab))))(g_31:Int)(g_32:Int)(i_9:Int)(out_8:(List Int))(nx:(Int×(List Int))→Option R)(dn:(List Int)→Option R)(rt:(List Int)→Option R):Option R:=
 am (ix i_9 b_7.length)<|
 am (ix i_9 b_7.length)<|
 bif decide ((0:Int)<(b_7.getD (Int.toNat i_9) ae.z).2.2.1)then
  bnd (qxf W b_7 i_9 (jb ab.ty (cb (.int .i64) i_9 g_30)) ((jb ab.ty (cb (.int .i64) i_9 g_30)).length:Int) g_30 g_31 g_32 out_8 (0,(-1),0)) fun oe3=>
  lk oe3 (fun e3=>
   bif decide (e3.1<0)then
    dn out_8
   else
    am (room (out_8.length+1) 8)<|
    nx (e3.1,(out_8++[e3.2]))) (fun r=>rt r)
 else
  dn out_8
def q88(W:Int→Option Int)(b_7:(List ae))(g_30:(List (Int×(List ab))))(g_31:Int)(g_32:Int)(s0:(Int×(List Int))):Option ((List Int)⊕(List Int)):=
 bv (fun a=>qqv W b_7 g_30 g_31 g_32 a.1 a.2 (fun a' =>some (.next a')) (fun e=>some (.done e)) (fun r=>some (.ret r))) s0
def jhh(g_00:(List (Int×(List ab))))(g_01:Int)(g_02:Int)(W:Int→Option Int)(slow_2:Bool):Option (List Int):=
 bnd (q2f g_00 g_01 g_02 W slow_2) fun r1=>
 bnd (q88 W r1 g_00 g_01 g_02 (0,[])) fun oe4=>
 lk oe4 (fun e4=>
  some e4) (fun r=>some r)
theorem q4o(a:List (Int×List ab))(b c:Int)(ts:List af)(s:Bool):ox a b c ts s=q2f a b c (fun t=>ey t ts) s:=rfl
theorem jcm(a:List (Int×List ab))(b c:Int)(ts:List af)(s:Bool):oy a b c ts s=q2f a b c (fun t=>ez t ts) s:=rfl
theorem jkq(a:List (Int×List ab))(b c:Int)(ts:List af)(s:Bool):li a b c ts s=jhh a b c (fun t=>jd t ts) s:=rfl
end
end Go.Proofs.Ytokeielgplbdeaa
