/-
  Predict: best and way, with the weight as a parameter. Made by program (gen_d2.py).
-/
import Derived.Test.YtokeielgplbdeaaZ4D1
set_option linter.all false
set_option maxRecDepth 100000
namespace Go.Proofs.Ytokeielgplbdeaa
open Go.K Go.M
noncomputable section
def qkc{R:Type}(W:Int→Option Int)(slow_2:Bool)(i_9:Int)(v_24:Int)(v_25:Int)(v_28:(List (Int×(List ab))))(v_35:(List ab))(v_36:Int)(g_30:(List (Int×(List ab))))(g_31:Int)(g_32:Int)(changed_8:Bool)(v_37:Int)(out_7:(List ae))(nx:(Bool×Int×(List ae))→Option R)(dn:(Bool×(List ae))→Option R)(rt:(List ae)→Option R):Option R:=
 bif decide (v_37<v_36)then
  am (ix v_37 v_35.length)<|
  am (ix v_37 v_35.length)<|
  am (ix (v_35.getD (Int.toNat v_37) ab.z).1 out_7.length)<|
  am (ix (v_35.getD (Int.toNat v_37) ab.z).1 out_7.length)<|
  bif (!(out_7.getD (Int.toNat (v_35.getD (Int.toNat v_37) ab.z).1) ae.z).1)then
   am (dh .i64 (v_37+1))<|
   nx (changed_8,(v_37+1),out_7)
  else
   bnd (W (v_35.getD (Int.toNat v_37) ab.z).2.1) fun r1=>
   am (dh .i64 ((out_7.getD (Int.toNat (v_35.getD (Int.toNat v_37) ab.z).1) ae.z).2.1+r1))<|
   am (dh .i64 ((out_7.getD (Int.toNat (v_35.getD (Int.toNat v_37) ab.z).1) ae.z).2.2.1+1))<|
   am (ix i_9 out_7.length)<|
   am (ix i_9 out_7.length)<|
   bnd (je ((out_7.getD (Int.toNat (v_35.getD (Int.toNat v_37) ab.z).1) ae.z).1,((out_7.getD (Int.toNat (v_35.getD (Int.toNat v_37) ab.z).1) ae.z).2.1+r1),((out_7.getD (Int.toNat (v_35.getD (Int.toNat v_37) ab.z).1) ae.z).2.2.1+1),()) (out_7.getD (Int.toNat i_9) ae.z) slow_2) fun r2=>
   bif r2 then
    am (ix i_9 out_7.length)<|
    am (ix i_9 out_7.length)<|
    am (dh .i64 (v_37+1))<|
    nx (true,(v_37+1),(out_7.set (Int.toNat i_9) ((out_7.getD (Int.toNat (v_35.getD (Int.toNat v_37) ab.z).1) ae.z).1,((out_7.getD (Int.toNat (v_35.getD (Int.toNat v_37) ab.z).1) ae.z).2.1+r1),((out_7.getD (Int.toNat (v_35.getD (Int.toNat v_37) ab.z).1) ae.z).2.2.1+1),())))
   else
    am (dh .i64 (v_37+1))<|
    nx (changed_8,(v_37+1),out_7)
 else
  dn (changed_8,out_7)
def q58(W:Int→Option Int)(slow_2:Bool)(i_9:Int)(v_24:Int)(v_25:Int)(v_28:(List (Int×(List ab))))(v_35:(List ab))(v_36:Int)(g_30:(List (Int×(List ab))))(g_31:Int)(g_32:Int)(s0:(Bool×Int×(List ae))):Option ((Bool×(List ae))⊕(List ae)):=
 bv (fun a=>qkc W slow_2 i_9 v_24 v_25 v_28 v_35 v_36 g_30 g_31 g_32 a.1 a.2.1 a.2.2 (fun a' =>some (.next a')) (fun e=>some (.done e)) (fun r=>some (.ret r))) s0
def qu1{R:Type}(W:Int→Option Int)(slow_2:Bool)(v_24:Int)(v_25:Int)(v_28:(List (Int×(List ab))))(g_30:(List (Int×(List ab))))(g_31:Int)(g_32:Int)(changed_8:Bool)(out_7:(List ae))(en:(Int×(List ab)))(nx:(Bool×(List ae))→Option R)(rt:(List ae)→Option R):Option R:=
 bnd (q58 W slow_2 en.1 v_24 v_25 v_28 en.2 (en.2.length:Int) g_30 g_31 g_32 (changed_8,0,out_7)) fun oe3=>
 lk oe3 (fun e3=>
  nx (e3.1,e3.2)) (fun r=>rt r)
def qu0(W:Int→Option Int)(slow_2:Bool)(v_24:Int)(v_25:Int)(v_28:(List (Int×(List ab))))(g_30:(List (Int×(List ab))))(g_31:Int)(g_32:Int)(l:List (Int×(List ab)))(s0:(Bool×(List ae))):Option ((Bool×(List ae))⊕(List ae)):=
 x8 (fun a en=>qu1 W slow_2 v_24 v_25 v_28 g_30 g_31 g_32 a.1 a.2 en (fun a' =>some (.inl a')) (fun r=>some (.inr r))) l s0
def qkd{R:Type}(W:Int→Option Int)(slow_2:Bool)(v_24:Int)(g_30:(List (Int×(List ab))))(g_31:Int)(g_32:Int)(v_25:Int)(out_7:(List ae))(nx:(Int×(List ae))→Option R)(dn:(List ae)→Option R)(rt:(List ae)→Option R):Option R:=
 bif decide (v_25<v_24)then
  qr1 (fun l=>qu0 W slow_2 v_24 v_25 g_30 g_30 g_31 g_32 l (false,out_7)) g_30 (fun e4=>
   bif (!e4.1)then
    dn e4.2
   else
    am (dh .i64 (v_25+1))<|
    nx ((v_25+1),e4.2)) (fun r=>rt r)
 else
  dn out_7
def qzy(g_00:(List (Int×(List ab))))(g_01:Int)(g_02:Int)(W:Int→Option Int)(slow_2:Bool):Option (List ae):=
 am (qjg g_02 g_02 24)<|
 am (ix g_01 (List.replicate (Int.toNat g_02) (ae.z:ae)).length)<|
 am (ix g_01 (List.replicate (Int.toNat g_02) (ae.z:ae)).length)<|
 am (dh .i64 (g_02+1))<|
 ndK (fun{Q} a nx dn rt=>qkd (R:=Q) W slow_2 (g_02+1) g_00 g_01 g_02 a.1 a.2 nx dn rt) (0,((List.replicate (Int.toNat g_02) (ae.z:ae)).set (Int.toNat g_01) (true,((List.replicate (Int.toNat g_02) (ae.z:ae)).getD (Int.toNat g_01) ae.z).2.1,((List.replicate (Int.toNat g_02) (ae.z:ae)).getD (Int.toNat g_01) ae.z).2.2.1,()))) (fun e5=>
  some e5) (fun r=>some r)
def qdx{R:Type}(W:Int→Option Int)(b_7:(List ae))(i_9:Int)(v_29:(List ab))(v_30:Int)(g_30:(List (Int×(List ab))))(g_31:Int)(g_32:Int)(out_8:(List Int))(v_31:Int)(next_100:Int)(next_101:Int)(nx:(Int×Int×Int)→Option R)(dn:(Int×Int)→Option R)(rt:(List Int)→Option R):Option R:=
 bif decide (v_31<v_30)then
  am (ix v_31 v_29.length)<|
  am (ix v_31 v_29.length)<|
  am (ix (v_29.getD (Int.toNat v_31) ab.z).1 b_7.length)<|
  am (ix (v_29.getD (Int.toNat v_31) ab.z).1 b_7.length)<|
  bif (b_7.getD (Int.toNat (v_29.getD (Int.toNat v_31) ab.z).1) ae.z).1 then
   bnd (W (v_29.getD (Int.toNat v_31) ab.z).2.1) fun r2=>
   am (dh .i64 ((b_7.getD (Int.toNat (v_29.getD (Int.toNat v_31) ab.z).1) ae.z).2.1+r2))<|
   am (ix i_9 b_7.length)<|
   am (ix i_9 b_7.length)<|
   bif decide (((b_7.getD (Int.toNat (v_29.getD (Int.toNat v_31) ab.z).1) ae.z).2.1+r2)=(b_7.getD (Int.toNat i_9) ae.z).2.1)then
    am (dh .i64 ((b_7.getD (Int.toNat (v_29.getD (Int.toNat v_31) ab.z).1) ae.z).2.2.1+1))<|
    am (ix i_9 b_7.length)<|
    am (ix i_9 b_7.length)<|
    bif decide (((b_7.getD (Int.toNat (v_29.getD (Int.toNat v_31) ab.z).1) ae.z).2.2.1+1)=(b_7.getD (Int.toNat i_9) ae.z).2.2.1)then
     bif decide (next_100<0)then
      am (dh .i64 (v_31+1))<|
      nx ((v_31+1),(v_29.getD (Int.toNat v_31) ab.z).1,(v_29.getD (Int.toNat v_31) ab.z).2.1)
     else
      bif decide ((v_29.getD (Int.toNat v_31) ab.z).2.1<next_101)then
       am (dh .i64 (v_31+1))<|
       nx ((v_31+1),(v_29.getD (Int.toNat v_31) ab.z).1,(v_29.getD (Int.toNat v_31) ab.z).2.1)
      else
       am (dh .i64 (v_31+1))<|
       nx ((v_31+1),next_100,next_101)
    else
     am (dh .i64 (v_31+1))<|
     nx ((v_31+1),next_100,next_101)
   else
    am (dh .i64 (v_31+1))<|
    nx ((v_31+1),next_100,next_101)
  else
   am (dh .i64 (v_31+1))<|
   nx ((v_31+1),next_100,next_101)
 else
  dn (next_100,next_101)
def qu7(W:Int→Option Int)(b_7:(List ae))(i_9:Int)(v_29:(List ab))(v_30:Int)(g_30:(List (Int×(List ab))))(g_31:Int)(g_32:Int)(out_8:(List Int))(s0:(Int×Int×Int)):Option ((Int×Int)⊕(List Int)):=
 bv (fun a=>qdx W b_7 i_9 v_29 v_30 g_30 g_31 g_32 out_8 a.1 a.2.1 a.2.2 (fun a' =>some (.next a')) (fun e=>some (.done e)) (fun r=>some (.ret r))) s0
def qpa{R:Type}(W:Int→Option Int)(b_7:(List ae))(g_30:(List (Int×(List ab))))(g_31:Int)(g_32:Int)(i_9:Int)(out_8:(List Int))(nx:(Int×(List Int))→Option R)(dn:(List Int)→Option R)(rt:(List Int)→Option R):Option R:=
 am (ix i_9 b_7.length)<|
 am (ix i_9 b_7.length)<|
 bif decide ((0:Int)<(b_7.getD (Int.toNat i_9) ae.z).2.2.1)then
  bnd (qu7 W b_7 i_9 (ja ab.ty (cf (.int .i64) i_9 g_30)) ((ja ab.ty (cf (.int .i64) i_9 g_30)).length:Int) g_30 g_31 g_32 out_8 (0,(-1),0)) fun oe3=>
  lk oe3 (fun e3=>
   bif decide (e3.1<0)then
    dn out_8
   else
    am (room (out_8.length+1) 8)<|
    nx (e3.1,(out_8++[e3.2]))) (fun r=>rt r)
 else
  dn out_8
def q6e(W:Int→Option Int)(b_7:(List ae))(g_30:(List (Int×(List ab))))(g_31:Int)(g_32:Int)(s0:(Int×(List Int))):Option ((List Int)⊕(List Int)):=
 bv (fun a=>qpa W b_7 g_30 g_31 g_32 a.1 a.2 (fun a' =>some (.next a')) (fun e=>some (.done e)) (fun r=>some (.ret r))) s0
def jen(g_00:(List (Int×(List ab))))(g_01:Int)(g_02:Int)(W:Int→Option Int)(slow_2:Bool):Option (List Int):=
 bnd (qzy g_00 g_01 g_02 W slow_2) fun r1=>
 bnd (q6e W r1 g_00 g_01 g_02 (0,[])) fun oe4=>
 lk oe4 (fun e4=>
  some e4) (fun r=>some r)
theorem q14(a:List (Int×List ab))(b c:Int)(ts:List af)(s:Bool):oj a b c ts s=qzy a b c (fun t=>ey t ts) s:=rfl
theorem q9l(a:List (Int×List ab))(b c:Int)(ts:List af)(s:Bool):ol a b c ts s=qzy a b c (fun t=>ez t ts) s:=rfl
theorem jhs(a:List (Int×List ab))(b c:Int)(ts:List af)(s:Bool):k7 a b c ts s=jen a b c (fun t=>jb t ts) s:=rfl
end
end Go.Proofs.Ytokeielgplbdeaa
