/-
  What the functions compute, as plain functions of Lean. Made by program (mg3.py) out of the translation.
-/
import Derived.Test.YtdhfhpdadbopkaaZ4KE
set_option linter.all false
set_option maxRecDepth 100000
namespace Go.Proofs.Ytdhfhpdadbopkaa
open Go.K Go.M
abbrev qL1:Type:=List Int
abbrev qL2:Type:=List (List Int)
abbrev qT0:Ty:=.int .i64
abbrev qT1:Ty:=.slice qT0
abbrev qT2:Ty:=.slice qT1
abbrev ae:Type:=ByteArray×qL1×qL1×Unit
abbrev ae.z:ae:=(⟨#[]⟩,[],[],())
def ae.ty:Ty:= .struct (.cons .str (.cons qT1 (.cons qT1 .nil)))
abbrev a8:Type:=Int×(List ae)×Int×Int×Unit
abbrev a8.z:a8:=(0,[],0,0,())
def a8.ty:Ty:= .struct (.cons qT0 (.cons (.slice ae.ty) (.cons qT0 (.cons qT0 .nil))))
abbrev af:Type:=Int×qL1×qL1×Unit
abbrev af.z:af:=(0,[],[],())
def af.ty:Ty:= .struct (.cons qT0 (.cons qT1 (.cons qT1 .nil)))
abbrev ag:Type:=Int×qL1×Unit
abbrev ag.z:ag:=(0,[],())
def ag.ty:Ty:= .struct (.cons qT0 (.cons qT1 .nil))
abbrev ab:Type:=qL1×qL1×Unit
abbrev ab.z:ab:=([],[],())
def ab.ty:Ty:= .struct (.cons qT1 (.cons qT1 .nil))
abbrev ck:Type:=qL1×qL1×(List ab)×Unit
abbrev ck.z:ck:=([],[],[],())
def ck.ty:Ty:= .struct (.cons qT1 (.cons qT1 (.cons (.slice ab.ty) .nil)))
abbrev qbz:Hs:=.cs 24 4 1 (.cons (.d true qT0) (.cons (.d false (.slice ae.ty)) (.cons (.d true qT0) (.cons (.d true qT0) .nil))))
abbrev qhn:Hs:=.cs 24 4 1 (.cons (.d true qT0) (.cons (.d true (.slice ae.ty)) (.cons (.d true qT0) (.cons (.d true qT0) .nil))))
abbrev qh1:Hs:=.cs 28 3 1 (.cons (.d true qT1) (.cons (.d true qT1) (.cons (.d true (.slice ab.ty)) .nil)))
abbrev qkm:Nat×Sh:=(0, .d true .bool)
abbrev qkw:Hs:=.arr 25 (.fz true) [3] qT1
abbrev qk1:Hs:=.arr 48 (.fz true) [3,3] ab.ty
abbrev qmc:Hs:=.cs 116 1 1 (.cons (.mp 2) .nil)
abbrev qmm:Hs:=.mp .str .bool
abbrev qo4:Hs:=.cs 45 1 1 (.cons (.fn 82 (.cons (.ptr 1) .nil)) .nil)
abbrev qpc:Hs:=.cs 45 1 1 (.cons (.fn 96 (.cons (.ptr 1) .nil)) .nil)
abbrev qpd:Hs:=.arr 92 (.fz true) [0,3,3] af.ty
abbrev qqc:Hs:=.arr 4 (.fz true) [0] .bool
abbrev qqo:Hs:=.cs 116 1 1 (.cons (.mp 1) .nil)
abbrev qre:Hs:=.arr 3 (.fz true) [0] qT0
abbrev qrf:Nat×Sh:=(0, .d false (.slice ab.ty))
abbrev qs7:Nat×Sh:=(10, .fn 95 (.cons (.ptr 3) (.cons (.ptr 2) .nil)))
abbrev qta:Nat×Sh:=(1, .fn 107 (.cons (.rp false a8.ty) (.cons (.rp false .str) (.cons (.ptr 0) (.cons (.rp false ag.ty) .nil)))))
abbrev qu0:Nat×Sh:=(0, .d true qT0)
abbrev qxi:Nat×Sh:=(8, .d true qT0)
abbrev qxj:Nat×Sh:=(7, .d true qT0)
abbrev qyf:Hs:=.cs 24 4 1 (.cons (.d true qT0) (.cons (.own 2) (.cons (.d true qT0) (.cons (.d true qT0) .nil))))
abbrev q0n:Hs:=.cs 43 3 1 (.cons (.d true .str) (.cons (.d false qT1) (.cons (.d false qT1) .nil)))
abbrev q3d:Hs:=.cs 45 1 1 (.cons (.fn 96 (.cons (.ptr 2) .nil)) .nil)
abbrev q4d:Hs:=.cs 133 1 1 (.cons (.own 3) .nil)
abbrev q4e:Hs:=.cs 28 3 1 (.cons (.d true qT1) (.cons (.d true qT1) (.cons (.own 2) .nil)))
abbrev q6q:Hs:=.cs 28 3 1 (.cons (.d true qT1) (.cons (.d true qT1) (.cons (.own 4) .nil)))
abbrev q6r:Hs:=.cs 116 1 1 (.cons (.mp 3) .nil)
abbrev q6s:Hs:=.cs 116 1 1 (.cons (.mp 5) .nil)
abbrev q6u:Hs:=.cs 38 1 1 (.cons (.own 4) .nil)
abbrev q6w:Nat×Sh:=(2, .d true qT0)
abbrev q8m:Nat×Sh:=(1, .d true qT0)
abbrev q8n:Nat×Sh:=(87, .d true (.slice ab.ty))
abbrev q8q:Hs:=.cs 116 1 1 (.cons (.mp 6) .nil)
abbrev ja3:Hs:=.arr 9 (.fz true) [0] .str
abbrev jbo:Hs:=.arr 129 (.fz true) [0,3] ag.ty
abbrev jdw:Nat×Sh:=(0, .own 0)
abbrev jd7:Hs:=.cs 25 1 1 (.cons (.d true qT1) .nil)
abbrev jd8:Hs:=.cs 45 1 1 (.cons (.fn 82 (.cons (.ptr 0) .nil)) .nil)
abbrev jd9:Hs:=.cs 45 1 1 (.cons (.fn 96 (.cons (.ptr 0) .nil)) .nil)
abbrev ji2:Nat×Sh:=(0, .d false qT1)
abbrev jk0:Nat×Sh:=(1, .d false (.slice .str))
abbrev jk3:Nat×Sh:=(1, .fn 66 (.cons (.rp false (.slice .str)) .nil))
abbrev jk4:Nat×Sh:=(15, .nl false (.d true (.slice ag.ty)))
abbrev jk5:Nat×Sh:=(58, .nl false (.d true (.slice ag.ty)))
abbrev jk6:Nat×Sh:=(2, .d true .bool)
abbrev jk7:Nat×Sh:=(3, .ptr 0)
abbrev jk8:Nat×Sh:=(29, .d false (.slice ae.ty))
abbrev jk9:Nat×Sh:=(12, .d true qT0)
abbrev jla:Nat×Sh:=(13, .d true qT0)
abbrev jlb:Nat×Sh:=(20, .d true qT0)
abbrev jlc:Nat×Sh:=(10, .d true .bool)
abbrev jld:Nat×Sh:=(2, .d false (.slice ab.ty))
abbrev jle:Nat×Sh:=(9, .nl false (.own 4))
abbrev jlq:Nat×Sh:=(13, .d true (.slice af.ty))
abbrev jlr:Nat×Sh:=(8, .ptr 1)
abbrev jls:Nat×Sh:=(0, .d true .str)
abbrev jn2:Nat×Sh:=(1, .d false qT1)
abbrev jn4:Nat×Sh:=(0, .d false (.slice ag.ty))
abbrev jn5:Hs:=.arr 43 (.fz true) [0,3,3] ae.ty
abbrev jn6:Nat×Sh:=(5, .d true qT0)
abbrev jn7:Nat×Sh:=(0, .nl false (.own 0))
abbrev jn8:Nat×Sh:=(6, .nl false (.own 0))
abbrev jn9:Nat×Sh:=(2, .d false qT1)
abbrev joa:Nat×Sh:=(21, .d true qT0)
abbrev job:Nat×Sh:=(3, .d false qT1)
abbrev joc:Nat×Sh:=(8, .ptr 0)
abbrev jod:Nat×Sh:=(0, .d true qT1)
abbrev joe:Nat×Sh:=(3, .d true qT0)
abbrev jof:Nat×Sh:=(3, .d true qT1)
abbrev jog:Nat×Sh:=(9, .own 2)
abbrev joh:Nat×Sh:=(1, .d true .bool)
abbrev joi:Nat×Sh:=(10, .ptr 5)
abbrev joj:Nat×Sh:=(19, .d true qT0)
abbrev jok:Nat×Sh:=(30, .d true qT0)
abbrev jol:Nat×Sh:=(31, .d true qT0)
abbrev jom:Nat×Sh:=(88, .d true qT0)
abbrev jon:Nat×Sh:=(89, .d true qT0)
abbrev joo:Nat×Sh:=(1, .ptr 0)
abbrev jop:Nat×Sh:=(3, .ptr 1)
abbrev joq:Nat×Sh:=(4, .ptr 2)
abbrev jor:Nat×Sh:=(5, .ptr 3)
abbrev jos:Nat×Sh:=(9, .ptr 2)
abbrev jot:Nat×Sh:=(13, .ptr 3)
abbrev jou:Nat×Sh:=(4, .ptr 0)
abbrev jov:Nat×Sh:=(5, .ptr 1)
abbrev jow:Nat×Sh:=(5, .ptr 2)
abbrev jox:Nat×Sh:=(6, .ptr 0)
abbrev joy:Nat×Sh:=(6, .ptr 3)
abbrev joz:Nat×Sh:=(9, .ptr 4)
def qi0{R:Type}(h5:ByteArray)(gd:(List ByteArray))(j1 h2:Int)(lc:(List ae))(hh q3 p7 q1 q2 gj:Int)(pa:(List ae))(nx:(Int×(List ae))→Option R)(dn:(List ae)→Option R)(rt:a8→Option R):Option R:=bif decide (gj<j1)then al (ix gj gd.length)<|al (ix gj gd.length)<|al (fu .i64 (gj+1))<|al (room (pa.length+1) 64)<|al (fu .i64 (gj+1))<|nx ((gj+1),(pa++[((gd.getD gj.toNat ⟨#[]⟩),[gj],[(gj+1)],())]))else dn pa
def qwd(h5:ByteArray)(gd:(List ByteArray))(j1 h2:Int)(lc:(List ae))(hh q3 p7 q1 q2:Int)(s0:(Int×(List ae))):Option ((List ae)⊕a8):=bn (fun a=>qi0 h5 gd j1 h2 lc hh q3 p7 q1 q2 a.1 a.2 (fun a' =>some (.next a')) (fun e=>some (.done e)) (fun r=>some (.ret r))) s0
def qtg:Shp:=⟨[jls,jou,jov,(14, .d false (.slice .str)),(15, .d true qT0),(16, .d true qT0)],[qhn,qyf,jn5]⟩
def qtf:Shp:=⟨[jls,jou,jov],[qhn,qyf,jn5]⟩
def qjo(h5:ByteArray)(c5:(List ByteArray)):Option a8:=al (fu .i64 ((c5.length:Int)+1))<|bnd (qwd h5 c5 (c5.length:Int) 0 [] 0 0 ((c5.length:Int)+1) 0 (c5.length:Int) (0,[])) fun oe1=>lk oe1 (fun e1=>bif (!(ByteArray.toList h5==ByteArray.toList ⟨#[]⟩))then al (fu .i64 ((c5.length:Int)-1))<|al (room (e1.length+1) 64)<|some (((c5.length:Int)+1),(e1++[(h5,[((c5.length:Int)-1)],[(c5.length:Int)],())]),0,(c5.length:Int),())else some (((c5.length:Int)+1),e1,0,(c5.length:Int),())) (fun r=>some r)
def x5(gw:Int):Option Bool:=bif decide ((65:Int)≤gw)then bif decide (gw≤90)then some true else bif decide ((97:Int)≤gw)then some (decide (gw≤122))else some false else bif decide ((97:Int)≤gw)then some (decide (gw≤122))else some false
def qhw(gw:Int):Option Bool:=bnd (x5 gw) fun r1=>bif r1 then some true else bif decide ((48:Int)≤gw)then bif decide (gw≤57)then some true else bif decide (gw=95)then some true else bif decide (gw=45)then some true else some (decide (gw=46))else bif decide (gw=95)then some true else bif decide (gw=45)then some true else some (decide (gw=46))
def o3{R:Type}(aa:ByteArray)(ej a4:Int)(nx:Int→Option R)(dn:Unit→Option R)(rt:Bool→Option R):Option R:=bif decide (a4<ej)then al (ix a4 (ByteArray.size aa))<|bnd (qhw (((ByteArray.data aa).getD a4.toNat 0).toNat:Int)) fun r2=>bif (!r2)then rt false else al (fu .i64 (a4+1))<|nx (a4+1)else dn ()
def qi4(aa:ByteArray)(ej s0:Int):Option (Unit⊕Bool):=bn (fun a=>o3 aa ej a (fun a' =>some (.next a')) (fun e=>some (.done e)) (fun r=>some (.ret r))) s0
def qsd:Shp:=⟨[jls,joj,jlb],[]⟩
def qsc:Shp:=⟨[],[]⟩
def qbq(aa:ByteArray):Option Bool:=bif decide ((ByteArray.size aa:Int)<1)then some false else bif decide ((40:Int)<(ByteArray.size aa:Int))then some false else al (ix 0 (ByteArray.size aa))<|bnd (x5 (((ByteArray.data aa).getD 0 0).toNat:Int)) fun r1=>bif (!r1)then some false else bnd (qi4 aa (ByteArray.size aa:Int) 0) fun oe3=>lk oe3 (fun e3=>some true) (fun r=>some r)
def lh{R:Type}(dt a2:qL1)(ap ei:Int)(a6:(List ae))(et ev hw:Int)(nx:Int→Option R)(dn:Unit→Option R)(rt:Bool→Option R):Option R:=bif decide (hw<ap)then al (ix hw a2.length)<|al (ix hw a2.length)<|bif decide ((a2.getD hw.toNat 0)<0)then rt false else bif decide (ei≤(a2.getD hw.toNat 0))then rt false else bif decide ((0:Int)<hw)then al (fu .i64 (hw-1))<|al (ix (hw-1) dt.length)<|al (ix (hw-1) dt.length)<|bif decide ((a2.getD hw.toNat 0)≤(dt.getD (hw-1).toNat 0))then rt false else al (fu .i64 (hw+1))<|nx (hw+1)else al (fu .i64 (hw+1))<|nx (hw+1)else dn ()
def qg6(dt a2:qL1)(ap ei:Int)(a6:(List ae))(et ev s0:Int):Option (Unit⊕Bool):=bn (fun a=>lh dt a2 ap ei a6 et ev a (fun a' =>some (.next a')) (fun e=>some (.done e)) (fun r=>some (.ret r))) s0
def qp1:Shp:=⟨[jn2,(2, .ptr 0),(7, .d false qT1),qxi,(9, .d true qT0)],[qbz]⟩
def qp0:Shp:=⟨[],[]⟩
def ji(ad:a8)(dt:qL1):Option Bool:=bnd (qg6 dt dt (dt.length:Int) ad.1 ad.2.1 ad.2.2.1 ad.2.2.2.1 0) fun oe1=>lk oe1 (fun e1=>some true) (fun r=>some r)
def ui{R:Type}(a4:(List ae))(dd b1:Int)(a1:(List ae))(b4 b5 f2:Int)(nx:Int→Option R)(dn:Unit→Option R)(rt:Bool→Option R):Option R:=bif decide (f2<dd)then al (ix f2 a4.length)<|al (ix f2 a4.length)<|bif (!(ByteArray.toList (a4.getD f2.toNat ae.z).1==ByteArray.toList ⟨#[]⟩))then bnd (qbq (a4.getD f2.toNat ae.z).1) fun r1=>bif (!r1)then rt false else bnd (ji (b1,a1,b4,b5,()) (a4.getD f2.toNat ae.z).2.1) fun r2=>bif (!r2)then rt false else bnd (ji (b1,a1,b4,b5,()) (a4.getD f2.toNat ae.z).2.2.1) fun r3=>bif (!r3)then rt false else al (fu .i64 (f2+1))<|nx (f2+1)else bnd (ji (b1,a1,b4,b5,()) (a4.getD f2.toNat ae.z).2.1) fun r4=>bif (!r4)then rt false else bnd (ji (b1,a1,b4,b5,()) (a4.getD f2.toNat ae.z).2.2.1) fun r5=>bif (!r5)then rt false else al (fu .i64 (f2+1))<|nx (f2+1)else dn ()
def qja(a4:(List ae))(dd b1:Int)(a1:(List ae))(b4 b5 s0:Int):Option (Unit⊕Bool):=bn (fun a=>ui a4 dd b1 a1 b4 b5 a (fun a' =>some (.next a')) (fun e=>some (.done e)) (fun r=>some (.ret r))) s0
def qsp:Shp:=⟨[joo,(20, .d false (.slice ae.ty)),joa,(22, .d true qT0)],[qbz]⟩
def qso:Shp:=⟨[joo],[qbz]⟩
def o5(ad:a8):Option Bool:=bif decide (ad.1<1)then some false else bif decide ((40:Int)<ad.1)then some false else bif decide ((60:Int)<(ad.2.1.length:Int))then some false else bnd (qja ad.2.1 (ad.2.1.length:Int) ad.1 ad.2.1 ad.2.2.1 ad.2.2.2.1 0) fun oe6=>lk oe6 (fun e6=>bnd (ji ad [ad.2.2.1]) fun r7=>bif r7 then bnd (ji ad [ad.2.2.2.1]) fun r8=>some r8 else some false) (fun r=>some r)
def iq{R:Type}(aa:qL1)(hs a2 ap:Int)(nx:Int→Option R)(dn:Unit→Option R)(rt:Int→Option R):Option R:=bif decide (ap<a2)then al (ix ap aa.length)<|al (ix ap aa.length)<|bif decide (hs=(aa.getD ap.toNat 0))then rt ap else al (fu .i64 (ap+1))<|nx (ap+1)else dn ()
def u5(aa:qL1)(hs a2 s0:Int):Option (Unit⊕Int):=bn (fun a=>iq aa hs a2 a (fun a' =>some (.next a')) (fun e=>some (.done e)) (fun r=>some (.ret r))) s0
def qdp:Shp:=⟨[ji2,q8m,qxj,qxi],[]⟩
def qdo:Shp:=⟨[],[]⟩
def pb(aa:qL1)(hs:Int):Option Int:=bnd (u5 aa hs (aa.length:Int) 0) fun oe1=>lk oe1 (fun e1=>some (-1)) (fun r=>some r)
def fe(aa:qL1)(hs:Int):Option Bool:=bnd (pb aa hs) fun r1=>some (decide ((0:Int)≤r1))
def ry(f4:Int)(c4:(List Bool)):Option Bool:=al (ix 0 1)<|al (ix f4 c4.length)<|al (ix f4 c4.length)<|some (c4.getD f4.toNat false)
def dv{R:Type}(aa:qL1)(f_1c0:(List Bool))(a2 ap:Int)(nx:Int→Option R)(dn:Unit→Option R)(rt:Int→Option R):Option R:=bif decide (ap<a2)then al (ix ap aa.length)<|al (ix ap aa.length)<|bnd (ry (aa.getD ap.toNat 0) f_1c0) fun r1=>bif r1 then rt ap else al (fu .i64 (ap+1))<|nx (ap+1)else dn ()
def my(aa:qL1)(f_1c0:(List Bool))(a2 s0:Int):Option (Unit⊕Int):=bn (fun a=>dv aa f_1c0 a2 a (fun a' =>some (.next a')) (fun e=>some (.done e)) (fun r=>some (.ret r))) s0
def vf:Shp:=⟨[ji2,(1, .fn 116 (.cons (.rp false (.slice .bool)) .nil)),qxj,qxi],[]⟩
def ve:Shp:=⟨[],[]⟩
def iv(aa:qL1)(f_1c0:(List Bool)):Option Int:=bnd (my aa f_1c0 (aa.length:Int) 0) fun oe2=>lk oe2 (fun e2=>some (-1)) (fun r=>some r)
def ci(aa:qL1)(f_1c0:(List Bool)):Option Bool:=bnd (iv aa f_1c0) fun r1=>some (decide ((0:Int)≤r1))
def po{R:Type}(eg cv:Bool)(g6:(List ae))(i2 be:Int)(hb:qL1)(py bo:Int)(bd:(List ae))(bs bw:Int)(a5:(List Bool))(b0:Int)(b3:(List Bool))(nx:(Int×(List Bool))→Option R)(dn:(List Bool)→Option R)(rt:((List Bool)×(List Bool))→Option R):Option R:=bif decide (b0<py)then al (ix b0 hb.length)<|al (ix b0 hb.length)<|al (ix (hb.getD b0.toNat 0) b3.length)<|al (ix (hb.getD b0.toNat 0) b3.length)<|al (fu .i64 (b0+1))<|nx ((b0+1),(b3.set (hb.getD b0.toNat 0).toNat true))else dn b3
def yr(eg cv:Bool)(g6:(List ae))(i2 be:Int)(hb:qL1)(py bo:Int)(bd:(List ae))(bs bw:Int)(a5:(List Bool))(s0:(Int×(List Bool))):Option ((List Bool)⊕((List Bool)×(List Bool))):=bn (fun a=>po eg cv g6 i2 be hb py bo bd bs bw a5 a.1 a.2 (fun a' =>some (.next a')) (fun e=>some (.done e)) (fun r=>some (.ret r))) s0
def qnt:Shp:=⟨[jk6,jk7,jlr,jog,jlc,jk8,jok,jol,(56, .d false qT1),(57, .d true qT0),(58, .d true qT0)],[qbz,q4d,qqc,qqc]⟩
def qns:Shp:=⟨[jk6,jk7,jlr,jog,jlc,jk8,jok,jol],[qbz,q4d,qqc,qqc]⟩
def fb{R:Type}(eg:Bool)(g6:(List ae))(i2 bo:Int)(bd:(List ae))(bs bw:Int)(cv:Bool)(be:Int)(a5 b3:(List Bool))(nx:(Bool×Int×(List Bool)×(List Bool))→Option R)(dn:(Bool×(List Bool)×(List Bool))→Option R)(rt:((List Bool)×(List Bool))→Option R):Option R:=bif decide (be<i2)then al (ix be g6.length)<|al (ix be g6.length)<|bif eg then al (ix be a5.length)<|al (ix be a5.length)<|bif (a5.getD be.toNat false)then al (fu .i64 (be+1))<|nx (cv,(be+1),a5,b3)else bnd (ci (g6.getD be.toNat ae.z).2.2.1 b3) fun r1=>bif (!r1)then al (fu .i64 (be+1))<|nx (cv,(be+1),a5,b3)else al (ix be a5.length)<|al (ix be a5.length)<|bnd (yr eg true g6 i2 be (g6.getD be.toNat ae.z).2.1 ((g6.getD be.toNat ae.z).2.1.length:Int) bo bd bs bw (a5.set be.toNat true) (0,b3)) fun oe2=>lk oe2 (fun e2=>al (fu .i64 (be+1))<|nx (true,(be+1),(a5.set be.toNat true),e2)) (fun r=>rt r)else al (ix be a5.length)<|al (ix be a5.length)<|bif (a5.getD be.toNat false)then al (fu .i64 (be+1))<|nx (cv,(be+1),a5,b3)else bnd (ci (g6.getD be.toNat ae.z).2.1 b3) fun r3=>bif (!r3)then al (fu .i64 (be+1))<|nx (cv,(be+1),a5,b3)else al (ix be a5.length)<|al (ix be a5.length)<|bnd (yr eg true g6 i2 be (g6.getD be.toNat ae.z).2.2.1 ((g6.getD be.toNat ae.z).2.2.1.length:Int) bo bd bs bw (a5.set be.toNat true) (0,b3)) fun oe4=>lk oe4 (fun e4=>al (fu .i64 (be+1))<|nx (true,(be+1),(a5.set be.toNat true),e4)) (fun r=>rt r)else dn (cv,a5,b3)
def yt(eg:Bool)(g6:(List ae))(i2 bo:Int)(bd:(List ae))(bs bw:Int)(s0:(Bool×Int×(List Bool)×(List Bool))):Option ((Bool×(List Bool)×(List Bool))⊕((List Bool)×(List Bool))):=bn (fun a=>fb eg g6 i2 bo bd bs bw a.1 a.2.1 a.2.2.1 a.2.2.2 (fun a' =>some (.next a')) (fun e=>some (.done e)) (fun r=>some (.ret r))) s0
def qnv:Shp:=⟨[jk6,jk7,jlr,jog,jlc,jk8,jok,jol],[qbz,q4d,qqc,qqc]⟩
def qnu:Shp:=⟨[jk6,jk7,jlr,jog,jlc],[qbz,q4d,qqc,qqc]⟩
def wj{R:Type}(eg:Bool)(bo:Int)(bd:(List ae))(bs bw:Int)(cv:Bool)(a5 b3:(List Bool))(nx:(Bool×(List Bool)×(List Bool))→Option R)(dn rt:((List Bool)×(List Bool))→Option R):Option R:=bif cv then bnd (yt eg bd (bd.length:Int) bo bd bs bw (false,0,a5,b3)) fun oe5=>lk oe5 (fun e5=>nx (e5.1,e5.2.1,e5.2.2)) (fun r=>rt r)else dn (a5,b3)
def qfc(eg:Bool)(bo:Int)(bd:(List ae))(bs bw:Int)(s0:(Bool×(List Bool)×(List Bool))):Option (((List Bool)×(List Bool))⊕((List Bool)×(List Bool))):=bn (fun a=>wj eg bo bd bs bw a.1 a.2.1 a.2.2 (fun a' =>some (.next a')) (fun e=>some (.done e)) (fun r=>some (.ret r))) s0
def qnx:Shp:=⟨[jk6,jk7,jlr,jog,jlc],[qbz,q4d,qqc,qqc]⟩
def qnw:Shp:=⟨[joc,(9, .own 1)],[.cs 133 1 1 (.cons (.own 2) .nil),qqc,qqc]⟩
def mf(ad:a8)(g3:Int)(eg:Bool):Option ((List Bool)×(List Bool)):=al (qtt ad.1 ad.1 1)<|al (qtt (ad.2.1.length:Int) (ad.2.1.length:Int) 1)<|al (ix g3 (List.replicate ad.1.toNat (false:Bool)).length)<|al (ix g3 (List.replicate ad.1.toNat (false:Bool)).length)<|bnd (qfc eg ad.1 ad.2.1 ad.2.2.1 ad.2.2.2.1 (true,(List.replicate (ad.2.1.length:Int).toNat (false:Bool)),((List.replicate ad.1.toNat (false:Bool)).set g3.toNat true))) fun oe6=>lk oe6 (fun e6=>some (e6.2,e6.1)) (fun r=>some r)
def f7{R:Type}(aa:(List Bool))(hs:Bool)(a2 ap:Int)(nx:Int→Option R)(dn:Unit→Option R)(rt:Int→Option R):Option R:=bif decide (ap<a2)then al (ix ap aa.length)<|al (ix ap aa.length)<|bif (hs==(aa.getD ap.toNat false))then rt ap else al (fu .i64 (ap+1))<|nx (ap+1)else dn ()
def ro(aa:(List Bool))(hs:Bool)(a2 s0:Int):Option (Unit⊕Int):=bn (fun a=>f7 aa hs a2 a (fun a' =>some (.next a')) (fun e=>some (.done e)) (fun r=>some (.ret r))) s0
def qa9:Shp:=⟨[(0, .d false (.slice .bool)),joh,qxj,qxi],[]⟩
def qa8:Shp:=⟨[],[]⟩
def nr(aa:(List Bool))(hs:Bool):Option Int:=bnd (ro aa hs (aa.length:Int) 0) fun oe1=>lk oe1 (fun e1=>some (-1)) (fun r=>some r)
def bt(aa:(List Bool))(hs:Bool):Option Bool:=bnd (nr aa hs) fun r1=>some (decide ((0:Int)≤r1))
def oi{R:Type}(dd:(List ae))(f2 b1:Int)(a1:(List ae))(b4 b5 h1:Int)(nx:Int→Option R)(dn:Unit→Option R)(rt:Bool→Option R):Option R:=bif decide (h1<f2)then al (ix h1 dd.length)<|al (ix h1 dd.length)<|bnd (fe (dd.getD h1.toNat ae.z).2.2.1 b4) fun r2=>bif r2 then rt false else bnd (fe (dd.getD h1.toNat ae.z).2.1 b5) fun r3=>bif r3 then rt false else al (fu .i64 (h1+1))<|nx (h1+1)else dn ()
def qc4(dd:(List ae))(f2 b1:Int)(a1:(List ae))(b4 b5 s0:Int):Option (Unit⊕Bool):=bn (fun a=>oi dd f2 b1 a1 b4 b5 a (fun a' =>some (.next a')) (fun e=>some (.done e)) (fun r=>some (.ret r))) s0
def qlt:Shp:=⟨[joo,(21, .d false (.slice ae.ty)),(22, .d true qT0),(23, .d true qT0)],[qbz]⟩
def qls:Shp:=⟨[joo],[qbz]⟩
def oj{R:Type}(h2:(List Bool))(lc b1:Int)(a1:(List ae))(b4 b5 hh:Int)(nx:Int→Option R)(dn:Unit→Option R)(rt:Bool→Option R):Option R:=bif decide (hh<lc)then al (ix hh h2.length)<|al (ix hh h2.length)<|bif (h2.getD hh.toNat false)then bnd (mf (b1,a1,b4,b5,()) b5 (h2.getD hh.toNat false)) fun r5=>bnd (bt r5.1 false) fun r6=>bif r6 then rt false else bnd (bt r5.2 false) fun r7=>bif r7 then rt false else al (fu .i64 (hh+1))<|nx (hh+1)else bnd (mf (b1,a1,b4,b5,()) b4 (h2.getD hh.toNat false)) fun r8=>bnd (bt r8.1 false) fun r9=>bif r9 then rt false else bnd (bt r8.2 false) fun r10=>bif r10 then rt false else al (fu .i64 (hh+1))<|nx (hh+1)else dn ()
def qc5(h2:(List Bool))(lc b1:Int)(a1:(List ae))(b4 b5 s0:Int):Option (Unit⊕Bool):=bn (fun a=>oj h2 lc b1 a1 b4 b5 a (fun a' =>some (.next a')) (fun e=>some (.done e)) (fun r=>some (.ret r))) s0
def qlv:Shp:=⟨[joo,(40, .d true (.slice .bool)),(41, .d true qT0),(42, .d true qT0)],[qbz]⟩
def qlu:Shp:=⟨[],[]⟩
def gp(ad:a8):Option Bool:=bnd (o5 ad) fun r1=>bif (!r1)then some false else bif decide (ad.2.2.1=ad.2.2.2.1)then some false else bnd (qc4 ad.2.1 (ad.2.1.length:Int) ad.1 ad.2.1 ad.2.2.1 ad.2.2.2.1 0) fun oe4=>lk oe4 (fun e4=>bnd (qc5 [false,true] 2 ad.1 ad.2.1 ad.2.2.1 ad.2.2.2.1 0) fun oe11=>lk oe11 (fun e11=>some true) (fun r=>some r)) (fun r=>some r)
def zl(av a0:a8):Option Int:=bnd (gp av) fun r1=>bif (!r1)then some 1 else bnd (gp a0) fun r2=>bif (!r2)then some 1 else some 0
def qda(ad:a8)(c4:Int):Option (Int×qL1):=bnd (o5 ad) fun r1=>bif (!r1)then some (1,[])else al (qtt ad.1 ad.1 8)<|al (ix c4 (List.replicate ad.1.toNat (0:Int)).length)<|al (ix c4 (List.replicate ad.1.toNat (0:Int)).length)<|some (0,((List.replicate ad.1.toNat (0:Int)).set c4.toNat 1))
def q0(ad:a8):Option (qL1×Int):=bnd (qda ad ad.2.2.1) fun r1=>some (r1.2,r1.1)
def yq(q7:Int):Option Bool:=bif decide (q7<0)then some true else some (decide ((100:Int)<q7))
def ee{R:Type}(aa:qL1)(a2 ap:Int)(nx:Int→Option R)(dn:Unit→Option R)(rt:Int→Option R):Option R:=bif decide (ap<a2)then al (ix ap aa.length)<|al (ix ap aa.length)<|bnd (yq (aa.getD ap.toNat 0)) fun r1=>bif r1 then rt ap else al (fu .i64 (ap+1))<|nx (ap+1)else dn ()
def na(aa:qL1)(a2 s0:Int):Option (Unit⊕Int):=bn (fun a=>ee aa a2 a (fun a' =>some (.next a')) (fun e=>some (.done e)) (fun r=>some (.ret r))) s0
def wv:Shp:=⟨[ji2,(1, .fn 87 .nil),qxj,qxi],[]⟩
def wu:Shp:=⟨[],[]⟩
def jk(aa:qL1):Option Int:=bnd (na aa (aa.length:Int) 0) fun oe2=>lk oe2 (fun e2=>some (-1)) (fun r=>some r)
def ed(aa:qL1):Option Bool:=bnd (jk aa) fun r1=>some (decide ((0:Int)≤r1))
def ju(ad:a8)(es:qL1):Option Bool:=bnd (o5 ad) fun r1=>bif r1 then bif decide ((es.length:Int)=ad.1)then bnd (ed es) fun r2=>some (!r2)else some false else some false
def uu(aa:qL1):Option qL1:=bif decide ((aa.length:Int)=0)then some []else al (room (0+aa.length) 8)<|some ([]++aa)
def jj(aa:qL1):Option qL1:=al (room (0+aa.length) 8)<|some ([]++aa)
def bq(aa:qL1):Option qL1:=jj aa
def yp(f4:Int)(c4:qL1):Option Bool:=al (ix 0 1)<|al (ix f4 c4.length)<|al (ix f4 c4.length)<|some (decide ((c4.getD f4.toNat 0)=0))
def du{R:Type}(aa f_1c0:qL1)(a2 ap:Int)(nx:Int→Option R)(dn:Unit→Option R)(rt:Int→Option R):Option R:=bif decide (ap<a2)then al (ix ap aa.length)<|al (ix ap aa.length)<|bnd (yp (aa.getD ap.toNat 0) f_1c0) fun r1=>bif r1 then rt ap else al (fu .i64 (ap+1))<|nx (ap+1)else dn ()
def mu(aa f_1c0:qL1)(a2 s0:Int):Option (Unit⊕Int):=bn (fun a=>du aa f_1c0 a2 a (fun a' =>some (.next a')) (fun e=>some (.done e)) (fun r=>some (.ret r))) s0
def vb:Shp:=⟨[ji2,(1, .fn 111 (.cons (.rp false qT1) .nil)),qxj,qxi],[]⟩
def va:Shp:=⟨[],[]⟩
def iu(aa f_1c0:qL1):Option Int:=bnd (mu aa f_1c0 (aa.length:Int) 0) fun oe2=>lk oe2 (fun e2=>some (-1)) (fun r=>some r)
def fw(aa f_1c0:qL1):Option Bool:=bnd (iu aa f_1c0) fun r1=>some (decide ((0:Int)≤r1))
def rb(o0:ae)(es:qL1):Option Bool:=bnd (fw o0.2.1 es) fun r1=>some (!r1)
def kq{R:Type}(he:qL1)(ke hi:Int)(nx:(Int×Int)→Option R)(dn rt:Int→Option R):Option R:=bif decide (hi<(he.length:Int))then al (ix hi he.length)<|al (ix hi he.length)<|al (fu .i64 (hi+1))<|nx ((max ke (he.getD hi.toNat 0)),(hi+1))else dn ke
def yc(he:qL1)(s0:(Int×Int)):Option (Int⊕Int):=bn (fun a=>kq he a.1 a.2 (fun a' =>some (.next a')) (fun e=>some (.done e)) (fun r=>some (.ret r))) s0
def qfw:Shp:=⟨[ji2,joe,(4, .d true qT0)],[]⟩
def qfv:Shp:=⟨[joe],[]⟩
def ns(he:qL1):Option Int:=bif decide ((he.length:Int)<1)then none else al (ix 0 he.length)<|al (ix 0 he.length)<|bnd (yc he ((he.getD 0 0),1)) fun oe1=>lk oe1 (fun e1=>some e1) (fun r=>some r)
def xg{R:Type}(ht:qL1)(pm:Int)(q4:ByteArray)(q5 q6:qL1)(hk:Int)(bb:qL1)(nx:(Int×qL1)→Option R)(dn:qL1→Option R)(rt:(Int×qL1)→Option R):Option R:=bif decide (hk<pm)then al (ix hk ht.length)<|al (ix hk ht.length)<|al (ix (ht.getD hk.toNat 0) bb.length)<|al (ix (ht.getD hk.toNat 0) bb.length)<|al (fu .i64 ((bb.getD (ht.getD hk.toNat 0).toNat 0)-1))<|al (ix (ht.getD hk.toNat 0) bb.length)<|al (ix (ht.getD hk.toNat 0) bb.length)<|al (fu .i64 (hk+1))<|nx ((hk+1),(bb.set (ht.getD hk.toNat 0).toNat ((bb.getD (ht.getD hk.toNat 0).toNat 0)-1)))else dn bb
def qlx(ht:qL1)(pm:Int)(q4:ByteArray)(q5 q6:qL1)(s0:(Int×qL1)):Option (qL1⊕(Int×qL1)):=bn (fun a=>xg ht pm q4 q5 q6 a.1 a.2 (fun a' =>some (.next a')) (fun e=>some (.done e)) (fun r=>some (.ret r))) s0
def qt1:Shp:=⟨[joc,(9, .own 1),(35, .d false qT1),(36, .d true qT0),(37, .d true qT0)],[q0n,qre]⟩
def qt0:Shp:=⟨[joc,(9, .own 1)],[q0n,qre]⟩
def xh{R:Type}(hu:qL1)(ps hl:Int)(bb:qL1)(nx:(Int×qL1)→Option R)(dn:qL1→Option R)(rt:(Int×qL1)→Option R):Option R:=bif decide (hl<ps)then al (ix hl hu.length)<|al (ix hl hu.length)<|al (ix (hu.getD hl.toNat 0) bb.length)<|al (ix (hu.getD hl.toNat 0) bb.length)<|al (fu .i64 ((bb.getD (hu.getD hl.toNat 0).toNat 0)+1))<|al (ix (hu.getD hl.toNat 0) bb.length)<|al (ix (hu.getD hl.toNat 0) bb.length)<|al (fu .i64 (hl+1))<|nx ((hl+1),(bb.set (hu.getD hl.toNat 0).toNat ((bb.getD (hu.getD hl.toNat 0).toNat 0)+1)))else dn bb
def qly(hu:qL1)(ps:Int)(s0:(Int×qL1)):Option (qL1⊕(Int×qL1)):=bn (fun a=>xh hu ps a.1 a.2 (fun a' =>some (.next a')) (fun e=>some (.done e)) (fun r=>some (.ret r))) s0
def qt3:Shp:=⟨[(9, .own 0),(49, .d false qT1),(50, .d true qT0),(51, .d true qT0)],[qre]⟩
def qt2:Shp:=⟨[(9, .own 0)],[qre]⟩
def me(ad:a8)(es:qL1)(hy:Int):Option (Int×qL1):=bif decide (hy<0)then some (2,[])else bif decide ((ad.2.1.length:Int)≤hy)then some (2,[])else al (ix hy ad.2.1.length)<|al (ix hy ad.2.1.length)<|bnd (rb (ad.2.1.getD hy.toNat ae.z) es) fun r1=>bif (!r1)then some (12,[])else bnd (bq es) fun r2=>bnd (qlx (ad.2.1.getD hy.toNat ae.z).2.1 ((ad.2.1.getD hy.toNat ae.z).2.1.length:Int) (ad.2.1.getD hy.toNat ae.z).1 (ad.2.1.getD hy.toNat ae.z).2.1 (ad.2.1.getD hy.toNat ae.z).2.2.1 (0,r2)) fun oe3=>lk oe3 (fun e3=>bnd (qly (ad.2.1.getD hy.toNat ae.z).2.2.1 ((ad.2.1.getD hy.toNat ae.z).2.2.1.length:Int) (0,e3)) fun oe4=>lk oe4 (fun e4=>bnd (ns e4) fun r5=>bif decide ((100:Int)<r5)then some (5,[])else some (0,e4)) (fun r=>some r)) (fun r=>some r)
def uh{R:Type}(lo lv:qL1)(j2 bo:Int)(bd:(List ae))(bs bw:Int)(p2:qL1)(g5:Int)(nx:(qL1×Int)→Option R)(dn:qL1→Option R)(rt:(qL1×Int×Int)→Option R):Option R:=bif decide (g5<j2)then al (ix g5 lv.length)<|al (ix g5 lv.length)<|bnd (me (bo,bd,bs,bw,()) p2 (lv.getD g5.toNat 0)) fun r3=>bif (!decide (r3.1=0))then rt ([],g5,r3.1)else al (fu .i64 (g5+1))<|nx (r3.2,(g5+1))else dn p2
def qov(lo lv:qL1)(j2 bo:Int)(bd:(List ae))(bs bw:Int)(s0:(qL1×Int)):Option (qL1⊕(qL1×Int×Int)):=bn (fun a=>uh lo lv j2 bo bd bs bw a.1 a.2 (fun a' =>some (.next a')) (fun e=>some (.done e)) (fun r=>some (.ret r))) s0
def qwx:Shp:=⟨[jn9,jk7,(9, .d true qT1),(25, .d false qT1),(26, .d true qT0),(27, .d true qT0)],[qbz]⟩
def qww:Shp:=⟨[jn9,(9, .d true qT1)],[]⟩
def qhy(ad:a8)(es lo:qL1):Option (qL1×Int×Int):=bnd (ju ad es) fun r1=>bif (!r1)then some ([],0,1)else bif decide ((1000:Int)<(lo.length:Int))then some ([],0,5)else bnd (bq es) fun r2=>bnd (qov lo lo (lo.length:Int) ad.1 ad.2.1 ad.2.2.1 ad.2.2.2.1 (r2,0)) fun oe4=>lk oe4 (fun e4=>some (e4,(lo.length:Int),0)) (fun r=>some r)
def xf{R:Type}(g2:qL1)(ej ei:Int)(a6:(List ae))(et ev a4:Int)(hm:(List ByteArray))(nx:(Int×(List ByteArray))→Option R)(dn:(List ByteArray)→Option R)(rt:(Int×(List ByteArray))→Option R):Option R:=bif decide (a4<ej)then al (ix a4 g2.length)<|al (ix a4 g2.length)<|bif decide ((g2.getD a4.toNat 0)<0)then rt (2,[])else bif decide ((a6.length:Int)≤(g2.getD a4.toNat 0))then rt (2,[])else al (ix (g2.getD a4.toNat 0) a6.length)<|al (ix (g2.getD a4.toNat 0) a6.length)<|bif (!(ByteArray.toList (a6.getD (g2.getD a4.toNat 0).toNat ae.z).1==ByteArray.toList ⟨#[]⟩))then al (room (hm.length+1) 16)<|al (fu .i64 (a4+1))<|nx ((a4+1),(hm++[(a6.getD (g2.getD a4.toNat 0).toNat ae.z).1]))else al (fu .i64 (a4+1))<|nx ((a4+1),hm)else dn hm
def qlq(g2:qL1)(ej ei:Int)(a6:(List ae))(et ev:Int)(s0:(Int×(List ByteArray))):Option ((List ByteArray)⊕(Int×(List ByteArray))):=bn (fun a=>xf g2 ej ei a6 et ev a.1 a.2 (fun a' =>some (.next a')) (fun e=>some (.done e)) (fun r=>some (.ret r))) s0
def qty:Shp:=⟨[(2, .ptr 0),(6, .nl false (.own 1)),(18, .d false qT1),joj,jlb],[qbz,ja3]⟩
def qtx:Shp:=⟨[jn8],[ja3]⟩
def qec(ad:a8)(dt:qL1):Option (Int×(List ByteArray)):=bnd (o5 ad) fun r1=>bif (!r1)then some (1,[])else bif decide ((1000:Int)<(dt.length:Int))then some (5,[])else bnd (qlq dt (dt.length:Int) ad.1 ad.2.1 ad.2.2.1 ad.2.2.2.1 (0,[])) fun oe2=>lk oe2 (fun e2=>some (0,e2)) (fun r=>some r)
def lg(av:a8)(p3:qL1):Option (qL1×Bool×(List ByteArray)):=bnd (q0 av) fun r1=>bnd (qhy av r1.1 p3) fun r2=>bif (!decide (r2.2.2=0))then some ([],false,[])else bnd (qec av p3) fun r3=>some (r2.1,decide (r3.1=0),r3.2)
def qi3(av a0:a8)(ki:qL1)(gx:Int):Option (qL1×Int×(List ByteArray)):=bnd (zl av a0) fun r1=>bif (!decide (r1=0))then some ([],r1,[])else bnd (lg av ki) fun r2=>bif (!r2.2.1)then some ([],12,[])else bif decide (gx<1)then some ([],2,[])else bif decide ((2000:Int)<gx)then some ([],2,[])else some (r2.1,0,r2.2.2)
def ll(hd:qL1):Option ByteArray:=q7v hd
def wh(ad:a8)(es:qL1)(hy:Int):Option (Int×qL1):=bnd (ju ad es) fun r1=>bif (!r1)then some (1,[])else bnd (me ad es hy) fun r2=>some (r2.1,r2.2)
def pi{R:Type}(es:qL1)(pl ei:Int)(a6:(List ae))(et ev ef:Int)(cy:(List ag))(nx:(Int×(List ag))→Option R)(dn rt:(List ag)→Option R):Option R:=bif decide (ef<pl)then bnd (wh (ei,a6,et,ev,()) es ef) fun r1=>bif decide (r1.1=0)then al (room (cy.length+1) 32)<|al (fu .i64 (ef+1))<|nx ((ef+1),(cy++[(ef,r1.2,())]))else al (fu .i64 (ef+1))<|nx ((ef+1),cy)else dn cy
def qe2(es:qL1)(pl ei:Int)(a6:(List ae))(et ev:Int)(s0:(Int×(List ag))):Option ((List ag)⊕(List ag)):=bn (fun a=>pi es pl ei a6 et ev a.1 a.2 (fun a' =>some (.next a')) (fun e=>some (.done e)) (fun r=>some (.ret r))) s0
def qnd:Shp:=⟨[jn2,(2, .ptr 0),(5, .nl false (.own 1)),(11, .d true qT0),jk9],[qbz,jbo]⟩
def qnc:Shp:=⟨[(5, .nl false (.own 0))],[jbo]⟩
def er(ad:a8)(es:qL1):Option (List ag):=bnd (qe2 es (ad.2.1.length:Int) ad.1 ad.2.1 ad.2.2.1 ad.2.2.2.1 (0,[])) fun oe2=>lk oe2 (fun e2=>some e2) (fun r=>some r)
def x3{R:Type}(ip:(List ByteArray))(bf hg:Int)(f3:(List ag))(h3 bo:Int)(bd:(List ae))(bs bw d0:Int)(ho g4:qL1)(cc:Int)(bk:(List af))(f1:(List (ByteArray×Bool)))(nx:(Int×(List af)×(List (ByteArray×Bool)))→Option R)(dn:((List af)×(List (ByteArray×Bool)))→Option R)(rt:(Bool×(List af))→Option R):Option R:=bif decide (cc<h3)then al (ix cc f3.length)<|al (ix cc f3.length)<|al (ix (f3.getD cc.toNat ag.z).1 bd.length)<|al (ix (f3.getD cc.toNat ag.z).1 bd.length)<|bif (!(ByteArray.toList (bd.getD (Int.toNat (f3.getD cc.toNat ag.z).1) ae.z).1==ByteArray.toList ⟨#[]⟩))then bif decide (d0=(ip.length:Int))then al (fu .i64 (cc+1))<|nx ((cc+1),bk,f1)else al (ix d0 ip.length)<|al (ix d0 ip.length)<|bif (!(ByteArray.toList (ip.getD d0.toNat ⟨#[]⟩)==ByteArray.toList (bd.getD (Int.toNat (f3.getD cc.toNat ag.z).1) ae.z).1))then al (fu .i64 (cc+1))<|nx ((cc+1),bk,f1)else al (fu .i64 (d0+1))<|al (room (1+(f3.getD cc.toNat ag.z).2.1.length) 8)<|bnd (ll ([(d0+1)]++(f3.getD cc.toNat ag.z).2.1)) fun r4=>bif ((qx .str r4 f1).getD false)then al (fu .i64 (cc+1))<|nx ((cc+1),bk,f1)else bif decide ((bk.length:Int)=bf)then rt (false,bk)else bnd (bq g4) fun r5=>al (room (r5.length+1) 8)<|al (room (bk.length+1) 56)<|al (fu .i64 (cc+1))<|nx ((cc+1),(bk++[((d0+1),(f3.getD cc.toNat ag.z).2.1,(r5++[(f3.getD cc.toNat ag.z).1]),())]),(qb7 .str r4 true f1))else al (room (1+(f3.getD cc.toNat ag.z).2.1.length) 8)<|bnd (ll ([d0]++(f3.getD cc.toNat ag.z).2.1)) fun r6=>bif ((qx .str r6 f1).getD false)then al (fu .i64 (cc+1))<|nx ((cc+1),bk,f1)else bif decide ((bk.length:Int)=bf)then rt (false,bk)else bnd (bq g4) fun r7=>al (room (r7.length+1) 8)<|al (room (bk.length+1) 56)<|al (fu .i64 (cc+1))<|nx ((cc+1),(bk++[(d0,(f3.getD cc.toNat ag.z).2.1,(r7++[(f3.getD cc.toNat ag.z).1]),())]),(qb7 .str r6 true f1))else dn (bk,f1)
def qiq(ip:(List ByteArray))(bf hg:Int)(f3:(List ag))(h3 bo:Int)(bd:(List ae))(bs bw d0:Int)(ho g4:qL1)(s0:(Int×(List af)×(List (ByteArray×Bool)))):Option (((List af)×(List (ByteArray×Bool)))⊕(Bool×(List af))):=bn (fun a=>x3 ip bf hg f3 h3 bo bd bs bw d0 ho g4 a.1 a.2.1 a.2.2 (fun a' =>some (.next a')) (fun e=>some (.done e)) (fun r=>some (.ret r))) s0
def qgm:Shp:=⟨[jk0,q6w,jk7,(10, .own 1),(11, .mp 2),jk9,jot,(46, .nl false (.d true (.slice ag.ty))),(47, .d true qT0),(48, .d true qT0)],[qbz,qpd,qmm, .cs 92 3 1 (.cons (.d true qT0) (.cons (.d true qT1) (.cons (.d true qT1) .nil)))]⟩
def qgl:Shp:=⟨[jk0,q6w,jk7,(10, .own 1),(11, .mp 2),jk9],[qbz,qpd,qmm]⟩
def x4{R:Type}(ip:(List ByteArray))(bf bo:Int)(bd:(List ae))(bs bw hg:Int)(bk:(List af))(f1:(List (ByteArray×Bool)))(nx:(Int×(List af)×(List (ByteArray×Bool)))→Option R)(dn:(List af)→Option R)(rt:(Bool×(List af))→Option R):Option R:=bif decide (hg<(bk.length:Int))then al (ix hg bk.length)<|al (ix hg bk.length)<|bnd (er (bo,bd,bs,bw,()) (bk.getD hg.toNat af.z).2.1) fun r3=>bnd (qiq ip bf hg r3 (r3.length:Int) bo bd bs bw (bk.getD hg.toNat af.z).1 (bk.getD hg.toNat af.z).2.1 (bk.getD hg.toNat af.z).2.2.1 (0,bk,f1)) fun oe8=>lk oe8 (fun e8=>al (fu .i64 (hg+1))<|nx ((hg+1),e8.1,e8.2)) (fun r=>rt r)else dn bk
def qir(ip:(List ByteArray))(bf bo:Int)(bd:(List ae))(bs bw:Int)(s0:(Int×(List af)×(List (ByteArray×Bool)))):Option ((List af)⊕(Bool×(List af))):=bn (fun a=>x4 ip bf bo bd bs bw a.1 a.2.1 a.2.2 (fun a' =>some (.next a')) (fun e=>some (.done e)) (fun r=>some (.ret r))) s0
def qgo:Shp:=⟨[jk0,q6w,jk7,(10, .own 1),(11, .mp 2),jk9],[qbz,qpd,qmm]⟩
def qgn:Shp:=⟨[(10, .own 0)],[qpd]⟩
def qbn(ad:a8)(ip:(List ByteArray))(bf:Int):Option (Bool×(List af)):=bnd (q0 ad) fun r1=>al (room (1+r1.1.length) 8)<|bnd (ll ([0]++r1.1)) fun r2=>bnd (qir ip bf ad.1 ad.2.1 ad.2.2.1 ad.2.2.2.1 (0,[(0,r1.1,[],())],(qb7 .str r2 true ([]:(List (ByteArray×Bool)))))) fun oe9=>lk oe9 (fun e9=>some (true,e9)) (fun r=>some r)
def qag(f4:af)(c4:(List ByteArray)):Option Bool:=al (ix 0 1)<|some (decide (f4.1<(c4.length:Int)))
def cr{R:Type}(aa:(List af))(f_1c0:(List ByteArray))(a2 ap:Int)(nx:Int→Option R)(dn:Unit→Option R)(rt:Int→Option R):Option R:=bif decide (ap<a2)then al (ix ap aa.length)<|al (ix ap aa.length)<|bnd (qag (aa.getD ap.toNat af.z) f_1c0) fun r1=>bif r1 then rt ap else al (fu .i64 (ap+1))<|nx (ap+1)else dn ()
def ie(aa:(List af))(f_1c0:(List ByteArray))(a2 s0:Int):Option (Unit⊕Int):=bn (fun a=>cr aa f_1c0 a2 a (fun a' =>some (.next a')) (fun e=>some (.done e)) (fun r=>some (.ret r))) s0
def g9:Shp:=⟨[(0, .d false (.slice af.ty)),jk3,qxj,qxi],[]⟩
def gz:Shp:=⟨[],[]⟩
def di(aa:(List af))(f_1c0:(List ByteArray)):Option Int:=bnd (ie aa f_1c0 (aa.length:Int) 0) fun oe2=>lk oe2 (fun e2=>some (-1)) (fun r=>some r)
def cm{R:Type}(del_1c0:(List ByteArray))(a3 g8:Int)(aa:(List af))(nx:(Int×Int×(List af))→Option R)(dn:(Int×(List af))→Option R)(rt:(List af)→Option R):Option R:=bif decide (g8<(aa.length:Int))then al (ix g8 aa.length)<|al (ix g8 aa.length)<|bnd (qag (aa.getD g8.toNat af.z) del_1c0) fun r2=>bif (!r2)then al (ix a3 aa.length)<|al (ix a3 aa.length)<|al (fu .i64 (a3+1))<|al (fu .i64 (g8+1))<|nx ((a3+1),(g8+1),(aa.set a3.toNat (aa.getD g8.toNat af.z)))else al (fu .i64 (g8+1))<|nx (a3,(g8+1),aa)else dn (a3,aa)
def gu(del_1c0:(List ByteArray))(s0:(Int×Int×(List af))):Option ((Int×(List af))⊕(List af)):=bn (fun a=>cm del_1c0 a.1 a.2.1 a.2.2 (fun a' =>some (.next a')) (fun e=>some (.done e)) (fun r=>some (.ret r))) s0
def gi:Shp:=⟨[jdw,jk3,jn6,(6, .d true qT0)],[qpd]⟩
def gh:Shp:=⟨[jdw,jn6],[qpd]⟩
def da(del_1c0:(List ByteArray))(aa:(List af)):Option (List af):=bnd (di aa del_1c0) fun r1=>bif decide (r1=(-1))then some aa else al (fu .i64 (r1+1))<|bnd (gu del_1c0 (r1,(r1+1),aa)) fun oe3=>lk oe3 (fun e3=>al (cut e3.1 (e3.2.length:Int) e3.2.length)<|al (cut 0 e3.1 (qd e3.2 e3.1.toNat ((e3.2.length:Int).toNat-e3.1.toNat) (List.replicate ((e3.2.length:Int).toNat-e3.1.toNat) (af.z:af))).length)<|some (((qd e3.2 e3.1.toNat ((e3.2.length:Int).toNat-e3.1.toNat) (List.replicate ((e3.2.length:Int).toNat-e3.1.toNat) (af.z:af))).drop 0).take (e3.1.toNat-0))) (fun r=>some r)
def yk(p6:qL1)(c4:(List (ByteArray×Bool)))(gy:qL2):Option ((List (ByteArray×Bool))×qL2):=bnd (ll p6) fun r1=>bif (!((qx .str r1 c4).getD false))then bnd (ll p6) fun r2=>al (room (gy.length+1) 24)<|some ((qb7 .str r2 true c4),(gy++[p6]))else some (c4,gy)
def qcv{R:Type}(bf ej:Int)(g2:qL2)(bo:Int)(bd:(List ae))(bs bw a4:Int)(bb:qL2)(add_10c0:(List (ByteArray×Bool)))(nx:(Int×qL2×(List (ByteArray×Bool)))→Option R)(dn:(qL2×(List (ByteArray×Bool)))→Option R)(rt:(Bool×qL2×qL2)→Option R):Option R:=bif decide (a4<ej)then al (ix a4 g2.length)<|al (ix a4 g2.length)<|bnd (yk (g2.getD a4.toNat []) add_10c0 bb) fun r1=>al (fu .i64 (a4+1))<|nx ((a4+1),r1.2,r1.1)else dn (bb,add_10c0)
def qps(bf ej:Int)(g2:qL2)(bo:Int)(bd:(List ae))(bs bw:Int)(s0:(Int×qL2×(List (ByteArray×Bool)))):Option ((qL2×(List (ByteArray×Bool)))⊕(Bool×qL2×qL2)):=bn (fun a=>qcv bf ej g2 bo bd bs bw a.1 a.2.1 a.2.2 (fun a' =>some (.next a')) (fun e=>some (.done e)) (fun r=>some (.ret r))) s0
def qm4:Shp:=⟨[q6w,jop,jos,qs7,(18, .own 0),joj,jlb],[qkw,qbz,q6u,q6s,qkw,qmm]⟩
def qm3:Shp:=⟨[q6w,jop,jos,qs7],[qkw,qbz,q6u,q6s,qkw,qmm]⟩
def qcw{R:Type}(bf h0:Int)(l1:(List ag))(f3:Int)(k0:qL2)(bo:Int)(bd:(List ae))(bs bw h3:Int)(bb:qL2)(add_10c0:(List (ByteArray×Bool)))(nx:(Int×qL2×(List (ByteArray×Bool)))→Option R)(dn:(qL2×(List (ByteArray×Bool)))→Option R)(rt:(Bool×qL2×qL2)→Option R):Option R:=bif decide (h3<f3)then al (ix h3 l1.length)<|al (ix h3 l1.length)<|bnd (yk (l1.getD h3.toNat ag.z).2.1 add_10c0 bb) fun r4=>al (fu .i64 (h3+1))<|nx ((h3+1),r4.2,r4.1)else dn (bb,add_10c0)
def qpt(bf h0:Int)(l1:(List ag))(f3:Int)(k0:qL2)(bo:Int)(bd:(List ae))(bs bw:Int)(s0:(Int×qL2×(List (ByteArray×Bool)))):Option ((qL2×(List (ByteArray×Bool)))⊕(Bool×qL2×qL2)):=bn (fun a=>qcw bf h0 l1 f3 k0 bo bd bs bw a.1 a.2.1 a.2.2 (fun a' =>some (.next a')) (fun e=>some (.done e)) (fun r=>some (.ret r))) s0
def qm6:Shp:=⟨[q6w,jop,jos,qs7,jla,(45, .nl false (.d true (.slice ag.ty))),(46, .d true qT0),(47, .d true qT0)],[qkw,qbz,q6u,q6s,qkw,qmm]⟩
def qm5:Shp:=⟨[q6w,jop,jos,qs7,jla],[qkw,qbz,q6u,q6s,qkw,qmm]⟩
def qcx{R:Type}(bf:Int)(k0:qL2)(bo:Int)(bd:(List ae))(bs bw h0:Int)(bb:qL2)(add_10c0:(List (ByteArray×Bool)))(nx:(Int×qL2×(List (ByteArray×Bool)))→Option R)(dn:qL2→Option R)(rt:(Bool×qL2×qL2)→Option R):Option R:=bif decide (h0<(bb.length:Int))then bif decide ((bb.length:Int)≤bf)then al (ix h0 bb.length)<|al (ix h0 bb.length)<|bnd (er (bo,bd,bs,bw,()) (bb.getD h0.toNat [])) fun r3=>bnd (qpt bf h0 r3 (r3.length:Int) k0 bo bd bs bw (0,bb,add_10c0)) fun oe5=>lk oe5 (fun e5=>al (fu .i64 (h0+1))<|nx ((h0+1),e5.1,e5.2)) (fun r=>rt r)else dn bb else dn bb
def qpu(bf:Int)(k0:qL2)(bo:Int)(bd:(List ae))(bs bw:Int)(s0:(Int×qL2×(List (ByteArray×Bool)))):Option (qL2⊕(Bool×qL2×qL2)):=bn (fun a=>qcx bf k0 bo bd bs bw a.1 a.2.1 a.2.2 (fun a' =>some (.next a')) (fun e=>some (.done e)) (fun r=>some (.ret r))) s0
def qm8:Shp:=⟨[q6w,jop,jos,qs7,jla],[qkw,qbz,q6u,q6s,qkw,qmm]⟩
def qm7:Shp:=⟨[q6w,(9, .ptr 1)],[qkw, .cs 38 1 1 (.cons (.own 2) .nil),qkw]⟩
def qb6(ad:a8)(bf:Int)(g3:qL2):Option (Bool×qL2×qL2):=bnd (qps bf (g3.length:Int) g3 ad.1 ad.2.1 ad.2.2.1 ad.2.2.2.1 (0,[],[])) fun oe2=>lk oe2 (fun e2=>bnd (qpu bf g3 ad.1 ad.2.1 ad.2.2.1 ad.2.2.2.1 (0,e2.1,e2.2)) fun oe6=>lk oe6 (fun e6=>some (decide ((e6.length:Int)≤bf),g3,e6)) (fun r=>some r)) (fun r=>some r)
def lm(he o2:qL1):Option ByteArray:=bnd (ll he) fun r1=>al (decide (((ByteArray.size r1+ByteArray.size ⟨#[124]⟩:Nat):Int)≤9223372036854775807))<|bnd (ll o2) fun r2=>al (decide (((ByteArray.size (r1++⟨#[124]⟩)+ByteArray.size r2:Nat):Int)≤9223372036854775807))<|some ((r1++⟨#[124]⟩)++r2)
def o4(ad:a8):Option (Int×qL1):=bnd (qda ad ad.2.2.2.1) fun r1=>some (r1.1,r1.2)
def ff{R:Type}(ga g0:qL1)(ef dw:Int)(nx:Int→Option R)(dn:Unit→Option R)(rt:Bool→Option R):Option R:=bif decide (dw<ef)then al (ix dw ga.length)<|al (ix dw ga.length)<|al (ix dw g0.length)<|al (ix dw g0.length)<|bif (!decide ((ga.getD dw.toNat 0)=(g0.getD dw.toNat 0)))then rt false else al (fu .i64 (dw+1))<|nx (dw+1)else dn ()
def u3(ga g0:qL1)(ef s0:Int):Option (Unit⊕Bool):=bn (fun a=>ff ga g0 ef a (fun a' =>some (.next a')) (fun e=>some (.done e)) (fun r=>some (.ret r))) s0
def qdn:Shp:=⟨[ji2,jn2,jk9,jla],[]⟩
def qdm:Shp:=⟨[],[]⟩
def bc(ga g0:qL1):Option Bool:=bif (!decide ((ga.length:Int)=(g0.length:Int)))then some false else bnd (u3 ga g0 (ga.length:Int) 0) fun oe1=>lk oe1 (fun e1=>some true) (fun r=>some r)
def mr{R:Type}(es:qL1)(gd:(List ae))(j1 gj:Int)(hm:qL1)(nx:(Int×qL1)→Option R)(dn:qL1→Option R)(rt:(Int×qL1)→Option R):Option R:=bif decide (gj<j1)then al (ix gj gd.length)<|al (ix gj gd.length)<|bnd (rb (gd.getD gj.toNat ae.z) es) fun r2=>bif r2 then al (room (hm.length+1) 8)<|al (fu .i64 (gj+1))<|nx ((gj+1),(hm++[gj]))else al (fu .i64 (gj+1))<|nx ((gj+1),hm)else dn hm
def qe6(es:qL1)(gd:(List ae))(j1:Int)(s0:(Int×qL1)):Option (qL1⊕(Int×qL1)):=bn (fun a=>mr es gd j1 a.1 a.2 (fun a' =>some (.next a')) (fun e=>some (.done e)) (fun r=>some (.ret r))) s0
def qnl:Shp:=⟨[jn2,jn8,(14, .d false (.slice ae.ty)),(15, .d true qT0),(16, .d true qT0)],[qre]⟩
def qnk:Shp:=⟨[jn8],[qre]⟩
def mc(ad:a8)(es:qL1):Option (Int×qL1):=bnd (ju ad es) fun r1=>bif (!r1)then some (1,[])else bnd (qe6 es ad.2.1 (ad.2.1.length:Int) (0,[])) fun oe3=>lk oe3 (fun e3=>some (0,e3)) (fun r=>some r)
def se(he o2:qL1)(gy:(List (ByteArray×Bool))):Option (Bool×(List (ByteArray×Bool))):=bnd (lm he o2) fun r1=>some (((qx .str r1 gy).getD false),gy)
def qaj(ch:ag)(c4:a8)(gy:ByteArray)(os:ag)(p_3c0:(List (ByteArray×Bool))):Option (Bool×(List (ByteArray×Bool))):=al (ix 0 1)<|al (ix ch.1 c4.2.1.length)<|al (ix ch.1 c4.2.1.length)<|al (ix 0 1)<|bif (ByteArray.toList (c4.2.1.getD ch.1.toNat ae.z).1==ByteArray.toList gy)then al (ix 0 1)<|bnd (se os.2.1 ch.2.1 p_3c0) fun r1=>some (r1.1,r1.2)else some (false,p_3c0)
def dk{R:Type}(aa:(List ag))(f_1c0:a8)(f_1c1:ByteArray)(f_1c3:ag)(a2 ap:Int)(f_1c2c0:(List (ByteArray×Bool)))(nx:(Int×(List (ByteArray×Bool)))→Option R)(dn:(List (ByteArray×Bool))→Option R)(rt:(Int×(List (ByteArray×Bool)))→Option R):Option R:=bif decide (ap<a2)then al (ix ap aa.length)<|al (ix ap aa.length)<|bnd (qaj (aa.getD ap.toNat ag.z) f_1c0 f_1c1 f_1c3 f_1c2c0) fun r1=>bif r1.1 then rt (ap,r1.2)else al (fu .i64 (ap+1))<|nx ((ap+1),r1.2)else dn f_1c2c0
def kc(aa:(List ag))(f_1c0:a8)(f_1c1:ByteArray)(f_1c3:ag)(a2:Int)(s0:(Int×(List (ByteArray×Bool)))):Option ((List (ByteArray×Bool))⊕(Int×(List (ByteArray×Bool)))):=bn (fun a=>dk aa f_1c0 f_1c1 f_1c3 a2 a.1 a.2 (fun a' =>some (.next a')) (fun e=>some (.done e)) (fun r=>some (.ret r))) s0
def jq:Shp:=⟨[jn4,qta,qxj,qxi],[qpc,qmc,qmm]⟩
def jp:Shp:=⟨[],[qpc,qmc,qmm]⟩
def eb(aa:(List ag))(f_1c0:a8)(f_1c1:ByteArray)(f_1c3:ag)(f_1c2c0:(List (ByteArray×Bool))):Option (Int×(List (ByteArray×Bool))):=bnd (kc aa f_1c0 f_1c1 f_1c3 (aa.length:Int) (0,f_1c2c0)) fun oe2=>lk oe2 (fun e2=>some ((-1),e2)) (fun r=>some r)
def bv(aa:(List ag))(f_1c0:a8)(f_1c1:ByteArray)(f_1c3:ag)(f_1c2c0:(List (ByteArray×Bool))):Option (Bool×(List (ByteArray×Bool))):=bnd (eb aa f_1c0 f_1c1 f_1c3 f_1c2c0) fun r1=>some (decide ((0:Int)≤r1.1),r1.2)
def y7{R:Type}(gs:qL1)(dc b0:(List ag))(j3 c1:Int)(a9:(List ae))(c2 c3 b6:Int)(b7:(List ae))(b8 cb bl:Int)(k0:(List (ByteArray×Bool)))(nx:(Int×(List (ByteArray×Bool)))→Option R)(dn:(List (ByteArray×Bool))→Option R)(rt:(Bool×(List (ByteArray×Bool)))→Option R):Option R:=bif decide (bl<j3)then al (ix bl b0.length)<|al (ix bl b0.length)<|al (ix (b0.getD bl.toNat ag.z).1 a9.length)<|al (ix (b0.getD bl.toNat ag.z).1 a9.length)<|bif (ByteArray.toList (a9.getD (Int.toNat (b0.getD bl.toNat ag.z).1) ae.z).1==ByteArray.toList ⟨#[]⟩)then bnd (se (b0.getD bl.toNat ag.z).2.1 gs k0) fun r8=>bif r8.1 then al (fu .i64 (bl+1))<|nx ((bl+1),r8.2)else bnd (bv dc (b6,b7,b8,cb,()) (a9.getD (Int.toNat (b0.getD bl.toNat ag.z).1) ae.z).1 (b0.getD bl.toNat ag.z) r8.2) fun r9=>bif (!r9.1)then rt (false,r9.2)else al (fu .i64 (bl+1))<|nx ((bl+1),r9.2)else bnd (bv dc (b6,b7,b8,cb,()) (a9.getD (Int.toNat (b0.getD bl.toNat ag.z).1) ae.z).1 (b0.getD bl.toNat ag.z) k0) fun r10=>bif (!r10.1)then rt (false,r10.2)else al (fu .i64 (bl+1))<|nx ((bl+1),r10.2)else dn k0
def qj1(gs:qL1)(dc b0:(List ag))(j3 c1:Int)(a9:(List ae))(c2 c3 b6:Int)(b7:(List ae))(b8 cb:Int)(s0:(Int×(List (ByteArray×Bool)))):Option ((List (ByteArray×Bool))⊕(Bool×(List (ByteArray×Bool)))):=bn (fun a=>y7 gs dc b0 j3 c1 a9 c2 c3 b6 b7 b8 cb a.1 a.2 (fun a' =>some (.next a')) (fun e=>some (.done e)) (fun r=>some (.ret r))) s0
def qim:Shp:=⟨[job,jow,joy,joz,jk4,jk5,(59, .d true qT0),(60, .d true qT0)],[qqo,qmm,qbz,qbz,jd9]⟩
def qil:Shp:=⟨[],[qqo,qmm]⟩
def y8{R:Type}(hj gs:qL1)(k0:(List (ByteArray×Bool)))(c1:Int)(a9:(List ae))(c2 c3 b6:Int)(b7:(List ae))(b8 cb:Int)(dn:Unit→Option R)(rt:(Bool×(List (ByteArray×Bool)))→Option R):Option R:=bnd (er (b6,b7,b8,cb,()) gs) fun r5=>bnd (mc (c1,a9,c2,c3,()) hj) fun r6=>bnd (er (c1,a9,c2,c3,()) hj) fun r7=>bif decide ((r7.length:Int)<(r6.2.length:Int))then rt (false,k0)else bnd (qj1 gs r5 r7 (r7.length:Int) c1 a9 c2 c3 b6 b7 b8 cb (0,k0)) fun oe11=>lk oe11 (fun e11=>rt (true,e11)) (fun r=>rt r)
def qan(hj gs:qL1)(k0:(List (ByteArray×Bool)))(c1:Int)(a9:(List ae))(c2 c3 b6:Int)(b7:(List ae))(b8 cb:Int):Option (Unit⊕(Bool×(List (ByteArray×Bool)))):=y8 hj gs k0 c1 a9 c2 c3 b6 b7 b8 cb (fun e=>some (.inl e)) (fun r=>some (.inr r))
def qio:Shp:=⟨[jn9,job,jow,joy,joz],[qqo,qmm,qbz,qbz,jd9]⟩
def qin:Shp:=⟨[],[]⟩
def qct(av a0:a8)(hj gs:qL1)(in_4c0:(List (ByteArray×Bool))):Option (Bool×(List (ByteArray×Bool))):=bnd (o4 av) fun r1=>bnd (o4 a0) fun r2=>bnd (bc hj r1.2) fun r3=>bif r3 then bnd (bc gs r2.2) fun r4=>bif (!r4)then some (false,in_4c0)else bnd (qan hj gs in_4c0 av.1 av.2.1 av.2.2.1 av.2.2.2.1 a0.1 a0.2.1 a0.2.2.1 a0.2.2.2.1) fun oe12=>lk oe12 (fun e12=>none) (fun r=>some r)else bnd (qan hj gs in_4c0 av.1 av.2.1 av.2.2.1 av.2.2.2.1 a0.1 a0.2.1 a0.2.2.1 a0.2.2.2.1) fun oe13=>lk oe13 (fun e13=>none) (fun r=>some r)
def od(f4:ab)(c4 gy:a8)(os:(List (ByteArray×Bool))):Option (Bool×(List (ByteArray×Bool))):=al (ix 0 1)<|al (ix 0 1)<|bnd (qct c4 gy f4.1 f4.2.1 os) fun r1=>bif r1.1 then some (false,r1.2)else bnd (lm f4.1 f4.2.1) fun r2=>some (true,(qtn .str r2 r1.2))
def io{R:Type}(aa:(List ab))(f_1c0 f_1c1:a8)(a2 ap:Int)(f_1c3:(List (ByteArray×Bool)))(nx:(Int×(List (ByteArray×Bool)))→Option R)(dn:(List (ByteArray×Bool))→Option R)(rt:(Int×(List (ByteArray×Bool)))→Option R):Option R:=bif decide (ap<a2)then al (ix ap aa.length)<|al (ix ap aa.length)<|bnd (od (aa.getD ap.toNat ab.z) f_1c0 f_1c1 f_1c3) fun r1=>bif r1.1 then rt (ap,r1.2)else al (fu .i64 (ap+1))<|nx ((ap+1),r1.2)else dn f_1c3
def qp(aa:(List ab))(f_1c0 f_1c1:a8)(a2:Int)(s0:(Int×(List (ByteArray×Bool)))):Option ((List (ByteArray×Bool))⊕(Int×(List (ByteArray×Bool)))):=bn (fun a=>io aa f_1c0 f_1c1 a2 a.1 a.2 (fun a' =>some (.next a')) (fun e=>some (.done e)) (fun r=>some (.ret r))) s0
def qb:Shp:=⟨[qrf,(1, .fn 98 (.cons (.rp false a8.ty) (.cons (.rp false a8.ty) (.cons (.ptr 0) (.cons (.ptr 1) .nil))))),qxj,qxi],[qpc,qmc,qmm]⟩
def qa:Shp:=⟨[],[qpc,qmc,qmm]⟩
def kl(aa:(List ab))(f_1c0 f_1c1:a8)(f_1c3:(List (ByteArray×Bool))):Option (Int×(List (ByteArray×Bool))):=bnd (qp aa f_1c0 f_1c1 (aa.length:Int) (0,f_1c3)) fun oe2=>lk oe2 (fun e2=>some ((-1),e2)) (fun r=>some r)
def gq{R:Type}(del_1c0 del_1c1:a8)(a3 g8:Int)(aa:(List ab))(del_1c3:(List (ByteArray×Bool)))(nx:(Int×Int×(List ab)×(List (ByteArray×Bool)))→Option R)(dn:(Int×(List ab)×(List (ByteArray×Bool)))→Option R)(rt:((List ab)×(List (ByteArray×Bool)))→Option R):Option R:=bif decide (g8<(aa.length:Int))then al (ix g8 aa.length)<|al (ix g8 aa.length)<|bnd (od (aa.getD g8.toNat ab.z) del_1c0 del_1c1 del_1c3) fun r2=>bif (!r2.1)then al (ix a3 aa.length)<|al (ix a3 aa.length)<|al (fu .i64 (a3+1))<|al (fu .i64 (g8+1))<|nx ((a3+1),(g8+1),(aa.set a3.toNat (aa.getD g8.toNat ab.z)),r2.2)else al (fu .i64 (g8+1))<|nx (a3,(g8+1),aa,r2.2)else dn (a3,aa,del_1c3)
def px(del_1c0 del_1c1:a8)(s0:(Int×Int×(List ab)×(List (ByteArray×Bool)))):Option ((Int×(List ab)×(List (ByteArray×Bool)))⊕((List ab)×(List (ByteArray×Bool)))):=bn (fun a=>gq del_1c0 del_1c1 a.1 a.2.1 a.2.2.1 a.2.2.2 (fun a' =>some (.next a')) (fun e=>some (.done e)) (fun r=>some (.ret r))) s0
def o8:Shp:=⟨[jdw,(1, .fn 98 (.cons (.rp false a8.ty) (.cons (.rp false a8.ty) (.cons (.ptr 1) (.cons (.ptr 2) .nil))))),jn6,(6, .d true qT0)],[qk1,q3d,q6r,qmm]⟩
def o7:Shp:=⟨[jdw,jn6],[qk1,q3d,q6r,qmm]⟩
def jz(del_1c0 del_1c1:a8)(aa:(List ab))(del_1c3:(List (ByteArray×Bool))):Option ((List ab)×(List (ByteArray×Bool))):=bnd (kl aa del_1c0 del_1c1 del_1c3) fun r1=>bif decide (r1.1=(-1))then some (aa,r1.2)else al (fu .i64 (r1.1+1))<|bnd (px del_1c0 del_1c1 (r1.1,(r1.1+1),aa,r1.2)) fun oe3=>lk oe3 (fun e3=>al (cut e3.1 (e3.2.1.length:Int) e3.2.1.length)<|al (cut 0 e3.1 (qd e3.2.1 e3.1.toNat ((e3.2.1.length:Int).toNat-e3.1.toNat) (List.replicate ((e3.2.1.length:Int).toNat-e3.1.toNat) (ab.z:ab))).length)<|some ((((qd e3.2.1 e3.1.toNat ((e3.2.1.length:Int).toNat-e3.1.toNat) (List.replicate ((e3.2.1.length:Int).toNat-e3.1.toNat) (ab.z:ab))).drop 0).take (e3.1.toNat-0)),e3.2.2)) (fun r=>some r)
def yz{R:Type}(m0:qL1)(a4 dd j2:Int)(ej g7:qL2)(fr:Int)(fs:(List ae))(ft f0 ex:Int)(e0:(List ae))(fd fi g5:Int)(j0:(List ab))(hr:(List (ByteArray×Bool)))(nx:(Int×(List ab)×(List (ByteArray×Bool)))→Option R)(dn:((List ab)×(List (ByteArray×Bool)))→Option R)(rt:(qL2×qL2×(List ab))→Option R):Option R:=bif decide (g5<j2)then al (ix g5 g7.length)<|al (ix g5 g7.length)<|al (room (j0.length+1) 48)<|bnd (lm m0 (g7.getD g5.toNat [])) fun r1=>al (fu .i64 (g5+1))<|nx ((g5+1),(j0++[(m0,(g7.getD g5.toNat []),())]),(qb7 .str r1 true hr))else dn (j0,hr)
def qjt(m0:qL1)(a4 dd j2:Int)(ej g7:qL2)(fr:Int)(fs:(List ae))(ft f0 ex:Int)(e0:(List ae))(fd fi:Int)(s0:(Int×(List ab)×(List (ByteArray×Bool)))):Option (((List ab)×(List (ByteArray×Bool)))⊕(qL2×qL2×(List ab))):=bn (fun a=>yz m0 a4 dd j2 ej g7 fr fs ft f0 ex e0 fd fi a.1 a.2.1 a.2.2 (fun a' =>some (.next a')) (fun e=>some (.done e)) (fun r=>some (.ret r))) s0
def qh4:Shp:=⟨[(3, .own 1),joq,jor,jle,joi,(12, .d true qT1),(19, .own 0),jlb,joa,(25, .own 1),(26, .d true qT0),(27, .d true qT0)],[qkw,qkw,qbz,qbz,qk1,q8q,qmm]⟩
def qh3:Shp:=⟨[(3, .own 1),joq,jor,jle,joi,(19, .own 0),jlb,joa],[qkw,qkw,qbz,qbz,qk1,q8q,qmm]⟩
def y3{R:Type}(a4:Int)(ej g7:qL2)(fr:Int)(fs:(List ae))(ft f0 ex:Int)(e0:(List ae))(fd fi dd:Int)(j0:(List ab))(hr:(List (ByteArray×Bool)))(nx:(Int×(List ab)×(List (ByteArray×Bool)))→Option R)(dn:((List ab)×(List (ByteArray×Bool)))→Option R)(rt:(qL2×qL2×(List ab))→Option R):Option R:=bif decide (dd<a4)then al (ix dd ej.length)<|al (ix dd ej.length)<|bnd (qjt (ej.getD dd.toNat []) a4 dd (g7.length:Int) ej g7 fr fs ft f0 ex e0 fd fi (0,j0,hr)) fun oe2=>lk oe2 (fun e2=>al (fu .i64 (dd+1))<|nx ((dd+1),e2.1,e2.2)) (fun r=>rt r)else dn (j0,hr)
def qju(a4:Int)(ej g7:qL2)(fr:Int)(fs:(List ae))(ft f0 ex:Int)(e0:(List ae))(fd fi:Int)(s0:(Int×(List ab)×(List (ByteArray×Bool)))):Option (((List ab)×(List (ByteArray×Bool)))⊕(qL2×qL2×(List ab))):=bn (fun a=>y3 a4 ej g7 fr fs ft f0 ex e0 fd fi a.1 a.2.1 a.2.2 (fun a' =>some (.next a')) (fun e=>some (.done e)) (fun r=>some (.ret r))) s0
def qh6:Shp:=⟨[(3, .own 1),joq,jor,jle,joi,(19, .own 0),jlb,joa],[qkw,qkw,qbz,qbz,qk1,q8q,qmm]⟩
def qh5:Shp:=⟨[joq,jor,jle,joi],[qkw,qkw,qbz,qbz,qk1,q8q,qmm]⟩
def y4{R:Type}(k0 k1:qL2)(fr:Int)(fs:(List ae))(ft f0 ex:Int)(e0:(List ae))(fd fi:Int)(mk:Bool)(j0:(List ab))(hr:(List (ByteArray×Bool)))(nx:(Bool×(List ab)×(List (ByteArray×Bool)))→Option R)(dn:(List ab)→Option R)(rt:(qL2×qL2×(List ab))→Option R):Option R:=bif mk then bnd (jz (fr,fs,ft,f0,()) (ex,e0,fd,fi,()) j0 hr) fun r4=>nx (decide ((r4.1.length:Int)<(j0.length:Int)),r4.1,r4.2)else dn j0
def qjv(k0 k1:qL2)(fr:Int)(fs:(List ae))(ft f0 ex:Int)(e0:(List ae))(fd fi:Int)(s0:(Bool×(List ab)×(List (ByteArray×Bool)))):Option ((List ab)⊕(qL2×qL2×(List ab))):=bn (fun a=>y4 k0 k1 fr fs ft f0 ex e0 fd fi a.1 a.2.1 a.2.2 (fun a' =>some (.next a')) (fun e=>some (.done e)) (fun r=>some (.ret r))) s0
def qh8:Shp:=⟨[joq,jor,(9, .own 4),joi,(15, .ptr 6),(16, .d true .bool)],[qkw,qkw,qbz,qbz,qk1, .cs 116 1 1 (.cons (.mp 7) .nil), .cs 45 1 1 (.cons (.fn 96 (.cons (.ptr 5) .nil)) .nil),qmm]⟩
def qh7:Shp:=⟨[jog],[qkw,qkw,qk1]⟩
def qcs(av a0:a8)(m1 g7:qL2):Option (qL2×qL2×(List ab)):=bnd (qju (m1.length:Int) m1 g7 av.1 av.2.1 av.2.2.1 av.2.2.2.1 a0.1 a0.2.1 a0.2.2.1 a0.2.2.2.1 (0,[],[])) fun oe3=>lk oe3 (fun e3=>bnd (qjv m1 g7 av.1 av.2.1 av.2.2.1 av.2.2.2.1 a0.1 a0.2.1 a0.2.2.1 a0.2.2.2.1 (true,e3.1,e3.2)) fun oe5=>lk oe5 (fun e5=>some (m1,g7,e5)) (fun r=>some r)) (fun r=>some r)
def qgh(q8:ab)(c4:qL1)(gy:af):Option Bool:=al (ix 0 1)<|bnd (bc q8.1 c4) fun r1=>bif r1 then al (ix 0 1)<|bnd (bc q8.2.1 gy.2.1) fun r2=>some r2 else some false
def kj{R:Type}(aa:(List ab))(f_1c0:qL1)(f_1c1:af)(a2 ap:Int)(nx:Int→Option R)(dn:Unit→Option R)(rt:Int→Option R):Option R:=bif decide (ap<a2)then al (ix ap aa.length)<|al (ix ap aa.length)<|bnd (qgh (aa.getD ap.toNat ab.z) f_1c0 f_1c1) fun r1=>bif r1 then rt ap else al (fu .i64 (ap+1))<|nx (ap+1)else dn ()
def tn(aa:(List ab))(f_1c0:qL1)(f_1c1:af)(a2 s0:Int):Option (Unit⊕Int):=bn (fun a=>kj aa f_1c0 f_1c1 a2 a (fun a' =>some (.next a')) (fun e=>some (.done e)) (fun r=>some (.ret r))) s0
def sx:Shp:=⟨[qrf,(1, .fn 69 (.cons (.rp false qT1) (.cons (.rp false af.ty) .nil))),qxj,qxi],[]⟩
def sw:Shp:=⟨[],[]⟩
def mi(aa:(List ab))(f_1c0:qL1)(f_1c1:af):Option Int:=bnd (tn aa f_1c0 f_1c1 (aa.length:Int) 0) fun oe2=>lk oe2 (fun e2=>some (-1)) (fun r=>some r)
def kh(aa:(List ab))(f_1c0:qL1)(f_1c1:af):Option Bool:=bnd (mi aa f_1c0 f_1c1) fun r1=>some (decide ((0:Int)≤r1))
def qev{R:Type}(gx:Int)(p5 l2:(List af))(pv fr:Int)(fs:(List ae))(ft f0 ex:Int)(e0:(List ae))(fd fi:Int)(h7 h9:qL1)(ih:(List ab))(k3:qL1)(hb:Int)(k2:qL2)(nx:(Int×qL2)→Option R)(dn:qL2→Option R)(rt:(ck×Int)→Option R):Option R:=bif decide (hb<pv)then al (ix hb l2.length)<|al (ix hb l2.length)<|al (room (k2.length+1) 24)<|al (fu .i64 (hb+1))<|nx ((hb+1),(k2++[(l2.getD hb.toNat af.z).2.1]))else dn k2
def qrz(gx:Int)(p5 l2:(List af))(pv fr:Int)(fs:(List ae))(ft f0 ex:Int)(e0:(List ae))(fd fi:Int)(h7 h9:qL1)(ih:(List ab))(k3:qL1)(s0:(Int×qL2)):Option (qL2⊕(ck×Int)):=bn (fun a=>qev gx p5 l2 pv fr fs ft f0 ex e0 fd fi h7 h9 ih k3 a.1 a.2 (fun a' =>some (.next a')) (fun e=>some (.done e)) (fun r=>some (.ret r))) s0
def qpi:Shp:=⟨[joe,jou,jov,(8, .ptr 2),(10, .ptr 3),jlq,(15, .nl false (.own 4)),(54, .d true (.slice af.ty)),(55, .d true qT0),(56, .d true qT0)],[qbz,qbz,qh1,jd7,qkw]⟩
def qph:Shp:=⟨[joe,jou,jov,(8, .ptr 2),(10, .ptr 3),jlq,(15, .nl false (.own 4))],[qbz,qbz,qh1,jd7,qkw]⟩
def qew{R:Type}(jn:(List ab))(mx:Int)(h7 h9:qL1)(ih:(List ab))(mb md:qL1)(h6:Int)(k4:(List ab))(nx:(Int×(List ab))→Option R)(dn:(List ab)→Option R)(rt:(ck×Int)→Option R):Option R:=bif decide (h6<mx)then al (ix h6 jn.length)<|al (ix h6 jn.length)<|bnd (bq (jn.getD h6.toNat ab.z).1) fun r10=>bnd (bq (jn.getD h6.toNat ab.z).2.1) fun r11=>al (room (k4.length+1) 48)<|al (fu .i64 (h6+1))<|nx ((h6+1),(k4++[(r10,r11,())]))else dn k4
def qr0(jn:(List ab))(mx:Int)(h7 h9:qL1)(ih:(List ab))(mb md:qL1)(s0:(Int×(List ab))):Option ((List ab)⊕(ck×Int)):=bn (fun a=>qew jn mx h7 h9 ih mb md a.1 a.2 (fun a' =>some (.next a')) (fun e=>some (.done e)) (fun r=>some (.ret r))) s0
def qpk:Shp:=⟨[joc,(25, .ptr 1),(116, .d true (.slice ab.ty)),(117, .d true qT0),(118, .d true qT0)],[qh1,q4e,qk1]⟩
def qpj:Shp:=⟨[joc,(25, .ptr 1)],[qh1,q4e,qk1]⟩
def qex{R:Type}(hq:(List ab))(hz:(List af))(mv:Int)(h7 h9:qL1)(ih:(List ab))(k3:qL1)(hn:Int)(nx:Int→Option R)(dn:Unit→Option R)(rt:(ck×Int)→Option R):Option R:=bif decide (hn<mv)then al (ix hn hz.length)<|al (ix hn hz.length)<|bnd (kh hq k3 (hz.getD hn.toNat af.z)) fun r8=>bif r8 then bnd (bq (hz.getD hn.toNat af.z).2.1) fun r9=>bnd (qr0 hq (hq.length:Int) h7 h9 ih r9 (hz.getD hn.toNat af.z).2.2.1 (0,[])) fun oe12=>lk oe12 (fun e12=>rt ((r9,(hz.getD hn.toNat af.z).2.2.1,e12,()),0)) (fun r=>rt r)else al (fu .i64 (hn+1))<|nx (hn+1)else dn ()
def qr1(hq:(List ab))(hz:(List af))(mv:Int)(h7 h9:qL1)(ih:(List ab))(k3:qL1)(s0:Int):Option (Unit⊕(ck×Int)):=bn (fun a=>qex hq hz mv h7 h9 ih k3 a (fun a' =>some (.next a')) (fun e=>some (.done e)) (fun r=>some (.ret r))) s0
def qpm:Shp:=⟨[joc,(10, .ptr 1),(22, .d true (.slice ab.ty)),(101, .d true (.slice af.ty)),(102, .d true qT0),(103, .d true qT0)],[qh1,jd7]⟩
def qpl:Shp:=⟨[joc],[qh1]⟩
def qd7(av a0:a8)(ki:qL1)(gx:Int):Option (ck×Int):=bnd (qi3 av a0 ki gx) fun r1=>bif (!decide (r1.2.1=0))then some (([],[],[],()),r1.2.1)else bnd (qbn a0 r1.2.2 gx) fun r2=>bif (!r2.1)then some (([],[],[],()),13)else bnd (da r1.2.2 r2.2) fun r3=>bnd (qrz gx r3 r3 (r3.length:Int) av.1 av.2.1 av.2.2.1 av.2.2.2.1 a0.1 a0.2.1 a0.2.2.1 a0.2.2.2.1 [] [] [] r1.1 (0,[])) fun oe4=>lk oe4 (fun e4=>bnd (qb6 av gx [r1.1]) fun r5=>al (decide (r5.2.1.length=1))<|bnd (qb6 a0 gx e4) fun r6=>al (decide (r6.2.1.length=e4.length))<|bif (!r5.1)then some (([],[],[],()),13)else bif (!r6.1)then some (([],[],[],()),13)else al (fu .i64 ((r5.2.2.length:Int)*(r6.2.2.length:Int)))<|bif decide ((20000:Int)<((r5.2.2.length:Int)*(r6.2.2.length:Int)))then some (([],[],[],()),13)else bnd (qcs av a0 r5.2.2 r6.2.2) fun r7=>al (decide (r7.1.length=r5.2.2.length))<|al (decide (r7.2.1.length=r6.2.2.length))<|bnd (qr1 r7.2.2 r3 (r3.length:Int) [] [] [] r1.1 0) fun oe13=>lk oe13 (fun e13=>some (([],[],[],()),10)) (fun r=>some r)) (fun r=>some r)
def nv(ad:a8)(es:qL1):Option Bool:=bnd (mc ad es) fun r1=>some (decide (r1.1=0))
def yl(f4:ab)(c4 gy:a8):Option Bool:=al (ix 0 1)<|bnd (nv c4 f4.1) fun r1=>bif (!r1)then some true else al (ix 0 1)<|bnd (nv gy f4.2.1) fun r2=>some (!r2)
def cx{R:Type}(aa:(List ab))(f_1c0 f_1c1:a8)(a2 ap:Int)(nx:Int→Option R)(dn:Unit→Option R)(rt:Int→Option R):Option R:=bif decide (ap<a2)then al (ix ap aa.length)<|al (ix ap aa.length)<|bnd (yl (aa.getD ap.toNat ab.z) f_1c0 f_1c1) fun r1=>bif r1 then rt ap else al (fu .i64 (ap+1))<|nx (ap+1)else dn ()
def la(aa:(List ab))(f_1c0 f_1c1:a8)(a2 s0:Int):Option (Unit⊕Int):=bn (fun a=>cx aa f_1c0 f_1c1 a2 a (fun a' =>some (.next a')) (fun e=>some (.done e)) (fun r=>some (.ret r))) s0
def s6:Shp:=⟨[qrf,(1, .fn 77 (.cons (.rp false a8.ty) (.cons (.rp false a8.ty) .nil))),qxj,qxi],[]⟩
def s5:Shp:=⟨[],[]⟩
def f5(aa:(List ab))(f_1c0 f_1c1:a8):Option Int:=bnd (la aa f_1c0 f_1c1 (aa.length:Int) 0) fun oe2=>lk oe2 (fun e2=>some (-1)) (fun r=>some r)
def ey(aa:(List ab))(f_1c0 f_1c1:a8):Option Bool:=bnd (f5 aa f_1c0 f_1c1) fun r1=>some (decide ((0:Int)≤r1))
def xe(av a0:a8)(g1:(List ab)):Option Bool:=bnd (ey g1 av a0) fun r1=>some (!r1)
def cq{R:Type}(ga g0:(List ByteArray))(ef dw:Int)(nx:Int→Option R)(dn:Unit→Option R)(rt:Bool→Option R):Option R:=bif decide (dw<ef)then al (ix dw ga.length)<|al (ix dw ga.length)<|al (ix dw g0.length)<|al (ix dw g0.length)<|bif (!(ByteArray.toList (ga.getD dw.toNat ⟨#[]⟩)==ByteArray.toList (g0.getD dw.toNat ⟨#[]⟩)))then rt false else al (fu .i64 (dw+1))<|nx (dw+1)else dn ()
def nz(ga g0:(List ByteArray))(ef s0:Int):Option (Unit⊕Bool):=bn (fun a=>cq ga g0 ef a (fun a' =>some (.next a')) (fun e=>some (.done e)) (fun r=>some (.ret r))) s0
def x9:Shp:=⟨[(0, .d false (.slice .str)),jk0,jk9,jla],[]⟩
def x8:Shp:=⟨[],[]⟩
def fl(ga g0:(List ByteArray)):Option Bool:=bif (!decide ((ga.length:Int)=(g0.length:Int)))then some false else bnd (nz ga g0 (ga.length:Int) 0) fun oe1=>lk oe1 (fun e1=>some true) (fun r=>some r)
def yi(f4:ab)(c4 gy:qL1):Option Bool:=al (ix 0 1)<|bnd (bc f4.1 c4) fun r1=>bif r1 then al (ix 0 1)<|bnd (bc f4.2.1 gy) fun r2=>some r2 else some false
def cw{R:Type}(aa:(List ab))(f_1c0 f_1c1:qL1)(a2 ap:Int)(nx:Int→Option R)(dn:Unit→Option R)(rt:Int→Option R):Option R:=bif decide (ap<a2)then al (ix ap aa.length)<|al (ix ap aa.length)<|bnd (yi (aa.getD ap.toNat ab.z) f_1c0 f_1c1) fun r1=>bif r1 then rt ap else al (fu .i64 (ap+1))<|nx (ap+1)else dn ()
def k7(aa:(List ab))(f_1c0 f_1c1:qL1)(a2 s0:Int):Option (Unit⊕Int):=bn (fun a=>cw aa f_1c0 f_1c1 a2 a (fun a' =>some (.next a')) (fun e=>some (.done e)) (fun r=>some (.ret r))) s0
def ss:Shp:=⟨[qrf,(1, .fn 47 (.cons (.rp false qT1) (.cons (.rp false qT1) .nil))),qxj,qxi],[]⟩
def sr:Shp:=⟨[],[]⟩
def fy(aa:(List ab))(f_1c0 f_1c1:qL1):Option Int:=bnd (k7 aa f_1c0 f_1c1 (aa.length:Int) 0) fun oe2=>lk oe2 (fun e2=>some (-1)) (fun r=>some r)
def ct(aa:(List ab))(f_1c0 f_1c1:qL1):Option Bool:=bnd (fy aa f_1c0 f_1c1) fun r1=>some (decide ((0:Int)≤r1))
def iw(he o2:qL1)(gy:(List (ByteArray×Bool))):Option (Bool×(List (ByteArray×Bool))):=bnd (lm he o2) fun r1=>some (((qx .str r1 gy).getD false),gy)
def ng(ch:ag)(c4:a8)(gy:ByteArray)(os:ag)(p_3c0:(List (ByteArray×Bool))):Option (Bool×(List (ByteArray×Bool))):=al (ix 0 1)<|al (ix ch.1 c4.2.1.length)<|al (ix ch.1 c4.2.1.length)<|al (ix 0 1)<|bif (ByteArray.toList (c4.2.1.getD ch.1.toNat ae.z).1==ByteArray.toList gy)then al (ix 0 1)<|bnd (iw os.2.1 ch.2.1 p_3c0) fun r1=>some (r1.1,r1.2)else some (false,p_3c0)
def bg{R:Type}(aa:(List ag))(f_1c0:a8)(f_1c1:ByteArray)(f_1c3:ag)(a2 ap:Int)(f_1c2c0:(List (ByteArray×Bool)))(nx:(Int×(List (ByteArray×Bool)))→Option R)(dn:(List (ByteArray×Bool))→Option R)(rt:(Int×(List (ByteArray×Bool)))→Option R):Option R:=bif decide (ap<a2)then al (ix ap aa.length)<|al (ix ap aa.length)<|bnd (ng (aa.getD ap.toNat ag.z) f_1c0 f_1c1 f_1c3 f_1c2c0) fun r1=>bif r1.1 then rt (ap,r1.2)else al (fu .i64 (ap+1))<|nx ((ap+1),r1.2)else dn f_1c2c0
def dm(aa:(List ag))(f_1c0:a8)(f_1c1:ByteArray)(f_1c3:ag)(a2:Int)(s0:(Int×(List (ByteArray×Bool)))):Option ((List (ByteArray×Bool))⊕(Int×(List (ByteArray×Bool)))):=bn (fun a=>bg aa f_1c0 f_1c1 f_1c3 a2 a.1 a.2 (fun a' =>some (.next a')) (fun e=>some (.done e)) (fun r=>some (.ret r))) s0
def jm:Shp:=⟨[jn4,qta,qxj,qxi],[qo4,qmc,qmm]⟩
def jl:Shp:=⟨[],[qo4,qmc,qmm]⟩
def b9(aa:(List ag))(f_1c0:a8)(f_1c1:ByteArray)(f_1c3:ag)(f_1c2c0:(List (ByteArray×Bool))):Option (Int×(List (ByteArray×Bool))):=bnd (dm aa f_1c0 f_1c1 f_1c3 (aa.length:Int) (0,f_1c2c0)) fun oe2=>lk oe2 (fun e2=>some ((-1),e2)) (fun r=>some r)
def aq(aa:(List ag))(f_1c0:a8)(f_1c1:ByteArray)(f_1c3:ag)(f_1c2c0:(List (ByteArray×Bool))):Option (Bool×(List (ByteArray×Bool))):=bnd (b9 aa f_1c0 f_1c1 f_1c3 f_1c2c0) fun r1=>some (decide ((0:Int)≤r1.1),r1.2)
def fm{R:Type}(gs:qL1)(dc b0:(List ag))(j3 c1:Int)(a9:(List ae))(c2 c3 b6:Int)(b7:(List ae))(b8 cb bl:Int)(k0:(List (ByteArray×Bool)))(nx:(Int×(List (ByteArray×Bool)))→Option R)(dn:(List (ByteArray×Bool))→Option R)(rt:(Bool×(List (ByteArray×Bool)))→Option R):Option R:=bif decide (bl<j3)then al (ix bl b0.length)<|al (ix bl b0.length)<|al (ix (b0.getD bl.toNat ag.z).1 a9.length)<|al (ix (b0.getD bl.toNat ag.z).1 a9.length)<|bif (ByteArray.toList (a9.getD (Int.toNat (b0.getD bl.toNat ag.z).1) ae.z).1==ByteArray.toList ⟨#[]⟩)then bnd (iw (b0.getD bl.toNat ag.z).2.1 gs k0) fun r8=>bif r8.1 then al (fu .i64 (bl+1))<|nx ((bl+1),r8.2)else bnd (aq dc (b6,b7,b8,cb,()) (a9.getD (Int.toNat (b0.getD bl.toNat ag.z).1) ae.z).1 (b0.getD bl.toNat ag.z) r8.2) fun r9=>bif (!r9.1)then rt (false,r9.2)else al (fu .i64 (bl+1))<|nx ((bl+1),r9.2)else bnd (aq dc (b6,b7,b8,cb,()) (a9.getD (Int.toNat (b0.getD bl.toNat ag.z).1) ae.z).1 (b0.getD bl.toNat ag.z) k0) fun r10=>bif (!r10.1)then rt (false,r10.2)else al (fu .i64 (bl+1))<|nx ((bl+1),r10.2)else dn k0
def qak(gs:qL1)(dc b0:(List ag))(j3 c1:Int)(a9:(List ae))(c2 c3 b6:Int)(b7:(List ae))(b8 cb:Int)(s0:(Int×(List (ByteArray×Bool)))):Option ((List (ByteArray×Bool))⊕(Bool×(List (ByteArray×Bool)))):=bn (fun a=>fm gs dc b0 j3 c1 a9 c2 c3 b6 b7 b8 cb a.1 a.2 (fun a' =>some (.next a')) (fun e=>some (.done e)) (fun r=>some (.ret r))) s0
def qih:Shp:=⟨[job,jow,joy,joz,jk4,jk5,(59, .d true qT0),(60, .d true qT0)],[qqo,qmm,qbz,qbz,jd8]⟩
def qig:Shp:=⟨[],[qqo,qmm]⟩
def qn{R:Type}(hj gs:qL1)(k0:(List (ByteArray×Bool)))(c1:Int)(a9:(List ae))(c2 c3 b6:Int)(b7:(List ae))(b8 cb:Int)(dn:Unit→Option R)(rt:(Bool×(List (ByteArray×Bool)))→Option R):Option R:=bnd (er (b6,b7,b8,cb,()) gs) fun r5=>bnd (mc (c1,a9,c2,c3,()) hj) fun r6=>bnd (er (c1,a9,c2,c3,()) hj) fun r7=>bif decide ((r7.length:Int)<(r6.2.length:Int))then rt (false,k0)else bnd (qak gs r5 r7 (r7.length:Int) c1 a9 c2 c3 b6 b7 b8 cb (0,k0)) fun oe11=>lk oe11 (fun e11=>rt (true,e11)) (fun r=>rt r)
def nh(hj gs:qL1)(k0:(List (ByteArray×Bool)))(c1:Int)(a9:(List ae))(c2 c3 b6:Int)(b7:(List ae))(b8 cb:Int):Option (Unit⊕(Bool×(List (ByteArray×Bool)))):=qn hj gs k0 c1 a9 c2 c3 b6 b7 b8 cb (fun e=>some (.inl e)) (fun r=>some (.inr r))
def qij:Shp:=⟨[jn9,job,jow,joy,joz],[qqo,qmm,qbz,qbz,jd8]⟩
def qii:Shp:=⟨[],[]⟩
def ph(av a0:a8)(hj gs:qL1)(in_4c0:(List (ByteArray×Bool))):Option (Bool×(List (ByteArray×Bool))):=bnd (o4 av) fun r1=>bnd (o4 a0) fun r2=>bnd (bc hj r1.2) fun r3=>bif r3 then bnd (bc gs r2.2) fun r4=>bif (!r4)then some (false,in_4c0)else bnd (nh hj gs in_4c0 av.1 av.2.1 av.2.2.1 av.2.2.2.1 a0.1 a0.2.1 a0.2.2.1 a0.2.2.2.1) fun oe12=>lk oe12 (fun e12=>none) (fun r=>some r)else bnd (nh hj gs in_4c0 av.1 av.2.1 av.2.2.1 av.2.2.2.1 a0.1 a0.2.1 a0.2.2.1 a0.2.2.2.1) fun oe13=>lk oe13 (fun e13=>none) (fun r=>some r)
def ni(f4:ab)(c4 gy:a8)(p_3c0:(List (ByteArray×Bool))):Option (Bool×(List (ByteArray×Bool))):=al (ix 0 1)<|al (ix 0 1)<|bnd (ph c4 gy f4.1 f4.2.1 p_3c0) fun r1=>some ((!r1.1),r1.2)
def cf{R:Type}(aa:(List ab))(f_1c0 f_1c1:a8)(a2 ap:Int)(f_1c2c0:(List (ByteArray×Bool)))(nx:(Int×(List (ByteArray×Bool)))→Option R)(dn:(List (ByteArray×Bool))→Option R)(rt:(Int×(List (ByteArray×Bool)))→Option R):Option R:=bif decide (ap<a2)then al (ix ap aa.length)<|al (ix ap aa.length)<|bnd (ni (aa.getD ap.toNat ab.z) f_1c0 f_1c1 f_1c2c0) fun r1=>bif r1.1 then rt (ap,r1.2)else al (fu .i64 (ap+1))<|nx ((ap+1),r1.2)else dn f_1c2c0
def je(aa:(List ab))(f_1c0 f_1c1:a8)(a2:Int)(s0:(Int×(List (ByteArray×Bool)))):Option ((List (ByteArray×Bool))⊕(Int×(List (ByteArray×Bool)))):=bn (fun a=>cf aa f_1c0 f_1c1 a2 a.1 a.2 (fun a' =>some (.next a')) (fun e=>some (.done e)) (fun r=>some (.ret r))) s0
def p8:Shp:=⟨[qrf,(1, .fn 83 (.cons (.rp false a8.ty) (.cons (.rp false a8.ty) (.cons (.ptr 0) .nil)))),qxj,qxi],[qo4,qmc,qmm]⟩
def p0:Shp:=⟨[],[qo4,qmc,qmm]⟩
def ez(aa:(List ab))(f_1c0 f_1c1:a8)(f_1c2c0:(List (ByteArray×Bool))):Option (Int×(List (ByteArray×Bool))):=bnd (je aa f_1c0 f_1c1 (aa.length:Int) (0,f_1c2c0)) fun oe2=>lk oe2 (fun e2=>some ((-1),e2)) (fun r=>some r)
def ln{R:Type}(g1 ef:(List ab))(dw n0:Int)(n1:(List ae))(n2 n3 nb:Int)(nd:(List ae))(nf nn gd:Int)(p4:(List (ByteArray×Bool)))(nx:(Int×(List (ByteArray×Bool)))→Option R)(dn:(List (ByteArray×Bool))→Option R)(rt:Int→Option R):Option R:=bif decide (gd<dw)then al (ix gd ef.length)<|al (ix gd ef.length)<|bnd (lm (ef.getD gd.toNat ab.z).1 (ef.getD gd.toNat ab.z).2.1) fun r1=>al (fu .i64 (gd+1))<|nx ((gd+1),(qb7 .str r1 true p4))else dn p4
def za(g1 ef:(List ab))(dw n0:Int)(n1:(List ae))(n2 n3 nb:Int)(nd:(List ae))(nf nn:Int)(s0:(Int×(List (ByteArray×Bool)))):Option ((List (ByteArray×Bool))⊕Int):=bn (fun a=>ln g1 ef dw n0 n1 n2 n3 nb nd nf nn a.1 a.2 (fun a' =>some (.next a')) (fun e=>some (.done e)) (fun r=>some (.ret r))) s0
def qgs:Shp:=⟨[jld,jk7,(4, .ptr 1),(7, .ptr 2),(12, .d false (.slice ab.ty)),jla,(14, .d true qT0)],[qbz,qbz,q6r,qmm]⟩
def qgr:Shp:=⟨[jld,jk7,(4, .ptr 1),(7, .ptr 2)],[qbz,qbz,q6r,qmm]⟩
def oh(av a0:a8)(g1:(List ab)):Option Int:=bnd (za g1 g1 (g1.length:Int) av.1 av.2.1 av.2.2.1 av.2.2.2.1 a0.1 a0.2.1 a0.2.2.1 a0.2.2.2.1 (0,[])) fun oe2=>lk oe2 (fun e2=>bnd (ez g1 av a0 e2) fun r3=>some r3.1) (fun r=>some r)
def jt(av a0:a8)(ki:qL1)(ke:ck):Option Bool:=bnd (zl av a0) fun r1=>bif (!decide (r1=0))then some false else bif decide ((20000:Int)<(ke.2.2.1.length:Int))then some false else bnd (xe av a0 ke.2.2.1) fun r2=>bif (!r2)then some false else bnd (lg av ki) fun r3=>bnd (lg a0 ke.2.1) fun r4=>bif (!r3.2.1)then some false else bif (!r4.2.1)then some false else bnd (fl r3.2.2 r4.2.2) fun r5=>bif (!r5)then some false else bnd (bc r4.1 ke.1) fun r6=>bif (!r6)then some false else bnd (ct ke.2.2.1 r3.1 r4.1) fun r7=>bif (!r7)then some false else bnd (oh av a0 ke.2.2.1) fun r8=>some (decide (r8<0))
def qgc:Option Bool:=bnd (qjo ⟨#[]⟩ [⟨#[97]⟩,⟨#[98]⟩]) fun r1=>bnd (qjo ⟨#[99]⟩ [⟨#[97]⟩,⟨#[98]⟩]) fun r2=>bnd (qd7 r1 r2 [0] 100) fun r3=>bnd (qd7 r2 r1 [0] 100) fun r4=>bif decide (r3.2=0)then bif decide (r4.2=10)then bnd (jt r1 r2 [0] r3.1) fun r5=>bif r5 then bnd (jt r2 r1 [0] r3.1) fun r6=>some (!r6)else some false else some false else some false
def w9(o0:ae):Option Bool:=bif decide ((50:Int)<(o0.2.1.length:Int))then some true else bif decide ((50:Int)<(o0.2.2.1.length:Int))then some true else some (decide ((200:Int)<(ByteArray.size o0.1:Int)))
def bx{R:Type}(aa:(List ae))(a2 ap:Int)(nx:Int→Option R)(dn:Unit→Option R)(rt:Int→Option R):Option R:=bif decide (ap<a2)then al (ix ap aa.length)<|al (ix ap aa.length)<|bnd (w9 (aa.getD ap.toNat ae.z)) fun r1=>bif r1 then rt ap else al (fu .i64 (ap+1))<|nx (ap+1)else dn ()
def fp(aa:(List ae))(a2 s0:Int):Option (Unit⊕Int):=bn (fun a=>bx aa a2 a (fun a' =>some (.next a')) (fun e=>some (.done e)) (fun r=>some (.ret r))) s0
def np:Shp:=⟨[(0, .d false (.slice ae.ty)),(1, .fn 35 .nil),qxj,qxi],[]⟩
def nm:Shp:=⟨[],[]⟩
def dl(aa:(List ae)):Option Int:=bnd (fp aa (aa.length:Int) 0) fun oe2=>lk oe2 (fun e2=>some (-1)) (fun r=>some r)
def ay(aa:(List ae)):Option Bool:=bnd (dl aa) fun r1=>some (decide ((0:Int)≤r1))
def ta(ad:a8):Option Bool:=bif decide ((8:Int)<(ad.2.1.length:Int))then bif decide ((ad.2.1.length:Int)≤60)then some true else bif decide ((100:Int)<(ad.2.1.length:Int))then some true else bif decide ((8:Int)<ad.1)then bif decide (ad.1≤40)then some true else bnd (ay ad.2.1) fun r1=>some r1 else bnd (ay ad.2.1) fun r2=>some r2 else bif decide ((100:Int)<(ad.2.1.length:Int))then some true else bif decide ((8:Int)<ad.1)then bif decide (ad.1≤40)then some true else bnd (ay ad.2.1) fun r3=>some r3 else bnd (ay ad.2.1) fun r4=>some r4
def wb(hd:qL1):Option Bool:=bif decide ((40:Int)<(hd.length:Int))then bif decide ((hd.length:Int)≤1000)then some true else some (decide ((2000:Int)<(hd.length:Int)))else some (decide ((2000:Int)<(hd.length:Int)))
def qd6(f4:ab):Option Bool:=bif decide ((50:Int)<(f4.1.length:Int))then some true else some (decide ((50:Int)<(f4.2.1.length:Int)))
def cu{R:Type}(aa:(List ab))(a2 ap:Int)(nx:Int→Option R)(dn:Unit→Option R)(rt:Int→Option R):Option R:=bif decide (ap<a2)then al (ix ap aa.length)<|al (ix ap aa.length)<|bnd (qd6 (aa.getD ap.toNat ab.z)) fun r1=>bif r1 then rt ap else al (fu .i64 (ap+1))<|nx (ap+1)else dn ()
def kz(aa:(List ab))(a2 s0:Int):Option (Unit⊕Int):=bn (fun a=>cu aa a2 a (fun a' =>some (.next a')) (fun e=>some (.done e)) (fun r=>some (.ret r))) s0
def sn:Shp:=⟨[qrf,(1, .fn 37 .nil),qxj,qxi],[]⟩
def sm:Shp:=⟨[],[]⟩
def fx(aa:(List ab)):Option Int:=bnd (kz aa (aa.length:Int) 0) fun oe2=>lk oe2 (fun e2=>some (-1)) (fun r=>some r)
def ew(aa:(List ab)):Option Bool:=bnd (fx aa) fun r1=>some (decide ((0:Int)≤r1))
def qaa(hd:(List ab)):Option Bool:=bif decide ((60:Int)<(hd.length:Int))then some true else bnd (ew hd) fun r1=>some r1
def zn(gw:Int):Option Bool:=bif decide ((97:Int)≤gw)then bif decide (gw≤122)then some true else bif decide ((65:Int)≤gw)then some (decide (gw≤90))else some false else bif decide ((65:Int)≤gw)then some (decide (gw≤90))else some false
def rz{R:Type}(aa:ByteArray)(b2:Int)(nx:Int→Option R)(dn:Unit→Option R)(rt:Bool→Option R):Option R:=bif decide (b2<(ByteArray.size aa:Int))then al (ix b2 (ByteArray.size aa))<|bnd (zn (((ByteArray.data aa).getD b2.toNat 0).toNat:Int)) fun r2=>bif (!r2)then bif decide ((48:Int)≤(((ByteArray.data aa).getD b2.toNat 0).toNat:Int))then bif (!(decide ((((ByteArray.data aa).getD b2.toNat 0).toNat:Int)≤57)))then bif (!decide ((((ByteArray.data aa).getD b2.toNat 0).toNat:Int)=95))then bif (!decide ((((ByteArray.data aa).getD b2.toNat 0).toNat:Int)=45))then bif (!decide ((((ByteArray.data aa).getD b2.toNat 0).toNat:Int)=46))then rt false else al (fu .i64 (b2+1))<|nx (b2+1)else al (fu .i64 (b2+1))<|nx (b2+1)else al (fu .i64 (b2+1))<|nx (b2+1)else al (fu .i64 (b2+1))<|nx (b2+1)else bif (!decide ((((ByteArray.data aa).getD b2.toNat 0).toNat:Int)=95))then bif (!decide ((((ByteArray.data aa).getD b2.toNat 0).toNat:Int)=45))then bif (!decide ((((ByteArray.data aa).getD b2.toNat 0).toNat:Int)=46))then rt false else al (fu .i64 (b2+1))<|nx (b2+1)else al (fu .i64 (b2+1))<|nx (b2+1)else al (fu .i64 (b2+1))<|nx (b2+1)else al (fu .i64 (b2+1))<|nx (b2+1)else dn ()
def qha(aa:ByteArray)(s0:Int):Option (Unit⊕Bool):=bn (fun a=>rz aa a (fun a' =>some (.next a')) (fun e=>some (.done e)) (fun r=>some (.ret r))) s0
def qed(aa:ByteArray):Option Bool:=bif decide ((ByteArray.size aa:Int)<1)then some false else bif decide ((40:Int)<(ByteArray.size aa:Int))then some false else al (ix 0 (ByteArray.size aa))<|bnd (zn (((ByteArray.data aa).getD 0 0).toNat:Int)) fun r1=>bif (!r1)then some false else bnd (qha aa 1) fun oe3=>lk oe3 (fun e3=>some true) (fun r=>some r)
def ny{R:Type}(ad:Int)(dt:qL1)(a3:Int)(nx:Int→Option R)(dn:Unit→Option R)(rt:Bool→Option R):Option R:=bif decide (a3<(dt.length:Int))then al (ix a3 dt.length)<|al (ix a3 dt.length)<|bif decide ((dt.getD a3.toNat 0)<0)then rt false else al (ix a3 dt.length)<|al (ix a3 dt.length)<|bif decide (ad≤(dt.getD a3.toNat 0))then rt false else bif decide ((0:Int)<a3)then al (fu .i64 (a3-1))<|al (ix (a3-1) dt.length)<|al (ix (a3-1) dt.length)<|al (ix a3 dt.length)<|al (ix a3 dt.length)<|bif decide ((dt.getD a3.toNat 0)≤(dt.getD (a3-1).toNat 0))then rt false else al (fu .i64 (a3+1))<|nx (a3+1)else al (fu .i64 (a3+1))<|nx (a3+1)else dn ()
def qhf(ad:Int)(dt:qL1)(s0:Int):Option (Unit⊕Bool):=bn (fun a=>ny ad dt a (fun a' =>some (.next a')) (fun e=>some (.done e)) (fun r=>some (.ret r))) s0
def pq(ad:Int)(dt:qL1):Option Bool:=bnd (qhf ad dt 0) fun oe1=>lk oe1 (fun e1=>some true) (fun r=>some r)
def qaw{R:Type}(b1:Int)(a1:(List ae))(b4 b5 b2:Int)(nx:Int→Option R)(dn:Unit→Option R)(rt:Bool→Option R):Option R:=bif decide (b2<(a1.length:Int))then al (ix b2 a1.length)<|al (ix b2 a1.length)<|bif (!(ByteArray.toList (a1.getD b2.toNat ae.z).1==ByteArray.toList ⟨#[]⟩))then bnd (qed (a1.getD b2.toNat ae.z).1) fun r1=>bif (!r1)then rt false else bnd (pq b1 (a1.getD b2.toNat ae.z).2.1) fun r2=>bif (!r2)then rt false else bnd (pq b1 (a1.getD b2.toNat ae.z).2.2.1) fun r3=>bif (!r3)then rt false else al (fu .i64 (b2+1))<|nx (b2+1)else bnd (pq b1 (a1.getD b2.toNat ae.z).2.1) fun r4=>bif (!r4)then rt false else bnd (pq b1 (a1.getD b2.toNat ae.z).2.2.1) fun r5=>bif (!r5)then rt false else al (fu .i64 (b2+1))<|nx (b2+1)else dn ()
def qjg(b1:Int)(a1:(List ae))(b4 b5 s0:Int):Option (Unit⊕Bool):=bn (fun a=>qaw b1 a1 b4 b5 a (fun a' =>some (.next a')) (fun e=>some (.done e)) (fun r=>some (.ret r))) s0
def qhe(ad:a8):Option Bool:=bif decide (ad.1<1)then some false else bif decide ((40:Int)<ad.1)then some false else bif decide ((60:Int)<(ad.2.1.length:Int))then some false else bif decide (ad.2.2.1<0)then some false else bif decide (ad.1≤ad.2.2.1)then some false else bif decide (ad.2.2.2.1<0)then some false else bif decide (ad.1≤ad.2.2.2.1)then some false else bnd (qjg ad.1 ad.2.1 ad.2.2.1 ad.2.2.2.1 0) fun oe6=>lk oe6 (fun e6=>some true) (fun r=>some r)
def qee{R:Type}(hd:qL1)(o1 a3:Int)(nx:Int→Option R)(dn:Unit→Option R)(rt:Bool→Option R):Option R:=bif decide (a3<(hd.length:Int))then al (ix a3 hd.length)<|al (ix a3 hd.length)<|bif decide ((hd.getD a3.toNat 0)=o1)then rt true else al (fu .i64 (a3+1))<|nx (a3+1)else dn ()
def qo1(hd:qL1)(o1 s0:Int):Option (Unit⊕Bool):=bn (fun a=>qee hd o1 a (fun a' =>some (.next a')) (fun e=>some (.done e)) (fun r=>some (.ret r))) s0
def pp(hd:qL1)(o1:Int):Option Bool:=bnd (qo1 hd o1 0) fun oe1=>lk oe1 (fun e1=>some false) (fun r=>some r)
def us{R:Type}(gt gr ei:Int)(a6:(List ae))(et ev i0:Int)(cy:qL1)(nx:(Int×qL1)→Option R)(dn rt:qL1→Option R):Option R:=al (ix gr a6.length)<|al (ix gr a6.length)<|bif decide (i0<((a6.getD gr.toNat ae.z).2.2.1.length:Int))then al (ix gr a6.length)<|al (ix gr a6.length)<|al (ix i0 (a6.getD gr.toNat ae.z).2.2.1.length)<|al (ix i0 (a6.getD gr.toNat ae.z).2.2.1.length)<|bnd (pp cy ((a6.getD gr.toNat ae.z).2.2.1.getD i0.toNat 0)) fun r2=>bif (!r2)then al (ix gr a6.length)<|al (ix gr a6.length)<|al (ix i0 (a6.getD gr.toNat ae.z).2.2.1.length)<|al (ix i0 (a6.getD gr.toNat ae.z).2.2.1.length)<|al (room (cy.length+1) 8)<|al (fu .i64 (i0+1))<|nx ((i0+1),(cy++[((a6.getD gr.toNat ae.z).2.2.1.getD i0.toNat 0)]))else al (fu .i64 (i0+1))<|nx ((i0+1),cy)else dn cy
def qb9(gt gr ei:Int)(a6:(List ae))(et ev:Int)(s0:(Int×qL1)):Option (qL1⊕qL1):=bn (fun a=>us gt gr ei a6 et ev a.1 a.2 (fun a' =>some (.next a')) (fun e=>some (.done e)) (fun r=>some (.ret r))) s0
def ut{R:Type}(gt ei:Int)(a6:(List ae))(et ev gr:Int)(cy:qL1)(nx:(Int×qL1)→Option R)(dn rt:qL1→Option R):Option R:=bif decide (gr<(a6.length:Int))then al (ix gr a6.length)<|al (ix gr a6.length)<|al (ix gt cy.length)<|al (ix gt cy.length)<|bnd (pp (a6.getD gr.toNat ae.z).2.1 (cy.getD gt.toNat 0)) fun r1=>bif (!r1)then al (fu .i64 (gr+1))<|nx ((gr+1),cy)else bnd (qb9 gt gr ei a6 et ev (0,cy)) fun oe3=>lk oe3 (fun e3=>al (fu .i64 (gr+1))<|nx ((gr+1),e3)) (fun r=>rt r)else dn cy
def qca(gt ei:Int)(a6:(List ae))(et ev:Int)(s0:(Int×qL1)):Option (qL1⊕qL1):=bn (fun a=>ut gt ei a6 et ev a.1 a.2 (fun a' =>some (.next a')) (fun e=>some (.done e)) (fun r=>some (.ret r))) s0
def qay{R:Type}(ei:Int)(a6:(List ae))(et ev gt:Int)(cy:qL1)(nx:(Int×qL1)→Option R)(dn rt:qL1→Option R):Option R:=bif decide (gt<(cy.length:Int))then bnd (qca gt ei a6 et ev (0,cy)) fun oe4=>lk oe4 (fun e4=>al (fu .i64 (gt+1))<|nx ((gt+1),e4)) (fun r=>rt r)else dn cy
def qjh(ei:Int)(a6:(List ae))(et ev:Int)(s0:(Int×qL1)):Option (qL1⊕qL1):=bn (fun a=>qay ei a6 et ev a.1 a.2 (fun a' =>some (.next a')) (fun e=>some (.done e)) (fun r=>some (.ret r))) s0
def qbw(ad:a8)(g3:Int):Option qL1:=bnd (qjh ad.1 ad.2.1 ad.2.2.1 ad.2.2.2.1 (0,[g3])) fun oe5=>lk oe5 (fun e5=>some e5) (fun r=>some r)
def wm{R:Type}(b1:Int)(a1:(List ae))(b4 b5 a4:Int)(dd:(List ae))(f2 h1 ob oo op hi:Int)(lt:(List ae))(nx:(Int×(List ae))→Option R)(dn:(List ae)→Option R)(rt:a8→Option R):Option R:=bif decide (hi<(a1.length:Int))then al (ix hi a1.length)<|al (ix hi a1.length)<|al (room (0+(a1.getD hi.toNat ae.z).2.2.1.length) 8)<|al (room (0+(a1.getD hi.toNat ae.z).2.1.length) 8)<|al (room (lt.length+1) 64)<|al (fu .i64 (hi+1))<|nx ((hi+1),(lt++[((a1.getD hi.toNat ae.z).1,([]++(a1.getD hi.toNat ae.z).2.2.1),([]++(a1.getD hi.toNat ae.z).2.1),())]))else dn lt
def qfg(b1:Int)(a1:(List ae))(b4 b5 a4:Int)(dd:(List ae))(f2 h1 ob oo op:Int)(s0:(Int×(List ae))):Option ((List ae)⊕a8):=bn (fun a=>wm b1 a1 b4 b5 a4 dd f2 h1 ob oo op a.1 a.2 (fun a' =>some (.next a')) (fun e=>some (.done e)) (fun r=>some (.ret r))) s0
def qb8(ad:a8):Option a8:=bnd (qfg ad.1 ad.2.1 ad.2.2.1 ad.2.2.2.1 0 [] 0 0 ad.1 ad.2.2.2.1 ad.2.2.1 (0,[])) fun oe1=>lk oe1 (fun e1=>some (ad.1,e1,ad.2.2.2.1,ad.2.2.1,())) (fun r=>some r)
def qcb{R:Type}(ch hc:qL1)(a3:Int)(nx:Int→Option R)(dn:Unit→Option R)(rt:Bool→Option R):Option R:=bif decide (a3<(ch.length:Int))then al (ix a3 ch.length)<|al (ix a3 ch.length)<|bnd (pp hc (ch.getD a3.toNat 0)) fun r1=>bif r1 then rt true else al (fu .i64 (a3+1))<|nx (a3+1)else dn ()
def ql4(ch hc:qL1)(s0:Int):Option (Unit⊕Bool):=bn (fun a=>qcb ch hc a (fun a' =>some (.next a')) (fun e=>some (.done e)) (fun r=>some (.ret r))) s0
def qef(ch hc:qL1):Option Bool:=bnd (ql4 ch hc 0) fun oe2=>lk oe2 (fun e2=>some false) (fun r=>some r)
def ol{R:Type}(hf hp:qL1)(b1:Int)(a1:(List ae))(b4 b5 a3:Int)(nx:Int→Option R)(dn:Unit→Option R)(rt:Bool→Option R):Option R:=bif decide (a3<b1)then bnd (pp hf a3) fun r5=>bif (!r5)then rt false else bnd (pp hp a3) fun r6=>bif (!r6)then rt false else al (fu .i64 (a3+1))<|nx (a3+1)else dn ()
def qdc(hf hp:qL1)(b1:Int)(a1:(List ae))(b4 b5 s0:Int):Option (Unit⊕Bool):=bn (fun a=>ol hf hp b1 a1 b4 b5 a (fun a' =>some (.next a')) (fun e=>some (.done e)) (fun r=>some (.ret r))) s0
def ur{R:Type}(hf hp:qL1)(b1:Int)(a1:(List ae))(b4 b5 gt:Int)(nx:Int→Option R)(dn:Unit→Option R)(rt:Bool→Option R):Option R:=bif decide (gt<(a1.length:Int))then al (ix gt a1.length)<|al (ix gt a1.length)<|bnd (pp (a1.getD gt.toNat ae.z).2.2.1 b4) fun r8=>bif r8 then rt false else bnd (pp (a1.getD gt.toNat ae.z).2.1 b5) fun r9=>bif r9 then rt false else bnd (qef (a1.getD gt.toNat ae.z).2.1 hf) fun r10=>bif (!r10)then rt false else bnd (qef (a1.getD gt.toNat ae.z).2.2.1 hp) fun r11=>bif (!r11)then rt false else al (fu .i64 (gt+1))<|nx (gt+1)else dn ()
def qdd(hf hp:qL1)(b1:Int)(a1:(List ae))(b4 b5 s0:Int):Option (Unit⊕Bool):=bn (fun a=>ur hf hp b1 a1 b4 b5 a (fun a' =>some (.next a')) (fun e=>some (.done e)) (fun r=>some (.ret r))) s0
def qax(ad:a8):Option Bool:=bnd (qhe ad) fun r1=>bif (!r1)then some false else bif decide (ad.2.2.1=ad.2.2.2.1)then some false else bnd (qbw ad ad.2.2.1) fun r2=>bnd (qb8 ad) fun r3=>bnd (qbw r3 ad.2.2.2.1) fun r4=>bnd (qdc r2 r4 ad.1 ad.2.1 ad.2.2.1 ad.2.2.2.1 0) fun oe7=>lk oe7 (fun e7=>bnd (qdd r2 r4 ad.1 ad.2.1 ad.2.2.1 ad.2.2.2.1 0) fun oe12=>lk oe12 (fun e12=>some true) (fun r=>some r)) (fun r=>some r)
def qu5(ad:a8)(k5:Int):Option qL1:=al (qtt ad.1 ad.1 8)<|al (ix k5 (List.replicate ad.1.toNat (0:Int)).length)<|al (ix k5 (List.replicate ad.1.toNat (0:Int)).length)<|some ((List.replicate ad.1.toNat (0:Int)).set k5.toNat 1)
def mt{R:Type}(ch hc:qL1)(a3:Int)(nx:Int→Option R)(dn:Unit→Option R)(rt:Bool→Option R):Option R:=bif decide (a3<(ch.length:Int))then al (ix a3 ch.length)<|al (ix a3 ch.length)<|al (ix a3 hc.length)<|al (ix a3 hc.length)<|bif (!decide ((ch.getD a3.toNat 0)=(hc.getD a3.toNat 0)))then rt false else al (fu .i64 (a3+1))<|nx (a3+1)else dn ()
def qfe(ch hc:qL1)(s0:Int):Option (Unit⊕Bool):=bn (fun a=>mt ch hc a (fun a' =>some (.next a')) (fun e=>some (.done e)) (fun r=>some (.ret r))) s0
def qn3:Shp:=⟨[ji2,jn2,jn6],[]⟩
def qn2:Shp:=⟨[],[]⟩
def xj(ch hc:qL1):Option Bool:=bif (!decide ((ch.length:Int)=(hc.length:Int)))then some false else bnd (qfe ch hc 0) fun oe1=>lk oe1 (fun e1=>some true) (fun r=>some r)
def km{R:Type}(ha:qL1)(h4:(List ab))(ka hv:Int)(le:(List ab))(p1 kk:Int)(kn:(List ae))(kp kr kt:Int)(ku:(List ae))(kv kx:Int)(i8 jc:qL1)(hx:(List ab))(d0 ho ml ms:qL1)(ik:Int)(g4:(List ab))(nx:(Int×(List ab))→Option R)(dn:(List ab)→Option R)(rt:Bool→Option R):Option R:=bif decide (ik<p1)then al (ix ik le.length)<|al (ix ik le.length)<|bnd (xj ms (le.getD ik.toNat ab.z).1) fun r12=>bif r12 then al (room (g4.length+1) 48)<|al (fu .i64 (ik+1))<|nx ((ik+1),(g4++[(ml,(le.getD ik.toNat ab.z).2.1,())]))else al (fu .i64 (ik+1))<|nx ((ik+1),g4)else dn g4
def xt(ha:qL1)(h4:(List ab))(ka hv:Int)(le:(List ab))(p1 kk:Int)(kn:(List ae))(kp kr kt:Int)(ku:(List ae))(kv kx:Int)(i8 jc:qL1)(hx:(List ab))(d0 ho ml ms:qL1)(s0:(Int×(List ab))):Option ((List ab)⊕Bool):=bn (fun a=>km ha h4 ka hv le p1 kk kn kp kr kt ku kv kx i8 jc hx d0 ho ml ms a.1 a.2 (fun a' =>some (.next a')) (fun e=>some (.done e)) (fun r=>some (.ret r))) s0
def qfp:Shp:=⟨[jof,jox,jlr,(11, .ptr 2),jot,(15, .ptr 4),q8n,jom,jon,(94, .d true (.slice ab.ty)),(95, .d true qT0),(96, .d true qT0)],[qhn,qhn,qh1, .cs 28 3 1 (.cons (.d true qT1) (.cons (.d true qT1) (.cons (.own 5) .nil))), .cs 48 2 1 (.cons (.d true qT1) (.cons (.d true qT1) .nil)),qk1]⟩
def qfo:Shp:=⟨[jof,jox,jlr,(11, .ptr 2),jot,q8n,jom,jon],[qhn,qhn,qh1,q6q,qk1]⟩
def ko{R:Type}(ha:qL1)(h4:(List ab))(ka kk:Int)(kn:(List ae))(kp kr kt:Int)(ku:(List ae))(kv kx:Int)(i8 jc:qL1)(hx:(List ab))(d0 ho:qL1)(hv:Int)(g4:(List ab))(nx:(Int×(List ab))→Option R)(dn:(List ab)→Option R)(rt:Bool→Option R):Option R:=bif decide (hv<ka)then al (ix hv h4.length)<|al (ix hv h4.length)<|bnd (xt ha h4 ka hv hx (hx.length:Int) kk kn kp kr kt ku kv kx i8 jc hx d0 ho (h4.getD hv.toNat ab.z).1 (h4.getD hv.toNat ab.z).2.1 (0,g4)) fun oe13=>lk oe13 (fun e13=>al (fu .i64 (hv+1))<|nx ((hv+1),e13)) (fun r=>rt r)else dn g4
def xu(ha:qL1)(h4:(List ab))(ka kk:Int)(kn:(List ae))(kp kr kt:Int)(ku:(List ae))(kv kx:Int)(i8 jc:qL1)(hx:(List ab))(d0 ho:qL1)(s0:(Int×(List ab))):Option ((List ab)⊕Bool):=bn (fun a=>ko ha h4 ka kk kn kp kr kt ku kv kx i8 jc hx d0 ho a.1 a.2 (fun a' =>some (.next a')) (fun e=>some (.done e)) (fun r=>some (.ret r))) s0
def qfr:Shp:=⟨[jof,jox,jlr,(11, .ptr 2),jot,q8n,jom,jon],[qhn,qhn,qh1,q6q,qk1]⟩
def qfq:Shp:=⟨[jof,jox,jlr,(13, .ptr 2)],[qhn,qhn, .cs 28 3 1 (.cons (.d true qT1) (.cons (.d true qT1) (.cons (.own 3) .nil))),qk1]⟩
def sd(ch hc lp:a8)(ha:qL1)(lr i1:ck):Option Bool:=bnd (qgc) fun r1=>bif (!r1)then some false else bnd (ta ch) fun r2=>bif r2 then some true else bnd (ta hc) fun r3=>bif r3 then some true else bnd (ta lp) fun r4=>bif r4 then some true else bnd (wb ha) fun r5=>bif r5 then some true else bnd (wb lr.2.1) fun r6=>bif r6 then some true else bnd (wb i1.2.1) fun r7=>bif r7 then some true else bnd (qaa lr.2.2.1) fun r8=>bif r8 then some true else bnd (qaa i1.2.2.1) fun r9=>bif r9 then some true else bif decide ((50:Int)<(lr.1.length:Int))then some true else bif decide ((50:Int)<(i1.1.length:Int))then some true else bnd (jt ch hc ha lr) fun r10=>bif (!r10)then some true else bnd (jt hc lp lr.2.1 i1) fun r11=>bif (!r11)then some true else bnd (xu ha lr.2.2.1 (lr.2.2.1.length:Int) ch.1 ch.2.1 ch.2.2.1 ch.2.2.2.1 lp.1 lp.2.1 lp.2.2.1 lp.2.2.2.1 i1.1 i1.2.1 i1.2.2.1 i1.1 i1.2.1 (0,[])) fun oe14=>lk oe14 (fun e14=>bnd (jt ch lp ha (i1.1,i1.2.1,e14,())) fun r15=>some r15) (fun r=>some r)
end Go.Proofs.Ytdhfhpdadbopkaa
