/-
  What the functions compute, as plain functions of Lean. Made by program (mg3.py) out of the translation.
-/
import Derived.Test.YtdhfhpdadbopkaaZ6KE
set_option linter.all false
set_option maxRecDepth 100000
namespace Go.Proofs.Ytdhfhpdadbopkaa
open Go.K Go.M
abbrev qL1:Type:=List Int
abbrev qL2:Type:=List (List Int)
abbrev qT0:Ty:=.int .i64
abbrev qT1:Ty:=.slice qT0
abbrev qT2:Ty:=.slice qT1
abbrev af:Type:=ByteArray×qL1×qL1×Unit
abbrev af.z:af:=(⟨#[]⟩,[],[],())
def af.ty:Ty:= .struct (.cons .str (.cons qT1 (.cons qT1 .nil)))
abbrev az:Type:=Int×(List af)×Int×Int×Unit
abbrev az.z:az:=(0,[],0,0,())
def az.ty:Ty:= .struct (.cons qT0 (.cons (.slice af.ty) (.cons qT0 (.cons qT0 .nil))))
abbrev ab:Type:=Int×qL1×qL1×Unit
abbrev ab.z:ab:=(0,[],[],())
def ab.ty:Ty:= .struct (.cons qT0 (.cons qT1 (.cons qT1 .nil)))
abbrev ag:Type:=Int×qL1×Unit
abbrev ag.z:ag:=(0,[],())
def ag.ty:Ty:= .struct (.cons qT0 (.cons qT1 .nil))
abbrev ae:Type:=qL1×qL1×Unit
abbrev ae.z:ae:=([],[],())
def ae.ty:Ty:= .struct (.cons qT1 (.cons qT1 .nil))
abbrev fu:Type:=qL1×qL1×(List ae)×Unit
abbrev fu.z:fu:=([],[],[],())
def fu.ty:Ty:= .struct (.cons qT1 (.cons qT1 (.cons (.slice ae.ty) .nil)))
abbrev qan:Hs:=.cs 24 4 1 (.cons (.d true qT0) (.cons (.d false (.slice af.ty)) (.cons (.d true qT0) (.cons (.d true qT0) .nil))))
abbrev qc3:Nat×Sh:=(0, .d true .bool)
abbrev qjk:Hs:=.arr 25 (.fz true) [3] qT1
abbrev qj2:Hs:=.cs 24 4 1 (.cons (.d true qT0) (.cons (.d true (.slice af.ty)) (.cons (.d true qT0) (.cons (.d true qT0) .nil))))
abbrev qnb:Hs:=.cs 28 3 1 (.cons (.d true qT1) (.cons (.d true qT1) (.cons (.d true (.slice ae.ty)) .nil)))
abbrev qnp:Hs:=.cs 116 1 1 (.cons (.mp 2) .nil)
abbrev qpn:Hs:=.arr 3 (.fz true) [0] qT0
abbrev qpz:Hs:=.mp .str .bool
abbrev qsz:Hs:=.arr 48 (.fz true) [3,3] ae.ty
abbrev qs7:Hs:=.cs 45 1 1 (.cons (.fn 82 (.cons (.ptr 1) .nil)) .nil)
abbrev qs8:Hs:=.cs 45 1 1 (.cons (.fn 96 (.cons (.ptr 1) .nil)) .nil)
abbrev quh:Hs:=.arr 102 (.fz true) [0,3,3] ab.ty
abbrev qve:Hs:=.arr 92 (.fz true) [0,3,3] ab.ty
abbrev qxt:Nat×Sh:=(2, .d true qT0)
abbrev qxv:Hs:=.arr 4 (.fz true) [0] .bool
abbrev qxw:Hs:=.cs 116 1 1 (.cons (.mp 1) .nil)
abbrev q2w:Nat×Sh:=(1, .d false (.slice .str))
abbrev q2x:Hs:=.cs 24 4 1 (.cons (.d true qT0) (.cons (.own 2) (.cons (.d true qT0) (.cons (.d true qT0) .nil))))
abbrev q2y:Nat×Sh:=(0, .d true qT0)
abbrev q3i:Nat×Sh:=(7, .d true qT0)
abbrev q3q:Nat×Sh:=(10, .fn 95 (.cons (.ptr 3) (.cons (.ptr 2) .nil)))
abbrev q50:Nat×Sh:=(1, .fn 107 (.cons (.rp false az.ty) (.cons (.rp false .str) (.cons (.ptr 0) (.cons (.rp false ag.ty) .nil)))))
abbrev q8m:Nat×Sh:=(8, .d true qT0)
abbrev q9m:Hs:=.arr 9 (.fz true) [0] .str
abbrev q9n:Nat×Sh:=(0, .d false (.slice ae.ty))
abbrev jby:Nat×Sh:=(3, .ptr 0)
abbrev jbz:Nat×Sh:=(1, .d true qT0)
abbrev jb1:Hs:=.cs 43 3 1 (.cons (.d true .str) (.cons (.d false qT1) (.cons (.d false qT1) .nil)))
abbrev jb2:Hs:=.cs 45 1 1 (.cons (.fn 96 (.cons (.ptr 2) .nil)) .nil)
abbrev jdq:Hs:=.cs 133 1 1 (.cons (.own 3) .nil)
abbrev jdr:Hs:=.cs 28 3 1 (.cons (.d true qT1) (.cons (.d true qT1) (.cons (.own 2) .nil)))
abbrev jdu:Hs:=.cs 116 1 1 (.cons (.mp 3) .nil)
abbrev ji7:Hs:=.cs 116 1 1 (.cons (.mp 5) .nil)
abbrev ji8:Hs:=.cs 38 1 1 (.cons (.own 4) .nil)
abbrev ji9:Nat×Sh:=(1, .d false qT1)
abbrev jjb:Nat×Sh:=(0, .own 0)
abbrev jn8:Hs:=.arr 43 (.fz true) [0,3,3] af.ty
abbrev jp6:Nat×Sh:=(5, .d true qT0)
abbrev jp9:Nat×Sh:=(0, .d false qT1)
abbrev jqa:Nat×Sh:=(9, .d true qT0)
abbrev jqb:Hs:=.cs 116 1 1 (.cons (.mp 6) .nil)
abbrev jqc:Hs:=.arr 129 (.fz true) [0,3] ag.ty
abbrev jqd:Nat×Sh:=(10, .d true .bool)
abbrev jqe:Nat×Sh:=(2, .d true .bool)
abbrev jqf:Nat×Sh:=(6, .d true qT0)
abbrev jqg:Hs:=.cs 25 1 1 (.cons (.d true qT1) .nil)
abbrev jqh:Hs:=.cs 45 1 1 (.cons (.fn 82 (.cons (.ptr 0) .nil)) .nil)
abbrev jqi:Hs:=.cs 45 1 1 (.cons (.fn 96 (.cons (.ptr 0) .nil)) .nil)
abbrev jql:Nat×Sh:=(10, .d true qT0)
abbrev jqx:Nat×Sh:=(1, .fn 66 (.cons (.rp false (.slice .str)) .nil))
abbrev jqy:Nat×Sh:=(15, .nl false (.d true (.slice ag.ty)))
abbrev jqz:Nat×Sh:=(58, .nl false (.d true (.slice ag.ty)))
abbrev jq0:Nat×Sh:=(0, .d true qT1)
abbrev jta:Nat×Sh:=(3, .d true qT0)
abbrev jtc:Nat×Sh:=(8, .own 1)
abbrev jtd:Nat×Sh:=(29, .d false (.slice af.ty))
abbrev jte:Nat×Sh:=(0, .d true .str)
abbrev jtf:Nat×Sh:=(12, .d true qT0)
abbrev jtg:Nat×Sh:=(13, .d true qT0)
abbrev jth:Nat×Sh:=(2, .d false qT1)
abbrev jti:Nat×Sh:=(20, .d true qT0)
abbrev jtj:Nat×Sh:=(0, .nl false (.own 0))
abbrev jtk:Nat×Sh:=(1, .ptr 0)
abbrev jtl:Nat×Sh:=(2, .d false (.slice ae.ty))
abbrev jtm:Nat×Sh:=(2, .ptr 0)
abbrev jtn:Nat×Sh:=(6, .nl false (.own 0))
abbrev jto:Nat×Sh:=(9, .nl false (.own 4))
abbrev jtp:Nat×Sh:=(0, .d false (.slice ab.ty))
abbrev jtq:Nat×Sh:=(13, .d true (.slice ab.ty))
abbrev jtr:Nat×Sh:=(11, .d true qT0)
abbrev jts:Nat×Sh:=(0, .d false (.slice ag.ty))
abbrev jtt:Nat×Sh:=(1, .d true .bool)
abbrev jtu:Nat×Sh:=(1, .nl false (.own 0))
abbrev jtv:Nat×Sh:=(21, .d true qT0)
abbrev jtw:Nat×Sh:=(3, .d false qT1)
abbrev jtx:Nat×Sh:=(8, .ptr 0)
abbrev jty:Nat×Sh:=(9, .d true qT1)
abbrev jtz:Nat×Sh:=(3, .ptr 1)
abbrev jt0:Nat×Sh:=(9, .own 2)
abbrev jt1:Nat×Sh:=(10, .ptr 5)
abbrev jt2:Nat×Sh:=(12, .d true qT1)
abbrev jt3:Nat×Sh:=(15, .d true qT0)
abbrev jt4:Nat×Sh:=(19, .d true qT0)
abbrev jt5:Nat×Sh:=(30, .d true qT0)
abbrev jt6:Nat×Sh:=(31, .d true qT0)
abbrev jt7:Nat×Sh:=(4, .ptr 0)
abbrev jt8:Nat×Sh:=(4, .ptr 2)
abbrev jt9:Nat×Sh:=(5, .own 1)
abbrev jua:Nat×Sh:=(5, .ptr 1)
abbrev jub:Nat×Sh:=(5, .ptr 3)
abbrev juc:Nat×Sh:=(8, .ptr 1)
abbrev jud:Nat×Sh:=(9, .ptr 2)
abbrev jue:Nat×Sh:=(3, .d true qT1)
abbrev juf:Nat×Sh:=(4, .d true qT1)
abbrev jug:Nat×Sh:=(5, .ptr 2)
abbrev juh:Nat×Sh:=(6, .ptr 3)
abbrev jui:Nat×Sh:=(9, .ptr 4)
def qk1{R:Type}(h9:ByteArray)(gt:(List ByteArray))(j0 h6:Int)(kt:(List af))(hm pm o2 pa pl gw:Int)(nn:(List af))(nx:(Int×(List af))→Option R)(dn:(List af)→Option R)(rt:az→Option R):Option R:=bif decide (gw<j0)then al (ix gw gt.length)<|al (ix gw gt.length)<|al (ew .i64 (gw+1))<|al (room (nn.length+1) 64)<|al (ew .i64 (gw+1))<|nx ((gw+1),(nn++[((gt.getD gw.toNat ⟨#[]⟩),[gw],[(gw+1)],())]))else dn nn
def q1e(h9:ByteArray)(gt:(List ByteArray))(j0 h6:Int)(kt:(List af))(hm pm o2 pa pl:Int)(s0:(Int×(List af))):Option ((List af)⊕az):=bj (fun a=>qk1 h9 gt j0 h6 kt hm pm o2 pa pl a.1 a.2 (fun a' =>some (.next a')) (fun e=>some (.done e)) (fun r=>some (.ret r))) s0
def qx6:Shp:=⟨[jte,jt7,jua,(14, .d false (.slice .str)),jt3,(16, .d true qT0)],[qj2,q2x,jn8]⟩
def qx5:Shp:=⟨[jte,jt7,jua],[qj2,q2x,jn8]⟩
def qlz(h9:ByteArray)(fd:(List ByteArray)):Option az:=al (ew .i64 ((fd.length:Int)+1))<|bnd (q1e h9 fd (fd.length:Int) 0 [] 0 0 ((fd.length:Int)+1) 0 (fd.length:Int) (0,[])) fun oe1=>lk oe1 (fun e1=>bif (!(ByteArray.toList h9==ByteArray.toList ⟨#[]⟩))then al (ew .i64 ((fd.length:Int)-1))<|al (room (e1.length+1) 64)<|some (((fd.length:Int)+1),(e1++[(h9,[((fd.length:Int)-1)],[(fd.length:Int)],())]),0,(fd.length:Int),())else some (((fd.length:Int)+1),e1,0,(fd.length:Int),())) (fun r=>some r)
def yx(g3:Int):Option Bool:=bif decide ((65:Int)≤g3)then bif decide (g3≤90)then some true else bif decide ((97:Int)≤g3)then some (decide (g3≤122))else some false else bif decide ((97:Int)≤g3)then some (decide (g3≤122))else some false
def qjv(g3:Int):Option Bool:=bnd (yx g3) fun r1=>bif r1 then some true else bif decide ((48:Int)≤g3)then bif decide (g3≤57)then some true else bif decide (g3=95)then some true else bif decide (g3=45)then some true else some (decide (g3=46))else bif decide (g3=95)then some true else bif decide (g3=45)then some true else some (decide (g3=46))
def ph{R:Type}(ad:ByteArray)(f7 bk:Int)(nx:Int→Option R)(dn:Unit→Option R)(rt:Bool→Option R):Option R:=bif decide (bk<f7)then al (ix bk (ByteArray.size ad))<|bnd (qjv (((ByteArray.data ad).getD bk.toNat 0).toNat:Int)) fun r2=>bif (!r2)then rt false else al (ew .i64 (bk+1))<|nx (bk+1)else dn ()
def qk4(ad:ByteArray)(f7 s0:Int):Option (Unit⊕Bool):=bj (fun a=>ph ad f7 a (fun a' =>some (.next a')) (fun e=>some (.done e)) (fun r=>some (.ret r))) s0
def qwb:Shp:=⟨[jte,jt4,jti],[]⟩
def qwa:Shp:=⟨[],[]⟩
def qcs(ad:ByteArray):Option Bool:=bif decide ((ByteArray.size ad:Int)<1)then some false else bif decide ((40:Int)<(ByteArray.size ad:Int))then some false else al (ix 0 (ByteArray.size ad))<|bnd (yx (((ByteArray.data ad).getD 0 0).toNat:Int)) fun r1=>bif (!r1)then some false else bnd (qk4 ad (ByteArray.size ad:Int) 0) fun oe3=>lk oe3 (fun e3=>some true) (fun r=>some r)
def l0{R:Type}(b2 bf:qL1)(av fr:Int)(bd:(List af))(f0 f1 h0:Int)(nx:Int→Option R)(dn:Unit→Option R)(rt:Bool→Option R):Option R:=bif decide (h0<av)then al (ix h0 bf.length)<|al (ix h0 bf.length)<|bif decide ((bf.getD h0.toNat 0)<0)then rt false else bif decide (fr≤(bf.getD h0.toNat 0))then rt false else bif decide ((0:Int)<h0)then al (ew .i64 (h0-1))<|al (ix (h0-1) b2.length)<|al (ix (h0-1) b2.length)<|bif decide ((bf.getD h0.toNat 0)≤(b2.getD (h0-1).toNat 0))then rt false else al (ew .i64 (h0+1))<|nx (h0+1)else al (ew .i64 (h0+1))<|nx (h0+1)else dn ()
def qiu(b2 bf:qL1)(av fr:Int)(bd:(List af))(f0 f1 s0:Int):Option (Unit⊕Bool):=bj (fun a=>l0 b2 bf av fr bd f0 f1 a (fun a' =>some (.next a')) (fun e=>some (.done e)) (fun r=>some (.ret r))) s0
def qtx:Shp:=⟨[ji9,jtm,(7, .d false qT1),q8m,jqa],[qan]⟩
def qtw:Shp:=⟨[],[]⟩
def jy(aa:az)(b2:qL1):Option Bool:=bnd (qiu b2 b2 (b2.length:Int) aa.1 aa.2.1 aa.2.2.1 aa.2.2.2.1 0) fun oe1=>lk oe1 (fun e1=>some true) (fun r=>some r)
def u7{R:Type}(bk:(List af))(ft cc:Int)(be:(List af))(c1 c2 gj:Int)(nx:Int→Option R)(dn:Unit→Option R)(rt:Bool→Option R):Option R:=bif decide (gj<ft)then al (ix gj bk.length)<|al (ix gj bk.length)<|bif (!(ByteArray.toList (bk.getD gj.toNat af.z).1==ByteArray.toList ⟨#[]⟩))then bnd (qcs (bk.getD gj.toNat af.z).1) fun r1=>bif (!r1)then rt false else bnd (jy (cc,be,c1,c2,()) (bk.getD gj.toNat af.z).2.1) fun r2=>bif (!r2)then rt false else bnd (jy (cc,be,c1,c2,()) (bk.getD gj.toNat af.z).2.2.1) fun r3=>bif (!r3)then rt false else al (ew .i64 (gj+1))<|nx (gj+1)else bnd (jy (cc,be,c1,c2,()) (bk.getD gj.toNat af.z).2.1) fun r4=>bif (!r4)then rt false else bnd (jy (cc,be,c1,c2,()) (bk.getD gj.toNat af.z).2.2.1) fun r5=>bif (!r5)then rt false else al (ew .i64 (gj+1))<|nx (gj+1)else dn ()
def qla(bk:(List af))(ft cc:Int)(be:(List af))(c1 c2 s0:Int):Option (Unit⊕Bool):=bj (fun a=>u7 bk ft cc be c1 c2 a (fun a' =>some (.next a')) (fun e=>some (.done e)) (fun r=>some (.ret r))) s0
def qwo:Shp:=⟨[jtk,(20, .d false (.slice af.ty)),jtv,(22, .d true qT0)],[qan]⟩
def qwn:Shp:=⟨[jtk],[qan]⟩
def pi(aa:az):Option Bool:=bif decide (aa.1<1)then some false else bif decide ((40:Int)<aa.1)then some false else bif decide ((60:Int)<(aa.2.1.length:Int))then some false else bnd (qla aa.2.1 (aa.2.1.length:Int) aa.1 aa.2.1 aa.2.2.1 aa.2.2.2.1 0) fun oe6=>lk oe6 (fun e6=>bnd (jy aa [aa.2.2.1]) fun r7=>bif r7 then bnd (jy aa [aa.2.2.2.1]) fun r8=>some r8 else some false) (fun r=>some r)
def jf{R:Type}(ad:qL1)(hx bf av:Int)(nx:Int→Option R)(dn:Unit→Option R)(rt:Int→Option R):Option R:=bif decide (av<bf)then al (ix av ad.length)<|al (ix av ad.length)<|bif decide (hx=(ad.getD av.toNat 0))then rt av else al (ew .i64 (av+1))<|nx (av+1)else dn ()
def wc(ad:qL1)(hx bf s0:Int):Option (Unit⊕Int):=bj (fun a=>jf ad hx bf a (fun a' =>some (.next a')) (fun e=>some (.done e)) (fun r=>some (.ret r))) s0
def qe5:Shp:=⟨[jp9,jbz,q3i,q8m],[]⟩
def qe4:Shp:=⟨[],[]⟩
def pu(ad:qL1)(hx:Int):Option Int:=bnd (wc ad hx (ad.length:Int) 0) fun oe1=>lk oe1 (fun e1=>some (-1)) (fun r=>some r)
def ff(ad:qL1)(hx:Int):Option Bool:=bnd (pu ad hx) fun r1=>some (decide ((0:Int)≤r1))
def sy(gy:Int)(ej:(List Bool)):Option Bool:=al (ix 0 1)<|al (ix gy ej.length)<|al (ix gy ej.length)<|some (ej.getD gy.toNat false)
def du{R:Type}(ad:qL1)(f_1c0:(List Bool))(bf av:Int)(nx:Int→Option R)(dn:Unit→Option R)(rt:Int→Option R):Option R:=bif decide (av<bf)then al (ix av ad.length)<|al (ix av ad.length)<|bnd (sy (ad.getD av.toNat 0) f_1c0) fun r1=>bif r1 then rt av else al (ew .i64 (av+1))<|nx (av+1)else dn ()
def nc(ad:qL1)(f_1c0:(List Bool))(bf s0:Int):Option (Unit⊕Int):=bj (fun a=>du ad f_1c0 bf a (fun a' =>some (.next a')) (fun e=>some (.done e)) (fun r=>some (.ret r))) s0
def wm:Shp:=⟨[jp9,(1, .fn 116 (.cons (.rp false (.slice .bool)) .nil)),q3i,q8m],[]⟩
def wl:Shp:=⟨[],[]⟩
def ji(ad:qL1)(f_1c0:(List Bool)):Option Int:=bnd (nc ad f_1c0 (ad.length:Int) 0) fun oe2=>lk oe2 (fun e2=>some (-1)) (fun r=>some r)
def cf(ad:qL1)(f_1c0:(List Bool)):Option Bool:=bnd (ji ad f_1c0) fun r1=>some (decide ((0:Int)≤r1))
def qi{R:Type}(f6 eo:Bool)(hc:(List af))(i8 b3:Int)(hh:qL1)(ob a4:Int)(ap:(List af))(a5 a6:Int)(bl:(List Bool))(cb:Int)(cv:(List Bool))(nx:(Int×(List Bool))→Option R)(dn:(List Bool)→Option R)(rt:((List Bool)×(List Bool))→Option R):Option R:=bif decide (cb<ob)then al (ix cb hh.length)<|al (ix cb hh.length)<|al (ix (hh.getD cb.toNat 0) cv.length)<|al (ix (hh.getD cb.toNat 0) cv.length)<|al (ew .i64 (cb+1))<|nx ((cb+1),(cv.set (hh.getD cb.toNat 0).toNat true))else dn cv
def zq(f6 eo:Bool)(hc:(List af))(i8 b3:Int)(hh:qL1)(ob a4:Int)(ap:(List af))(a5 a6:Int)(bl:(List Bool))(s0:(Int×(List Bool))):Option ((List Bool)⊕((List Bool)×(List Bool))):=bj (fun a=>qi f6 eo hc i8 b3 hh ob a4 ap a5 a6 bl a.1 a.2 (fun a' =>some (.next a')) (fun e=>some (.done e)) (fun r=>some (.ret r))) s0
def qq5:Shp:=⟨[jqe,jby,juc,jt0,jqd,jtd,jt5,jt6,(56, .d false qT1),(57, .d true qT0),(58, .d true qT0)],[qan,jdq,qxv,qxv]⟩
def qq4:Shp:=⟨[jqe,jby,juc,jt0,jqd,jtd,jt5,jt6],[qan,jdq,qxv,qxv]⟩
def fc{R:Type}(f6:Bool)(hc:(List af))(i8 a4:Int)(ap:(List af))(a5 a6:Int)(eo:Bool)(b3:Int)(bl cv:(List Bool))(nx:(Bool×Int×(List Bool)×(List Bool))→Option R)(dn:(Bool×(List Bool)×(List Bool))→Option R)(rt:((List Bool)×(List Bool))→Option R):Option R:=bif decide (b3<i8)then al (ix b3 hc.length)<|al (ix b3 hc.length)<|bif f6 then al (ix b3 bl.length)<|al (ix b3 bl.length)<|bif (bl.getD b3.toNat false)then al (ew .i64 (b3+1))<|nx (eo,(b3+1),bl,cv)else bnd (cf (hc.getD b3.toNat af.z).2.2.1 cv) fun r1=>bif (!r1)then al (ew .i64 (b3+1))<|nx (eo,(b3+1),bl,cv)else al (ix b3 bl.length)<|al (ix b3 bl.length)<|bnd (zq f6 true hc i8 b3 (hc.getD b3.toNat af.z).2.1 ((hc.getD b3.toNat af.z).2.1.length:Int) a4 ap a5 a6 (bl.set b3.toNat true) (0,cv)) fun oe2=>lk oe2 (fun e2=>al (ew .i64 (b3+1))<|nx (true,(b3+1),(bl.set b3.toNat true),e2)) (fun r=>rt r)else al (ix b3 bl.length)<|al (ix b3 bl.length)<|bif (bl.getD b3.toNat false)then al (ew .i64 (b3+1))<|nx (eo,(b3+1),bl,cv)else bnd (cf (hc.getD b3.toNat af.z).2.1 cv) fun r3=>bif (!r3)then al (ew .i64 (b3+1))<|nx (eo,(b3+1),bl,cv)else al (ix b3 bl.length)<|al (ix b3 bl.length)<|bnd (zq f6 true hc i8 b3 (hc.getD b3.toNat af.z).2.2.1 ((hc.getD b3.toNat af.z).2.2.1.length:Int) a4 ap a5 a6 (bl.set b3.toNat true) (0,cv)) fun oe4=>lk oe4 (fun e4=>al (ew .i64 (b3+1))<|nx (true,(b3+1),(bl.set b3.toNat true),e4)) (fun r=>rt r)else dn (eo,bl,cv)
def zr(f6:Bool)(hc:(List af))(i8 a4:Int)(ap:(List af))(a5 a6:Int)(s0:(Bool×Int×(List Bool)×(List Bool))):Option ((Bool×(List Bool)×(List Bool))⊕((List Bool)×(List Bool))):=bj (fun a=>fc f6 hc i8 a4 ap a5 a6 a.1 a.2.1 a.2.2.1 a.2.2.2 (fun a' =>some (.next a')) (fun e=>some (.done e)) (fun r=>some (.ret r))) s0
def qq7:Shp:=⟨[jqe,jby,juc,jt0,jqd,jtd,jt5,jt6],[qan,jdq,qxv,qxv]⟩
def qq6:Shp:=⟨[jqe,jby,juc,jt0,jqd],[qan,jdq,qxv,qxv]⟩
def xm{R:Type}(f6:Bool)(a4:Int)(ap:(List af))(a5 a6:Int)(eo:Bool)(bl cv:(List Bool))(nx:(Bool×(List Bool)×(List Bool))→Option R)(dn rt:((List Bool)×(List Bool))→Option R):Option R:=bif eo then bnd (zr f6 ap (ap.length:Int) a4 ap a5 a6 (false,0,bl,cv)) fun oe5=>lk oe5 (fun e5=>nx (e5.1,e5.2.1,e5.2.2)) (fun r=>rt r)else dn (bl,cv)
def qgy(f6:Bool)(a4:Int)(ap:(List af))(a5 a6:Int)(s0:(Bool×(List Bool)×(List Bool))):Option (((List Bool)×(List Bool))⊕((List Bool)×(List Bool))):=bj (fun a=>xm f6 a4 ap a5 a6 a.1 a.2.1 a.2.2 (fun a' =>some (.next a')) (fun e=>some (.done e)) (fun r=>some (.ret r))) s0
def qq9:Shp:=⟨[jqe,jby,juc,jt0,jqd],[qan,jdq,qxv,qxv]⟩
def qq8:Shp:=⟨[jtx,(9, .own 1)],[.cs 133 1 1 (.cons (.own 2) .nil),qxv,qxv]⟩
def mo(aa:az)(ha:Int)(f6:Bool):Option ((List Bool)×(List Bool)):=al (qyg aa.1 aa.1 1)<|al (qyg (aa.2.1.length:Int) (aa.2.1.length:Int) 1)<|al (ix ha (List.replicate aa.1.toNat (false:Bool)).length)<|al (ix ha (List.replicate aa.1.toNat (false:Bool)).length)<|bnd (qgy f6 aa.1 aa.2.1 aa.2.2.1 aa.2.2.2.1 (true,(List.replicate (aa.2.1.length:Int).toNat (false:Bool)),((List.replicate aa.1.toNat (false:Bool)).set ha.toNat true))) fun oe6=>lk oe6 (fun e6=>some (e6.2,e6.1)) (fun r=>some r)
def gb{R:Type}(ad:(List Bool))(hx:Bool)(bf av:Int)(nx:Int→Option R)(dn:Unit→Option R)(rt:Int→Option R):Option R:=bif decide (av<bf)then al (ix av ad.length)<|al (ix av ad.length)<|bif (hx==(ad.getD av.toNat false))then rt av else al (ew .i64 (av+1))<|nx (av+1)else dn ()
def sr(ad:(List Bool))(hx:Bool)(bf s0:Int):Option (Unit⊕Int):=bj (fun a=>gb ad hx bf a (fun a' =>some (.next a')) (fun e=>some (.done e)) (fun r=>some (.ret r))) s0
def qcd:Shp:=⟨[(0, .d false (.slice .bool)),jtt,q3i,q8m],[]⟩
def qcc:Shp:=⟨[],[]⟩
def n9(ad:(List Bool))(hx:Bool):Option Int:=bnd (sr ad hx (ad.length:Int) 0) fun oe1=>lk oe1 (fun e1=>some (-1)) (fun r=>some r)
def bv(ad:(List Bool))(hx:Bool):Option Bool:=bnd (n9 ad hx) fun r1=>some (decide ((0:Int)≤r1))
def oy{R:Type}(ft:(List af))(gj cc:Int)(be:(List af))(c1 c2 h5:Int)(nx:Int→Option R)(dn:Unit→Option R)(rt:Bool→Option R):Option R:=bif decide (h5<gj)then al (ix h5 ft.length)<|al (ix h5 ft.length)<|bnd (ff (ft.getD h5.toNat af.z).2.2.1 c1) fun r2=>bif r2 then rt false else bnd (ff (ft.getD h5.toNat af.z).2.1 c2) fun r3=>bif r3 then rt false else al (ew .i64 (h5+1))<|nx (h5+1)else dn ()
def qec(ft:(List af))(gj cc:Int)(be:(List af))(c1 c2 s0:Int):Option (Unit⊕Bool):=bj (fun a=>oy ft gj cc be c1 c2 a (fun a' =>some (.next a')) (fun e=>some (.done e)) (fun r=>some (.ret r))) s0
def qoh:Shp:=⟨[jtk,(21, .d false (.slice af.ty)),(22, .d true qT0),(23, .d true qT0)],[qan]⟩
def qog:Shp:=⟨[jtk],[qan]⟩
def oz{R:Type}(h6:(List Bool))(kt cc:Int)(be:(List af))(c1 c2 hm:Int)(nx:Int→Option R)(dn:Unit→Option R)(rt:Bool→Option R):Option R:=bif decide (hm<kt)then al (ix hm h6.length)<|al (ix hm h6.length)<|bif (h6.getD hm.toNat false)then bnd (mo (cc,be,c1,c2,()) c2 (h6.getD hm.toNat false)) fun r5=>bnd (bv r5.1 false) fun r6=>bif r6 then rt false else bnd (bv r5.2 false) fun r7=>bif r7 then rt false else al (ew .i64 (hm+1))<|nx (hm+1)else bnd (mo (cc,be,c1,c2,()) c1 (h6.getD hm.toNat false)) fun r8=>bnd (bv r8.1 false) fun r9=>bif r9 then rt false else bnd (bv r8.2 false) fun r10=>bif r10 then rt false else al (ew .i64 (hm+1))<|nx (hm+1)else dn ()
def qed(h6:(List Bool))(kt cc:Int)(be:(List af))(c1 c2 s0:Int):Option (Unit⊕Bool):=bj (fun a=>oz h6 kt cc be c1 c2 a (fun a' =>some (.next a')) (fun e=>some (.done e)) (fun r=>some (.ret r))) s0
def qoj:Shp:=⟨[jtk,(40, .d true (.slice .bool)),(41, .d true qT0),(42, .d true qT0)],[qan]⟩
def qoi:Shp:=⟨[],[]⟩
def eu(aa:az):Option Bool:=bnd (pi aa) fun r1=>bif (!r1)then some false else bif decide (aa.2.2.1=aa.2.2.2.1)then some false else bnd (qec aa.2.1 (aa.2.1.length:Int) aa.1 aa.2.1 aa.2.2.1 aa.2.2.2.1 0) fun oe4=>lk oe4 (fun e4=>bnd (qed [false,true] 2 aa.1 aa.2.1 aa.2.2.1 aa.2.2.2.1 0) fun oe11=>lk oe11 (fun e11=>some true) (fun r=>some r)) (fun r=>some r)
def qau(a0 a1:az):Option Int:=bnd (eu a0) fun r1=>bif (!r1)then some 1 else bnd (eu a1) fun r2=>bif (!r2)then some 1 else some 0
def qei(aa:az)(ej:Int):Option (Int×qL1):=bnd (pi aa) fun r1=>bif (!r1)then some (1,[])else al (qyg aa.1 aa.1 8)<|al (ix ej (List.replicate aa.1.toNat (0:Int)).length)<|al (ix ej (List.replicate aa.1.toNat (0:Int)).length)<|some (0,((List.replicate aa.1.toNat (0:Int)).set ej.toNat 1))
def r0(aa:az):Option (qL1×Int):=bnd (qei aa aa.2.2.1) fun r1=>some (r1.2,r1.1)
def zp(p2:Int):Option Bool:=bif decide (p2<0)then some true else some (decide ((100:Int)<p2))
def ee{R:Type}(ad:qL1)(bf av:Int)(nx:Int→Option R)(dn:Unit→Option R)(rt:Int→Option R):Option R:=bif decide (av<bf)then al (ix av ad.length)<|al (ix av ad.length)<|bnd (zp (ad.getD av.toNat 0)) fun r1=>bif r1 then rt av else al (ew .i64 (av+1))<|nx (av+1)else dn ()
def ns(ad:qL1)(bf s0:Int):Option (Unit⊕Int):=bj (fun a=>ee ad bf a (fun a' =>some (.next a')) (fun e=>some (.done e)) (fun r=>some (.ret r))) s0
def xt:Shp:=⟨[jp9,(1, .fn 87 .nil),q3i,q8m],[]⟩
def xr:Shp:=⟨[],[]⟩
def j1(ad:qL1):Option Int:=bnd (ns ad (ad.length:Int) 0) fun oe2=>lk oe2 (fun e2=>some (-1)) (fun r=>some r)
def ed(ad:qL1):Option Bool:=bnd (j1 ad) fun r1=>some (decide ((0:Int)≤r1))
def kb(aa:az)(bs:qL1):Option Bool:=bnd (pi aa) fun r1=>bif r1 then bif decide ((bs.length:Int)=aa.1)then bnd (ed bs) fun r2=>some (!r2)else some false else some false
def vy(ad:qL1):Option qL1:=bif decide ((ad.length:Int)=0)then some []else al (room (0+ad.length) 8)<|some ([]++ad)
def jz(ad:qL1):Option qL1:=al (room (0+ad.length) 8)<|some ([]++ad)
def bt(ad:qL1):Option qL1:=jz ad
def zo(gy:Int)(ej:qL1):Option Bool:=al (ix 0 1)<|al (ix gy ej.length)<|al (ix gy ej.length)<|some (decide ((ej.getD gy.toNat 0)=0))
def dr{R:Type}(ad f_1c0:qL1)(bf av:Int)(nx:Int→Option R)(dn:Unit→Option R)(rt:Int→Option R):Option R:=bif decide (av<bf)then al (ix av ad.length)<|al (ix av ad.length)<|bnd (zo (ad.getD av.toNat 0) f_1c0) fun r1=>bif r1 then rt av else al (ew .i64 (av+1))<|nx (av+1)else dn ()
def m9(ad f_1c0:qL1)(bf s0:Int):Option (Unit⊕Int):=bj (fun a=>dr ad f_1c0 bf a (fun a' =>some (.next a')) (fun e=>some (.done e)) (fun r=>some (.ret r))) s0
def wi:Shp:=⟨[jp9,(1, .fn 111 (.cons (.rp false qT1) .nil)),q3i,q8m],[]⟩
def wh:Shp:=⟨[],[]⟩
def jh(ad f_1c0:qL1):Option Int:=bnd (m9 ad f_1c0 (ad.length:Int) 0) fun oe2=>lk oe2 (fun e2=>some (-1)) (fun r=>some r)
def f8(ad f_1c0:qL1):Option Bool:=bnd (jh ad f_1c0) fun r1=>some (decide ((0:Int)≤r1))
def sc(m2:af)(bs:qL1):Option Bool:=bnd (f8 m2.2.1 bs) fun r1=>some (!r1)
def ll{R:Type}(hj:qL1)(ki hn:Int)(nx:(Int×Int)→Option R)(dn rt:Int→Option R):Option R:=bif decide (hn<(hj.length:Int))then al (ix hn hj.length)<|al (ix hn hj.length)<|al (ew .i64 (hn+1))<|nx ((max ki (hj.getD hn.toNat 0)),(hn+1))else dn ki
def za(hj:qL1)(s0:(Int×Int)):Option (Int⊕Int):=bj (fun a=>ll hj a.1 a.2 (fun a' =>some (.next a')) (fun e=>some (.done e)) (fun r=>some (.ret r))) s0
def qhi:Shp:=⟨[jp9,jta,(4, .d true qT0)],[]⟩
def qhh:Shp:=⟨[jta],[]⟩
def oa(hj:qL1):Option Int:=bif decide ((hj.length:Int)<1)then none else al (ix 0 hj.length)<|al (ix 0 hj.length)<|bnd (za hj ((hj.getD 0 0),1)) fun oe1=>lk oe1 (fun e1=>some e1) (fun r=>some r)
def x7{R:Type}(hy:qL1)(n1:Int)(ps:ByteArray)(pv py:qL1)(hp:Int)(bo:qL1)(nx:(Int×qL1)→Option R)(dn:qL1→Option R)(rt:(Int×qL1)→Option R):Option R:=bif decide (hp<n1)then al (ix hp hy.length)<|al (ix hp hy.length)<|al (ix (hy.getD hp.toNat 0) bo.length)<|al (ix (hy.getD hp.toNat 0) bo.length)<|al (ew .i64 ((bo.getD (hy.getD hp.toNat 0).toNat 0)-1))<|al (ix (hy.getD hp.toNat 0) bo.length)<|al (ix (hy.getD hp.toNat 0) bo.length)<|al (ew .i64 (hp+1))<|nx ((hp+1),(bo.set (hy.getD hp.toNat 0).toNat ((bo.getD (hy.getD hp.toNat 0).toNat 0)-1)))else dn bo
def qol(hy:qL1)(n1:Int)(ps:ByteArray)(pv py:qL1)(s0:(Int×qL1)):Option (qL1⊕(Int×qL1)):=bj (fun a=>x7 hy n1 ps pv py a.1 a.2 (fun a' =>some (.next a')) (fun e=>some (.done e)) (fun r=>some (.ret r))) s0
def qyo:Shp:=⟨[jtx,(9, .own 1),(35, .d false qT1),(36, .d true qT0),(37, .d true qT0)],[jb1,qpn]⟩
def qyn:Shp:=⟨[jtx,(9, .own 1)],[jb1,qpn]⟩
def x8{R:Type}(hz:qL1)(n2 hq:Int)(bo:qL1)(nx:(Int×qL1)→Option R)(dn:qL1→Option R)(rt:(Int×qL1)→Option R):Option R:=bif decide (hq<n2)then al (ix hq hz.length)<|al (ix hq hz.length)<|al (ix (hz.getD hq.toNat 0) bo.length)<|al (ix (hz.getD hq.toNat 0) bo.length)<|al (ew .i64 ((bo.getD (hz.getD hq.toNat 0).toNat 0)+1))<|al (ix (hz.getD hq.toNat 0) bo.length)<|al (ix (hz.getD hq.toNat 0) bo.length)<|al (ew .i64 (hq+1))<|nx ((hq+1),(bo.set (hz.getD hq.toNat 0).toNat ((bo.getD (hz.getD hq.toNat 0).toNat 0)+1)))else dn bo
def qom(hz:qL1)(n2:Int)(s0:(Int×qL1)):Option (qL1⊕(Int×qL1)):=bj (fun a=>x8 hz n2 a.1 a.2 (fun a' =>some (.next a')) (fun e=>some (.done e)) (fun r=>some (.ret r))) s0
def qyq:Shp:=⟨[(9, .own 0),(49, .d false qT1),(50, .d true qT0),(51, .d true qT0)],[qpn]⟩
def qyp:Shp:=⟨[(9, .own 0)],[qpn]⟩
def mn(aa:az)(bs:qL1)(a9:Int):Option (Int×qL1):=bif decide (a9<0)then some (2,[])else bif decide ((aa.2.1.length:Int)≤a9)then some (2,[])else al (ix a9 aa.2.1.length)<|al (ix a9 aa.2.1.length)<|bnd (sc (aa.2.1.getD a9.toNat af.z) bs) fun r1=>bif (!r1)then some (12,[])else bnd (bt bs) fun r2=>bnd (qol (aa.2.1.getD a9.toNat af.z).2.1 ((aa.2.1.getD a9.toNat af.z).2.1.length:Int) (aa.2.1.getD a9.toNat af.z).1 (aa.2.1.getD a9.toNat af.z).2.1 (aa.2.1.getD a9.toNat af.z).2.2.1 (0,r2)) fun oe3=>lk oe3 (fun e3=>bnd (qom (aa.2.1.getD a9.toNat af.z).2.2.1 ((aa.2.1.getD a9.toNat af.z).2.2.1.length:Int) (0,e3)) fun oe4=>lk oe4 (fun e4=>bnd (oa e4) fun r5=>bif decide ((100:Int)<r5)then some (5,[])else some (0,e4)) (fun r=>some r)) (fun r=>some r)
def u6{R:Type}(hg kx:qL1)(ka a4:Int)(ap:(List af))(a5 a6:Int)(oo:qL1)(hb:Int)(nx:(qL1×Int)→Option R)(dn:qL1→Option R)(rt:(qL1×Int×Int)→Option R):Option R:=bif decide (hb<ka)then al (ix hb kx.length)<|al (ix hb kx.length)<|bnd (mn (a4,ap,a5,a6,()) oo (kx.getD hb.toNat 0)) fun r3=>bif (!decide (r3.1=0))then rt ([],hb,r3.1)else al (ew .i64 (hb+1))<|nx (r3.2,(hb+1))else dn oo
def qse(hg kx:qL1)(ka a4:Int)(ap:(List af))(a5 a6:Int)(s0:(qL1×Int)):Option (qL1⊕(qL1×Int×Int)):=bj (fun a=>u6 hg kx ka a4 ap a5 a6 a.1 a.2 (fun a' =>some (.next a')) (fun e=>some (.done e)) (fun r=>some (.ret r))) s0
def q1w:Shp:=⟨[jth,jby,jty,(25, .d false qT1),(26, .d true qT0),(27, .d true qT0)],[qan]⟩
def q1v:Shp:=⟨[jth,jty],[]⟩
def qjx(aa:az)(bs hg:qL1):Option (qL1×Int×Int):=bnd (kb aa bs) fun r1=>bif (!r1)then some ([],0,1)else bif decide ((1000:Int)<(hg.length:Int))then some ([],0,5)else bnd (bt bs) fun r2=>bnd (qse hg hg (hg.length:Int) aa.1 aa.2.1 aa.2.2.1 aa.2.2.2.1 (r2,0)) fun oe4=>lk oe4 (fun e4=>some (e4,(hg.length:Int),0)) (fun r=>some r)
def x6{R:Type}(g7:qL1)(f7 fr:Int)(bd:(List af))(f0 f1 bk:Int)(g2:(List ByteArray))(nx:(Int×(List ByteArray))→Option R)(dn:(List ByteArray)→Option R)(rt:(Int×(List ByteArray))→Option R):Option R:=bif decide (bk<f7)then al (ix bk g7.length)<|al (ix bk g7.length)<|bif decide ((g7.getD bk.toNat 0)<0)then rt (2,[])else bif decide ((bd.length:Int)≤(g7.getD bk.toNat 0))then rt (2,[])else al (ix (g7.getD bk.toNat 0) bd.length)<|al (ix (g7.getD bk.toNat 0) bd.length)<|bif (!(ByteArray.toList (bd.getD (g7.getD bk.toNat 0).toNat af.z).1==ByteArray.toList ⟨#[]⟩))then al (room (g2.length+1) 16)<|al (ew .i64 (bk+1))<|nx ((bk+1),(g2++[(bd.getD (g7.getD bk.toNat 0).toNat af.z).1]))else al (ew .i64 (bk+1))<|nx ((bk+1),g2)else dn g2
def qoe(g7:qL1)(f7 fr:Int)(bd:(List af))(f0 f1:Int)(s0:(Int×(List ByteArray))):Option ((List ByteArray)⊕(Int×(List ByteArray))):=bj (fun a=>x6 g7 f7 fr bd f0 f1 a.1 a.2 (fun a' =>some (.next a')) (fun e=>some (.done e)) (fun r=>some (.ret r))) s0
def qyl:Shp:=⟨[jtm,(6, .nl false (.own 1)),(18, .d false qT1),jt4,jti],[qan,q9m]⟩
def qyk:Shp:=⟨[jtn],[q9m]⟩
def qfw(aa:az)(b2:qL1):Option (Int×(List ByteArray)):=bnd (pi aa) fun r1=>bif (!r1)then some (1,[])else bif decide ((1000:Int)<(b2.length:Int))then some (5,[])else bnd (qoe b2 (b2.length:Int) aa.1 aa.2.1 aa.2.2.1 aa.2.2.2.1 (0,[])) fun oe2=>lk oe2 (fun e2=>some (0,e2)) (fun r=>some r)
def lz(a0:az)(kk:qL1):Option (qL1×Bool×(List ByteArray)):=bnd (r0 a0) fun r1=>bnd (qjx a0 r1.1 kk) fun r2=>bif (!decide (r2.2.2=0))then some ([],false,[])else bnd (qfw a0 kk) fun r3=>some (r2.1,decide (r3.1=0),r3.2)
def mm(a0 a1:az)(fs:qL1)(b0:Int):Option (qL1×Int×(List ByteArray)):=bnd (qau a0 a1) fun r1=>bif (!decide (r1=0))then some ([],r1,[])else bnd (lz a0 fs) fun r2=>bif (!r2.2.1)then some ([],12,[])else bif decide (b0<1)then some ([],2,[])else bif decide ((2000:Int)<b0)then some ([],2,[])else some (r2.1,0,r2.2.2)
def ia(hu:qL1):Option ByteArray:=jcy hu
def xk(aa:az)(bs:qL1)(a9:Int):Option (Int×qL1):=bnd (kb aa bs) fun r1=>bif (!r1)then some (1,[])else bnd (mn aa bs a9) fun r2=>some (r2.1,r2.2)
def qe{R:Type}(bs:qL1)(n0 fr:Int)(bd:(List af))(f0 f1 f5:Int)(es:(List ag))(nx:(Int×(List ag))→Option R)(dn rt:(List ag)→Option R):Option R:=bif decide (f5<n0)then bnd (xk (fr,bd,f0,f1,()) bs f5) fun r1=>bif decide (r1.1=0)then al (room (es.length+1) 32)<|al (ew .i64 (f5+1))<|nx ((f5+1),(es++[(f5,r1.2,())]))else al (ew .i64 (f5+1))<|nx ((f5+1),es)else dn es
def qgo(bs:qL1)(n0 fr:Int)(bd:(List af))(f0 f1:Int)(s0:(Int×(List ag))):Option ((List ag)⊕(List ag)):=bj (fun a=>qe bs n0 fr bd f0 f1 a.1 a.2 (fun a' =>some (.next a')) (fun e=>some (.done e)) (fun r=>some (.ret r))) s0
def qqp:Shp:=⟨[ji9,jtm,(5, .nl false (.own 1)),jtr,jtf],[qan,jqc]⟩
def qqo:Shp:=⟨[(5, .nl false (.own 0))],[jqc]⟩
def fm(aa:az)(bs:qL1):Option (List ag):=bnd (qgo bs (aa.2.1.length:Int) aa.1 aa.2.1 aa.2.2.1 aa.2.2.2.1 (0,[])) fun oe2=>lk oe2 (fun e2=>some e2) (fun r=>some r)
def b8{R:Type}(cy:(List ByteArray))(a3 hl:Int)(gr:(List ag))(h7 a4:Int)(ap:(List af))(a5 a6 hi:Int)(os ku:qL1)(en:Int)(b5:(List ab))(gd:(List (ByteArray×Bool)))(nx:(Int×(List ab)×(List (ByteArray×Bool)))→Option R)(dn:((List ab)×(List (ByteArray×Bool)))→Option R)(rt:(Bool×(List ab))→Option R):Option R:=bif decide (en<h7)then al (ix en gr.length)<|al (ix en gr.length)<|al (ix (gr.getD en.toNat ag.z).1 ap.length)<|al (ix (gr.getD en.toNat ag.z).1 ap.length)<|bif (!(ByteArray.toList (ap.getD (Int.toNat (gr.getD en.toNat ag.z).1) af.z).1==ByteArray.toList ⟨#[]⟩))then bif decide (hi=(cy.length:Int))then al (ew .i64 (en+1))<|nx ((en+1),b5,gd)else al (ix hi cy.length)<|al (ix hi cy.length)<|bif (!(ByteArray.toList (cy.getD hi.toNat ⟨#[]⟩)==ByteArray.toList (ap.getD (Int.toNat (gr.getD en.toNat ag.z).1) af.z).1))then al (ew .i64 (en+1))<|nx ((en+1),b5,gd)else al (ew .i64 (hi+1))<|al (room (1+(gr.getD en.toNat ag.z).2.1.length) 8)<|bnd (ia ([(hi+1)]++(gr.getD en.toNat ag.z).2.1)) fun r4=>bif ((pe .str r4 gd).getD false)then al (ew .i64 (en+1))<|nx ((en+1),b5,gd)else bif decide ((b5.length:Int)=a3)then rt (false,b5)else bnd (bt ku) fun r5=>al (room (r5.length+1) 8)<|al (room (b5.length+1) 56)<|al (ew .i64 (en+1))<|nx ((en+1),(b5++[((hi+1),(gr.getD en.toNat ag.z).2.1,(r5++[(gr.getD en.toNat ag.z).1]),())]),(qav .str r4 true gd))else al (room (1+(gr.getD en.toNat ag.z).2.1.length) 8)<|bnd (ia ([hi]++(gr.getD en.toNat ag.z).2.1)) fun r6=>bif ((pe .str r6 gd).getD false)then al (ew .i64 (en+1))<|nx ((en+1),b5,gd)else bif decide ((b5.length:Int)=a3)then rt (false,b5)else bnd (bt ku) fun r7=>al (room (r7.length+1) 8)<|al (room (b5.length+1) 56)<|al (ew .i64 (en+1))<|nx ((en+1),(b5++[(hi,(gr.getD en.toNat ag.z).2.1,(r7++[(gr.getD en.toNat ag.z).1]),())]),(qav .str r6 true gd))else dn (b5,gd)
def qak(cy:(List ByteArray))(a3 hl:Int)(gr:(List ag))(h7 a4:Int)(ap:(List af))(a5 a6 hi:Int)(os ku:qL1)(s0:(Int×(List ab)×(List (ByteArray×Bool)))):Option (((List ab)×(List (ByteArray×Bool)))⊕(Bool×(List ab))):=bj (fun a=>b8 cy a3 hl gr h7 a4 ap a5 a6 hi os ku a.1 a.2.1 a.2.2 (fun a' =>some (.next a')) (fun e=>some (.done e)) (fun r=>some (.ret r))) s0
def qib:Shp:=⟨[q2w,qxt,jby,(10, .own 1),(11, .mp 2),jtf,(13, .ptr 3),(46, .nl false (.d true (.slice ag.ty))),(47, .d true qT0),(48, .d true qT0)],[qan,qve,qpz, .cs 92 3 1 (.cons (.d true qT0) (.cons (.d true qT1) (.cons (.d true qT1) .nil)))]⟩
def qia:Shp:=⟨[q2w,qxt,jby,(10, .own 1),(11, .mp 2),jtf],[qan,qve,qpz]⟩
def ib{R:Type}(cy:(List ByteArray))(a3 a4:Int)(ap:(List af))(a5 a6 hl:Int)(b5:(List ab))(gd:(List (ByteArray×Bool)))(nx:(Int×(List ab)×(List (ByteArray×Bool)))→Option R)(dn:(List ab)→Option R)(rt:(Bool×(List ab))→Option R):Option R:=bif decide (hl<(b5.length:Int))then al (ix hl b5.length)<|al (ix hl b5.length)<|bnd (fm (a4,ap,a5,a6,()) (b5.getD hl.toNat ab.z).2.1) fun r3=>bnd (qak cy a3 hl r3 (r3.length:Int) a4 ap a5 a6 (b5.getD hl.toNat ab.z).1 (b5.getD hl.toNat ab.z).2.1 (b5.getD hl.toNat ab.z).2.2.1 (0,b5,gd)) fun oe8=>lk oe8 (fun e8=>al (ew .i64 (hl+1))<|nx ((hl+1),e8.1,e8.2)) (fun r=>rt r)else dn b5
def rg(cy:(List ByteArray))(a3 a4:Int)(ap:(List af))(a5 a6:Int)(s0:(Int×(List ab)×(List (ByteArray×Bool)))):Option ((List ab)⊕(Bool×(List ab))):=bj (fun a=>ib cy a3 a4 ap a5 a6 a.1 a.2.1 a.2.2 (fun a' =>some (.next a')) (fun e=>some (.done e)) (fun r=>some (.ret r))) s0
def qid:Shp:=⟨[q2w,qxt,jby,(10, .own 1),(11, .mp 2),jtf],[qan,qve,qpz]⟩
def qic:Shp:=⟨[(10, .own 0)],[qve]⟩
def i9(aa:az)(cy:(List ByteArray))(a3:Int):Option (Bool×(List ab)):=bnd (r0 aa) fun r1=>al (room (1+r1.1.length) 8)<|bnd (ia ([0]++r1.1)) fun r2=>bnd (rg cy a3 aa.1 aa.2.1 aa.2.2.1 aa.2.2.2.1 (0,[(0,r1.1,[],())],(qav .str r2 true ([]:(List (ByteArray×Bool)))))) fun oe9=>lk oe9 (fun e9=>some (true,e9)) (fun r=>some r)
def qbg(gy:ab)(ej:(List ByteArray)):Option Bool:=al (ix 0 1)<|some (decide (gy.1<(ej.length:Int)))
def cl{R:Type}(ad:(List ab))(f_1c0:(List ByteArray))(bf av:Int)(nx:Int→Option R)(dn:Unit→Option R)(rt:Int→Option R):Option R:=bif decide (av<bf)then al (ix av ad.length)<|al (ix av ad.length)<|bnd (qbg (ad.getD av.toNat ab.z) f_1c0) fun r1=>bif r1 then rt av else al (ew .i64 (av+1))<|nx (av+1)else dn ()
def iy(ad:(List ab))(f_1c0:(List ByteArray))(bf s0:Int):Option (Unit⊕Int):=bj (fun a=>cl ad f_1c0 bf a (fun a' =>some (.next a')) (fun e=>some (.done e)) (fun r=>some (.ret r))) s0
def iq:Shp:=⟨[jtp,jqx,q3i,q8m],[]⟩
def io:Shp:=⟨[],[]⟩
def de(ad:(List ab))(f_1c0:(List ByteArray)):Option Int:=bnd (iy ad f_1c0 (ad.length:Int) 0) fun oe2=>lk oe2 (fun e2=>some (-1)) (fun r=>some r)
def ci{R:Type}(del_1c0:(List ByteArray))(bb hf:Int)(ad:(List ab))(nx:(Int×Int×(List ab))→Option R)(dn:(Int×(List ab))→Option R)(rt:(List ab)→Option R):Option R:=bif decide (hf<(ad.length:Int))then al (ix hf ad.length)<|al (ix hf ad.length)<|bnd (qbg (ad.getD hf.toNat ab.z) del_1c0) fun r2=>bif (!r2)then al (ix bb ad.length)<|al (ix bb ad.length)<|al (ew .i64 (bb+1))<|al (ew .i64 (hf+1))<|nx ((bb+1),(hf+1),(ad.set bb.toNat (ad.getD hf.toNat ab.z)))else al (ew .i64 (hf+1))<|nx (bb,(hf+1),ad)else dn (bb,ad)
def ig(del_1c0:(List ByteArray))(s0:(Int×Int×(List ab))):Option ((Int×(List ab))⊕(List ab)):=bj (fun a=>ci del_1c0 a.1 a.2.1 a.2.2 (fun a' =>some (.next a')) (fun e=>some (.done e)) (fun r=>some (.ret r))) s0
def gq:Shp:=⟨[jjb,jqx,jp6,jqf],[qve]⟩
def gp:Shp:=⟨[jjb,jp6],[qve]⟩
def cx(del_1c0:(List ByteArray))(ad:(List ab)):Option (List ab):=bnd (de ad del_1c0) fun r1=>bif decide (r1=(-1))then some ad else al (ew .i64 (r1+1))<|bnd (ig del_1c0 (r1,(r1+1),ad)) fun oe3=>lk oe3 (fun e3=>al (cut e3.1 (e3.2.length:Int) e3.2.length)<|al (cut 0 e3.1 (qw e3.2 e3.1.toNat ((e3.2.length:Int).toNat-e3.1.toNat) (List.replicate ((e3.2.length:Int).toNat-e3.1.toNat) (ab.z:ab))).length)<|some (((qw e3.2 e3.1.toNat ((e3.2.length:Int).toNat-e3.1.toNat) (List.replicate ((e3.2.length:Int).toNat-e3.1.toNat) (ab.z:ab))).drop 0).take (e3.1.toNat-0))) (fun r=>some r)
def zj(o1:qL1)(ej:(List (ByteArray×Bool)))(g4:qL2):Option ((List (ByteArray×Bool))×qL2):=bnd (ia o1) fun r1=>bif (!((pe .str r1 ej).getD false))then bnd (ia o1) fun r2=>al (room (g4.length+1) 24)<|some ((qav .str r2 true ej),(g4++[o1]))else some (ej,g4)
def qd2{R:Type}(a3 f7:Int)(g7:qL2)(a4:Int)(ap:(List af))(a5 a6 bk:Int)(bo:qL2)(add_10c0:(List (ByteArray×Bool)))(nx:(Int×qL2×(List (ByteArray×Bool)))→Option R)(dn:(qL2×(List (ByteArray×Bool)))→Option R)(rt:(Bool×qL2×qL2)→Option R):Option R:=bif decide (bk<f7)then al (ix bk g7.length)<|al (ix bk g7.length)<|bnd (zj (g7.getD bk.toNat []) add_10c0 bo) fun r1=>al (ew .i64 (bk+1))<|nx ((bk+1),r1.2,r1.1)else dn (bo,add_10c0)
def qtn(a3 f7:Int)(g7:qL2)(a4:Int)(ap:(List af))(a5 a6:Int)(s0:(Int×qL2×(List (ByteArray×Bool)))):Option ((qL2×(List (ByteArray×Bool)))⊕(Bool×qL2×qL2)):=bj (fun a=>qd2 a3 f7 g7 a4 ap a5 a6 a.1 a.2.1 a.2.2 (fun a' =>some (.next a')) (fun e=>some (.done e)) (fun r=>some (.ret r))) s0
def qqg:Shp:=⟨[qxt,jtz,jud,q3q,(18, .own 0),jt4,jti],[qjk,qan,ji8,ji7,qjk,qpz]⟩
def qqf:Shp:=⟨[qxt,jtz,jud,q3q],[qjk,qan,ji8,ji7,qjk,qpz]⟩
def qd3{R:Type}(a3 h4:Int)(k2:(List ag))(gr:Int)(k0:qL2)(a4:Int)(ap:(List af))(a5 a6 h7:Int)(bo:qL2)(add_10c0:(List (ByteArray×Bool)))(nx:(Int×qL2×(List (ByteArray×Bool)))→Option R)(dn:(qL2×(List (ByteArray×Bool)))→Option R)(rt:(Bool×qL2×qL2)→Option R):Option R:=bif decide (h7<gr)then al (ix h7 k2.length)<|al (ix h7 k2.length)<|bnd (zj (k2.getD h7.toNat ag.z).2.1 add_10c0 bo) fun r4=>al (ew .i64 (h7+1))<|nx ((h7+1),r4.2,r4.1)else dn (bo,add_10c0)
def qto(a3 h4:Int)(k2:(List ag))(gr:Int)(k0:qL2)(a4:Int)(ap:(List af))(a5 a6:Int)(s0:(Int×qL2×(List (ByteArray×Bool)))):Option ((qL2×(List (ByteArray×Bool)))⊕(Bool×qL2×qL2)):=bj (fun a=>qd3 a3 h4 k2 gr k0 a4 ap a5 a6 a.1 a.2.1 a.2.2 (fun a' =>some (.next a')) (fun e=>some (.done e)) (fun r=>some (.ret r))) s0
def qqi:Shp:=⟨[qxt,jtz,jud,q3q,jtg,(45, .nl false (.d true (.slice ag.ty))),(46, .d true qT0),(47, .d true qT0)],[qjk,qan,ji8,ji7,qjk,qpz]⟩
def qqh:Shp:=⟨[qxt,jtz,jud,q3q,jtg],[qjk,qan,ji8,ji7,qjk,qpz]⟩
def qd4{R:Type}(a3:Int)(k0:qL2)(a4:Int)(ap:(List af))(a5 a6 h4:Int)(bo:qL2)(add_10c0:(List (ByteArray×Bool)))(nx:(Int×qL2×(List (ByteArray×Bool)))→Option R)(dn:qL2→Option R)(rt:(Bool×qL2×qL2)→Option R):Option R:=bif decide (h4<(bo.length:Int))then bif decide ((bo.length:Int)≤a3)then al (ix h4 bo.length)<|al (ix h4 bo.length)<|bnd (fm (a4,ap,a5,a6,()) (bo.getD h4.toNat [])) fun r3=>bnd (qto a3 h4 r3 (r3.length:Int) k0 a4 ap a5 a6 (0,bo,add_10c0)) fun oe5=>lk oe5 (fun e5=>al (ew .i64 (h4+1))<|nx ((h4+1),e5.1,e5.2)) (fun r=>rt r)else dn bo else dn bo
def qtp(a3:Int)(k0:qL2)(a4:Int)(ap:(List af))(a5 a6:Int)(s0:(Int×qL2×(List (ByteArray×Bool)))):Option (qL2⊕(Bool×qL2×qL2)):=bj (fun a=>qd4 a3 k0 a4 ap a5 a6 a.1 a.2.1 a.2.2 (fun a' =>some (.next a')) (fun e=>some (.done e)) (fun r=>some (.ret r))) s0
def qqk:Shp:=⟨[qxt,jtz,jud,q3q,jtg],[qjk,qan,ji8,ji7,qjk,qpz]⟩
def qqj:Shp:=⟨[qxt,(9, .ptr 1)],[qjk, .cs 38 1 1 (.cons (.own 2) .nil),qjk]⟩
def qdc(aa:az)(a3:Int)(ha:qL2):Option (Bool×qL2×qL2):=bnd (qtn a3 (ha.length:Int) ha aa.1 aa.2.1 aa.2.2.1 aa.2.2.2.1 (0,[],[])) fun oe2=>lk oe2 (fun e2=>bnd (qtp a3 ha aa.1 aa.2.1 aa.2.2.1 aa.2.2.2.1 (0,e2.1,e2.2)) fun oe6=>lk oe6 (fun e6=>some (decide ((e6.length:Int)≤a3),ha,e6)) (fun r=>some r)) (fun r=>some r)
def qd(hj nd:qL1):Option ByteArray:=bnd (ia hj) fun r1=>al (decide (((ByteArray.size r1+ByteArray.size ⟨#[124]⟩:Nat):Int)≤9223372036854775807))<|bnd (ia nd) fun r2=>al (decide (((ByteArray.size (r1++⟨#[124]⟩)+ByteArray.size r2:Nat):Int)≤9223372036854775807))<|some ((r1++⟨#[124]⟩)++r2)
def yz(aa:az):Option (Int×qL1):=bnd (qei aa aa.2.2.2.1) fun r1=>some (r1.1,r1.2)
def fg{R:Type}(gs g5:qL1)(f5 f2:Int)(nx:Int→Option R)(dn:Unit→Option R)(rt:Bool→Option R):Option R:=bif decide (f2<f5)then al (ix f2 gs.length)<|al (ix f2 gs.length)<|al (ix f2 g5.length)<|al (ix f2 g5.length)<|bif (!decide ((gs.getD f2.toNat 0)=(g5.getD f2.toNat 0)))then rt false else al (ew .i64 (f2+1))<|nx (f2+1)else dn ()
def wa(gs g5:qL1)(f5 s0:Int):Option (Unit⊕Bool):=bj (fun a=>fg gs g5 f5 a (fun a' =>some (.next a')) (fun e=>some (.done e)) (fun r=>some (.ret r))) s0
def qe3:Shp:=⟨[jp9,ji9,jtf,jtg],[]⟩
def qe2:Shp:=⟨[],[]⟩
def bc(gs g5:qL1):Option Bool:=bif (!decide ((gs.length:Int)=(g5.length:Int)))then some false else bnd (wa gs g5 (gs.length:Int) 0) fun oe1=>lk oe1 (fun e1=>some true) (fun r=>some r)
def qea{R:Type}(bs:qL1)(gt:(List af))(j0 gw:Int)(g2:qL1)(nx:(Int×qL1)→Option R)(dn:qL1→Option R)(rt:(Int×qL1)→Option R):Option R:=bif decide (gw<j0)then al (ix gw gt.length)<|al (ix gw gt.length)<|bnd (sc (gt.getD gw.toNat af.z) bs) fun r2=>bif r2 then al (room (g2.length+1) 8)<|al (ew .i64 (gw+1))<|nx ((gw+1),(g2++[gw]))else al (ew .i64 (gw+1))<|nx ((gw+1),g2)else dn g2
def qtu(bs:qL1)(gt:(List af))(j0:Int)(s0:(Int×qL1)):Option (qL1⊕(Int×qL1)):=bj (fun a=>qea bs gt j0 a.1 a.2 (fun a' =>some (.next a')) (fun e=>some (.done e)) (fun r=>some (.ret r))) s0
def qqx:Shp:=⟨[ji9,jtn,(14, .d false (.slice af.ty)),jt3,(16, .d true qT0)],[qpn]⟩
def qqw:Shp:=⟨[jtn],[qpn]⟩
def x5(aa:az)(bs:qL1):Option (Int×qL1):=bnd (kb aa bs) fun r1=>bif (!r1)then some (1,[])else bnd (qtu bs aa.2.1 (aa.2.1.length:Int) (0,[])) fun oe3=>lk oe3 (fun e3=>some (0,e3)) (fun r=>some r)
def s8(hj nd:qL1)(g4:(List (ByteArray×Bool))):Option (Bool×(List (ByteArray×Bool))):=bnd (qd hj nd) fun r1=>some (((pe .str r1 g4).getD false),g4)
def qbl(ga:ag)(ej:az)(g4:ByteArray)(m1:ag)(p_3c0:(List (ByteArray×Bool))):Option (Bool×(List (ByteArray×Bool))):=al (ix 0 1)<|al (ix ga.1 ej.2.1.length)<|al (ix ga.1 ej.2.1.length)<|al (ix 0 1)<|bif (ByteArray.toList (ej.2.1.getD ga.1.toNat af.z).1==ByteArray.toList g4)then al (ix 0 1)<|bnd (s8 m1.2.1 ga.2.1 p_3c0) fun r1=>some (r1.1,r1.2)else some (false,p_3c0)
def dj{R:Type}(ad:(List ag))(f_1c0:az)(f_1c1:ByteArray)(f_1c3:ag)(bf av:Int)(f_1c2c0:(List (ByteArray×Bool)))(nx:(Int×(List (ByteArray×Bool)))→Option R)(dn:(List (ByteArray×Bool))→Option R)(rt:(Int×(List (ByteArray×Bool)))→Option R):Option R:=bif decide (av<bf)then al (ix av ad.length)<|al (ix av ad.length)<|bnd (qbl (ad.getD av.toNat ag.z) f_1c0 f_1c1 f_1c3 f_1c2c0) fun r1=>bif r1.1 then rt (av,r1.2)else al (ew .i64 (av+1))<|nx ((av+1),r1.2)else dn f_1c2c0
def kz(ad:(List ag))(f_1c0:az)(f_1c1:ByteArray)(f_1c3:ag)(bf:Int)(s0:(Int×(List (ByteArray×Bool)))):Option ((List (ByteArray×Bool))⊕(Int×(List (ByteArray×Bool)))):=bj (fun a=>dj ad f_1c0 f_1c1 f_1c3 bf a.1 a.2 (fun a' =>some (.next a')) (fun e=>some (.done e)) (fun r=>some (.ret r))) s0
def j6:Shp:=⟨[jts,q50,q3i,q8m],[qs8,qnp,qpz]⟩
def j5:Shp:=⟨[],[qs8,qnp,qpz]⟩
def ea(ad:(List ag))(f_1c0:az)(f_1c1:ByteArray)(f_1c3:ag)(f_1c2c0:(List (ByteArray×Bool))):Option (Int×(List (ByteArray×Bool))):=bnd (kz ad f_1c0 f_1c1 f_1c3 (ad.length:Int) (0,f_1c2c0)) fun oe2=>lk oe2 (fun e2=>some ((-1),e2)) (fun r=>some r)
def bz(ad:(List ag))(f_1c0:az)(f_1c1:ByteArray)(f_1c3:ag)(f_1c2c0:(List (ByteArray×Bool))):Option (Bool×(List (ByteArray×Bool))):=bnd (ea ad f_1c0 f_1c1 f_1c3 f_1c2c0) fun r1=>some (decide ((0:Int)≤r1.1),r1.2)
def qai{R:Type}(g0:qL1)(fi cb:(List ag))(ke et:Int)(b1:(List af))(ev ex dd:Int)(dt:(List af))(dw d0 b6:Int)(k0:(List (ByteArray×Bool)))(nx:(Int×(List (ByteArray×Bool)))→Option R)(dn:(List (ByteArray×Bool))→Option R)(rt:(Bool×(List (ByteArray×Bool)))→Option R):Option R:=bif decide (b6<ke)then al (ix b6 cb.length)<|al (ix b6 cb.length)<|al (ix (cb.getD b6.toNat ag.z).1 b1.length)<|al (ix (cb.getD b6.toNat ag.z).1 b1.length)<|bif (ByteArray.toList (b1.getD (Int.toNat (cb.getD b6.toNat ag.z).1) af.z).1==ByteArray.toList ⟨#[]⟩)then bnd (s8 (cb.getD b6.toNat ag.z).2.1 g0 k0) fun r8=>bif r8.1 then al (ew .i64 (b6+1))<|nx ((b6+1),r8.2)else bnd (bz fi (dd,dt,dw,d0,()) (b1.getD (Int.toNat (cb.getD b6.toNat ag.z).1) af.z).1 (cb.getD b6.toNat ag.z) r8.2) fun r9=>bif (!r9.1)then rt (false,r9.2)else al (ew .i64 (b6+1))<|nx ((b6+1),r9.2)else bnd (bz fi (dd,dt,dw,d0,()) (b1.getD (Int.toNat (cb.getD b6.toNat ag.z).1) af.z).1 (cb.getD b6.toNat ag.z) k0) fun r10=>bif (!r10.1)then rt (false,r10.2)else al (ew .i64 (b6+1))<|nx ((b6+1),r10.2)else dn k0
def qmd(g0:qL1)(fi cb:(List ag))(ke et:Int)(b1:(List af))(ev ex dd:Int)(dt:(List af))(dw d0:Int)(s0:(Int×(List (ByteArray×Bool)))):Option ((List (ByteArray×Bool))⊕(Bool×(List (ByteArray×Bool)))):=bj (fun a=>qai g0 fi cb ke et b1 ev ex dd dt dw d0 a.1 a.2 (fun a' =>some (.next a')) (fun e=>some (.done e)) (fun r=>some (.ret r))) s0
def qkm:Shp:=⟨[jtw,jug,juh,jui,jqy,jqz,(59, .d true qT0),(60, .d true qT0)],[qxw,qpz,qan,qan,jqi]⟩
def qkl:Shp:=⟨[],[qxw,qpz]⟩
def qaj{R:Type}(ho g0:qL1)(k0:(List (ByteArray×Bool)))(et:Int)(b1:(List af))(ev ex dd:Int)(dt:(List af))(dw d0:Int)(dn:Unit→Option R)(rt:(Bool×(List (ByteArray×Bool)))→Option R):Option R:=bnd (fm (dd,dt,dw,d0,()) g0) fun r5=>bnd (x5 (et,b1,ev,ex,()) ho) fun r6=>bnd (fm (et,b1,ev,ex,()) ho) fun r7=>bif decide ((r7.length:Int)<(r6.2.length:Int))then rt (false,k0)else bnd (qmd g0 r5 r7 (r7.length:Int) et b1 ev ex dd dt dw d0 (0,k0)) fun oe11=>lk oe11 (fun e11=>rt (true,e11)) (fun r=>rt r)
def qbp(ho g0:qL1)(k0:(List (ByteArray×Bool)))(et:Int)(b1:(List af))(ev ex dd:Int)(dt:(List af))(dw d0:Int):Option (Unit⊕(Bool×(List (ByteArray×Bool)))):=qaj ho g0 k0 et b1 ev ex dd dt dw d0 (fun e=>some (.inl e)) (fun r=>some (.inr r))
def qko:Shp:=⟨[jth,jtw,jug,juh,jui],[qxw,qpz,qan,qan,jqi]⟩
def qkn:Shp:=⟨[],[]⟩
def qd0(a0 a1:az)(ho g0:qL1)(in_4c0:(List (ByteArray×Bool))):Option (Bool×(List (ByteArray×Bool))):=bnd (yz a0) fun r1=>bnd (yz a1) fun r2=>bnd (bc ho r1.2) fun r3=>bif r3 then bnd (bc g0 r2.2) fun r4=>bif (!r4)then some (false,in_4c0)else bnd (qbp ho g0 in_4c0 a0.1 a0.2.1 a0.2.2.1 a0.2.2.2.1 a1.1 a1.2.1 a1.2.2.1 a1.2.2.2.1) fun oe12=>lk oe12 (fun e12=>none) (fun r=>some r)else bnd (qbp ho g0 in_4c0 a0.1 a0.2.1 a0.2.2.1 a0.2.2.2.1 a1.1 a1.2.1 a1.2.2.1 a1.2.2.2.1) fun oe13=>lk oe13 (fun e13=>none) (fun r=>some r)
def ov(gy:ae)(ej g4:az)(m1:(List (ByteArray×Bool))):Option (Bool×(List (ByteArray×Bool))):=al (ix 0 1)<|al (ix 0 1)<|bnd (qd0 ej g4 gy.1 gy.2.1 m1) fun r1=>bif r1.1 then some (false,r1.2)else bnd (qd gy.1 gy.2.1) fun r2=>some (true,(qya .str r2 r1.2))
def je{R:Type}(ad:(List ae))(f_1c0 f_1c1:az)(bf av:Int)(f_1c3:(List (ByteArray×Bool)))(nx:(Int×(List (ByteArray×Bool)))→Option R)(dn:(List (ByteArray×Bool))→Option R)(rt:(Int×(List (ByteArray×Bool)))→Option R):Option R:=bif decide (av<bf)then al (ix av ad.length)<|al (ix av ad.length)<|bnd (ov (ad.getD av.toNat ae.z) f_1c0 f_1c1 f_1c3) fun r1=>bif r1.1 then rt (av,r1.2)else al (ew .i64 (av+1))<|nx ((av+1),r1.2)else dn f_1c3
def rk(ad:(List ae))(f_1c0 f_1c1:az)(bf:Int)(s0:(Int×(List (ByteArray×Bool)))):Option ((List (ByteArray×Bool))⊕(Int×(List (ByteArray×Bool)))):=bj (fun a=>je ad f_1c0 f_1c1 bf a.1 a.2 (fun a' =>some (.next a')) (fun e=>some (.done e)) (fun r=>some (.ret r))) s0
def qu:Shp:=⟨[q9n,(1, .fn 98 (.cons (.rp false az.ty) (.cons (.rp false az.ty) (.cons (.ptr 0) (.cons (.ptr 1) .nil))))),q3i,q8m],[qs8,qnp,qpz]⟩
def qt:Shp:=⟨[],[qs8,qnp,qpz]⟩
def li(ad:(List ae))(f_1c0 f_1c1:az)(f_1c3:(List (ByteArray×Bool))):Option (Int×(List (ByteArray×Bool))):=bnd (rk ad f_1c0 f_1c1 (ad.length:Int) (0,f_1c3)) fun oe2=>lk oe2 (fun e2=>some ((-1),e2)) (fun r=>some r)
def ie{R:Type}(del_1c0 del_1c1:az)(bb hf:Int)(ad:(List ae))(del_1c3:(List (ByteArray×Bool)))(nx:(Int×Int×(List ae)×(List (ByteArray×Bool)))→Option R)(dn:(Int×(List ae)×(List (ByteArray×Bool)))→Option R)(rt:((List ae)×(List (ByteArray×Bool)))→Option R):Option R:=bif decide (hf<(ad.length:Int))then al (ix hf ad.length)<|al (ix hf ad.length)<|bnd (ov (ad.getD hf.toNat ae.z) del_1c0 del_1c1 del_1c3) fun r2=>bif (!r2.1)then al (ix bb ad.length)<|al (ix bb ad.length)<|al (ew .i64 (bb+1))<|al (ew .i64 (hf+1))<|nx ((bb+1),(hf+1),(ad.set bb.toNat (ad.getD hf.toNat ae.z)),r2.2)else al (ew .i64 (hf+1))<|nx (bb,(hf+1),ad,r2.2)else dn (bb,ad,del_1c3)
def qo(del_1c0 del_1c1:az)(s0:(Int×Int×(List ae)×(List (ByteArray×Bool)))):Option ((Int×(List ae)×(List (ByteArray×Bool)))⊕((List ae)×(List (ByteArray×Bool)))):=bj (fun a=>ie del_1c0 del_1c1 a.1 a.2.1 a.2.2.1 a.2.2.2 (fun a' =>some (.next a')) (fun e=>some (.done e)) (fun r=>some (.ret r))) s0
def pq:Shp:=⟨[jjb,(1, .fn 98 (.cons (.rp false az.ty) (.cons (.rp false az.ty) (.cons (.ptr 1) (.cons (.ptr 2) .nil))))),jp6,jqf],[qsz,jb2,jdu,qpz]⟩
def pp:Shp:=⟨[jjb,jp6],[qsz,jb2,jdu,qpz]⟩
def kg(del_1c0 del_1c1:az)(ad:(List ae))(del_1c3:(List (ByteArray×Bool))):Option ((List ae)×(List (ByteArray×Bool))):=bnd (li ad del_1c0 del_1c1 del_1c3) fun r1=>bif decide (r1.1=(-1))then some (ad,r1.2)else al (ew .i64 (r1.1+1))<|bnd (qo del_1c0 del_1c1 (r1.1,(r1.1+1),ad,r1.2)) fun oe3=>lk oe3 (fun e3=>al (cut e3.1 (e3.2.1.length:Int) e3.2.1.length)<|al (cut 0 e3.1 (qw e3.2.1 e3.1.toNat ((e3.2.1.length:Int).toNat-e3.1.toNat) (List.replicate ((e3.2.1.length:Int).toNat-e3.1.toNat) (ae.z:ae))).length)<|some ((((qw e3.2.1 e3.1.toNat ((e3.2.1.length:Int).toNat-e3.1.toNat) (List.replicate ((e3.2.1.length:Int).toNat-e3.1.toNat) (ae.z:ae))).drop 0).take (e3.1.toNat-0)),e3.2.2)) (fun r=>some r)
def qab{R:Type}(lr:qL1)(bk ft ka:Int)(f7 hd:qL2)(ec:Int)(ef:(List af))(eg ei c3:Int)(c4:(List af))(c5 dc hb:Int)(he:(List ae))(hw:(List (ByteArray×Bool)))(nx:(Int×(List ae)×(List (ByteArray×Bool)))→Option R)(dn:((List ae)×(List (ByteArray×Bool)))→Option R)(rt:(qL2×qL2×(List ae))→Option R):Option R:=bif decide (hb<ka)then al (ix hb hd.length)<|al (ix hb hd.length)<|al (room (he.length+1) 48)<|bnd (qd lr (hd.getD hb.toNat [])) fun r1=>al (ew .i64 (hb+1))<|nx ((hb+1),(he++[(lr,(hd.getD hb.toNat []),())]),(qav .str r1 true hw))else dn (he,hw)
def ql4(lr:qL1)(bk ft ka:Int)(f7 hd:qL2)(ec:Int)(ef:(List af))(eg ei c3:Int)(c4:(List af))(c5 dc:Int)(s0:(Int×(List ae)×(List (ByteArray×Bool)))):Option (((List ae)×(List (ByteArray×Bool)))⊕(qL2×qL2×(List ae))):=bj (fun a=>qab lr bk ft ka f7 hd ec ef eg ei c3 c4 c5 dc a.1 a.2.1 a.2.2 (fun a' =>some (.next a')) (fun e=>some (.done e)) (fun r=>some (.ret r))) s0
def qj4:Shp:=⟨[(3, .own 1),jt8,jub,jto,jt1,jt2,(19, .own 0),jti,jtv,(25, .own 1),(26, .d true qT0),(27, .d true qT0)],[qjk,qjk,qan,qan,qsz,jqb,qpz]⟩
def qj3:Shp:=⟨[(3, .own 1),jt8,jub,jto,jt1,(19, .own 0),jti,jtv],[qjk,qjk,qan,qan,qsz,jqb,qpz]⟩
def qac{R:Type}(bk:Int)(f7 hd:qL2)(ec:Int)(ef:(List af))(eg ei c3:Int)(c4:(List af))(c5 dc ft:Int)(he:(List ae))(hw:(List (ByteArray×Bool)))(nx:(Int×(List ae)×(List (ByteArray×Bool)))→Option R)(dn:((List ae)×(List (ByteArray×Bool)))→Option R)(rt:(qL2×qL2×(List ae))→Option R):Option R:=bif decide (ft<bk)then al (ix ft f7.length)<|al (ix ft f7.length)<|bnd (ql4 (f7.getD ft.toNat []) bk ft (hd.length:Int) f7 hd ec ef eg ei c3 c4 c5 dc (0,he,hw)) fun oe2=>lk oe2 (fun e2=>al (ew .i64 (ft+1))<|nx ((ft+1),e2.1,e2.2)) (fun r=>rt r)else dn (he,hw)
def ql5(bk:Int)(f7 hd:qL2)(ec:Int)(ef:(List af))(eg ei c3:Int)(c4:(List af))(c5 dc:Int)(s0:(Int×(List ae)×(List (ByteArray×Bool)))):Option (((List ae)×(List (ByteArray×Bool)))⊕(qL2×qL2×(List ae))):=bj (fun a=>qac bk f7 hd ec ef eg ei c3 c4 c5 dc a.1 a.2.1 a.2.2 (fun a' =>some (.next a')) (fun e=>some (.done e)) (fun r=>some (.ret r))) s0
def qj6:Shp:=⟨[(3, .own 1),jt8,jub,jto,jt1,(19, .own 0),jti,jtv],[qjk,qjk,qan,qan,qsz,jqb,qpz]⟩
def qj5:Shp:=⟨[jt8,jub,jto,jt1],[qjk,qjk,qan,qan,qsz,jqb,qpz]⟩
def qad{R:Type}(k0 k1:qL2)(ec:Int)(ef:(List af))(eg ei c3:Int)(c4:(List af))(c5 dc:Int)(le:Bool)(he:(List ae))(hw:(List (ByteArray×Bool)))(nx:(Bool×(List ae)×(List (ByteArray×Bool)))→Option R)(dn:(List ae)→Option R)(rt:(qL2×qL2×(List ae))→Option R):Option R:=bif le then bnd (kg (ec,ef,eg,ei,()) (c3,c4,c5,dc,()) he hw) fun r4=>nx (decide ((r4.1.length:Int)<(he.length:Int)),r4.1,r4.2)else dn he
def ql6(k0 k1:qL2)(ec:Int)(ef:(List af))(eg ei c3:Int)(c4:(List af))(c5 dc:Int)(s0:(Bool×(List ae)×(List (ByteArray×Bool)))):Option ((List ae)⊕(qL2×qL2×(List ae))):=bj (fun a=>qad k0 k1 ec ef eg ei c3 c4 c5 dc a.1 a.2.1 a.2.2 (fun a' =>some (.next a')) (fun e=>some (.done e)) (fun r=>some (.ret r))) s0
def qj8:Shp:=⟨[jt8,jub,(9, .own 4),jt1,(15, .ptr 6),(16, .d true .bool)],[qjk,qjk,qan,qan,qsz, .cs 116 1 1 (.cons (.mp 7) .nil), .cs 45 1 1 (.cons (.fn 96 (.cons (.ptr 5) .nil)) .nil),qpz]⟩
def qj7:Shp:=⟨[jt0],[qjk,qjk,qsz]⟩
def qdy(a0 a1:az)(lt hd:qL2):Option (qL2×qL2×(List ae)):=bnd (ql5 (lt.length:Int) lt hd a0.1 a0.2.1 a0.2.2.1 a0.2.2.2.1 a1.1 a1.2.1 a1.2.2.1 a1.2.2.2.1 (0,[],[])) fun oe3=>lk oe3 (fun e3=>bnd (ql6 lt hd a0.1 a0.2.1 a0.2.2.1 a0.2.2.2.1 a1.1 a1.2.1 a1.2.2.1 a1.2.2.2.1 (true,e3.1,e3.2)) fun oe5=>lk oe5 (fun e5=>some (lt,hd,e5)) (fun r=>some r)) (fun r=>some r)
def qh7(p3:ae)(ej:qL1)(g4:ab):Option Bool:=al (ix 0 1)<|bnd (bc p3.1 ej) fun r1=>bif r1 then al (ix 0 1)<|bnd (bc p3.2.1 g4.2.1) fun r2=>some r2 else some false
def lf{R:Type}(ad:(List ae))(f_1c0:qL1)(f_1c1:ab)(bf av:Int)(nx:Int→Option R)(dn:Unit→Option R)(rt:Int→Option R):Option R:=bif decide (av<bf)then al (ix av ad.length)<|al (ix av ad.length)<|bnd (qh7 (ad.getD av.toNat ae.z) f_1c0 f_1c1) fun r1=>bif r1 then rt av else al (ew .i64 (av+1))<|nx (av+1)else dn ()
def uh(ad:(List ae))(f_1c0:qL1)(f_1c1:ab)(bf s0:Int):Option (Unit⊕Int):=bj (fun a=>lf ad f_1c0 f_1c1 bf a (fun a' =>some (.next a')) (fun e=>some (.done e)) (fun r=>some (.ret r))) s0
def tm:Shp:=⟨[q9n,(1, .fn 69 (.cons (.rp false qT1) (.cons (.rp false ab.ty) .nil))),q3i,q8m],[]⟩
def tl:Shp:=⟨[],[]⟩
def mu(ad:(List ae))(f_1c0:qL1)(f_1c1:ab):Option Int:=bnd (uh ad f_1c0 f_1c1 (ad.length:Int) 0) fun oe2=>lk oe2 (fun e2=>some (-1)) (fun r=>some r)
def la(ad:(List ae))(f_1c0:qL1)(f_1c1:ab):Option Bool:=bnd (mu ad f_1c0 f_1c1) fun r1=>some (decide ((0:Int)≤r1))
def qgh{R:Type}(b0:Int)(o0 k3:(List ab))(n3 ec:Int)(ef:(List af))(eg ei c3:Int)(c4:(List af))(c5 dc:Int)(ik ip:qL1)(i0:(List ae))(kn:qL1)(hh:Int)(km:qL2)(nx:(Int×qL2)→Option R)(dn:qL2→Option R)(rt:(fu×Int)→Option R):Option R:=bif decide (hh<n3)then al (ix hh k3.length)<|al (ix hh k3.length)<|al (room (km.length+1) 24)<|al (ew .i64 (hh+1))<|nx ((hh+1),(km++[(k3.getD hh.toNat ab.z).2.1]))else dn km
def qvx(b0:Int)(o0 k3:(List ab))(n3 ec:Int)(ef:(List af))(eg ei c3:Int)(c4:(List af))(c5 dc:Int)(ik ip:qL1)(i0:(List ae))(kn:qL1)(s0:(Int×qL2)):Option (qL2⊕(fu×Int)):=bj (fun a=>qgh b0 o0 k3 n3 ec ef eg ei c3 c4 c5 dc ik ip i0 kn a.1 a.2 (fun a' =>some (.next a')) (fun e=>some (.done e)) (fun r=>some (.ret r))) s0
def qtd:Shp:=⟨[jta,jt7,jua,(8, .ptr 2),(10, .ptr 3),jtq,(15, .nl false (.own 4)),(54, .d true (.slice ab.ty)),(55, .d true qT0),(56, .d true qT0)],[qan,qan,qnb,jqg,qjk]⟩
def qtc:Shp:=⟨[jta,jt7,jua,(8, .ptr 2),(10, .ptr 3),jtq,(15, .nl false (.own 4))],[qan,qan,qnb,jqg,qjk]⟩
def qgi{R:Type}(jc:(List ae))(lp:Int)(ik ip:qL1)(i0:(List ae))(k5 lc:qL1)(ih:Int)(kp:(List ae))(nx:(Int×(List ae))→Option R)(dn:(List ae)→Option R)(rt:(fu×Int)→Option R):Option R:=bif decide (ih<lp)then al (ix ih jc.length)<|al (ix ih jc.length)<|bnd (bt (jc.getD ih.toNat ae.z).1) fun r10=>bnd (bt (jc.getD ih.toNat ae.z).2.1) fun r11=>al (room (kp.length+1) 48)<|al (ew .i64 (ih+1))<|nx ((ih+1),(kp++[(r10,r11,())]))else dn kp
def qvy(jc:(List ae))(lp:Int)(ik ip:qL1)(i0:(List ae))(k5 lc:qL1)(s0:(Int×(List ae))):Option ((List ae)⊕(fu×Int)):=bj (fun a=>qgi jc lp ik ip i0 k5 lc a.1 a.2 (fun a' =>some (.next a')) (fun e=>some (.done e)) (fun r=>some (.ret r))) s0
def qtf:Shp:=⟨[jtx,(25, .ptr 1),(116, .d true (.slice ae.ty)),(117, .d true qT0),(118, .d true qT0)],[qnb,jdr,qsz]⟩
def qte:Shp:=⟨[jtx,(25, .ptr 1)],[qnb,jdr,qsz]⟩
def qgj{R:Type}(hv:(List ae))(h2:(List ab))(lo:Int)(ik ip:qL1)(i0:(List ae))(kn:qL1)(hr:Int)(nx:Int→Option R)(dn:Unit→Option R)(rt:(fu×Int)→Option R):Option R:=bif decide (hr<lo)then al (ix hr h2.length)<|al (ix hr h2.length)<|bnd (la hv kn (h2.getD hr.toNat ab.z)) fun r8=>bif r8 then bnd (bt (h2.getD hr.toNat ab.z).2.1) fun r9=>bnd (qvy hv (hv.length:Int) ik ip i0 r9 (h2.getD hr.toNat ab.z).2.2.1 (0,[])) fun oe12=>lk oe12 (fun e12=>rt ((r9,(h2.getD hr.toNat ab.z).2.2.1,e12,()),0)) (fun r=>rt r)else al (ew .i64 (hr+1))<|nx (hr+1)else dn ()
def qvz(hv:(List ae))(h2:(List ab))(lo:Int)(ik ip:qL1)(i0:(List ae))(kn:qL1)(s0:Int):Option (Unit⊕(fu×Int)):=bj (fun a=>qgj hv h2 lo ik ip i0 kn a (fun a' =>some (.next a')) (fun e=>some (.done e)) (fun r=>some (.ret r))) s0
def qth:Shp:=⟨[jtx,(10, .ptr 1),(22, .d true (.slice ae.ty)),(101, .d true (.slice ab.ty)),(102, .d true qT0),(103, .d true qT0)],[qnb,jqg]⟩
def qtg:Shp:=⟨[jtx],[qnb]⟩
def qfr(a0 a1:az)(fs:qL1)(b0:Int):Option (fu×Int):=bnd (mm a0 a1 fs b0) fun r1=>bif (!decide (r1.2.1=0))then some (([],[],[],()),r1.2.1)else bnd (i9 a1 r1.2.2 b0) fun r2=>bif (!r2.1)then some (([],[],[],()),13)else bnd (cx r1.2.2 r2.2) fun r3=>bnd (qvx b0 r3 r3 (r3.length:Int) a0.1 a0.2.1 a0.2.2.1 a0.2.2.2.1 a1.1 a1.2.1 a1.2.2.1 a1.2.2.2.1 [] [] [] r1.1 (0,[])) fun oe4=>lk oe4 (fun e4=>bnd (qdc a0 b0 [r1.1]) fun r5=>al (decide (r5.2.1.length=1))<|bnd (qdc a1 b0 e4) fun r6=>al (decide (r6.2.1.length=e4.length))<|bif (!r5.1)then some (([],[],[],()),13)else bif (!r6.1)then some (([],[],[],()),13)else al (ew .i64 ((r5.2.2.length:Int)*(r6.2.2.length:Int)))<|bif decide ((20000:Int)<((r5.2.2.length:Int)*(r6.2.2.length:Int)))then some (([],[],[],()),13)else bnd (qdy a0 a1 r5.2.2 r6.2.2) fun r7=>al (decide (r7.1.length=r5.2.2.length))<|al (decide (r7.2.1.length=r6.2.2.length))<|bnd (qvz r7.2.2 r3 (r3.length:Int) [] [] [] r1.1 0) fun oe13=>lk oe13 (fun e13=>some (([],[],[],()),10)) (fun r=>some r)) (fun r=>some r)
def zi(aa:az)(bs:qL1):Option Bool:=bnd (x5 aa bs) fun r1=>some (decide (r1.1=0))
def qgr(gy:ae)(ej g4:az):Option Bool:=al (ix 0 1)<|bnd (zi ej gy.1) fun r1=>bif (!r1)then some true else al (ix 0 1)<|bnd (zi g4 gy.2.1) fun r2=>some (!r2)
def lg{R:Type}(ad:(List ae))(f_1c0 f_1c1:az)(bf av:Int)(nx:Int→Option R)(dn:Unit→Option R)(rt:Int→Option R):Option R:=bif decide (av<bf)then al (ix av ad.length)<|al (ix av ad.length)<|bnd (qgr (ad.getD av.toNat ae.z) f_1c0 f_1c1) fun r1=>bif r1 then rt av else al (ew .i64 (av+1))<|nx (av+1)else dn ()
def uj(ad:(List ae))(f_1c0 f_1c1:az)(bf s0:Int):Option (Unit⊕Int):=bj (fun a=>lg ad f_1c0 f_1c1 bf a (fun a' =>some (.next a')) (fun e=>some (.done e)) (fun r=>some (.ret r))) s0
def tq:Shp:=⟨[q9n,(1, .fn 77 (.cons (.rp false az.ty) (.cons (.rp false az.ty) .nil))),q3i,q8m],[]⟩
def tp:Shp:=⟨[],[]⟩
def mw(ad:(List ae))(f_1c0 f_1c1:az):Option Int:=bnd (uj ad f_1c0 f_1c1 (ad.length:Int) 0) fun oe2=>lk oe2 (fun e2=>some (-1)) (fun r=>some r)
def lb(ad:(List ae))(f_1c0 f_1c1:az):Option Bool:=bnd (mw ad f_1c0 f_1c1) fun r1=>some (decide ((0:Int)≤r1))
def qk3(a0 a1:az)(g6:(List ae)):Option Bool:=bnd (lb g6 a0 a1) fun r1=>some (!r1)
def ni{R:Type}(gs g5:(List ByteArray))(f5 f2:Int)(nx:Int→Option R)(dn:Unit→Option R)(rt:Bool→Option R):Option R:=bif decide (f2<f5)then al (ix f2 gs.length)<|al (ix f2 gs.length)<|al (ix f2 g5.length)<|al (ix f2 g5.length)<|bif (!(ByteArray.toList (gs.getD f2.toNat ⟨#[]⟩)==ByteArray.toList (g5.getD f2.toNat ⟨#[]⟩)))then rt false else al (ew .i64 (f2+1))<|nx (f2+1)else dn ()
def zz(gs g5:(List ByteArray))(f5 s0:Int):Option (Unit⊕Bool):=bj (fun a=>ni gs g5 f5 a (fun a' =>some (.next a')) (fun e=>some (.done e)) (fun r=>some (.ret r))) s0
def y7:Shp:=⟨[(0, .d false (.slice .str)),q2w,jtf,jtg],[]⟩
def y6:Shp:=⟨[],[]⟩
def pt(gs g5:(List ByteArray)):Option Bool:=bif (!decide ((gs.length:Int)=(g5.length:Int)))then some false else bnd (zz gs g5 (gs.length:Int) 0) fun oe1=>lk oe1 (fun e1=>some true) (fun r=>some r)
def qgg(gy:ae)(ej g4:qL1):Option Bool:=al (ix 0 1)<|bnd (bc gy.1 ej) fun r1=>bif r1 then al (ix 0 1)<|bnd (bc gy.2.1 g4) fun r2=>some r2 else some false
def ld{R:Type}(ad:(List ae))(f_1c0 f_1c1:qL1)(bf av:Int)(nx:Int→Option R)(dn:Unit→Option R)(rt:Int→Option R):Option R:=bif decide (av<bf)then al (ix av ad.length)<|al (ix av ad.length)<|bnd (qgg (ad.getD av.toNat ae.z) f_1c0 f_1c1) fun r1=>bif r1 then rt av else al (ew .i64 (av+1))<|nx (av+1)else dn ()
def uf(ad:(List ae))(f_1c0 f_1c1:qL1)(bf s0:Int):Option (Unit⊕Int):=bj (fun a=>ld ad f_1c0 f_1c1 bf a (fun a' =>some (.next a')) (fun e=>some (.done e)) (fun r=>some (.ret r))) s0
def tj:Shp:=⟨[q9n,(1, .fn 47 (.cons (.rp false qT1) (.cons (.rp false qT1) .nil))),q3i,q8m],[]⟩
def th:Shp:=⟨[],[]⟩
def mt(ad:(List ae))(f_1c0 f_1c1:qL1):Option Int:=bnd (uf ad f_1c0 f_1c1 (ad.length:Int) 0) fun oe2=>lk oe2 (fun e2=>some (-1)) (fun r=>some r)
def k9(ad:(List ae))(f_1c0 f_1c1:qL1):Option Bool:=bnd (mt ad f_1c0 f_1c1) fun r1=>some (decide ((0:Int)≤r1))
def rh(hj nd:qL1)(g4:(List (ByteArray×Bool))):Option (Bool×(List (ByteArray×Bool))):=bnd (qd hj nd) fun r1=>some (((pe .str r1 g4).getD false),g4)
def qbk(ga:ag)(ej:az)(g4:ByteArray)(m1:ag)(p_3c0:(List (ByteArray×Bool))):Option (Bool×(List (ByteArray×Bool))):=al (ix 0 1)<|al (ix ga.1 ej.2.1.length)<|al (ix ga.1 ej.2.1.length)<|al (ix 0 1)<|bif (ByteArray.toList (ej.2.1.getD ga.1.toNat af.z).1==ByteArray.toList g4)then al (ix 0 1)<|bnd (rh m1.2.1 ga.2.1 p_3c0) fun r1=>some (r1.1,r1.2)else some (false,p_3c0)
def di{R:Type}(ad:(List ag))(f_1c0:az)(f_1c1:ByteArray)(f_1c3:ag)(bf av:Int)(f_1c2c0:(List (ByteArray×Bool)))(nx:(Int×(List (ByteArray×Bool)))→Option R)(dn:(List (ByteArray×Bool))→Option R)(rt:(Int×(List (ByteArray×Bool)))→Option R):Option R:=bif decide (av<bf)then al (ix av ad.length)<|al (ix av ad.length)<|bnd (qbk (ad.getD av.toNat ag.z) f_1c0 f_1c1 f_1c3 f_1c2c0) fun r1=>bif r1.1 then rt (av,r1.2)else al (ew .i64 (av+1))<|nx ((av+1),r1.2)else dn f_1c2c0
def kw(ad:(List ag))(f_1c0:az)(f_1c1:ByteArray)(f_1c3:ag)(bf:Int)(s0:(Int×(List (ByteArray×Bool)))):Option ((List (ByteArray×Bool))⊕(Int×(List (ByteArray×Bool)))):=bj (fun a=>di ad f_1c0 f_1c1 f_1c3 bf a.1 a.2 (fun a' =>some (.next a')) (fun e=>some (.done e)) (fun r=>some (.ret r))) s0
def j3:Shp:=⟨[jts,q50,q3i,q8m],[qs7,qnp,qpz]⟩
def j2:Shp:=⟨[],[qs7,qnp,qpz]⟩
def d9(ad:(List ag))(f_1c0:az)(f_1c1:ByteArray)(f_1c3:ag)(f_1c2c0:(List (ByteArray×Bool))):Option (Int×(List (ByteArray×Bool))):=bnd (kw ad f_1c0 f_1c1 f_1c3 (ad.length:Int) (0,f_1c2c0)) fun oe2=>lk oe2 (fun e2=>some ((-1),e2)) (fun r=>some r)
def bx(ad:(List ag))(f_1c0:az)(f_1c1:ByteArray)(f_1c3:ag)(f_1c2c0:(List (ByteArray×Bool))):Option (Bool×(List (ByteArray×Bool))):=bnd (d9 ad f_1c0 f_1c1 f_1c3 f_1c2c0) fun r1=>some (decide ((0:Int)≤r1.1),r1.2)
def qag{R:Type}(g0:qL1)(fi cb:(List ag))(ke et:Int)(b1:(List af))(ev ex dd:Int)(dt:(List af))(dw d0 b6:Int)(k0:(List (ByteArray×Bool)))(nx:(Int×(List (ByteArray×Bool)))→Option R)(dn:(List (ByteArray×Bool))→Option R)(rt:(Bool×(List (ByteArray×Bool)))→Option R):Option R:=bif decide (b6<ke)then al (ix b6 cb.length)<|al (ix b6 cb.length)<|al (ix (cb.getD b6.toNat ag.z).1 b1.length)<|al (ix (cb.getD b6.toNat ag.z).1 b1.length)<|bif (ByteArray.toList (b1.getD (Int.toNat (cb.getD b6.toNat ag.z).1) af.z).1==ByteArray.toList ⟨#[]⟩)then bnd (rh (cb.getD b6.toNat ag.z).2.1 g0 k0) fun r8=>bif r8.1 then al (ew .i64 (b6+1))<|nx ((b6+1),r8.2)else bnd (bx fi (dd,dt,dw,d0,()) (b1.getD (Int.toNat (cb.getD b6.toNat ag.z).1) af.z).1 (cb.getD b6.toNat ag.z) r8.2) fun r9=>bif (!r9.1)then rt (false,r9.2)else al (ew .i64 (b6+1))<|nx ((b6+1),r9.2)else bnd (bx fi (dd,dt,dw,d0,()) (b1.getD (Int.toNat (cb.getD b6.toNat ag.z).1) af.z).1 (cb.getD b6.toNat ag.z) k0) fun r10=>bif (!r10.1)then rt (false,r10.2)else al (ew .i64 (b6+1))<|nx ((b6+1),r10.2)else dn k0
def qma(g0:qL1)(fi cb:(List ag))(ke et:Int)(b1:(List af))(ev ex dd:Int)(dt:(List af))(dw d0:Int)(s0:(Int×(List (ByteArray×Bool)))):Option ((List (ByteArray×Bool))⊕(Bool×(List (ByteArray×Bool)))):=bj (fun a=>qag g0 fi cb ke et b1 ev ex dd dt dw d0 a.1 a.2 (fun a' =>some (.next a')) (fun e=>some (.done e)) (fun r=>some (.ret r))) s0
def qkh:Shp:=⟨[jtw,jug,juh,jui,jqy,jqz,(59, .d true qT0),(60, .d true qT0)],[qxw,qpz,qan,qan,jqh]⟩
def qkg:Shp:=⟨[],[qxw,qpz]⟩
def qah{R:Type}(ho g0:qL1)(k0:(List (ByteArray×Bool)))(et:Int)(b1:(List af))(ev ex dd:Int)(dt:(List af))(dw d0:Int)(dn:Unit→Option R)(rt:(Bool×(List (ByteArray×Bool)))→Option R):Option R:=bnd (fm (dd,dt,dw,d0,()) g0) fun r5=>bnd (x5 (et,b1,ev,ex,()) ho) fun r6=>bnd (fm (et,b1,ev,ex,()) ho) fun r7=>bif decide ((r7.length:Int)<(r6.2.length:Int))then rt (false,k0)else bnd (qma g0 r5 r7 (r7.length:Int) et b1 ev ex dd dt dw d0 (0,k0)) fun oe11=>lk oe11 (fun e11=>rt (true,e11)) (fun r=>rt r)
def qbn(ho g0:qL1)(k0:(List (ByteArray×Bool)))(et:Int)(b1:(List af))(ev ex dd:Int)(dt:(List af))(dw d0:Int):Option (Unit⊕(Bool×(List (ByteArray×Bool)))):=qah ho g0 k0 et b1 ev ex dd dt dw d0 (fun e=>some (.inl e)) (fun r=>some (.inr r))
def qkj:Shp:=⟨[jth,jtw,jug,juh,jui],[qxw,qpz,qan,qan,jqh]⟩
def qki:Shp:=⟨[],[]⟩
def qdz(a0 a1:az)(ho g0:qL1)(in_4c0:(List (ByteArray×Bool))):Option (Bool×(List (ByteArray×Bool))):=bnd (yz a0) fun r1=>bnd (yz a1) fun r2=>bnd (bc ho r1.2) fun r3=>bif r3 then bnd (bc g0 r2.2) fun r4=>bif (!r4)then some (false,in_4c0)else bnd (qbn ho g0 in_4c0 a0.1 a0.2.1 a0.2.2.1 a0.2.2.2.1 a1.1 a1.2.1 a1.2.2.1 a1.2.2.2.1) fun oe12=>lk oe12 (fun e12=>none) (fun r=>some r)else bnd (qbn ho g0 in_4c0 a0.1 a0.2.1 a0.2.2.1 a0.2.2.2.1 a1.1 a1.2.1 a1.2.2.1 a1.2.2.2.1) fun oe13=>lk oe13 (fun e13=>none) (fun r=>some r)
def u4(gy:ae)(ej g4:az)(p_3c0:(List (ByteArray×Bool))):Option (Bool×(List (ByteArray×Bool))):=al (ix 0 1)<|al (ix 0 1)<|bnd (qdz ej g4 gy.1 gy.2.1 p_3c0) fun r1=>some ((!r1.1),r1.2)
def jd{R:Type}(ad:(List ae))(f_1c0 f_1c1:az)(bf av:Int)(f_1c2c0:(List (ByteArray×Bool)))(nx:(Int×(List (ByteArray×Bool)))→Option R)(dn:(List (ByteArray×Bool))→Option R)(rt:(Int×(List (ByteArray×Bool)))→Option R):Option R:=bif decide (av<bf)then al (ix av ad.length)<|al (ix av ad.length)<|bnd (u4 (ad.getD av.toNat ae.z) f_1c0 f_1c1 f_1c2c0) fun r1=>bif r1.1 then rt (av,r1.2)else al (ew .i64 (av+1))<|nx ((av+1),r1.2)else dn f_1c2c0
def ri(ad:(List ae))(f_1c0 f_1c1:az)(bf:Int)(s0:(Int×(List (ByteArray×Bool)))):Option ((List (ByteArray×Bool))⊕(Int×(List (ByteArray×Bool)))):=bj (fun a=>jd ad f_1c0 f_1c1 bf a.1 a.2 (fun a' =>some (.next a')) (fun e=>some (.done e)) (fun r=>some (.ret r))) s0
def qr:Shp:=⟨[q9n,(1, .fn 83 (.cons (.rp false az.ty) (.cons (.rp false az.ty) (.cons (.ptr 0) .nil)))),q3i,q8m],[qs7,qnp,qpz]⟩
def qq:Shp:=⟨[],[qs7,qnp,qpz]⟩
def lh(ad:(List ae))(f_1c0 f_1c1:az)(f_1c2c0:(List (ByteArray×Bool))):Option (Int×(List (ByteArray×Bool))):=bnd (ri ad f_1c0 f_1c1 (ad.length:Int) (0,f_1c2c0)) fun oe2=>lk oe2 (fun e2=>some ((-1),e2)) (fun r=>some r)
def yw{R:Type}(g6 f5:(List ae))(f2 md:Int)(mk:(List af))(ml ms lv:Int)(l1:(List af))(l2 mb gt:Int)(op:(List (ByteArray×Bool)))(nx:(Int×(List (ByteArray×Bool)))→Option R)(dn:(List (ByteArray×Bool))→Option R)(rt:Int→Option R):Option R:=bif decide (gt<f2)then al (ix gt f5.length)<|al (ix gt f5.length)<|bnd (qd (f5.getD gt.toNat ae.z).1 (f5.getD gt.toNat ae.z).2.1) fun r1=>al (ew .i64 (gt+1))<|nx ((gt+1),(qav .str r1 true op))else dn op
def qks(g6 f5:(List ae))(f2 md:Int)(mk:(List af))(ml ms lv:Int)(l1:(List af))(l2 mb:Int)(s0:(Int×(List (ByteArray×Bool)))):Option ((List (ByteArray×Bool))⊕Int):=bj (fun a=>yw g6 f5 f2 md mk ml ms lv l1 l2 mb a.1 a.2 (fun a' =>some (.next a')) (fun e=>some (.done e)) (fun r=>some (.ret r))) s0
def qig:Shp:=⟨[jtl,jby,(4, .ptr 1),(7, .ptr 2),(12, .d false (.slice ae.ty)),jtg,(14, .d true qT0)],[qan,qan,jdu,qpz]⟩
def qif:Shp:=⟨[jtl,jby,(4, .ptr 1),(7, .ptr 2)],[qan,qan,jdu,qpz]⟩
def qcq(a0 a1:az)(g6:(List ae)):Option Int:=bnd (qks g6 g6 (g6.length:Int) a0.1 a0.2.1 a0.2.2.1 a0.2.2.2.1 a1.1 a1.2.1 a1.2.2.1 a1.2.2.2.1 (0,[])) fun oe2=>lk oe2 (fun e2=>bnd (lh g6 a0 a1 e2) fun r3=>some r3.1) (fun r=>some r)
def qda(a0 a1:az)(fs:qL1)(ki:fu):Option Bool:=bnd (qau a0 a1) fun r1=>bif (!decide (r1=0))then some false else bif decide ((20000:Int)<(ki.2.2.1.length:Int))then some false else bnd (qk3 a0 a1 ki.2.2.1) fun r2=>bif (!r2)then some false else bnd (lz a0 fs) fun r3=>bnd (lz a1 ki.2.1) fun r4=>bif (!r3.2.1)then some false else bif (!r4.2.1)then some false else bnd (pt r3.2.2 r4.2.2) fun r5=>bif (!r5)then some false else bnd (bc r4.1 ki.1) fun r6=>bif (!r6)then some false else bnd (k9 ki.2.2.1 r3.1 r4.1) fun r7=>bif (!r7)then some false else bnd (qcq a0 a1 ki.2.2.1) fun r8=>some (decide (r8<0))
def qhy:Option Bool:=bnd (qlz ⟨#[]⟩ [⟨#[97]⟩,⟨#[98]⟩]) fun r1=>bnd (qlz ⟨#[99]⟩ [⟨#[97]⟩,⟨#[98]⟩]) fun r2=>bnd (qfr r1 r2 [0] 100) fun r3=>bnd (qfr r2 r1 [0] 100) fun r4=>bif decide (r3.2=0)then bif decide (r4.2=10)then bnd (qda r1 r2 [0] r3.1) fun r5=>bif r5 then bnd (qda r2 r1 [0] r3.1) fun r6=>some (!r6)else some false else some false else some false
def xz(m2:af):Option Bool:=bif decide ((50:Int)<(m2.2.1.length:Int))then some true else bif decide ((50:Int)<(m2.2.2.1.length:Int))then some true else some (decide ((200:Int)<(ByteArray.size m2.1:Int)))
def b7{R:Type}(ad:(List af))(bf av:Int)(nx:Int→Option R)(dn:Unit→Option R)(rt:Int→Option R):Option R:=bif decide (av<bf)then al (ix av ad.length)<|al (ix av ad.length)<|bnd (xz (ad.getD av.toNat af.z)) fun r1=>bif r1 then rt av else al (ew .i64 (av+1))<|nx (av+1)else dn ()
def fw(ad:(List af))(bf s0:Int):Option (Unit⊕Int):=bj (fun a=>b7 ad bf a (fun a' =>some (.next a')) (fun e=>some (.done e)) (fun r=>some (.ret r))) s0
def n7:Shp:=⟨[(0, .d false (.slice af.ty)),(1, .fn 35 .nil),q3i,q8m],[]⟩
def n6:Shp:=⟨[],[]⟩
def dk(ad:(List af)):Option Int:=bnd (fw ad (ad.length:Int) 0) fun oe2=>lk oe2 (fun e2=>some (-1)) (fun r=>some r)
def ay(ad:(List af)):Option Bool:=bnd (dk ad) fun r1=>some (decide ((0:Int)≤r1))
def yo(aa:az):Option Bool:=bif decide ((8:Int)<(aa.2.1.length:Int))then bif decide ((aa.2.1.length:Int)≤60)then some true else bif decide ((100:Int)<(aa.2.1.length:Int))then some true else bif decide ((8:Int)<aa.1)then bif decide (aa.1≤40)then some true else bnd (ay aa.2.1) fun r1=>some r1 else bnd (ay aa.2.1) fun r2=>some r2 else bif decide ((100:Int)<(aa.2.1.length:Int))then some true else bif decide ((8:Int)<aa.1)then bif decide (aa.1≤40)then some true else bnd (ay aa.2.1) fun r3=>some r3 else bnd (ay aa.2.1) fun r4=>some r4
def qfo(hu:qL1):Option Bool:=bif decide ((40:Int)<(hu.length:Int))then bif decide ((hu.length:Int)≤1000)then some true else some (decide ((2000:Int)<(hu.length:Int)))else some (decide ((2000:Int)<(hu.length:Int)))
def vg(g3:Int):Option Bool:=bif decide ((97:Int)≤g3)then bif decide (g3≤122)then some true else bif decide ((65:Int)≤g3)then some (decide (g3≤90))else some false else bif decide ((65:Int)≤g3)then some (decide (g3≤90))else some false
def og{R:Type}(ad:ByteArray)(ch:Int)(nx:Int→Option R)(dn:Unit→Option R)(rt:Bool→Option R):Option R:=bif decide (ch<(ByteArray.size ad:Int))then al (ix ch (ByteArray.size ad))<|bnd (vg (((ByteArray.data ad).getD ch.toNat 0).toNat:Int)) fun r2=>bif (!r2)then bif decide ((48:Int)≤(((ByteArray.data ad).getD ch.toNat 0).toNat:Int))then bif (!(decide ((((ByteArray.data ad).getD ch.toNat 0).toNat:Int)≤57)))then bif (!decide ((((ByteArray.data ad).getD ch.toNat 0).toNat:Int)=95))then bif (!decide ((((ByteArray.data ad).getD ch.toNat 0).toNat:Int)=45))then bif (!decide ((((ByteArray.data ad).getD ch.toNat 0).toNat:Int)=46))then rt false else al (ew .i64 (ch+1))<|nx (ch+1)else al (ew .i64 (ch+1))<|nx (ch+1)else al (ew .i64 (ch+1))<|nx (ch+1)else al (ew .i64 (ch+1))<|nx (ch+1)else bif (!decide ((((ByteArray.data ad).getD ch.toNat 0).toNat:Int)=95))then bif (!decide ((((ByteArray.data ad).getD ch.toNat 0).toNat:Int)=45))then bif (!decide ((((ByteArray.data ad).getD ch.toNat 0).toNat:Int)=46))then rt false else al (ew .i64 (ch+1))<|nx (ch+1)else al (ew .i64 (ch+1))<|nx (ch+1)else al (ew .i64 (ch+1))<|nx (ch+1)else al (ew .i64 (ch+1))<|nx (ch+1)else dn ()
def qiy(ad:ByteArray)(s0:Int):Option (Unit⊕Bool):=bj (fun a=>og ad a (fun a' =>some (.next a')) (fun e=>some (.done e)) (fun r=>some (.ret r))) s0
def qt4:Shp:=⟨[jte,jta],[]⟩
def qt3:Shp:=⟨[],[]⟩
def qax(ad:ByteArray):Option Bool:=bif decide ((ByteArray.size ad:Int)<1)then some false else bif decide ((40:Int)<(ByteArray.size ad:Int))then some false else al (ix 0 (ByteArray.size ad))<|bnd (vg (((ByteArray.data ad).getD 0 0).toNat:Int)) fun r1=>bif (!r1)then some false else bnd (qiy ad 1) fun oe3=>lk oe3 (fun e3=>some true) (fun r=>some r)
def l3{R:Type}(aa:Int)(b2:qL1)(bb:Int)(nx:Int→Option R)(dn:Unit→Option R)(rt:Bool→Option R):Option R:=bif decide (bb<(b2.length:Int))then al (ix bb b2.length)<|al (ix bb b2.length)<|bif decide ((b2.getD bb.toNat 0)<0)then rt false else al (ix bb b2.length)<|al (ix bb b2.length)<|bif decide (aa≤(b2.getD bb.toNat 0))then rt false else bif decide ((0:Int)<bb)then al (ew .i64 (bb-1))<|al (ix (bb-1) b2.length)<|al (ix (bb-1) b2.length)<|al (ix bb b2.length)<|al (ix bb b2.length)<|bif decide ((b2.getD bb.toNat 0)≤(b2.getD (bb-1).toNat 0))then rt false else al (ew .i64 (bb+1))<|nx (bb+1)else al (ew .i64 (bb+1))<|nx (bb+1)else dn ()
def qjc(aa:Int)(b2:qL1)(s0:Int):Option (Unit⊕Bool):=bj (fun a=>l3 aa b2 a (fun a' =>some (.next a')) (fun e=>some (.done e)) (fun r=>some (.ret r))) s0
def qub:Shp:=⟨[q2y,ji9,jp6],[]⟩
def qua:Shp:=⟨[],[]⟩
def nz(aa:Int)(b2:qL1):Option Bool:=bnd (qjc aa b2 0) fun oe1=>lk oe1 (fun e1=>some true) (fun r=>some r)
def vk{R:Type}(cc:Int)(be:(List af))(c1 c2 ch:Int)(nx:Int→Option R)(dn:Unit→Option R)(rt:Bool→Option R):Option R:=bif decide (ch<(be.length:Int))then al (ix ch be.length)<|al (ix ch be.length)<|bif (!(ByteArray.toList (be.getD ch.toNat af.z).1==ByteArray.toList ⟨#[]⟩))then bnd (qax (be.getD ch.toNat af.z).1) fun r1=>bif (!r1)then rt false else bnd (nz cc (be.getD ch.toNat af.z).2.1) fun r2=>bif (!r2)then rt false else bnd (nz cc (be.getD ch.toNat af.z).2.2.1) fun r3=>bif (!r3)then rt false else al (ew .i64 (ch+1))<|nx (ch+1)else bnd (nz cc (be.getD ch.toNat af.z).2.1) fun r4=>bif (!r4)then rt false else bnd (nz cc (be.getD ch.toNat af.z).2.2.1) fun r5=>bif (!r5)then rt false else al (ew .i64 (ch+1))<|nx (ch+1)else dn ()
def qll(cc:Int)(be:(List af))(c1 c2 s0:Int):Option (Unit⊕Bool):=bj (fun a=>vk cc be c1 c2 a (fun a' =>some (.next a')) (fun e=>some (.done e)) (fun r=>some (.ret r))) s0
def qw8:Shp:=⟨[jtk,jta],[qan]⟩
def qw7:Shp:=⟨[],[]⟩
def pj(aa:az):Option Bool:=bif decide (aa.1<1)then some false else bif decide ((40:Int)<aa.1)then some false else bif decide ((60:Int)<(aa.2.1.length:Int))then some false else bif decide (aa.2.2.1<0)then some false else bif decide (aa.1≤aa.2.2.1)then some false else bif decide (aa.2.2.2.1<0)then some false else bif decide (aa.1≤aa.2.2.2.1)then some false else bnd (qll aa.1 aa.2.1 aa.2.2.1 aa.2.2.2.1 0) fun oe6=>lk oe6 (fun e6=>some true) (fun r=>some r)
def qay{R:Type}(hu:qL1)(nb bb:Int)(nx:Int→Option R)(dn:Unit→Option R)(rt:Bool→Option R):Option R:=bif decide (bb<(hu.length:Int))then al (ix bb hu.length)<|al (ix bb hu.length)<|bif decide ((hu.getD bb.toNat 0)=nb)then rt true else al (ew .i64 (bb+1))<|nx (bb+1)else dn ()
def qsm(hu:qL1)(nb s0:Int):Option (Unit⊕Bool):=bj (fun a=>qay hu nb a (fun a' =>some (.next a')) (fun e=>some (.done e)) (fun r=>some (.ret r))) s0
def q2b:Shp:=⟨[jp9,jbz,jp6],[]⟩
def q2a:Shp:=⟨[],[]⟩
def ot(hu:qL1)(nb:Int):Option Bool:=bnd (qsm hu nb 0) fun oe1=>lk oe1 (fun e1=>some false) (fun r=>some r)
def pk{R:Type}(g1 gx fr:Int)(bd:(List af))(f0 f1 i1:Int)(es:qL1)(nx:(Int×qL1)→Option R)(dn rt:qL1→Option R):Option R:=al (ix gx bd.length)<|al (ix gx bd.length)<|bif decide (i1<((bd.getD gx.toNat af.z).2.2.1.length:Int))then al (ix gx bd.length)<|al (ix gx bd.length)<|al (ix i1 (bd.getD gx.toNat af.z).2.2.1.length)<|al (ix i1 (bd.getD gx.toNat af.z).2.2.1.length)<|bnd (ot es ((bd.getD gx.toNat af.z).2.2.1.getD i1.toNat 0)) fun r2=>bif (!r2)then al (ix gx bd.length)<|al (ix gx bd.length)<|al (ix i1 (bd.getD gx.toNat af.z).2.2.1.length)<|al (ix i1 (bd.getD gx.toNat af.z).2.2.1.length)<|al (room (es.length+1) 8)<|al (ew .i64 (i1+1))<|nx ((i1+1),(es++[((bd.getD gx.toNat af.z).2.2.1.getD i1.toNat 0)]))else al (ew .i64 (i1+1))<|nx ((i1+1),es)else dn es
def qdd(g1 gx fr:Int)(bd:(List af))(f0 f1:Int)(s0:(Int×qL1)):Option (qL1⊕qL1):=bj (fun a=>pk g1 gx fr bd f0 f1 a.1 a.2 (fun a' =>some (.next a')) (fun e=>some (.done e)) (fun r=>some (.ret r))) s0
def qxb:Shp:=⟨[jtm,jt9,jqf,q3i,q8m],[qan,qpn]⟩
def qxa:Shp:=⟨[jtm,jt9,jqf,q3i],[qan,qpn]⟩
def pn{R:Type}(g1 fr:Int)(bd:(List af))(f0 f1 gx:Int)(es:qL1)(nx:(Int×qL1)→Option R)(dn rt:qL1→Option R):Option R:=bif decide (gx<(bd.length:Int))then al (ix gx bd.length)<|al (ix gx bd.length)<|al (ix g1 es.length)<|al (ix g1 es.length)<|bnd (ot (bd.getD gx.toNat af.z).2.1 (es.getD g1.toNat 0)) fun r1=>bif (!r1)then al (ew .i64 (gx+1))<|nx ((gx+1),es)else bnd (qdd g1 gx fr bd f0 f1 (0,es)) fun oe3=>lk oe3 (fun e3=>al (ew .i64 (gx+1))<|nx ((gx+1),e3)) (fun r=>rt r)else dn es
def qde(g1 fr:Int)(bd:(List af))(f0 f1:Int)(s0:(Int×qL1)):Option (qL1⊕qL1):=bj (fun a=>pn g1 fr bd f0 f1 a.1 a.2 (fun a' =>some (.next a')) (fun e=>some (.done e)) (fun r=>some (.ret r))) s0
def qxd:Shp:=⟨[jtm,jt9,jqf,q3i],[qan,qpn]⟩
def qxc:Shp:=⟨[jtm,jt9,jqf],[qan,qpn]⟩
def vq{R:Type}(fr:Int)(bd:(List af))(f0 f1 g1:Int)(es:qL1)(nx:(Int×qL1)→Option R)(dn rt:qL1→Option R):Option R:=bif decide (g1<(es.length:Int))then bnd (qde g1 fr bd f0 f1 (0,es)) fun oe4=>lk oe4 (fun e4=>al (ew .i64 (g1+1))<|nx ((g1+1),e4)) (fun r=>rt r)else dn es
def qlq(fr:Int)(bd:(List af))(f0 f1:Int)(s0:(Int×qL1)):Option (qL1⊕qL1):=bj (fun a=>vq fr bd f0 f1 a.1 a.2 (fun a' =>some (.next a')) (fun e=>some (.done e)) (fun r=>some (.ret r))) s0
def qxf:Shp:=⟨[jtm,jt9,jqf],[qan,qpn]⟩
def qxe:Shp:=⟨[(5, .own 0)],[qpn]⟩
def y3(aa:az)(ha:Int):Option qL1:=bnd (qlq aa.1 aa.2.1 aa.2.2.1 aa.2.2.2.1 (0,[ha])) fun oe5=>lk oe5 (fun e5=>some e5) (fun r=>some r)
def qk{R:Type}(cc:Int)(be:(List af))(c1 c2 bk:Int)(ft:(List af))(gj h5 mv mx m0 hn:Int)(kv:(List af))(nx:(Int×(List af))→Option R)(dn:(List af)→Option R)(rt:az→Option R):Option R:=bif decide (hn<(be.length:Int))then al (ix hn be.length)<|al (ix hn be.length)<|al (room (0+(be.getD hn.toNat af.z).2.2.1.length) 8)<|al (room (0+(be.getD hn.toNat af.z).2.1.length) 8)<|al (room (kv.length+1) 64)<|al (ew .i64 (hn+1))<|nx ((hn+1),(kv++[((be.getD hn.toNat af.z).1,([]++(be.getD hn.toNat af.z).2.2.1),([]++(be.getD hn.toNat af.z).2.1),())]))else dn kv
def qg4(cc:Int)(be:(List af))(c1 c2 bk:Int)(ft:(List af))(gj h5 mv mx m0:Int)(s0:(Int×(List af))):Option ((List af)⊕az):=bj (fun a=>qk cc be c1 c2 bk ft gj h5 mv mx m0 a.1 a.2 (fun a' =>some (.next a')) (fun e=>some (.done e)) (fun r=>some (.ret r))) s0
def qrk:Shp:=⟨[jtk,(2, .ptr 1),(3, .ptr 2),(4, .d true qT0)],[qan,qj2, .cs 24 4 1 (.cons (.d true qT0) (.cons (.own 3) (.cons (.d true qT0) (.cons (.d true qT0) .nil)))),jn8]⟩
def qrj:Shp:=⟨[jtm,jtz],[qj2,q2x,jn8]⟩
def yc(aa:az):Option az:=bnd (qg4 aa.1 aa.2.1 aa.2.2.1 aa.2.2.2.1 0 [] 0 0 aa.1 aa.2.2.2.1 aa.2.2.1 (0,[])) fun oe1=>lk oe1 (fun e1=>some (aa.1,e1,aa.2.2.2.1,aa.2.2.1,())) (fun r=>some r)
def ye{R:Type}(ga h1:qL1)(bb:Int)(nx:Int→Option R)(dn:Unit→Option R)(rt:Bool→Option R):Option R:=bif decide (bb<(ga.length:Int))then al (ix bb ga.length)<|al (ix bb ga.length)<|bnd (ot h1 (ga.getD bb.toNat 0)) fun r1=>bif r1 then rt true else al (ew .i64 (bb+1))<|nx (bb+1)else dn ()
def qo6(ga h1:qL1)(s0:Int):Option (Unit⊕Bool):=bj (fun a=>ye ga h1 a (fun a' =>some (.next a')) (fun e=>some (.done e)) (fun r=>some (.ret r))) s0
def qy7:Shp:=⟨[jp9,ji9,jp6],[]⟩
def qy6:Shp:=⟨[],[]⟩
def qby(ga h1:qL1):Option Bool:=bnd (qo6 ga h1 0) fun oe2=>lk oe2 (fun e2=>some false) (fun r=>some r)
def l5{R:Type}(hk hs:qL1)(cc:Int)(be:(List af))(c1 c2 bb:Int)(nx:Int→Option R)(dn:Unit→Option R)(rt:Bool→Option R):Option R:=bif decide (bb<cc)then bnd (ot hk bb) fun r5=>bif (!r5)then rt false else bnd (ot hs bb) fun r6=>bif (!r6)then rt false else al (ew .i64 (bb+1))<|nx (bb+1)else dn ()
def qem(hk hs:qL1)(cc:Int)(be:(List af))(c1 c2 s0:Int):Option (Unit⊕Bool):=bj (fun a=>l5 hk hs cc be c1 c2 a (fun a' =>some (.next a')) (fun e=>some (.done e)) (fun r=>some (.ret r))) s0
def qo0:Shp:=⟨[jtk,jue,juf,jp6],[qan]⟩
def qoz:Shp:=⟨[jtk,jue,juf],[qan]⟩
def o3{R:Type}(hk hs:qL1)(cc:Int)(be:(List af))(c1 c2 g1:Int)(nx:Int→Option R)(dn:Unit→Option R)(rt:Bool→Option R):Option R:=bif decide (g1<(be.length:Int))then al (ix g1 be.length)<|al (ix g1 be.length)<|bnd (ot (be.getD g1.toNat af.z).2.2.1 c1) fun r8=>bif r8 then rt false else bnd (ot (be.getD g1.toNat af.z).2.1 c2) fun r9=>bif r9 then rt false else bnd (qby (be.getD g1.toNat af.z).2.1 hk) fun r10=>bif (!r10)then rt false else bnd (qby (be.getD g1.toNat af.z).2.2.1 hs) fun r11=>bif (!r11)then rt false else al (ew .i64 (g1+1))<|nx (g1+1)else dn ()
def qen(hk hs:qL1)(cc:Int)(be:(List af))(c1 c2 s0:Int):Option (Unit⊕Bool):=bj (fun a=>o3 hk hs cc be c1 c2 a (fun a' =>some (.next a')) (fun e=>some (.done e)) (fun r=>some (.ret r))) s0
def qo2:Shp:=⟨[jtk,jue,juf,jqf],[qan]⟩
def qo1:Shp:=⟨[],[]⟩
def m6(aa:az):Option Bool:=bnd (pj aa) fun r1=>bif (!r1)then some false else bif decide (aa.2.2.1=aa.2.2.2.1)then some false else bnd (y3 aa aa.2.2.1) fun r2=>bnd (yc aa) fun r3=>bnd (y3 r3 aa.2.2.2.1) fun r4=>bnd (qem r2 r4 aa.1 aa.2.1 aa.2.2.1 aa.2.2.2.1 0) fun oe7=>lk oe7 (fun e7=>bnd (qen r2 r4 aa.1 aa.2.1 aa.2.2.1 aa.2.2.2.1 0) fun oe12=>lk oe12 (fun e12=>some true) (fun r=>some r)) (fun r=>some r)
def qel(aa:az)(kr:Int):Option qL1:=al (qyg aa.1 aa.1 8)<|al (ix kr (List.replicate aa.1.toNat (0:Int)).length)<|al (ix kr (List.replicate aa.1.toNat (0:Int)).length)<|some ((List.replicate aa.1.toNat (0:Int)).set kr.toNat 1)
def m5{R:Type}(ga h1:qL1)(bb:Int)(nx:Int→Option R)(dn:Unit→Option R)(rt:Bool→Option R):Option R:=bif decide (bb<(ga.length:Int))then al (ix bb ga.length)<|al (ix bb ga.length)<|al (ix bb h1.length)<|al (ix bb h1.length)<|bif (!decide ((ga.getD bb.toNat 0)=(h1.getD bb.toNat 0)))then rt false else al (ew .i64 (bb+1))<|nx (bb+1)else dn ()
def qg0(ga h1:qL1)(s0:Int):Option (Unit⊕Bool):=bj (fun a=>m5 ga h1 a (fun a' =>some (.next a')) (fun e=>some (.done e)) (fun r=>some (.ret r))) s0
def qrf:Shp:=⟨[jp9,ji9,jp6],[]⟩
def qre:Shp:=⟨[],[]⟩
def x9(ga h1:qL1):Option Bool:=bif (!decide ((ga.length:Int)=(h1.length:Int)))then some false else bnd (qg0 ga h1 0) fun oe1=>lk oe1 (fun e1=>some true) (fun r=>some r)
def qj{R:Type}(bs:qL1)(bb:Int)(nx:Int→Option R)(dn:Unit→Option R)(rt:Bool→Option R):Option R:=bif decide (bb<(bs.length:Int))then al (ix bb bs.length)<|al (ix bb bs.length)<|bif decide ((bs.getD bb.toNat 0)<0)then rt false else al (ix bb bs.length)<|al (ix bb bs.length)<|bif decide ((100:Int)<(bs.getD bb.toNat 0))then rt false else al (ew .i64 (bb+1))<|nx (bb+1)else dn ()
def qg2(bs:qL1)(s0:Int):Option (Unit⊕Bool):=bj (fun a=>qj bs a (fun a' =>some (.next a')) (fun e=>some (.done e)) (fun r=>some (.ret r))) s0
def qri:Shp:=⟨[ji9,jp6],[]⟩
def qrh:Shp:=⟨[],[]⟩
def ou(aa:az)(bs:qL1):Option Bool:=bif (!decide ((bs.length:Int)=aa.1))then some false else bnd (qg2 bs 0) fun oe1=>lk oe1 (fun e1=>some true) (fun r=>some r)
def vi{R:Type}(bs:qL1)(a9 a4:Int)(ap:(List af))(a5 a6 f3:Int)(nx:Int→Option R)(dn:Unit→Option R)(rt:Bool→Option R):Option R:=al (ix a9 ap.length)<|al (ix a9 ap.length)<|bif decide (f3<((ap.getD a9.toNat af.z).2.1.length:Int))then al (ix a9 ap.length)<|al (ix a9 ap.length)<|al (ix f3 (ap.getD a9.toNat af.z).2.1.length)<|al (ix f3 (ap.getD a9.toNat af.z).2.1.length)<|al (ix ((ap.getD a9.toNat af.z).2.1.getD f3.toNat 0) bs.length)<|al (ix ((ap.getD a9.toNat af.z).2.1.getD f3.toNat 0) bs.length)<|bif decide ((bs.getD ((ap.getD a9.toNat af.z).2.1.getD f3.toNat 0).toNat 0)<1)then rt false else al (ew .i64 (f3+1))<|nx (f3+1)else dn ()
def qsk(bs:qL1)(a9 a4:Int)(ap:(List af))(a5 a6 s0:Int):Option (Unit⊕Bool):=bj (fun a=>vi bs a9 a4 ap a5 a6 a (fun a' =>some (.next a')) (fun e=>some (.done e)) (fun r=>some (.ret r))) s0
def q16:Shp:=⟨[ji9,qxt,jby,q3i],[qan]⟩
def q15:Shp:=⟨[],[]⟩
def qjy(aa:az)(bs:qL1)(a9:Int):Option Bool:=bnd (qsk bs a9 aa.1 aa.2.1 aa.2.2.1 aa.2.2.2.1 0) fun oe1=>lk oe1 (fun e1=>some true) (fun r=>some r)
def ya{R:Type}(a9 a4:Int)(ap:(List af))(a5 a6 b4:Int)(a2:qL1)(nx:(Int×qL1)→Option R)(dn:qL1→Option R)(rt:(Int×qL1)→Option R):Option R:=al (ix a9 ap.length)<|al (ix a9 ap.length)<|bif decide (b4<((ap.getD a9.toNat af.z).2.1.length:Int))then al (ix a9 ap.length)<|al (ix a9 ap.length)<|al (ix b4 (ap.getD a9.toNat af.z).2.1.length)<|al (ix b4 (ap.getD a9.toNat af.z).2.1.length)<|al (ix a9 ap.length)<|al (ix a9 ap.length)<|al (ix b4 (ap.getD a9.toNat af.z).2.1.length)<|al (ix b4 (ap.getD a9.toNat af.z).2.1.length)<|al (ix ((ap.getD a9.toNat af.z).2.1.getD b4.toNat 0) a2.length)<|al (ix ((ap.getD a9.toNat af.z).2.1.getD b4.toNat 0) a2.length)<|al (ew .i64 ((a2.getD ((ap.getD a9.toNat af.z).2.1.getD b4.toNat 0).toNat 0)-1))<|al (ix ((ap.getD a9.toNat af.z).2.1.getD b4.toNat 0) a2.length)<|al (ix ((ap.getD a9.toNat af.z).2.1.getD b4.toNat 0) a2.length)<|al (ew .i64 (b4+1))<|nx ((b4+1),(a2.set ((ap.getD a9.toNat af.z).2.1.getD b4.toNat 0).toNat ((a2.getD ((ap.getD a9.toNat af.z).2.1.getD b4.toNat 0).toNat 0)-1)))else dn a2
def qor(a9 a4:Int)(ap:(List af))(a5 a6:Int)(s0:(Int×qL1)):Option (qL1⊕(Int×qL1)):=bj (fun a=>ya a9 a4 ap a5 a6 a.1 a.2 (fun a' =>some (.next a')) (fun e=>some (.done e)) (fun r=>some (.ret r))) s0
def qyw:Shp:=⟨[qxt,jby,jtc,jqa],[qan,qpn]⟩
def qyv:Shp:=⟨[qxt,jby,jtc],[qan,qpn]⟩
def yb{R:Type}(a9 a4:Int)(ap:(List af))(a5 a6 f4:Int)(a2:qL1)(nx:(Int×qL1)→Option R)(dn:qL1→Option R)(rt:(Int×qL1)→Option R):Option R:=al (ix a9 ap.length)<|al (ix a9 ap.length)<|bif decide (f4<((ap.getD a9.toNat af.z).2.2.1.length:Int))then al (ix a9 ap.length)<|al (ix a9 ap.length)<|al (ix f4 (ap.getD a9.toNat af.z).2.2.1.length)<|al (ix f4 (ap.getD a9.toNat af.z).2.2.1.length)<|al (ix a9 ap.length)<|al (ix a9 ap.length)<|al (ix f4 (ap.getD a9.toNat af.z).2.2.1.length)<|al (ix f4 (ap.getD a9.toNat af.z).2.2.1.length)<|al (ix ((ap.getD a9.toNat af.z).2.2.1.getD f4.toNat 0) a2.length)<|al (ix ((ap.getD a9.toNat af.z).2.2.1.getD f4.toNat 0) a2.length)<|al (ew .i64 ((a2.getD ((ap.getD a9.toNat af.z).2.2.1.getD f4.toNat 0).toNat 0)+1))<|al (ix ((ap.getD a9.toNat af.z).2.2.1.getD f4.toNat 0) a2.length)<|al (ix ((ap.getD a9.toNat af.z).2.2.1.getD f4.toNat 0) a2.length)<|al (ew .i64 (f4+1))<|nx ((f4+1),(a2.set ((ap.getD a9.toNat af.z).2.2.1.getD f4.toNat 0).toNat ((a2.getD ((ap.getD a9.toNat af.z).2.2.1.getD f4.toNat 0).toNat 0)+1)))else dn a2
def qos(a9 a4:Int)(ap:(List af))(a5 a6:Int)(s0:(Int×qL1)):Option (qL1⊕(Int×qL1)):=bj (fun a=>yb a9 a4 ap a5 a6 a.1 a.2 (fun a' =>some (.next a')) (fun e=>some (.done e)) (fun r=>some (.ret r))) s0
def qyy:Shp:=⟨[qxt,jby,jtc,jql],[qan,qpn]⟩
def qyx:Shp:=⟨[jby,jtc],[qan,qpn]⟩
def ny(aa:az)(bs:qL1)(a9:Int):Option (Int×qL1):=bnd (pj aa) fun r1=>bif (!r1)then some (1,[])else bnd (ou aa bs) fun r2=>bif (!r2)then some (1,[])else bif decide (a9<0)then some (2,[])else bif decide ((aa.2.1.length:Int)≤a9)then some (2,[])else bnd (qjy aa bs a9) fun r3=>bif (!r3)then some (12,[])else al (room (0+bs.length) 8)<|bnd (qor a9 aa.1 aa.2.1 aa.2.2.1 aa.2.2.2.1 (0,([]++bs))) fun oe4=>lk oe4 (fun e4=>bnd (qos a9 aa.1 aa.2.1 aa.2.2.1 aa.2.2.2.1 (0,e4)) fun oe5=>lk oe5 (fun e5=>bnd (ou aa e5) fun r6=>bif (!r6)then some (5,[])else some (0,e5)) (fun r=>some r)) (fun r=>some r)
def rc(gy:ab)(ej:(List ByteArray)):Option Bool:=al (ix 0 1)<|some (decide (gy.1=(ej.length:Int)))
def bg{R:Type}(ad:(List ab))(f_1c0:(List ByteArray))(bf av:Int)(nx:Int→Option R)(dn:Unit→Option R)(rt:Int→Option R):Option R:=bif decide (av<bf)then al (ix av ad.length)<|al (ix av ad.length)<|bnd (rc (ad.getD av.toNat ab.z) f_1c0) fun r1=>bif r1 then rt av else al (ew .i64 (av+1))<|nx (av+1)else dn ()
def cq(ad:(List ab))(f_1c0:(List ByteArray))(bf s0:Int):Option (Unit⊕Int):=bj (fun a=>bg ad f_1c0 bf a (fun a' =>some (.next a')) (fun e=>some (.done e)) (fun r=>some (.ret r))) s0
def il:Shp:=⟨[jtp,(1, .fn 61 (.cons (.rp false (.slice .str)) .nil)),q3i,q8m],[]⟩
def ij:Shp:=⟨[],[]⟩
def bh(ad:(List ab))(f_1c0:(List ByteArray)):Option Int:=bnd (cq ad f_1c0 (ad.length:Int) 0) fun oe2=>lk oe2 (fun e2=>some (-1)) (fun r=>some r)
def i7(a0 a1:az)(fs:qL1)(b0:Int):Option (Bool×qL1×Int):=bnd (mm a0 a1 fs b0) fun r1=>bif (!decide (r1.2.1=0))then some (false,[],r1.2.1)else bnd (i9 a1 r1.2.2 b0) fun r2=>bnd (bh r2.2 r1.2.2) fun r3=>bif decide ((0:Int)≤r3)then al (ix r3 r2.2.length)<|al (ix r3 r2.2.length)<|some (true,(r2.2.getD r3.toNat ab.z).2.2.1,0)else bif (!r2.1)then some (false,[],13)else some (false,[],0)
def vj{R:Type}(hg:qL1)(a4:Int)(ap:(List af))(a5 a6:Int)(bo:qL1)(f4:Int)(nx:(qL1×Int)→Option R)(dn:qL1→Option R)(rt:(qL1×Int×Int)→Option R):Option R:=bif decide (f4<(hg.length:Int))then al (ix f4 hg.length)<|al (ix f4 hg.length)<|bnd (ny (a4,ap,a5,a6,()) bo (hg.getD f4.toNat 0)) fun r3=>bif (!decide (r3.1=0))then rt ([],f4,r3.1)else al (ew .i64 (f4+1))<|nx (r3.2,(f4+1))else dn bo
def qsp(hg:qL1)(a4:Int)(ap:(List af))(a5 a6:Int)(s0:(qL1×Int)):Option (qL1⊕(qL1×Int×Int)):=bj (fun a=>vj hg a4 ap a5 a6 a.1 a.2 (fun a' =>some (.next a')) (fun e=>some (.done e)) (fun r=>some (.ret r))) s0
def q2d:Shp:=⟨[jth,jby,jty,jql],[qan]⟩
def q2c:Shp:=⟨[jth,jty],[]⟩
def qjz(aa:az)(bs hg:qL1):Option (qL1×Int×Int):=bnd (pj aa) fun r1=>bif (!r1)then some ([],0,1)else bnd (ou aa bs) fun r2=>bif (!r2)then some ([],0,1)else bif decide ((1000:Int)<(hg.length:Int))then some ([],0,5)else al (room (0+bs.length) 8)<|bnd (qsp hg aa.1 aa.2.1 aa.2.2.1 aa.2.2.2.1 (([]++bs),0)) fun oe4=>lk oe4 (fun e4=>some (e4,(hg.length:Int),0)) (fun r=>some r)
def yd{R:Type}(b2:qL1)(fr:Int)(bd:(List af))(f0 f1 f3:Int)(g2:(List ByteArray))(nx:(Int×(List ByteArray))→Option R)(dn:(List ByteArray)→Option R)(rt:(Int×(List ByteArray))→Option R):Option R:=bif decide (f3<(b2.length:Int))then al (ix f3 b2.length)<|al (ix f3 b2.length)<|bif decide ((b2.getD f3.toNat 0)<0)then rt (2,[])else al (ix f3 b2.length)<|al (ix f3 b2.length)<|bif decide ((bd.length:Int)≤(b2.getD f3.toNat 0))then rt (2,[])else al (ix f3 b2.length)<|al (ix f3 b2.length)<|al (ix (b2.getD f3.toNat 0) bd.length)<|al (ix (b2.getD f3.toNat 0) bd.length)<|bif (!(ByteArray.toList (bd.getD (b2.getD f3.toNat 0).toNat af.z).1==ByteArray.toList ⟨#[]⟩))then al (ix f3 b2.length)<|al (ix f3 b2.length)<|al (ix (b2.getD f3.toNat 0) bd.length)<|al (ix (b2.getD f3.toNat 0) bd.length)<|al (room (g2.length+1) 16)<|al (ew .i64 (f3+1))<|nx ((f3+1),(g2++[(bd.getD (b2.getD f3.toNat 0).toNat af.z).1]))else al (ew .i64 (f3+1))<|nx ((f3+1),g2)else dn g2
def qox(b2:qL1)(fr:Int)(bd:(List af))(f0 f1:Int)(s0:(Int×(List ByteArray))):Option ((List ByteArray)⊕(Int×(List ByteArray))):=bj (fun a=>yd b2 fr bd f0 f1 a.1 a.2 (fun a' =>some (.next a')) (fun e=>some (.done e)) (fun r=>some (.ret r))) s0
def qy1:Shp:=⟨[ji9,jtm,(6, .nl false (.own 1)),q3i],[qan,q9m]⟩
def qy0:Shp:=⟨[jtn],[q9m]⟩
def qfz(aa:az)(b2:qL1):Option (Int×(List ByteArray)):=bnd (pj aa) fun r1=>bif (!r1)then some (1,[])else bif decide ((1000:Int)<(b2.length:Int))then some (5,[])else bnd (qox b2 aa.1 aa.2.1 aa.2.2.1 aa.2.2.2.1 (0,[])) fun oe2=>lk oe2 (fun e2=>some (0,e2)) (fun r=>some r)
def sd(aa:az)(kk:qL1):Option (qL1×Bool×(List ByteArray)):=bnd (qel aa aa.2.2.1) fun r1=>bnd (qjz aa r1 kk) fun r2=>bif (!decide (r2.2.2=0))then some ([],false,[])else bnd (qfz aa kk) fun r3=>some (r2.1,true,r3.2)
def ur(a0 a1:az)(fs:qL1)(b0:Int):Option Int:=bnd (m6 a0) fun r1=>bif (!r1)then some 1 else bnd (m6 a1) fun r2=>bif (!r2)then some 1 else bnd (sd a0 fs) fun r3=>bif (!r3.2.1)then some 12 else bif decide (b0<1)then some 2 else bif decide ((2000:Int)<b0)then some 2 else some 0
def k8{R:Type}(cy:(List ByteArray))(a3 b4 e0 i2:Int)(nf:qL1)(a4:Int)(ap:(List af))(a5 a6:Int)(a2:(List ab))(jn:Bool)(ht:Int)(nx:(Bool×Int)→Option R)(dn:Bool→Option R)(rt:(Bool×(List ab))→Option R):Option R:=bif decide (ht<(a2.length:Int))then bif (!jn)then al (ix ht a2.length)<|al (ix ht a2.length)<|bif decide ((a2.getD ht.toNat ab.z).1=i2)then al (ix ht a2.length)<|al (ix ht a2.length)<|bnd (x9 (a2.getD ht.toNat ab.z).2.1 nf) fun r3=>al (ew .i64 (ht+1))<|nx (r3,(ht+1))else al (ew .i64 (ht+1))<|nx (false,(ht+1))else dn jn else dn jn
def vx(cy:(List ByteArray))(a3 b4 e0 i2:Int)(nf:qL1)(a4:Int)(ap:(List af))(a5 a6:Int)(a2:(List ab))(s0:(Bool×Int)):Option (Bool⊕(Bool×(List ab))):=bj (fun a=>k8 cy a3 b4 e0 i2 nf a4 ap a5 a6 a2 a.1 a.2 (fun a' =>some (.next a')) (fun e=>some (.done e)) (fun r=>some (.ret r))) s0
def qmv:Shp:=⟨[q2w,qxt,jby,jtc,jqa,jql,jtr,jt2,(14, .d true .bool),jt3],[qan,quh]⟩
def qmu:Shp:=⟨[q2w,qxt,jby,jtc,jqa,jql,jtr,jt2,(14, .d true .bool)],[qan,quh]⟩
def td{R:Type}(cy:(List ByteArray))(a3 b4 e0 i2 a4:Int)(ap:(List af))(a5 a6:Int)(a2:(List ab))(dn:(List ab)→Option R)(rt:(Bool×(List ab))→Option R):Option R:=al (ix b4 a2.length)<|al (ix b4 a2.length)<|bnd (ny (a4,ap,a5,a6,()) (a2.getD b4.toNat ab.z).2.1 e0) fun r2=>bnd (vx cy a3 b4 e0 i2 r2.2 a4 ap a5 a6 a2 ((!decide (r2.1=0)),0)) fun oe4=>lk oe4 (fun e4=>bif (!e4)then al (ix b4 a2.length)<|al (ix b4 a2.length)<|al (room (0+(a2.getD b4.toNat ab.z).2.2.1.length) 8)<|al (room (([]++(a2.getD b4.toNat ab.z).2.2.1).length+1) 8)<|al (room (a2.length+1) 56)<|dn (a2++[(i2,r2.2,(([]++(a2.getD b4.toNat ab.z).2.2.1)++[e0]),())])else dn a2) (fun r=>rt r)
def o5(cy:(List ByteArray))(a3 b4 e0 i2 a4:Int)(ap:(List af))(a5 a6:Int)(a2:(List ab)):Option ((List ab)⊕(Bool×(List ab))):=td cy a3 b4 e0 i2 a4 ap a5 a6 a2 (fun e=>some (.inl e)) (fun r=>some (.inr r))
def qm1:Shp:=⟨[q2w,qxt,jby,jtc,jqa,jql,jtr],[qan,quh]⟩
def qm0:Shp:=⟨[q2w,qxt,jby,jtc,jqa,jql],[qan,quh]⟩
def ez{R:Type}(cy:(List ByteArray))(a3 b4 a4:Int)(ap:(List af))(a5 a6 e0:Int)(a2:(List ab))(nx:(Int×(List ab))→Option R)(dn:(List ab)→Option R)(rt:(Bool×(List ab))→Option R):Option R:=bif decide (e0<(ap.length:Int))then bif decide ((a2.length:Int)≤a3)then al (ix b4 a2.length)<|al (ix b4 a2.length)<|al (ix e0 ap.length)<|al (ix e0 ap.length)<|bif (!(ByteArray.toList (ap.getD e0.toNat af.z).1==ByteArray.toList ⟨#[]⟩))then bif decide ((cy.length:Int)≤(a2.getD b4.toNat ab.z).1)then al (ew .i64 (e0+1))<|nx ((e0+1),a2)else al (ix (a2.getD b4.toNat ab.z).1 cy.length)<|al (ix (a2.getD b4.toNat ab.z).1 cy.length)<|al (ix e0 ap.length)<|al (ix e0 ap.length)<|bif (!(ByteArray.toList (cy.getD (Int.toNat (a2.getD b4.toNat ab.z).1) ⟨#[]⟩)==ByteArray.toList (ap.getD e0.toNat af.z).1))then al (ew .i64 (e0+1))<|nx ((e0+1),a2)else al (ew .i64 ((a2.getD b4.toNat ab.z).1+1))<|bnd (o5 cy a3 b4 e0 ((a2.getD b4.toNat ab.z).1+1) a4 ap a5 a6 a2) fun oe5=>lk oe5 (fun e5=>al (ew .i64 (e0+1))<|nx ((e0+1),e5)) (fun r=>rt r)else bnd (o5 cy a3 b4 e0 (a2.getD b4.toNat ab.z).1 a4 ap a5 a6 a2) fun oe6=>lk oe6 (fun e6=>al (ew .i64 (e0+1))<|nx ((e0+1),e6)) (fun r=>rt r)else dn a2 else dn a2
def o4(cy:(List ByteArray))(a3 b4 a4:Int)(ap:(List af))(a5 a6:Int)(s0:(Int×(List ab))):Option ((List ab)⊕(Bool×(List ab))):=bj (fun a=>ez cy a3 b4 a4 ap a5 a6 a.1 a.2 (fun a' =>some (.next a')) (fun e=>some (.done e)) (fun r=>some (.ret r))) s0
def qmx:Shp:=⟨[q2w,qxt,jby,jtc,jqa,jql],[qan,quh]⟩
def qmw:Shp:=⟨[q2w,qxt,jby,jtc,jqa],[qan,quh]⟩
def gl{R:Type}(cy:(List ByteArray))(a3 a4:Int)(ap:(List af))(a5 a6 b4:Int)(a2:(List ab))(nx:(Int×(List ab))→Option R)(dn:(List ab)→Option R)(rt:(Bool×(List ab))→Option R):Option R:=bif decide (b4<(a2.length:Int))then bif decide (b4<a3)then bnd (o4 cy a3 b4 a4 ap a5 a6 (0,a2)) fun oe7=>lk oe7 (fun e7=>al (ew .i64 (b4+1))<|nx ((b4+1),e7)) (fun r=>rt r)else dn a2 else dn a2
def qcz(cy:(List ByteArray))(a3 a4:Int)(ap:(List af))(a5 a6:Int)(s0:(Int×(List ab))):Option ((List ab)⊕(Bool×(List ab))):=bj (fun a=>gl cy a3 a4 ap a5 a6 a.1 a.2 (fun a' =>some (.next a')) (fun e=>some (.done e)) (fun r=>some (.ret r))) s0
def qmz:Shp:=⟨[q2w,qxt,jby,jtc,jqa],[qan,quh]⟩
def qmy:Shp:=⟨[qxt,(8, .own 0)],[quh]⟩
def s5(aa:az)(cy:(List ByteArray))(a3:Int):Option (Bool×(List ab)):=bnd (qel aa aa.2.2.1) fun r1=>bnd (qcz cy a3 aa.1 aa.2.1 aa.2.2.1 aa.2.2.2.1 (0,[(0,r1,[],())])) fun oe8=>lk oe8 (fun e8=>some (decide (a3<(e8.length:Int)),e8)) (fun r=>some r)
def n4{R:Type}(cy:(List ByteArray))(a3:Int)(he:(List ab))(k4:Bool)(h3:Int)(nx:Int→Option R)(dn:Unit→Option R)(rt:(Bool×qL1×Int)→Option R):Option R:=bif decide (h3<(he.length:Int))then bif decide (h3<a3)then al (ix h3 he.length)<|al (ix h3 he.length)<|bif decide ((he.getD h3.toNat ab.z).1=(cy.length:Int))then al (ix h3 he.length)<|al (ix h3 he.length)<|rt (true,(he.getD h3.toNat ab.z).2.2.1,0)else al (ew .i64 (h3+1))<|nx (h3+1)else dn ()else dn ()
def qcx(cy:(List ByteArray))(a3:Int)(he:(List ab))(k4:Bool)(s0:Int):Option (Unit⊕(Bool×qL1×Int)):=bj (fun a=>n4 cy a3 he k4 a (fun a' =>some (.next a')) (fun e=>some (.done e)) (fun r=>some (.ret r))) s0
def qms:Shp:=⟨[q2w,qxt,(9, .d true (.slice ab.ty)),jqd,jtr],[]⟩
def qmr:Shp:=⟨[jqd],[]⟩
def s4(p1:az)(cy:(List ByteArray))(a3:Int):Option (Bool×qL1×Int):=bnd (s5 p1 cy a3) fun r1=>bnd (qcx cy a3 r1.2 r1.1 0) fun oe2=>lk oe2 (fun e2=>bif r1.1 then some (false,[],13)else some (false,[],0)) (fun r=>some r)
def ly{R:Type}(fs:qL1)(b0 ec:Int)(ef:(List af))(eg ei c3:Int)(c4:(List af))(c5 dc:Int)(dn:Unit→Option R)(rt:Bool→Option R):Option R:=bnd (i7 (ec,ef,eg,ei,()) (c3,c4,c5,dc,()) fs b0) fun r5=>bnd (ur (ec,ef,eg,ei,()) (c3,c4,c5,dc,()) fs b0) fun r6=>bif (!decide (r6=0))then bif (!r5.1)then bif decide ((r5.2.1.length:Int)=0)then rt (decide (r5.2.2=r6))else rt false else rt false else bnd (sd (ec,ef,eg,ei,()) fs) fun r7=>bnd (s4 (c3,c4,c5,dc,()) r7.2.2 b0) fun r8=>bif (r5.1==r8.1)then bnd (bc r5.2.1 r8.2.1) fun r9=>bif r9 then rt (decide (r5.2.2=r8.2.2))else rt false else rt false
def gn(fs:qL1)(b0 ec:Int)(ef:(List af))(eg ei c3:Int)(c4:(List af))(c5 dc:Int):Option (Unit⊕Bool):=ly fs b0 ec ef eg ei c3 c4 c5 dc (fun e=>some (.inl e)) (fun r=>some (.inr r))
def qb7:Shp:=⟨[(2, .d true qT1),jta,jt7,jua],[qj2,qj2]⟩
def qb6:Shp:=⟨[],[]⟩
def nu(a0 a1:az)(fs:qL1)(b0:Int):Option Bool:=bnd (qhy) fun r1=>bif (!r1)then some false else bnd (yo a0) fun r2=>bif r2 then some true else bnd (yo a1) fun r3=>bif r3 then some true else bnd (qfo fs) fun r4=>bif r4 then some true else bif decide ((60:Int)<b0)then bif decide (b0≤2000)then some true else bnd (gn fs b0 a0.1 a0.2.1 a0.2.2.1 a0.2.2.2.1 a1.1 a1.2.1 a1.2.2.1 a1.2.2.2.1) fun oe10=>lk oe10 (fun e10=>none) (fun r=>some r)else bnd (gn fs b0 a0.1 a0.2.1 a0.2.2.1 a0.2.2.2.1 a1.1 a1.2.1 a1.2.2.1 a1.2.2.2.1) fun oe11=>lk oe11 (fun e11=>none) (fun r=>some r)
end Go.Proofs.Ytdhfhpdadbopkaa
