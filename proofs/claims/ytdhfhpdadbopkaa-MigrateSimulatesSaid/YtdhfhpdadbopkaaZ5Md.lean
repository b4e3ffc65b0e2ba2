/-
  What the functions compute, as plain functions of Lean. Made by program (mg3.py) out of the translation.
-/
import Derived.Test.YtdhfhpdadbopkaaZ5KE
set_option linter.all false
set_option maxRecDepth 100000
namespace Go.Proofs.Ytdhfhpdadbopkaa
open Go.K Go.M
abbrev qL1:Type:=List Int
abbrev qL2:Type:=List (List Int)
abbrev qT0:Ty:=.int .i64
abbrev qT1:Ty:=.slice qT0
abbrev qT2:Ty:=.slice qT1
abbrev ae:Type:=ByteArray×qL1×qL1×Unit
abbrev ae.z:ae:=(⟨#[]⟩,[],[],())
def ae.ty:Ty:= .struct (.cons .str (.cons qT1 (.cons qT1 .nil)))
abbrev a8:Type:=Int×(List ae)×Int×Int×Unit
abbrev a8.z:a8:=(0,[],0,0,())
def a8.ty:Ty:= .struct (.cons qT0 (.cons (.slice ae.ty) (.cons qT0 (.cons qT0 .nil))))
abbrev af:Type:=Int×qL1×qL1×Unit
abbrev af.z:af:=(0,[],[],())
def af.ty:Ty:= .struct (.cons qT0 (.cons qT1 (.cons qT1 .nil)))
abbrev ag:Type:=Int×qL1×Unit
abbrev ag.z:ag:=(0,[],())
def ag.ty:Ty:= .struct (.cons qT0 (.cons qT1 .nil))
abbrev ab:Type:=qL1×qL1×Unit
abbrev ab.z:ab:=([],[],())
def ab.ty:Ty:= .struct (.cons qT1 (.cons qT1 .nil))
abbrev f9:Type:=qL1×qL1×(List ab)×Unit
abbrev f9.z:f9:=([],[],[],())
def f9.ty:Ty:= .struct (.cons qT1 (.cons qT1 (.cons (.slice ab.ty) .nil)))
abbrev qcg:Hs:=.cs 24 4 1 (.cons (.d true qT0) (.cons (.d false (.slice ae.ty)) (.cons (.d true qT0) (.cons (.d true qT0) .nil))))
abbrev qiu:Nat×Sh:=(0, .d true .bool)
abbrev qi6:Hs:=.arr 25 (.fz true) [3] qT1
abbrev ql6:Hs:=.cs 28 3 1 (.cons (.d true qT1) (.cons (.d true qT1) (.cons (.d true (.slice ab.ty)) .nil)))
abbrev qmi:Hs:=.cs 116 1 1 (.cons (.mp 2) .nil)
abbrev qmk:Hs:=.arr 3 (.fz true) [0] qT0
abbrev qoo:Hs:=.mp .str .bool
abbrev qoy:Hs:=.arr 48 (.fz true) [3,3] ab.ty
abbrev qrv:Hs:=.cs 45 1 1 (.cons (.fn 82 (.cons (.ptr 1) .nil)) .nil)
abbrev qr3:Hs:=.cs 45 1 1 (.cons (.fn 96 (.cons (.ptr 1) .nil)) .nil)
abbrev qr4:Hs:=.cs 24 4 1 (.cons (.d true qT0) (.cons (.d true (.slice ae.ty)) (.cons (.d true qT0) (.cons (.d true qT0) .nil))))
abbrev qta:Hs:=.arr 92 (.fz true) [0,3,3] af.ty
abbrev qtl:Hs:=.arr 4 (.fz true) [0] .bool
abbrev qt9:Hs:=.cs 116 1 1 (.cons (.mp 1) .nil)
abbrev qwy:Nat×Sh:=(7, .d true qT0)
abbrev qw1:Hs:=.cs 24 4 1 (.cons (.d true qT0) (.cons (.own 2) (.cons (.d true qT0) (.cons (.d true qT0) .nil))))
abbrev qw2:Nat×Sh:=(0, .d false (.slice ab.ty))
abbrev qw4:Nat×Sh:=(0, .d true qT0)
abbrev q1x:Nat×Sh:=(10, .fn 95 (.cons (.ptr 3) (.cons (.ptr 2) .nil)))
abbrev q1y:Nat×Sh:=(2, .d false (.slice ab.ty))
abbrev q2s:Nat×Sh:=(1, .fn 107 (.cons (.rp false a8.ty) (.cons (.rp false .str) (.cons (.ptr 0) (.cons (.rp false ag.ty) .nil)))))
abbrev q4y:Nat×Sh:=(8, .d true qT0)
abbrev q7l:Nat×Sh:=(2, .d true qT0)
abbrev q8h:Nat×Sh:=(1, .d true qT0)
abbrev q8i:Hs:=.cs 43 3 1 (.cons (.d true .str) (.cons (.d false qT1) (.cons (.d false qT1) .nil)))
abbrev jaa:Hs:=.cs 45 1 1 (.cons (.fn 96 (.cons (.ptr 2) .nil)) .nil)
abbrev jax:Hs:=.cs 133 1 1 (.cons (.own 3) .nil)
abbrev jay:Hs:=.cs 28 3 1 (.cons (.d true qT1) (.cons (.d true qT1) (.cons (.own 2) .nil)))
abbrev jaz:Hs:=.cs 116 1 1 (.cons (.mp 3) .nil)
abbrev ja1:Hs:=.cs 116 1 1 (.cons (.mp 5) .nil)
abbrev ja3:Hs:=.cs 38 1 1 (.cons (.own 4) .nil)
abbrev jcu:Nat×Sh:=(3, .ptr 0)
abbrev jcv:Nat×Sh:=(1, .d false qT1)
abbrev jcy:Hs:=.arr 43 (.fz true) [0,3,3] ae.ty
abbrev jfa:Nat×Sh:=(5, .d true qT0)
abbrev jfv:Hs:=.arr 83 (.fz true) [3,3] ab.ty
abbrev jie:Nat×Sh:=(0, .own 0)
abbrev jif:Nat×Sh:=(0, .d false qT1)
abbrev jig:Hs:=.cs 116 1 1 (.cons (.mp 6) .nil)
abbrev jm9:Hs:=.cs 83 2 1 (.cons (.d false qT1) (.cons (.d false qT1) .nil))
abbrev jo7:Hs:=.arr 9 (.fz true) [0] .str
abbrev jpa:Hs:=.arr 129 (.fz true) [0,3] ag.ty
abbrev jpb:Nat×Sh:=(6, .d true qT0)
abbrev jpc:Hs:=.cs 25 1 1 (.cons (.d true qT1) .nil)
abbrev jpd:Hs:=.cs 45 1 1 (.cons (.fn 82 (.cons (.ptr 0) .nil)) .nil)
abbrev jpe:Hs:=.cs 45 1 1 (.cons (.fn 96 (.cons (.ptr 0) .nil)) .nil)
abbrev jpf:Nat×Sh:=(1, .d false (.slice .str))
abbrev jpg:Nat×Sh:=(1, .fn 66 (.cons (.rp false (.slice .str)) .nil))
abbrev jph:Nat×Sh:=(15, .nl false (.d true (.slice ag.ty)))
abbrev jpi:Nat×Sh:=(58, .nl false (.d true (.slice ag.ty)))
abbrev jpj:Nat×Sh:=(2, .d true .bool)
abbrev jpk:Nat×Sh:=(29, .d false (.slice ae.ty))
abbrev jpl:Nat×Sh:=(0, .d true .str)
abbrev jpx:Nat×Sh:=(12, .d true qT0)
abbrev jpy:Nat×Sh:=(13, .d true qT0)
abbrev jpz:Nat×Sh:=(20, .d true qT0)
abbrev jr9:Nat×Sh:=(3, .d false qT1)
abbrev jsb:Nat×Sh:=(0, .nl false (.own 0))
abbrev jsc:Nat×Sh:=(1, .d false (.slice ab.ty))
abbrev jsd:Nat×Sh:=(1, .ptr 0)
abbrev jse:Nat×Sh:=(10, .d true .bool)
abbrev jsf:Nat×Sh:=(9, .nl false (.own 4))
abbrev jsg:Nat×Sh:=(3, .d true qT0)
abbrev jsh:Nat×Sh:=(13, .d true (.slice af.ty))
abbrev jsi:Nat×Sh:=(2, .ptr 0)
abbrev jsj:Nat×Sh:=(2, .d false qT1)
abbrev jsk:Nat×Sh:=(0, .d false (.slice ag.ty))
abbrev jsl:Nat×Sh:=(0, .d true qT1)
abbrev jsm:Nat×Sh:=(6, .nl false (.own 0))
abbrev jsn:Nat×Sh:=(21, .d true qT0)
abbrev jso:Nat×Sh:=(8, .ptr 0)
abbrev jsp:Nat×Sh:=(3, .ptr 1)
abbrev jsq:Nat×Sh:=(4, .ptr 0)
abbrev jsr:Nat×Sh:=(5, .ptr 1)
abbrev jss:Nat×Sh:=(9, .own 2)
abbrev jst:Nat×Sh:=(1, .d true .bool)
abbrev jsu:Nat×Sh:=(10, .ptr 5)
abbrev jsv:Nat×Sh:=(19, .d true qT0)
abbrev jsw:Nat×Sh:=(30, .d true qT0)
abbrev jsx:Nat×Sh:=(31, .d true qT0)
abbrev jsy:Nat×Sh:=(4, .ptr 2)
abbrev jsz:Nat×Sh:=(5, .own 1)
abbrev js0:Nat×Sh:=(5, .ptr 3)
abbrev js1:Nat×Sh:=(8, .ptr 1)
abbrev js2:Nat×Sh:=(9, .ptr 2)
abbrev js3:Nat×Sh:=(3, .d true qT1)
abbrev js4:Nat×Sh:=(4, .d true qT0)
abbrev js5:Nat×Sh:=(4, .d true qT1)
abbrev js6:Nat×Sh:=(9, .d true qT0)
abbrev js7:Nat×Sh:=(4, .ptr 1)
abbrev js8:Nat×Sh:=(5, .ptr 2)
abbrev js9:Nat×Sh:=(6, .ptr 3)
abbrev jta:Nat×Sh:=(7, .ptr 2)
abbrev jtb:Nat×Sh:=(8, .own 1)
abbrev jtc:Nat×Sh:=(9, .ptr 4)
def qj4{R:Type}(jn:ByteArray)(g0:(List ByteArray))(k5 i8:Int)(l2:(List ae))(hv q1 p5 p6 p7 g1:Int)(o0:(List ae))(nx:(Int×(List ae))→Option R)(dn:(List ae)→Option R)(rt:a8→Option R):Option R:=bif decide (g1<k5)then al (ix g1 g0.length)<|al (ix g1 g0.length)<|al (ek .i64 (g1+1))<|al (room (o0.length+1) 64)<|al (ek .i64 (g1+1))<|nx ((g1+1),(o0++[((g0.getD g1.toNat ⟨#[]⟩),[g1],[(g1+1)],())]))else dn o0
def q0j(jn:ByteArray)(g0:(List ByteArray))(k5 i8:Int)(l2:(List ae))(hv q1 p5 p6 p7:Int)(s0:(Int×(List ae))):Option ((List ae)⊕a8):=bi (fun a=>qj4 jn g0 k5 i8 l2 hv q1 p5 p6 p7 a.1 a.2 (fun a' =>some (.next a')) (fun e=>some (.done e)) (fun r=>some (.ret r))) s0
def qxa:Shp:=⟨[jpl,jsq,jsr,(14, .d false (.slice .str)),(15, .d true qT0),(16, .d true qT0)],[qr4,qw1,jcy]⟩
def qw9:Shp:=⟨[jpl,jsq,jsr],[qr4,qw1,jcy]⟩
def qk9(jn:ByteArray)(fi:(List ByteArray)):Option a8:=al (ek .i64 ((fi.length:Int)+1))<|bnd (q0j jn fi (fi.length:Int) 0 [] 0 0 ((fi.length:Int)+1) 0 (fi.length:Int) (0,[])) fun oe1=>lk oe1 (fun e1=>bif (!(ByteArray.toList jn==ByteArray.toList ⟨#[]⟩))then al (ek .i64 ((fi.length:Int)-1))<|al (room (e1.length+1) 64)<|some (((fi.length:Int)+1),(e1++[(jn,[((fi.length:Int)-1)],[(fi.length:Int)],())]),0,(fi.length:Int),())else some (((fi.length:Int)+1),e1,0,(fi.length:Int),())) (fun r=>some r)
def yb(g5:Int):Option Bool:=bif decide ((65:Int)≤g5)then bif decide (g5≤90)then some true else bif decide ((97:Int)≤g5)then some (decide (g5≤122))else some false else bif decide ((97:Int)≤g5)then some (decide (g5≤122))else some false
def qi1(g5:Int):Option Bool:=bnd (yb g5) fun r1=>bif r1 then some true else bif decide ((48:Int)≤g5)then bif decide (g5≤57)then some true else bif decide (g5=95)then some true else bif decide (g5=45)then some true else some (decide (g5=46))else bif decide (g5=95)then some true else bif decide (g5=45)then some true else some (decide (g5=46))
def oz{R:Type}(aa:ByteArray)(f4 a9:Int)(nx:Int→Option R)(dn:Unit→Option R)(rt:Bool→Option R):Option R:=bif decide (a9<f4)then al (ix a9 (ByteArray.size aa))<|bnd (qi1 (((ByteArray.data aa).getD a9.toNat 0).toNat:Int)) fun r2=>bif (!r2)then rt false else al (ek .i64 (a9+1))<|nx (a9+1)else dn ()
def qj8(aa:ByteArray)(f4 s0:Int):Option (Unit⊕Bool):=bi (fun a=>oz aa f4 a (fun a' =>some (.next a')) (fun e=>some (.done e)) (fun r=>some (.ret r))) s0
def qu8:Shp:=⟨[jpl,jsv,jpz],[]⟩
def qu7:Shp:=⟨[],[]⟩
def qb5(aa:ByteArray):Option Bool:=bif decide ((ByteArray.size aa:Int)<1)then some false else bif decide ((40:Int)<(ByteArray.size aa:Int))then some false else al (ix 0 (ByteArray.size aa))<|bnd (yb (((ByteArray.data aa).getD 0 0).toNat:Int)) fun r1=>bif (!r1)then some false else bnd (qj8 aa (ByteArray.size aa:Int) 0) fun oe3=>lk oe3 (fun e3=>some true) (fun r=>some r)
def kz{R:Type}(c1 a6:qL1)(a1 f3:Int)(bs:(List ae))(gd gj h9:Int)(nx:Int→Option R)(dn:Unit→Option R)(rt:Bool→Option R):Option R:=bif decide (h9<a1)then al (ix h9 a6.length)<|al (ix h9 a6.length)<|bif decide ((a6.getD h9.toNat 0)<0)then rt false else bif decide (f3≤(a6.getD h9.toNat 0))then rt false else bif decide ((0:Int)<h9)then al (ek .i64 (h9-1))<|al (ix (h9-1) c1.length)<|al (ix (h9-1) c1.length)<|bif decide ((a6.getD h9.toNat 0)≤(c1.getD (h9-1).toNat 0))then rt false else al (ek .i64 (h9+1))<|nx (h9+1)else al (ek .i64 (h9+1))<|nx (h9+1)else dn ()
def qh2(c1 a6:qL1)(a1 f3:Int)(bs:(List ae))(gd gj s0:Int):Option (Unit⊕Bool):=bi (fun a=>kz c1 a6 a1 f3 bs gd gj a (fun a' =>some (.next a')) (fun e=>some (.done e)) (fun r=>some (.ret r))) s0
def qsr:Shp:=⟨[jcv,jsi,(7, .d false qT1),q4y,js6],[qcg]⟩
def qsq:Shp:=⟨[],[]⟩
def jf(ad:a8)(c1:qL1):Option Bool:=bnd (qh2 c1 c1 (c1.length:Int) ad.1 ad.2.1 ad.2.2.1 ad.2.2.2.1 0) fun oe1=>lk oe1 (fun e1=>some true) (fun r=>some r)
def ul{R:Type}(a9:(List ae))(fs c2:Int)(a4:(List ae))(dd dt gs:Int)(nx:Int→Option R)(dn:Unit→Option R)(rt:Bool→Option R):Option R:=bif decide (gs<fs)then al (ix gs a9.length)<|al (ix gs a9.length)<|bif (!(ByteArray.toList (a9.getD gs.toNat ae.z).1==ByteArray.toList ⟨#[]⟩))then bnd (qb5 (a9.getD gs.toNat ae.z).1) fun r1=>bif (!r1)then rt false else bnd (jf (c2,a4,dd,dt,()) (a9.getD gs.toNat ae.z).2.1) fun r2=>bif (!r2)then rt false else bnd (jf (c2,a4,dd,dt,()) (a9.getD gs.toNat ae.z).2.2.1) fun r3=>bif (!r3)then rt false else al (ek .i64 (gs+1))<|nx (gs+1)else bnd (jf (c2,a4,dd,dt,()) (a9.getD gs.toNat ae.z).2.1) fun r4=>bif (!r4)then rt false else bnd (jf (c2,a4,dd,dt,()) (a9.getD gs.toNat ae.z).2.2.1) fun r5=>bif (!r5)then rt false else al (ek .i64 (gs+1))<|nx (gs+1)else dn ()
def qke(a9:(List ae))(fs c2:Int)(a4:(List ae))(dd dt s0:Int):Option (Unit⊕Bool):=bi (fun a=>ul a9 fs c2 a4 dd dt a (fun a' =>some (.next a')) (fun e=>some (.done e)) (fun r=>some (.ret r))) s0
def qvk:Shp:=⟨[jsd,(20, .d false (.slice ae.ty)),jsn,(22, .d true qT0)],[qcg]⟩
def qvj:Shp:=⟨[jsd],[qcg]⟩
def o4(ad:a8):Option Bool:=bif decide (ad.1<1)then some false else bif decide ((40:Int)<ad.1)then some false else bif decide ((60:Int)<(ad.2.1.length:Int))then some false else bnd (qke ad.2.1 (ad.2.1.length:Int) ad.1 ad.2.1 ad.2.2.1 ad.2.2.2.1 0) fun oe6=>lk oe6 (fun e6=>bnd (jf ad [ad.2.2.1]) fun r7=>bif r7 then bnd (jf ad [ad.2.2.2.1]) fun r8=>some r8 else some false) (fun r=>some r)
def il{R:Type}(aa:qL1)(h5 a6 a1:Int)(nx:Int→Option R)(dn:Unit→Option R)(rt:Int→Option R):Option R:=bif decide (a1<a6)then al (ix a1 aa.length)<|al (ix a1 aa.length)<|bif decide (h5=(aa.getD a1.toNat 0))then rt a1 else al (ek .i64 (a1+1))<|nx (a1+1)else dn ()
def vf(aa:qL1)(h5 a6 s0:Int):Option (Unit⊕Int):=bi (fun a=>il aa h5 a6 a (fun a' =>some (.next a')) (fun e=>some (.done e)) (fun r=>some (.ret r))) s0
def qef:Shp:=⟨[jif,q8h,qwy,q4y],[]⟩
def qee:Shp:=⟨[],[]⟩
def pg(aa:qL1)(h5:Int):Option Int:=bnd (vf aa h5 (aa.length:Int) 0) fun oe1=>lk oe1 (fun e1=>some (-1)) (fun r=>some r)
def ew(aa:qL1)(h5:Int):Option Bool:=bnd (pg aa h5) fun r1=>some (decide ((0:Int)≤r1))
def r0(gx:Int)(fd:(List Bool)):Option Bool:=al (ix 0 1)<|al (ix gx fd.length)<|al (ix gx fd.length)<|some (fd.getD gx.toNat false)
def dk{R:Type}(aa:qL1)(f_1c0:(List Bool))(a6 a1:Int)(nx:Int→Option R)(dn:Unit→Option R)(rt:Int→Option R):Option R:=bif decide (a1<a6)then al (ix a1 aa.length)<|al (ix a1 aa.length)<|bnd (r0 (aa.getD a1.toNat 0) f_1c0) fun r1=>bif r1 then rt a1 else al (ek .i64 (a1+1))<|nx (a1+1)else dn ()
def mo(aa:qL1)(f_1c0:(List Bool))(a6 s0:Int):Option (Unit⊕Int):=bi (fun a=>dk aa f_1c0 a6 a (fun a' =>some (.next a')) (fun e=>some (.done e)) (fun r=>some (.ret r))) s0
def vy:Shp:=⟨[jif,(1, .fn 116 (.cons (.rp false (.slice .bool)) .nil)),qwy,q4y],[]⟩
def vx:Shp:=⟨[],[]⟩
def iq(aa:qL1)(f_1c0:(List Bool)):Option Int:=bnd (mo aa f_1c0 (aa.length:Int) 0) fun oe2=>lk oe2 (fun e2=>some (-1)) (fun r=>some r)
def ce(aa:qL1)(f_1c0:(List Bool)):Option Bool:=bnd (iq aa f_1c0) fun r1=>some (decide ((0:Int)≤r1))
def pt{R:Type}(f1 es:Bool)(hm:(List ae))(kr b3:Int)(hq:qL1)(ps bk:Int)(a0:(List ae))(bl bo:Int)(bb:(List Bool))(cc:Int)(dc:(List Bool))(nx:(Int×(List Bool))→Option R)(dn:(List Bool)→Option R)(rt:((List Bool)×(List Bool))→Option R):Option R:=bif decide (cc<ps)then al (ix cc hq.length)<|al (ix cc hq.length)<|al (ix (hq.getD cc.toNat 0) dc.length)<|al (ix (hq.getD cc.toNat 0) dc.length)<|al (ek .i64 (cc+1))<|nx ((cc+1),(dc.set (hq.getD cc.toNat 0).toNat true))else dn dc
def y5(f1 es:Bool)(hm:(List ae))(kr b3:Int)(hq:qL1)(ps bk:Int)(a0:(List ae))(bl bo:Int)(bb:(List Bool))(s0:(Int×(List Bool))):Option ((List Bool)⊕((List Bool)×(List Bool))):=bi (fun a=>pt f1 es hm kr b3 hq ps bk a0 bl bo bb a.1 a.2 (fun a' =>some (.next a')) (fun e=>some (.done e)) (fun r=>some (.ret r))) s0
def qp5:Shp:=⟨[jpj,jcu,js1,jss,jse,jpk,jsw,jsx,(56, .d false qT1),(57, .d true qT0),(58, .d true qT0)],[qcg,jax,qtl,qtl]⟩
def qp4:Shp:=⟨[jpj,jcu,js1,jss,jse,jpk,jsw,jsx],[qcg,jax,qtl,qtl]⟩
def er{R:Type}(f1:Bool)(hm:(List ae))(kr bk:Int)(a0:(List ae))(bl bo:Int)(es:Bool)(b3:Int)(bb dc:(List Bool))(nx:(Bool×Int×(List Bool)×(List Bool))→Option R)(dn:(Bool×(List Bool)×(List Bool))→Option R)(rt:((List Bool)×(List Bool))→Option R):Option R:=bif decide (b3<kr)then al (ix b3 hm.length)<|al (ix b3 hm.length)<|bif f1 then al (ix b3 bb.length)<|al (ix b3 bb.length)<|bif (bb.getD b3.toNat false)then al (ek .i64 (b3+1))<|nx (es,(b3+1),bb,dc)else bnd (ce (hm.getD b3.toNat ae.z).2.2.1 dc) fun r1=>bif (!r1)then al (ek .i64 (b3+1))<|nx (es,(b3+1),bb,dc)else al (ix b3 bb.length)<|al (ix b3 bb.length)<|bnd (y5 f1 true hm kr b3 (hm.getD b3.toNat ae.z).2.1 ((hm.getD b3.toNat ae.z).2.1.length:Int) bk a0 bl bo (bb.set b3.toNat true) (0,dc)) fun oe2=>lk oe2 (fun e2=>al (ek .i64 (b3+1))<|nx (true,(b3+1),(bb.set b3.toNat true),e2)) (fun r=>rt r)else al (ix b3 bb.length)<|al (ix b3 bb.length)<|bif (bb.getD b3.toNat false)then al (ek .i64 (b3+1))<|nx (es,(b3+1),bb,dc)else bnd (ce (hm.getD b3.toNat ae.z).2.1 dc) fun r3=>bif (!r3)then al (ek .i64 (b3+1))<|nx (es,(b3+1),bb,dc)else al (ix b3 bb.length)<|al (ix b3 bb.length)<|bnd (y5 f1 true hm kr b3 (hm.getD b3.toNat ae.z).2.2.1 ((hm.getD b3.toNat ae.z).2.2.1.length:Int) bk a0 bl bo (bb.set b3.toNat true) (0,dc)) fun oe4=>lk oe4 (fun e4=>al (ek .i64 (b3+1))<|nx (true,(b3+1),(bb.set b3.toNat true),e4)) (fun r=>rt r)else dn (es,bb,dc)
def y6(f1:Bool)(hm:(List ae))(kr bk:Int)(a0:(List ae))(bl bo:Int)(s0:(Bool×Int×(List Bool)×(List Bool))):Option ((Bool×(List Bool)×(List Bool))⊕((List Bool)×(List Bool))):=bi (fun a=>er f1 hm kr bk a0 bl bo a.1 a.2.1 a.2.2.1 a.2.2.2 (fun a' =>some (.next a')) (fun e=>some (.done e)) (fun r=>some (.ret r))) s0
def qp7:Shp:=⟨[jpj,jcu,js1,jss,jse,jpk,jsw,jsx],[qcg,jax,qtl,qtl]⟩
def qp6:Shp:=⟨[jpj,jcu,js1,jss,jse],[qcg,jax,qtl,qtl]⟩
def wo{R:Type}(f1:Bool)(bk:Int)(a0:(List ae))(bl bo:Int)(es:Bool)(bb dc:(List Bool))(nx:(Bool×(List Bool)×(List Bool))→Option R)(dn rt:((List Bool)×(List Bool))→Option R):Option R:=bif es then bnd (y6 f1 a0 (a0.length:Int) bk a0 bl bo (false,0,bb,dc)) fun oe5=>lk oe5 (fun e5=>nx (e5.1,e5.2.1,e5.2.2)) (fun r=>rt r)else dn (bb,dc)
def qf7(f1:Bool)(bk:Int)(a0:(List ae))(bl bo:Int)(s0:(Bool×(List Bool)×(List Bool))):Option (((List Bool)×(List Bool))⊕((List Bool)×(List Bool))):=bi (fun a=>wo f1 bk a0 bl bo a.1 a.2.1 a.2.2 (fun a' =>some (.next a')) (fun e=>some (.done e)) (fun r=>some (.ret r))) s0
def qp9:Shp:=⟨[jpj,jcu,js1,jss,jse],[qcg,jax,qtl,qtl]⟩
def qp8:Shp:=⟨[jso,(9, .own 1)],[.cs 133 1 1 (.cons (.own 2) .nil),qtl,qtl]⟩
def l6(ad:a8)(hc:Int)(f1:Bool):Option ((List Bool)×(List Bool)):=al (qxm ad.1 ad.1 1)<|al (qxm (ad.2.1.length:Int) (ad.2.1.length:Int) 1)<|al (ix hc (List.replicate ad.1.toNat (false:Bool)).length)<|al (ix hc (List.replicate ad.1.toNat (false:Bool)).length)<|bnd (qf7 f1 ad.1 ad.2.1 ad.2.2.1 ad.2.2.2.1 (true,(List.replicate (ad.2.1.length:Int).toNat (false:Bool)),((List.replicate ad.1.toNat (false:Bool)).set hc.toNat true))) fun oe6=>lk oe6 (fun e6=>some (e6.2,e6.1)) (fun r=>some r)
def fv{R:Type}(aa:(List Bool))(h5:Bool)(a6 a1:Int)(nx:Int→Option R)(dn:Unit→Option R)(rt:Int→Option R):Option R:=bif decide (a1<a6)then al (ix a1 aa.length)<|al (ix a1 aa.length)<|bif (h5==(aa.getD a1.toNat false))then rt a1 else al (ek .i64 (a1+1))<|nx (a1+1)else dn ()
def ru(aa:(List Bool))(h5:Bool)(a6 s0:Int):Option (Unit⊕Int):=bi (fun a=>fv aa h5 a6 a (fun a' =>some (.next a')) (fun e=>some (.done e)) (fun r=>some (.ret r))) s0
def qbp:Shp:=⟨[(0, .d false (.slice .bool)),jst,qwy,q4y],[]⟩
def qbo:Shp:=⟨[],[]⟩
def nm(aa:(List Bool))(h5:Bool):Option Int:=bnd (ru aa h5 (aa.length:Int) 0) fun oe1=>lk oe1 (fun e1=>some (-1)) (fun r=>some r)
def bu(aa:(List Bool))(h5:Bool):Option Bool:=bnd (nm aa h5) fun r1=>some (decide ((0:Int)≤r1))
def oe{R:Type}(fs:(List ae))(gs c2:Int)(a4:(List ae))(dd dt i2:Int)(nx:Int→Option R)(dn:Unit→Option R)(rt:Bool→Option R):Option R:=bif decide (i2<gs)then al (ix i2 fs.length)<|al (ix i2 fs.length)<|bnd (ew (fs.getD i2.toNat ae.z).2.2.1 dd) fun r2=>bif r2 then rt false else bnd (ew (fs.getD i2.toNat ae.z).2.1 dt) fun r3=>bif r3 then rt false else al (ek .i64 (i2+1))<|nx (i2+1)else dn ()
def qdn(fs:(List ae))(gs c2:Int)(a4:(List ae))(dd dt s0:Int):Option (Unit⊕Bool):=bi (fun a=>oe fs gs c2 a4 dd dt a (fun a' =>some (.next a')) (fun e=>some (.done e)) (fun r=>some (.ret r))) s0
def qnb:Shp:=⟨[jsd,(21, .d false (.slice ae.ty)),(22, .d true qT0),(23, .d true qT0)],[qcg]⟩
def qna:Shp:=⟨[jsd],[qcg]⟩
def og{R:Type}(i8:(List Bool))(l2 c2:Int)(a4:(List ae))(dd dt hv:Int)(nx:Int→Option R)(dn:Unit→Option R)(rt:Bool→Option R):Option R:=bif decide (hv<l2)then al (ix hv i8.length)<|al (ix hv i8.length)<|bif (i8.getD hv.toNat false)then bnd (l6 (c2,a4,dd,dt,()) dt (i8.getD hv.toNat false)) fun r5=>bnd (bu r5.1 false) fun r6=>bif r6 then rt false else bnd (bu r5.2 false) fun r7=>bif r7 then rt false else al (ek .i64 (hv+1))<|nx (hv+1)else bnd (l6 (c2,a4,dd,dt,()) dd (i8.getD hv.toNat false)) fun r8=>bnd (bu r8.1 false) fun r9=>bif r9 then rt false else bnd (bu r8.2 false) fun r10=>bif r10 then rt false else al (ek .i64 (hv+1))<|nx (hv+1)else dn ()
def qdo(i8:(List Bool))(l2 c2:Int)(a4:(List ae))(dd dt s0:Int):Option (Unit⊕Bool):=bi (fun a=>og i8 l2 c2 a4 dd dt a (fun a' =>some (.next a')) (fun e=>some (.done e)) (fun r=>some (.ret r))) s0
def qnd:Shp:=⟨[jsd,(40, .d true (.slice .bool)),(41, .d true qT0),(42, .d true qT0)],[qcg]⟩
def qnc:Shp:=⟨[],[]⟩
def mh(ad:a8):Option Bool:=bnd (o4 ad) fun r1=>bif (!r1)then some false else bif decide (ad.2.2.1=ad.2.2.2.1)then some false else bnd (qdn ad.2.1 (ad.2.1.length:Int) ad.1 ad.2.1 ad.2.2.1 ad.2.2.2.1 0) fun oe4=>lk oe4 (fun e4=>bnd (qdo [false,true] 2 ad.1 ad.2.1 ad.2.2.1 ad.2.2.2.1 0) fun oe11=>lk oe11 (fun e11=>some true) (fun r=>some r)) (fun r=>some r)
def ug(ap av:a8):Option Int:=bnd (mh ap) fun r1=>bif (!r1)then some 1 else bnd (mh av) fun r2=>bif (!r2)then some 1 else some 0
def qdt(ad:a8)(fd:Int):Option (Int×qL1):=bnd (o4 ad) fun r1=>bif (!r1)then some (1,[])else al (qxm ad.1 ad.1 8)<|al (ix fd (List.replicate ad.1.toNat (0:Int)).length)<|al (ix fd (List.replicate ad.1.toNat (0:Int)).length)<|some (0,((List.replicate ad.1.toNat (0:Int)).set fd.toNat 1))
def qco(ad:a8):Option (qL1×Int):=bnd (qdt ad ad.2.2.1) fun r1=>some (r1.2,r1.1)
def y4(q5:Int):Option Bool:=bif decide (q5<0)then some true else some (decide ((100:Int)<q5))
def d7{R:Type}(aa:qL1)(a6 a1:Int)(nx:Int→Option R)(dn:Unit→Option R)(rt:Int→Option R):Option R:=bif decide (a1<a6)then al (ix a1 aa.length)<|al (ix a1 aa.length)<|bnd (y4 (aa.getD a1.toNat 0)) fun r1=>bif r1 then rt a1 else al (ek .i64 (a1+1))<|nx (a1+1)else dn ()
def m5(aa:qL1)(a6 s0:Int):Option (Unit⊕Int):=bi (fun a=>d7 aa a6 a (fun a' =>some (.next a')) (fun e=>some (.done e)) (fun r=>some (.ret r))) s0
def wz:Shp:=⟨[jif,(1, .fn 87 .nil),qwy,q4y],[]⟩
def wy:Shp:=⟨[],[]⟩
def jh(aa:qL1):Option Int:=bnd (m5 aa (aa.length:Int) 0) fun oe2=>lk oe2 (fun e2=>some (-1)) (fun r=>some r)
def dz(aa:qL1):Option Bool:=bnd (jh aa) fun r1=>some (decide ((0:Int)≤r1))
def l5(ad:a8)(b0:qL1):Option Bool:=bnd (o4 ad) fun r1=>bif r1 then bif decide ((b0.length:Int)=ad.1)then bnd (dz b0) fun r2=>some (!r2)else some false else some false
def u6(aa:qL1):Option qL1:=bif decide ((aa.length:Int)=0)then some []else al (room (0+aa.length) 8)<|some ([]++aa)
def jg(aa:qL1):Option qL1:=al (room (0+aa.length) 8)<|some ([]++aa)
def br(aa:qL1):Option qL1:=jg aa
def y3(gx:Int)(fd:qL1):Option Bool:=al (ix 0 1)<|al (ix gx fd.length)<|al (ix gx fd.length)<|some (decide ((fd.getD gx.toNat 0)=0))
def dj{R:Type}(aa f_1c0:qL1)(a6 a1:Int)(nx:Int→Option R)(dn:Unit→Option R)(rt:Int→Option R):Option R:=bif decide (a1<a6)then al (ix a1 aa.length)<|al (ix a1 aa.length)<|bnd (y3 (aa.getD a1.toNat 0) f_1c0) fun r1=>bif r1 then rt a1 else al (ek .i64 (a1+1))<|nx (a1+1)else dn ()
def mm(aa f_1c0:qL1)(a6 s0:Int):Option (Unit⊕Int):=bi (fun a=>dj aa f_1c0 a6 a (fun a' =>some (.next a')) (fun e=>some (.done e)) (fun r=>some (.ret r))) s0
def vp:Shp:=⟨[jif,(1, .fn 111 (.cons (.rp false qT1) .nil)),qwy,q4y],[]⟩
def vm:Shp:=⟨[],[]⟩
def io(aa f_1c0:qL1):Option Int:=bnd (mm aa f_1c0 (aa.length:Int) 0) fun oe2=>lk oe2 (fun e2=>some (-1)) (fun r=>some r)
def fo(aa f_1c0:qL1):Option Bool:=bnd (io aa f_1c0) fun r1=>some (decide ((0:Int)≤r1))
def rf(oo:ae)(b0:qL1):Option Bool:=bnd (fo oo.2.1 b0) fun r1=>some (!r1)
def kf{R:Type}(hs:qL1)(lo gw:Int)(nx:(Int×Int)→Option R)(dn rt:Int→Option R):Option R:=bif decide (gw<(hs.length:Int))then al (ix gw hs.length)<|al (ix gw hs.length)<|al (ek .i64 (gw+1))<|nx ((max lo (hs.getD gw.toNat 0)),(gw+1))else dn lo
def yl(hs:qL1)(s0:(Int×Int)):Option (Int⊕Int):=bi (fun a=>kf hs a.1 a.2 (fun a' =>some (.next a')) (fun e=>some (.done e)) (fun r=>some (.ret r))) s0
def qgv:Shp:=⟨[jif,jsg,js4],[]⟩
def qgu:Shp:=⟨[jsg],[]⟩
def np(hs:qL1):Option Int:=bif decide ((hs.length:Int)<1)then none else al (ix 0 hs.length)<|al (ix 0 hs.length)<|bnd (yl hs ((hs.getD 0 0),1)) fun oe1=>lk oe1 (fun e1=>some e1) (fun r=>some r)
def xj{R:Type}(h6:qL1)(o2:Int)(q2:ByteArray)(q3 q4:qL1)(hx:Int)(b2:qL1)(nx:(Int×qL1)→Option R)(dn:qL1→Option R)(rt:(Int×qL1)→Option R):Option R:=bif decide (hx<o2)then al (ix hx h6.length)<|al (ix hx h6.length)<|al (ix (h6.getD hx.toNat 0) b2.length)<|al (ix (h6.getD hx.toNat 0) b2.length)<|al (ek .i64 ((b2.getD (h6.getD hx.toNat 0).toNat 0)-1))<|al (ix (h6.getD hx.toNat 0) b2.length)<|al (ix (h6.getD hx.toNat 0) b2.length)<|al (ek .i64 (hx+1))<|nx ((hx+1),(b2.set (h6.getD hx.toNat 0).toNat ((b2.getD (h6.getD hx.toNat 0).toNat 0)-1)))else dn b2
def qnf(h6:qL1)(o2:Int)(q2:ByteArray)(q3 q4:qL1)(s0:(Int×qL1)):Option (qL1⊕(Int×qL1)):=bi (fun a=>xj h6 o2 q2 q3 q4 a.1 a.2 (fun a' =>some (.next a')) (fun e=>some (.done e)) (fun r=>some (.ret r))) s0
def qxu:Shp:=⟨[jso,(9, .own 1),(35, .d false qT1),(36, .d true qT0),(37, .d true qT0)],[q8i,qmk]⟩
def qxt:Shp:=⟨[jso,(9, .own 1)],[q8i,qmk]⟩
def xk{R:Type}(h7:qL1)(pa hy:Int)(b2:qL1)(nx:(Int×qL1)→Option R)(dn:qL1→Option R)(rt:(Int×qL1)→Option R):Option R:=bif decide (hy<pa)then al (ix hy h7.length)<|al (ix hy h7.length)<|al (ix (h7.getD hy.toNat 0) b2.length)<|al (ix (h7.getD hy.toNat 0) b2.length)<|al (ek .i64 ((b2.getD (h7.getD hy.toNat 0).toNat 0)+1))<|al (ix (h7.getD hy.toNat 0) b2.length)<|al (ix (h7.getD hy.toNat 0) b2.length)<|al (ek .i64 (hy+1))<|nx ((hy+1),(b2.set (h7.getD hy.toNat 0).toNat ((b2.getD (h7.getD hy.toNat 0).toNat 0)+1)))else dn b2
def qng(h7:qL1)(pa:Int)(s0:(Int×qL1)):Option (qL1⊕(Int×qL1)):=bi (fun a=>xk h7 pa a.1 a.2 (fun a' =>some (.next a')) (fun e=>some (.done e)) (fun r=>some (.ret r))) s0
def qxw:Shp:=⟨[(9, .own 0),(49, .d false qT1),(50, .d true qT0),(51, .d true qT0)],[qmk]⟩
def qxv:Shp:=⟨[(9, .own 0)],[qmk]⟩
def qe3(ad:a8)(b0:qL1)(a2:Int):Option (Int×qL1):=bif decide (a2<0)then some (2,[])else bif decide ((ad.2.1.length:Int)≤a2)then some (2,[])else al (ix a2 ad.2.1.length)<|al (ix a2 ad.2.1.length)<|bnd (rf (ad.2.1.getD a2.toNat ae.z) b0) fun r1=>bif (!r1)then some (12,[])else bnd (br b0) fun r2=>bnd (qnf (ad.2.1.getD a2.toNat ae.z).2.1 ((ad.2.1.getD a2.toNat ae.z).2.1.length:Int) (ad.2.1.getD a2.toNat ae.z).1 (ad.2.1.getD a2.toNat ae.z).2.1 (ad.2.1.getD a2.toNat ae.z).2.2.1 (0,r2)) fun oe3=>lk oe3 (fun e3=>bnd (qng (ad.2.1.getD a2.toNat ae.z).2.2.1 ((ad.2.1.getD a2.toNat ae.z).2.2.1.length:Int) (0,e3)) fun oe4=>lk oe4 (fun e4=>bnd (np e4) fun r5=>bif decide ((100:Int)<r5)then some (5,[])else some (0,e4)) (fun r=>some r)) (fun r=>some r)
def qm6{R:Type}(c4 mk:qL1)(lc bk:Int)(a0:(List ae))(bl bo:Int)(pv:qL1)(hl:Int)(nx:(qL1×Int)→Option R)(dn:qL1→Option R)(rt:(qL1×Int×Int)→Option R):Option R:=bif decide (hl<lc)then al (ix hl mk.length)<|al (ix hl mk.length)<|bnd (qe3 (bk,a0,bl,bo,()) pv (mk.getD hl.toNat 0)) fun r3=>bif (!decide (r3.1=0))then rt ([],hl,r3.1)else al (ek .i64 (hl+1))<|nx (r3.2,(hl+1))else dn pv
def q3a(c4 mk:qL1)(lc bk:Int)(a0:(List ae))(bl bo:Int)(s0:(qL1×Int)):Option (qL1⊕(qL1×Int×Int)):=bi (fun a=>qm6 c4 mk lc bk a0 bl bo a.1 a.2 (fun a' =>some (.next a')) (fun e=>some (.done e)) (fun r=>some (.ret r))) s0
def q01:Shp:=⟨[jsj,jcu,(9, .d true qT1),(25, .d false qT1),(26, .d true qT0),(27, .d true qT0)],[qcg]⟩
def q00:Shp:=⟨[jsj,(9, .d true qT1)],[]⟩
def qy8(ad:a8)(b0 c4:qL1):Option (qL1×Int×Int):=bnd (l5 ad b0) fun r1=>bif (!r1)then some ([],0,1)else bif decide ((1000:Int)<(c4.length:Int))then some ([],0,5)else bnd (br b0) fun r2=>bnd (q3a c4 c4 (c4.length:Int) ad.1 ad.2.1 ad.2.2.1 ad.2.2.2.1 (r2,0)) fun oe4=>lk oe4 (fun e4=>some (e4,(c4.length:Int),0)) (fun r=>some r)
def qkg{R:Type}(hb:qL1)(f4 f3:Int)(bs:(List ae))(gd gj a9:Int)(hz:(List ByteArray))(nx:(Int×(List ByteArray))→Option R)(dn:(List ByteArray)→Option R)(rt:(Int×(List ByteArray))→Option R):Option R:=bif decide (a9<f4)then al (ix a9 hb.length)<|al (ix a9 hb.length)<|bif decide ((hb.getD a9.toNat 0)<0)then rt (2,[])else bif decide ((bs.length:Int)≤(hb.getD a9.toNat 0))then rt (2,[])else al (ix (hb.getD a9.toNat 0) bs.length)<|al (ix (hb.getD a9.toNat 0) bs.length)<|bif (!(ByteArray.toList (bs.getD (hb.getD a9.toNat 0).toNat ae.z).1==ByteArray.toList ⟨#[]⟩))then al (room (hz.length+1) 16)<|al (ek .i64 (a9+1))<|nx ((a9+1),(hz++[(bs.getD (hb.getD a9.toNat 0).toNat ae.z).1]))else al (ek .i64 (a9+1))<|nx ((a9+1),hz)else dn hz
def q03(hb:qL1)(f4 f3:Int)(bs:(List ae))(gd gj:Int)(s0:(Int×(List ByteArray))):Option ((List ByteArray)⊕(Int×(List ByteArray))):=bi (fun a=>qkg hb f4 f3 bs gd gj a.1 a.2 (fun a' =>some (.next a')) (fun e=>some (.done e)) (fun r=>some (.ret r))) s0
def qxr:Shp:=⟨[jsi,(6, .nl false (.own 1)),(18, .d false qT1),jsv,jpz],[qcg,jo7]⟩
def qxq:Shp:=⟨[jsm],[jo7]⟩
def qvl(ad:a8)(c1:qL1):Option (Int×(List ByteArray)):=bnd (o4 ad) fun r1=>bif (!r1)then some (1,[])else bif decide ((1000:Int)<(c1.length:Int))then some (5,[])else bnd (q03 c1 (c1.length:Int) ad.1 ad.2.1 ad.2.2.1 ad.2.2.2.1 (0,[])) fun oe2=>lk oe2 (fun e2=>some (0,e2)) (fun r=>some r)
def ry(ap:a8)(py:qL1):Option (qL1×Bool×(List ByteArray)):=bnd (qco ap) fun r1=>bnd (qy8 ap r1.1 py) fun r2=>bif (!decide (r2.2.2=0))then some ([],false,[])else bnd (qvl ap py) fun r3=>some (r2.1,decide (r3.1=0),r3.2)
def qj7(ap av:a8)(lp:qL1)(g6:Int):Option (qL1×Int×(List ByteArray)):=bnd (ug ap av) fun r1=>bif (!decide (r1=0))then some ([],r1,[])else bnd (ry ap lp) fun r2=>bif (!r2.2.1)then some ([],12,[])else bif decide (g6<1)then some ([],2,[])else bif decide ((2000:Int)<g6)then some ([],2,[])else some (r2.1,0,r2.2.2)
def k8(ej:qL1):Option ByteArray:=jb2 ej
def qa7(ad:a8)(b0:qL1)(a2:Int):Option (Int×qL1):=bnd (l5 ad b0) fun r1=>bif (!r1)then some (1,[])else bnd (qe3 ad b0 a2) fun r2=>some (r2.1,r2.2)
def po{R:Type}(b0:qL1)(o1 f3:Int)(bs:(List ae))(gd gj f0:Int)(et:(List ag))(nx:(Int×(List ag))→Option R)(dn rt:(List ag)→Option R):Option R:=bif decide (f0<o1)then bnd (qa7 (f3,bs,gd,gj,()) b0 f0) fun r1=>bif decide (r1.1=0)then al (room (et.length+1) 32)<|al (ek .i64 (f0+1))<|nx ((f0+1),(et++[(f0,r1.2,())]))else al (ek .i64 (f0+1))<|nx ((f0+1),et)else dn et
def qfw(b0:qL1)(o1 f3:Int)(bs:(List ae))(gd gj:Int)(s0:(Int×(List ag))):Option ((List ag)⊕(List ag)):=bi (fun a=>po b0 o1 f3 bs gd gj a.1 a.2 (fun a' =>some (.next a')) (fun e=>some (.done e)) (fun r=>some (.ret r))) s0
def qpq:Shp:=⟨[jcv,jsi,(5, .nl false (.own 1)),(11, .d true qT0),jpx],[qcg,jpa]⟩
def qpp:Shp:=⟨[(5, .nl false (.own 0))],[jpa]⟩
def eh(ad:a8)(b0:qL1):Option (List ag):=bnd (qfw b0 (ad.2.1.length:Int) ad.1 ad.2.1 ad.2.2.1 ad.2.2.2.1 (0,[])) fun oe2=>lk oe2 (fun e2=>some e2) (fun r=>some r)
def x8{R:Type}(kk:(List ByteArray))(b5 hu:Int)(gt:(List ag))(jc bk:Int)(a0:(List ae))(bl bo hr:Int)(p2 mb:qL1)(ei:Int)(b6:(List af))(gr:(List (ByteArray×Bool)))(nx:(Int×(List af)×(List (ByteArray×Bool)))→Option R)(dn:((List af)×(List (ByteArray×Bool)))→Option R)(rt:(Bool×(List af))→Option R):Option R:=bif decide (ei<jc)then al (ix ei gt.length)<|al (ix ei gt.length)<|al (ix (gt.getD ei.toNat ag.z).1 a0.length)<|al (ix (gt.getD ei.toNat ag.z).1 a0.length)<|bif (!(ByteArray.toList (a0.getD (Int.toNat (gt.getD ei.toNat ag.z).1) ae.z).1==ByteArray.toList ⟨#[]⟩))then bif decide (hr=(kk.length:Int))then al (ek .i64 (ei+1))<|nx ((ei+1),b6,gr)else al (ix hr kk.length)<|al (ix hr kk.length)<|bif (!(ByteArray.toList (kk.getD hr.toNat ⟨#[]⟩)==ByteArray.toList (a0.getD (Int.toNat (gt.getD ei.toNat ag.z).1) ae.z).1))then al (ek .i64 (ei+1))<|nx ((ei+1),b6,gr)else al (ek .i64 (hr+1))<|al (room (1+(gt.getD ei.toNat ag.z).2.1.length) 8)<|bnd (k8 ([(hr+1)]++(gt.getD ei.toNat ag.z).2.1)) fun r4=>bif ((qz .str r4 gr).getD false)then al (ek .i64 (ei+1))<|nx ((ei+1),b6,gr)else bif decide ((b6.length:Int)=b5)then rt (false,b6)else bnd (br mb) fun r5=>al (room (r5.length+1) 8)<|al (room (b6.length+1) 56)<|al (ek .i64 (ei+1))<|nx ((ei+1),(b6++[((hr+1),(gt.getD ei.toNat ag.z).2.1,(r5++[(gt.getD ei.toNat ag.z).1]),())]),(qcn .str r4 true gr))else al (room (1+(gt.getD ei.toNat ag.z).2.1.length) 8)<|bnd (k8 ([hr]++(gt.getD ei.toNat ag.z).2.1)) fun r6=>bif ((qz .str r6 gr).getD false)then al (ek .i64 (ei+1))<|nx ((ei+1),b6,gr)else bif decide ((b6.length:Int)=b5)then rt (false,b6)else bnd (br mb) fun r7=>al (room (r7.length+1) 8)<|al (room (b6.length+1) 56)<|al (ek .i64 (ei+1))<|nx ((ei+1),(b6++[(hr,(gt.getD ei.toNat ag.z).2.1,(r7++[(gt.getD ei.toNat ag.z).1]),())]),(qcn .str r6 true gr))else dn (b6,gr)
def qju(kk:(List ByteArray))(b5 hu:Int)(gt:(List ag))(jc bk:Int)(a0:(List ae))(bl bo hr:Int)(p2 mb:qL1)(s0:(Int×(List af)×(List (ByteArray×Bool)))):Option (((List af)×(List (ByteArray×Bool)))⊕(Bool×(List af))):=bi (fun a=>x8 kk b5 hu gt jc bk a0 bl bo hr p2 mb a.1 a.2.1 a.2.2 (fun a' =>some (.next a')) (fun e=>some (.done e)) (fun r=>some (.ret r))) s0
def qhk:Shp:=⟨[jpf,q7l,jcu,(10, .own 1),(11, .mp 2),jpx,(13, .ptr 3),(46, .nl false (.d true (.slice ag.ty))),(47, .d true qT0),(48, .d true qT0)],[qcg,qta,qoo, .cs 92 3 1 (.cons (.d true qT0) (.cons (.d true qT1) (.cons (.d true qT1) .nil)))]⟩
def qhj:Shp:=⟨[jpf,q7l,jcu,(10, .own 1),(11, .mp 2),jpx],[qcg,qta,qoo]⟩
def x9{R:Type}(kk:(List ByteArray))(b5 bk:Int)(a0:(List ae))(bl bo hu:Int)(b6:(List af))(gr:(List (ByteArray×Bool)))(nx:(Int×(List af)×(List (ByteArray×Bool)))→Option R)(dn:(List af)→Option R)(rt:(Bool×(List af))→Option R):Option R:=bif decide (hu<(b6.length:Int))then al (ix hu b6.length)<|al (ix hu b6.length)<|bnd (eh (bk,a0,bl,bo,()) (b6.getD hu.toNat af.z).2.1) fun r3=>bnd (qju kk b5 hu r3 (r3.length:Int) bk a0 bl bo (b6.getD hu.toNat af.z).1 (b6.getD hu.toNat af.z).2.1 (b6.getD hu.toNat af.z).2.2.1 (0,b6,gr)) fun oe8=>lk oe8 (fun e8=>al (ek .i64 (hu+1))<|nx ((hu+1),e8.1,e8.2)) (fun r=>rt r)else dn b6
def qjv(kk:(List ByteArray))(b5 bk:Int)(a0:(List ae))(bl bo:Int)(s0:(Int×(List af)×(List (ByteArray×Bool)))):Option ((List af)⊕(Bool×(List af))):=bi (fun a=>x9 kk b5 bk a0 bl bo a.1 a.2.1 a.2.2 (fun a' =>some (.next a')) (fun e=>some (.done e)) (fun r=>some (.ret r))) s0
def qhm:Shp:=⟨[jpf,q7l,jcu,(10, .own 1),(11, .mp 2),jpx],[qcg,qta,qoo]⟩
def qhl:Shp:=⟨[(10, .own 0)],[qta]⟩
def qb2(ad:a8)(kk:(List ByteArray))(b5:Int):Option (Bool×(List af)):=bnd (qco ad) fun r1=>al (room (1+r1.1.length) 8)<|bnd (k8 ([0]++r1.1)) fun r2=>bnd (qjv kk b5 ad.1 ad.2.1 ad.2.2.1 ad.2.2.2.1 (0,[(0,r1.1,[],())],(qcn .str r2 true ([]:(List (ByteArray×Bool)))))) fun oe9=>lk oe9 (fun e9=>some (true,e9)) (fun r=>some r)
def qas(gx:af)(fd:(List ByteArray)):Option Bool:=al (ix 0 1)<|some (decide (gx.1<(fd.length:Int)))
def ck{R:Type}(aa:(List af))(f_1c0:(List ByteArray))(a6 a1:Int)(nx:Int→Option R)(dn:Unit→Option R)(rt:Int→Option R):Option R:=bif decide (a1<a6)then al (ix a1 aa.length)<|al (ix a1 aa.length)<|bnd (qas (aa.getD a1.toNat af.z) f_1c0) fun r1=>bif r1 then rt a1 else al (ek .i64 (a1+1))<|nx (a1+1)else dn ()
def ia(aa:(List af))(f_1c0:(List ByteArray))(a6 s0:Int):Option (Unit⊕Int):=bi (fun a=>ck aa f_1c0 a6 a (fun a' =>some (.next a')) (fun e=>some (.done e)) (fun r=>some (.ret r))) s0
def gz:Shp:=⟨[(0, .d false (.slice af.ty)),jpg,qwy,q4y],[]⟩
def gv:Shp:=⟨[],[]⟩
def c8(aa:(List af))(f_1c0:(List ByteArray)):Option Int:=bnd (ia aa f_1c0 (aa.length:Int) 0) fun oe2=>lk oe2 (fun e2=>some (-1)) (fun r=>some r)
def cg{R:Type}(del_1c0:(List ByteArray))(a3 hp:Int)(aa:(List af))(nx:(Int×Int×(List af))→Option R)(dn:(Int×(List af))→Option R)(rt:(List af)→Option R):Option R:=bif decide (hp<(aa.length:Int))then al (ix hp aa.length)<|al (ix hp aa.length)<|bnd (qas (aa.getD hp.toNat af.z) del_1c0) fun r2=>bif (!r2)then al (ix a3 aa.length)<|al (ix a3 aa.length)<|al (ek .i64 (a3+1))<|al (ek .i64 (hp+1))<|nx ((a3+1),(hp+1),(aa.set a3.toNat (aa.getD hp.toNat af.z)))else al (ek .i64 (hp+1))<|nx (a3,(hp+1),aa)else dn (a3,aa)
def gq(del_1c0:(List ByteArray))(s0:(Int×Int×(List af))):Option ((Int×(List af))⊕(List af)):=bi (fun a=>cg del_1c0 a.1 a.2.1 a.2.2 (fun a' =>some (.next a')) (fun e=>some (.done e)) (fun r=>some (.ret r))) s0
def gi:Shp:=⟨[jie,jpg,jfa,jpb],[qta]⟩
def gh:Shp:=⟨[jie,jfa],[qta]⟩
def cw(del_1c0:(List ByteArray))(aa:(List af)):Option (List af):=bnd (c8 aa del_1c0) fun r1=>bif decide (r1=(-1))then some aa else al (ek .i64 (r1+1))<|bnd (gq del_1c0 (r1,(r1+1),aa)) fun oe3=>lk oe3 (fun e3=>al (cut e3.1 (e3.2.length:Int) e3.2.length)<|al (cut 0 e3.1 (qi e3.2 e3.1.toNat ((e3.2.length:Int).toNat-e3.1.toNat) (List.replicate ((e3.2.length:Int).toNat-e3.1.toNat) (af.z:af))).length)<|some (((qi e3.2 e3.1.toNat ((e3.2.length:Int).toNat-e3.1.toNat) (List.replicate ((e3.2.length:Int).toNat-e3.1.toNat) (af.z:af))).drop 0).take (e3.1.toNat-0))) (fun r=>some r)
def yu(p4:qL1)(fd:(List (ByteArray×Bool)))(g7:qL2):Option ((List (ByteArray×Bool))×qL2):=bnd (k8 p4) fun r1=>bif (!((qz .str r1 fd).getD false))then bnd (k8 p4) fun r2=>al (room (g7.length+1) 24)<|some ((qcn .str r2 true fd),(g7++[p4]))else some (fd,g7)
def qdd{R:Type}(b5 f4:Int)(hb:qL2)(bk:Int)(a0:(List ae))(bl bo a9:Int)(b2:qL2)(add_10c0:(List (ByteArray×Bool)))(nx:(Int×qL2×(List (ByteArray×Bool)))→Option R)(dn:(qL2×(List (ByteArray×Bool)))→Option R)(rt:(Bool×qL2×qL2)→Option R):Option R:=bif decide (a9<f4)then al (ix a9 hb.length)<|al (ix a9 hb.length)<|bnd (yu (hb.getD a9.toNat []) add_10c0 b2) fun r1=>al (ek .i64 (a9+1))<|nx ((a9+1),r1.2,r1.1)else dn (b2,add_10c0)
def qsi(b5 f4:Int)(hb:qL2)(bk:Int)(a0:(List ae))(bl bo:Int)(s0:(Int×qL2×(List (ByteArray×Bool)))):Option ((qL2×(List (ByteArray×Bool)))⊕(Bool×qL2×qL2)):=bi (fun a=>qdd b5 f4 hb bk a0 bl bo a.1 a.2.1 a.2.2 (fun a' =>some (.next a')) (fun e=>some (.done e)) (fun r=>some (.ret r))) s0
def qph:Shp:=⟨[q7l,jsp,js2,q1x,(18, .own 0),jsv,jpz],[qi6,qcg,ja3,ja1,qi6,qoo]⟩
def qpg:Shp:=⟨[q7l,jsp,js2,q1x],[qi6,qcg,ja3,ja1,qi6,qoo]⟩
def qde{R:Type}(b5 i1:Int)(ml:(List ag))(gt:Int)(k0:qL2)(bk:Int)(a0:(List ae))(bl bo jc:Int)(b2:qL2)(add_10c0:(List (ByteArray×Bool)))(nx:(Int×qL2×(List (ByteArray×Bool)))→Option R)(dn:(qL2×(List (ByteArray×Bool)))→Option R)(rt:(Bool×qL2×qL2)→Option R):Option R:=bif decide (jc<gt)then al (ix jc ml.length)<|al (ix jc ml.length)<|bnd (yu (ml.getD jc.toNat ag.z).2.1 add_10c0 b2) fun r4=>al (ek .i64 (jc+1))<|nx ((jc+1),r4.2,r4.1)else dn (b2,add_10c0)
def qsj(b5 i1:Int)(ml:(List ag))(gt:Int)(k0:qL2)(bk:Int)(a0:(List ae))(bl bo:Int)(s0:(Int×qL2×(List (ByteArray×Bool)))):Option ((qL2×(List (ByteArray×Bool)))⊕(Bool×qL2×qL2)):=bi (fun a=>qde b5 i1 ml gt k0 bk a0 bl bo a.1 a.2.1 a.2.2 (fun a' =>some (.next a')) (fun e=>some (.done e)) (fun r=>some (.ret r))) s0
def qpj:Shp:=⟨[q7l,jsp,js2,q1x,jpy,(45, .nl false (.d true (.slice ag.ty))),(46, .d true qT0),(47, .d true qT0)],[qi6,qcg,ja3,ja1,qi6,qoo]⟩
def qpi:Shp:=⟨[q7l,jsp,js2,q1x,jpy],[qi6,qcg,ja3,ja1,qi6,qoo]⟩
def qdf{R:Type}(b5:Int)(k0:qL2)(bk:Int)(a0:(List ae))(bl bo i1:Int)(b2:qL2)(add_10c0:(List (ByteArray×Bool)))(nx:(Int×qL2×(List (ByteArray×Bool)))→Option R)(dn:qL2→Option R)(rt:(Bool×qL2×qL2)→Option R):Option R:=bif decide (i1<(b2.length:Int))then bif decide ((b2.length:Int)≤b5)then al (ix i1 b2.length)<|al (ix i1 b2.length)<|bnd (eh (bk,a0,bl,bo,()) (b2.getD i1.toNat [])) fun r3=>bnd (qsj b5 i1 r3 (r3.length:Int) k0 bk a0 bl bo (0,b2,add_10c0)) fun oe5=>lk oe5 (fun e5=>al (ek .i64 (i1+1))<|nx ((i1+1),e5.1,e5.2)) (fun r=>rt r)else dn b2 else dn b2
def qsk(b5:Int)(k0:qL2)(bk:Int)(a0:(List ae))(bl bo:Int)(s0:(Int×qL2×(List (ByteArray×Bool)))):Option (qL2⊕(Bool×qL2×qL2)):=bi (fun a=>qdf b5 k0 bk a0 bl bo a.1 a.2.1 a.2.2 (fun a' =>some (.next a')) (fun e=>some (.done e)) (fun r=>some (.ret r))) s0
def qpl:Shp:=⟨[q7l,jsp,js2,q1x,jpy],[qi6,qcg,ja3,ja1,qi6,qoo]⟩
def qpk:Shp:=⟨[q7l,(9, .ptr 1)],[qi6, .cs 38 1 1 (.cons (.own 2) .nil),qi6]⟩
def qcm(ad:a8)(b5:Int)(hc:qL2):Option (Bool×qL2×qL2):=bnd (qsi b5 (hc.length:Int) hc ad.1 ad.2.1 ad.2.2.1 ad.2.2.2.1 (0,[],[])) fun oe2=>lk oe2 (fun e2=>bnd (qsk b5 hc ad.1 ad.2.1 ad.2.2.1 ad.2.2.2.1 (0,e2.1,e2.2)) fun oe6=>lk oe6 (fun e6=>some (decide ((e6.length:Int)≤b5),hc,e6)) (fun r=>some r)) (fun r=>some r)
def k9(hs op:qL1):Option ByteArray:=bnd (k8 hs) fun r1=>al (decide (((ByteArray.size r1+ByteArray.size ⟨#[124]⟩:Nat):Int)≤9223372036854775807))<|bnd (k8 op) fun r2=>al (decide (((ByteArray.size (r1++⟨#[124]⟩)+ByteArray.size r2:Nat):Int)≤9223372036854775807))<|some ((r1++⟨#[124]⟩)++r2)
def o3(ad:a8):Option (Int×qL1):=bnd (qdt ad ad.2.2.2.1) fun r1=>some (r1.1,r1.2)
def ey{R:Type}(gy ha:qL1)(f0 ft:Int)(nx:Int→Option R)(dn:Unit→Option R)(rt:Bool→Option R):Option R:=bif decide (ft<f0)then al (ix ft gy.length)<|al (ix ft gy.length)<|al (ix ft ha.length)<|al (ix ft ha.length)<|bif (!decide ((gy.getD ft.toNat 0)=(ha.getD ft.toNat 0)))then rt false else al (ek .i64 (ft+1))<|nx (ft+1)else dn ()
def vc(gy ha:qL1)(f0 s0:Int):Option (Unit⊕Bool):=bi (fun a=>ey gy ha f0 a (fun a' =>some (.next a')) (fun e=>some (.done e)) (fun r=>some (.ret r))) s0
def qed:Shp:=⟨[jif,jcv,jpx,jpy],[]⟩
def qec:Shp:=⟨[],[]⟩
def bc(gy ha:qL1):Option Bool:=bif (!decide ((gy.length:Int)=(ha.length:Int)))then some false else bnd (vc gy ha (gy.length:Int) 0) fun oe1=>lk oe1 (fun e1=>some true) (fun r=>some r)
def mg{R:Type}(b0:qL1)(g0:(List ae))(k5 g1:Int)(hz:qL1)(nx:(Int×qL1)→Option R)(dn:qL1→Option R)(rt:(Int×qL1)→Option R):Option R:=bif decide (g1<k5)then al (ix g1 g0.length)<|al (ix g1 g0.length)<|bnd (rf (g0.getD g1.toNat ae.z) b0) fun r2=>bif r2 then al (room (hz.length+1) 8)<|al (ek .i64 (g1+1))<|nx ((g1+1),(hz++[g1]))else al (ek .i64 (g1+1))<|nx ((g1+1),hz)else dn hz
def qf1(b0:qL1)(g0:(List ae))(k5:Int)(s0:(Int×qL1)):Option (qL1⊕(Int×qL1)):=bi (fun a=>mg b0 g0 k5 a.1 a.2 (fun a' =>some (.next a')) (fun e=>some (.done e)) (fun r=>some (.ret r))) s0
def qpx:Shp:=⟨[jcv,jsm,(14, .d false (.slice ae.ty)),(15, .d true qT0),(16, .d true qT0)],[qmk]⟩
def qpw:Shp:=⟨[jsm],[qmk]⟩
def l4(ad:a8)(b0:qL1):Option (Int×qL1):=bnd (l5 ad b0) fun r1=>bif (!r1)then some (1,[])else bnd (qf1 b0 ad.2.1 (ad.2.1.length:Int) (0,[])) fun oe3=>lk oe3 (fun e3=>some (0,e3)) (fun r=>some r)
def se(hs op:qL1)(g7:(List (ByteArray×Bool))):Option (Bool×(List (ByteArray×Bool))):=bnd (k9 hs op) fun r1=>some (((qz .str r1 g7).getD false),g7)
def qaw(f5:ag)(fd:a8)(g7:ByteArray)(ob:ag)(p_3c0:(List (ByteArray×Bool))):Option (Bool×(List (ByteArray×Bool))):=al (ix 0 1)<|al (ix f5.1 fd.2.1.length)<|al (ix f5.1 fd.2.1.length)<|al (ix 0 1)<|bif (ByteArray.toList (fd.2.1.getD f5.1.toNat ae.z).1==ByteArray.toList g7)then al (ix 0 1)<|bnd (se ob.2.1 f5.2.1 p_3c0) fun r1=>some (r1.1,r1.2)else some (false,p_3c0)
def db{R:Type}(aa:(List ag))(f_1c0:a8)(f_1c1:ByteArray)(f_1c3:ag)(a6 a1:Int)(f_1c2c0:(List (ByteArray×Bool)))(nx:(Int×(List (ByteArray×Bool)))→Option R)(dn:(List (ByteArray×Bool))→Option R)(rt:(Int×(List (ByteArray×Bool)))→Option R):Option R:=bif decide (a1<a6)then al (ix a1 aa.length)<|al (ix a1 aa.length)<|bnd (qaw (aa.getD a1.toNat ag.z) f_1c0 f_1c1 f_1c3 f_1c2c0) fun r1=>bif r1.1 then rt (a1,r1.2)else al (ek .i64 (a1+1))<|nx ((a1+1),r1.2)else dn f_1c2c0
def j4(aa:(List ag))(f_1c0:a8)(f_1c1:ByteArray)(f_1c3:ag)(a6:Int)(s0:(Int×(List (ByteArray×Bool)))):Option ((List (ByteArray×Bool))⊕(Int×(List (ByteArray×Bool)))):=bi (fun a=>db aa f_1c0 f_1c1 f_1c3 a6 a.1 a.2 (fun a' =>some (.next a')) (fun e=>some (.done e)) (fun r=>some (.ret r))) s0
def jm:Shp:=⟨[jsk,q2s,qwy,q4y],[qr3,qmi,qoo]⟩
def jl:Shp:=⟨[],[qr3,qmi,qoo]⟩
def dx(aa:(List ag))(f_1c0:a8)(f_1c1:ByteArray)(f_1c3:ag)(f_1c2c0:(List (ByteArray×Bool))):Option (Int×(List (ByteArray×Bool))):=bnd (j4 aa f_1c0 f_1c1 f_1c3 (aa.length:Int) (0,f_1c2c0)) fun oe2=>lk oe2 (fun e2=>some ((-1),e2)) (fun r=>some r)
def bw(aa:(List ag))(f_1c0:a8)(f_1c1:ByteArray)(f_1c3:ag)(f_1c2c0:(List (ByteArray×Bool))):Option (Bool×(List (ByteArray×Bool))):=bnd (dx aa f_1c0 f_1c1 f_1c3 f_1c2c0) fun r1=>some (decide ((0:Int)≤r1.1),r1.2)
def zm{R:Type}(g3:qL1)(fr cc:(List ag))(le ev:Int)(b1:(List ae))(ex e0 dw:Int)(d0:(List ae))(ec ef cb:Int)(k0:(List (ByteArray×Bool)))(nx:(Int×(List (ByteArray×Bool)))→Option R)(dn:(List (ByteArray×Bool))→Option R)(rt:(Bool×(List (ByteArray×Bool)))→Option R):Option R:=bif decide (cb<le)then al (ix cb cc.length)<|al (ix cb cc.length)<|al (ix (cc.getD cb.toNat ag.z).1 b1.length)<|al (ix (cc.getD cb.toNat ag.z).1 b1.length)<|bif (ByteArray.toList (b1.getD (Int.toNat (cc.getD cb.toNat ag.z).1) ae.z).1==ByteArray.toList ⟨#[]⟩)then bnd (se (cc.getD cb.toNat ag.z).2.1 g3 k0) fun r8=>bif r8.1 then al (ek .i64 (cb+1))<|nx ((cb+1),r8.2)else bnd (bw fr (dw,d0,ec,ef,()) (b1.getD (Int.toNat (cc.getD cb.toNat ag.z).1) ae.z).1 (cc.getD cb.toNat ag.z) r8.2) fun r9=>bif (!r9.1)then rt (false,r9.2)else al (ek .i64 (cb+1))<|nx ((cb+1),r9.2)else bnd (bw fr (dw,d0,ec,ef,()) (b1.getD (Int.toNat (cc.getD cb.toNat ag.z).1) ae.z).1 (cc.getD cb.toNat ag.z) k0) fun r10=>bif (!r10.1)then rt (false,r10.2)else al (ek .i64 (cb+1))<|nx ((cb+1),r10.2)else dn k0
def qln(g3:qL1)(fr cc:(List ag))(le ev:Int)(b1:(List ae))(ex e0 dw:Int)(d0:(List ae))(ec ef:Int)(s0:(Int×(List (ByteArray×Bool)))):Option ((List (ByteArray×Bool))⊕(Bool×(List (ByteArray×Bool)))):=bi (fun a=>zm g3 fr cc le ev b1 ex e0 dw d0 ec ef a.1 a.2 (fun a' =>some (.next a')) (fun e=>some (.done e)) (fun r=>some (.ret r))) s0
def qjq:Shp:=⟨[jr9,js8,js9,jtc,jph,jpi,(59, .d true qT0),(60, .d true qT0)],[qt9,qoo,qcg,qcg,jpe]⟩
def qjp:Shp:=⟨[],[qt9,qoo]⟩
def zn{R:Type}(hw g3:qL1)(k0:(List (ByteArray×Bool)))(ev:Int)(b1:(List ae))(ex e0 dw:Int)(d0:(List ae))(ec ef:Int)(dn:Unit→Option R)(rt:(Bool×(List (ByteArray×Bool)))→Option R):Option R:=bnd (eh (dw,d0,ec,ef,()) g3) fun r5=>bnd (l4 (ev,b1,ex,e0,()) hw) fun r6=>bnd (eh (ev,b1,ex,e0,()) hw) fun r7=>bif decide ((r7.length:Int)<(r6.2.length:Int))then rt (false,k0)else bnd (qln g3 r5 r7 (r7.length:Int) ev b1 ex e0 dw d0 ec ef (0,k0)) fun oe11=>lk oe11 (fun e11=>rt (true,e11)) (fun r=>rt r)
def qa0(hw g3:qL1)(k0:(List (ByteArray×Bool)))(ev:Int)(b1:(List ae))(ex e0 dw:Int)(d0:(List ae))(ec ef:Int):Option (Unit⊕(Bool×(List (ByteArray×Bool)))):=zn hw g3 k0 ev b1 ex e0 dw d0 ec ef (fun e=>some (.inl e)) (fun r=>some (.inr r))
def qjs:Shp:=⟨[jsj,jr9,js8,js9,jtc],[qt9,qoo,qcg,qcg,jpe]⟩
def qjr:Shp:=⟨[],[]⟩
def qdb(ap av:a8)(hw g3:qL1)(in_4c0:(List (ByteArray×Bool))):Option (Bool×(List (ByteArray×Bool))):=bnd (o3 ap) fun r1=>bnd (o3 av) fun r2=>bnd (bc hw r1.2) fun r3=>bif r3 then bnd (bc g3 r2.2) fun r4=>bif (!r4)then some (false,in_4c0)else bnd (qa0 hw g3 in_4c0 ap.1 ap.2.1 ap.2.2.1 ap.2.2.2.1 av.1 av.2.1 av.2.2.1 av.2.2.2.1) fun oe12=>lk oe12 (fun e12=>none) (fun r=>some r)else bnd (qa0 hw g3 in_4c0 ap.1 ap.2.1 ap.2.2.1 ap.2.2.2.1 av.1 av.2.1 av.2.2.1 av.2.2.2.1) fun oe13=>lk oe13 (fun e13=>none) (fun r=>some r)
def oa(gx:ab)(fd g7:a8)(ob:(List (ByteArray×Bool))):Option (Bool×(List (ByteArray×Bool))):=al (ix 0 1)<|al (ix 0 1)<|bnd (qdb fd g7 gx.1 gx.2.1 ob) fun r1=>bif r1.1 then some (false,r1.2)else bnd (k9 gx.1 gx.2.1) fun r2=>some (true,(qxg .str r2 r1.2))
def ij{R:Type}(aa:(List ab))(f_1c0 f_1c1:a8)(a6 a1:Int)(f_1c3:(List (ByteArray×Bool)))(nx:(Int×(List (ByteArray×Bool)))→Option R)(dn:(List (ByteArray×Bool))→Option R)(rt:(Int×(List (ByteArray×Bool)))→Option R):Option R:=bif decide (a1<a6)then al (ix a1 aa.length)<|al (ix a1 aa.length)<|bnd (oa (aa.getD a1.toNat ab.z) f_1c0 f_1c1 f_1c3) fun r1=>bif r1.1 then rt (a1,r1.2)else al (ek .i64 (a1+1))<|nx ((a1+1),r1.2)else dn f_1c3
def qr(aa:(List ab))(f_1c0 f_1c1:a8)(a6:Int)(s0:(Int×(List (ByteArray×Bool)))):Option ((List (ByteArray×Bool))⊕(Int×(List (ByteArray×Bool)))):=bi (fun a=>ij aa f_1c0 f_1c1 a6 a.1 a.2 (fun a' =>some (.next a')) (fun e=>some (.done e)) (fun r=>some (.ret r))) s0
def qg:Shp:=⟨[qw2,(1, .fn 98 (.cons (.rp false a8.ty) (.cons (.rp false a8.ty) (.cons (.ptr 0) (.cons (.ptr 1) .nil))))),qwy,q4y],[qr3,qmi,qoo]⟩
def qf:Shp:=⟨[],[qr3,qmi,qoo]⟩
def kc(aa:(List ab))(f_1c0 f_1c1:a8)(f_1c3:(List (ByteArray×Bool))):Option (Int×(List (ByteArray×Bool))):=bnd (qr aa f_1c0 f_1c1 (aa.length:Int) (0,f_1c3)) fun oe2=>lk oe2 (fun e2=>some ((-1),e2)) (fun r=>some r)
def gp{R:Type}(del_1c0 del_1c1:a8)(a3 hp:Int)(aa:(List ab))(del_1c3:(List (ByteArray×Bool)))(nx:(Int×Int×(List ab)×(List (ByteArray×Bool)))→Option R)(dn:(Int×(List ab)×(List (ByteArray×Bool)))→Option R)(rt:((List ab)×(List (ByteArray×Bool)))→Option R):Option R:=bif decide (hp<(aa.length:Int))then al (ix hp aa.length)<|al (ix hp aa.length)<|bnd (oa (aa.getD hp.toNat ab.z) del_1c0 del_1c1 del_1c3) fun r2=>bif (!r2.1)then al (ix a3 aa.length)<|al (ix a3 aa.length)<|al (ek .i64 (a3+1))<|al (ek .i64 (hp+1))<|nx ((a3+1),(hp+1),(aa.set a3.toNat (aa.getD hp.toNat ab.z)),r2.2)else al (ek .i64 (hp+1))<|nx (a3,(hp+1),aa,r2.2)else dn (a3,aa,del_1c3)
def qa(del_1c0 del_1c1:a8)(s0:(Int×Int×(List ab)×(List (ByteArray×Bool)))):Option ((Int×(List ab)×(List (ByteArray×Bool)))⊕((List ab)×(List (ByteArray×Bool)))):=bi (fun a=>gp del_1c0 del_1c1 a.1 a.2.1 a.2.2.1 a.2.2.2 (fun a' =>some (.next a')) (fun e=>some (.done e)) (fun r=>some (.ret r))) s0
def pd:Shp:=⟨[jie,(1, .fn 98 (.cons (.rp false a8.ty) (.cons (.rp false a8.ty) (.cons (.ptr 1) (.cons (.ptr 2) .nil))))),jfa,jpb],[qoy,jaa,jaz,qoo]⟩
def pc:Shp:=⟨[jie,jfa],[qoy,jaa,jaz,qoo]⟩
def jv(del_1c0 del_1c1:a8)(aa:(List ab))(del_1c3:(List (ByteArray×Bool))):Option ((List ab)×(List (ByteArray×Bool))):=bnd (kc aa del_1c0 del_1c1 del_1c3) fun r1=>bif decide (r1.1=(-1))then some (aa,r1.2)else al (ek .i64 (r1.1+1))<|bnd (qa del_1c0 del_1c1 (r1.1,(r1.1+1),aa,r1.2)) fun oe3=>lk oe3 (fun e3=>al (cut e3.1 (e3.2.1.length:Int) e3.2.1.length)<|al (cut 0 e3.1 (qi e3.2.1 e3.1.toNat ((e3.2.1.length:Int).toNat-e3.1.toNat) (List.replicate ((e3.2.1.length:Int).toNat-e3.1.toNat) (ab.z:ab))).length)<|some ((((qi e3.2.1 e3.1.toNat ((e3.2.1.length:Int).toNat-e3.1.toNat) (List.replicate ((e3.2.1.length:Int).toNat-e3.1.toNat) (ab.z:ab))).drop 0).take (e3.1.toNat-0)),e3.2.2)) (fun r=>some r)
def zh{R:Type}(nn:qL1)(a9 fs lc:Int)(f4 hn:qL2)(ch:Int)(b4:(List ae))(cv cy bd:Int)(a5:(List ae))(be bf hl:Int)(k2:(List ab))(h3:(List (ByteArray×Bool)))(nx:(Int×(List ab)×(List (ByteArray×Bool)))→Option R)(dn:((List ab)×(List (ByteArray×Bool)))→Option R)(rt:(qL2×qL2×(List ab))→Option R):Option R:=bif decide (hl<lc)then al (ix hl hn.length)<|al (ix hl hn.length)<|al (room (k2.length+1) 48)<|bnd (k9 nn (hn.getD hl.toNat [])) fun r1=>al (ek .i64 (hl+1))<|nx ((hl+1),(k2++[(nn,(hn.getD hl.toNat []),())]),(qcn .str r1 true h3))else dn (k2,h3)
def qlf(nn:qL1)(a9 fs lc:Int)(f4 hn:qL2)(ch:Int)(b4:(List ae))(cv cy bd:Int)(a5:(List ae))(be bf:Int)(s0:(Int×(List ab)×(List (ByteArray×Bool)))):Option (((List ab)×(List (ByteArray×Bool)))⊕(qL2×qL2×(List ab))):=bi (fun a=>zh nn a9 fs lc f4 hn ch b4 cv cy bd a5 be bf a.1 a.2.1 a.2.2 (fun a' =>some (.next a')) (fun e=>some (.done e)) (fun r=>some (.ret r))) s0
def qi8:Shp:=⟨[(3, .own 1),jsy,js0,jsf,jsu,(12, .d true qT1),(19, .own 0),jpz,jsn,(25, .own 1),(26, .d true qT0),(27, .d true qT0)],[qi6,qi6,qcg,qcg,qoy,jig,qoo]⟩
def qi7:Shp:=⟨[(3, .own 1),jsy,js0,jsf,jsu,(19, .own 0),jpz,jsn],[qi6,qi6,qcg,qcg,qoy,jig,qoo]⟩
def zi{R:Type}(a9:Int)(f4 hn:qL2)(ch:Int)(b4:(List ae))(cv cy bd:Int)(a5:(List ae))(be bf fs:Int)(k2:(List ab))(h3:(List (ByteArray×Bool)))(nx:(Int×(List ab)×(List (ByteArray×Bool)))→Option R)(dn:((List ab)×(List (ByteArray×Bool)))→Option R)(rt:(qL2×qL2×(List ab))→Option R):Option R:=bif decide (fs<a9)then al (ix fs f4.length)<|al (ix fs f4.length)<|bnd (qlf (f4.getD fs.toNat []) a9 fs (hn.length:Int) f4 hn ch b4 cv cy bd a5 be bf (0,k2,h3)) fun oe2=>lk oe2 (fun e2=>al (ek .i64 (fs+1))<|nx ((fs+1),e2.1,e2.2)) (fun r=>rt r)else dn (k2,h3)
def qlg(a9:Int)(f4 hn:qL2)(ch:Int)(b4:(List ae))(cv cy bd:Int)(a5:(List ae))(be bf:Int)(s0:(Int×(List ab)×(List (ByteArray×Bool)))):Option (((List ab)×(List (ByteArray×Bool)))⊕(qL2×qL2×(List ab))):=bi (fun a=>zi a9 f4 hn ch b4 cv cy bd a5 be bf a.1 a.2.1 a.2.2 (fun a' =>some (.next a')) (fun e=>some (.done e)) (fun r=>some (.ret r))) s0
def qja:Shp:=⟨[(3, .own 1),jsy,js0,jsf,jsu,(19, .own 0),jpz,jsn],[qi6,qi6,qcg,qcg,qoy,jig,qoo]⟩
def qi9:Shp:=⟨[jsy,js0,jsf,jsu],[qi6,qi6,qcg,qcg,qoy,jig,qoo]⟩
def zj{R:Type}(k0 k1:qL2)(ch:Int)(b4:(List ae))(cv cy bd:Int)(a5:(List ae))(be bf:Int)(m1:Bool)(k2:(List ab))(h3:(List (ByteArray×Bool)))(nx:(Bool×(List ab)×(List (ByteArray×Bool)))→Option R)(dn:(List ab)→Option R)(rt:(qL2×qL2×(List ab))→Option R):Option R:=bif m1 then bnd (jv (ch,b4,cv,cy,()) (bd,a5,be,bf,()) k2 h3) fun r4=>nx (decide ((r4.1.length:Int)<(k2.length:Int)),r4.1,r4.2)else dn k2
def qlh(k0 k1:qL2)(ch:Int)(b4:(List ae))(cv cy bd:Int)(a5:(List ae))(be bf:Int)(s0:(Bool×(List ab)×(List (ByteArray×Bool)))):Option ((List ab)⊕(qL2×qL2×(List ab))):=bi (fun a=>zj k0 k1 ch b4 cv cy bd a5 be bf a.1 a.2.1 a.2.2 (fun a' =>some (.next a')) (fun e=>some (.done e)) (fun r=>some (.ret r))) s0
def qjc:Shp:=⟨[jsy,js0,(9, .own 4),jsu,(15, .ptr 6),(16, .d true .bool)],[qi6,qi6,qcg,qcg,qoy, .cs 116 1 1 (.cons (.mp 7) .nil), .cs 45 1 1 (.cons (.fn 96 (.cons (.ptr 5) .nil)) .nil),qoo]⟩
def qjb:Shp:=⟨[jss],[qi6,qi6,qoy]⟩
def qda(ap av:a8)(n0 hn:qL2):Option (qL2×qL2×(List ab)):=bnd (qlg (n0.length:Int) n0 hn ap.1 ap.2.1 ap.2.2.1 ap.2.2.2.1 av.1 av.2.1 av.2.2.1 av.2.2.2.1 (0,[],[])) fun oe3=>lk oe3 (fun e3=>bnd (qlh n0 hn ap.1 ap.2.1 ap.2.2.1 ap.2.2.2.1 av.1 av.2.1 av.2.2.1 av.2.2.2.1 (true,e3.1,e3.2)) fun oe5=>lk oe5 (fun e5=>some (n0,hn,e5)) (fun r=>some r)) (fun r=>some r)
def qhe(q6:ab)(fd:qL1)(g7:af):Option Bool:=al (ix 0 1)<|bnd (bc q6.1 fd) fun r1=>bif r1 then al (ix 0 1)<|bnd (bc q6.2.1 g7.2.1) fun r2=>some r2 else some false
def kb{R:Type}(aa:(List ab))(f_1c0:qL1)(f_1c1:af)(a6 a1:Int)(nx:Int→Option R)(dn:Unit→Option R)(rt:Int→Option R):Option R:=bif decide (a1<a6)then al (ix a1 aa.length)<|al (ix a1 aa.length)<|bnd (qhe (aa.getD a1.toNat ab.z) f_1c0 f_1c1) fun r1=>bif r1 then rt a1 else al (ek .i64 (a1+1))<|nx (a1+1)else dn ()
def tq(aa:(List ab))(f_1c0:qL1)(f_1c1:af)(a6 s0:Int):Option (Unit⊕Int):=bi (fun a=>kb aa f_1c0 f_1c1 a6 a (fun a' =>some (.next a')) (fun e=>some (.done e)) (fun r=>some (.ret r))) s0
def s5:Shp:=⟨[qw2,(1, .fn 69 (.cons (.rp false qT1) (.cons (.rp false af.ty) .nil))),qwy,q4y],[]⟩
def sy:Shp:=⟨[],[]⟩
def ma(aa:(List ab))(f_1c0:qL1)(f_1c1:af):Option Int:=bnd (tq aa f_1c0 f_1c1 (aa.length:Int) 0) fun oe2=>lk oe2 (fun e2=>some (-1)) (fun r=>some r)
def j8(aa:(List ab))(f_1c0:qL1)(f_1c1:af):Option Bool:=bnd (ma aa f_1c0 f_1c1) fun r1=>some (decide ((0:Int)≤r1))
def qfq{R:Type}(g6:Int)(p3 ms:(List af))(pl ch:Int)(b4:(List ae))(cv cy bd:Int)(a5:(List ae))(be bf:Int)(ka ke:qL1)(ki:(List ab))(lt:qL1)(hq:Int)(lr:qL2)(nx:(Int×qL2)→Option R)(dn:qL2→Option R)(rt:(f9×Int)→Option R):Option R:=bif decide (hq<pl)then al (ix hq ms.length)<|al (ix hq ms.length)<|al (room (lr.length+1) 24)<|al (ek .i64 (hq+1))<|nx ((hq+1),(lr++[(ms.getD hq.toNat af.z).2.1]))else dn lr
def quu(g6:Int)(p3 ms:(List af))(pl ch:Int)(b4:(List ae))(cv cy bd:Int)(a5:(List ae))(be bf:Int)(ka ke:qL1)(ki:(List ab))(lt:qL1)(s0:(Int×qL2)):Option (qL2⊕(f9×Int)):=bi (fun a=>qfq g6 p3 ms pl ch b4 cv cy bd a5 be bf ka ke ki lt a.1 a.2 (fun a' =>some (.next a')) (fun e=>some (.done e)) (fun r=>some (.ret r))) s0
def qr8:Shp:=⟨[jsg,jsq,jsr,(8, .ptr 2),(10, .ptr 3),jsh,(15, .nl false (.own 4)),(54, .d true (.slice af.ty)),(55, .d true qT0),(56, .d true qT0)],[qcg,qcg,ql6,jpc,qi6]⟩
def qr7:Shp:=⟨[jsg,jsq,jsr,(8, .ptr 2),(10, .ptr 3),jsh,(15, .nl false (.own 4))],[qcg,qcg,ql6,jpc,qi6]⟩
def qfr{R:Type}(kx:(List ab))(nf:Int)(ka ke:qL1)(ki:(List ab))(mv mx:qL1)(j0:Int)(lv:(List ab))(nx:(Int×(List ab))→Option R)(dn:(List ab)→Option R)(rt:(f9×Int)→Option R):Option R:=bif decide (j0<nf)then al (ix j0 kx.length)<|al (ix j0 kx.length)<|bnd (br (kx.getD j0.toNat ab.z).1) fun r10=>bnd (br (kx.getD j0.toNat ab.z).2.1) fun r11=>al (room (lv.length+1) 48)<|al (ek .i64 (j0+1))<|nx ((j0+1),(lv++[(r10,r11,())]))else dn lv
def quv(kx:(List ab))(nf:Int)(ka ke:qL1)(ki:(List ab))(mv mx:qL1)(s0:(Int×(List ab))):Option ((List ab)⊕(f9×Int)):=bi (fun a=>qfr kx nf ka ke ki mv mx a.1 a.2 (fun a' =>some (.next a')) (fun e=>some (.done e)) (fun r=>some (.ret r))) s0
def qsa:Shp:=⟨[jso,(25, .ptr 1),(116, .d true (.slice ab.ty)),(117, .d true qT0),(118, .d true qT0)],[ql6,jay,qoy]⟩
def qr9:Shp:=⟨[jso,(25, .ptr 1)],[ql6,jay,qoy]⟩
def qfs{R:Type}(h2:(List ab))(i0:(List af))(nd:Int)(ka ke:qL1)(ki:(List ab))(lt:qL1)(h0:Int)(nx:Int→Option R)(dn:Unit→Option R)(rt:(f9×Int)→Option R):Option R:=bif decide (h0<nd)then al (ix h0 i0.length)<|al (ix h0 i0.length)<|bnd (j8 h2 lt (i0.getD h0.toNat af.z)) fun r8=>bif r8 then bnd (br (i0.getD h0.toNat af.z).2.1) fun r9=>bnd (quv h2 (h2.length:Int) ka ke ki r9 (i0.getD h0.toNat af.z).2.2.1 (0,[])) fun oe12=>lk oe12 (fun e12=>rt ((r9,(i0.getD h0.toNat af.z).2.2.1,e12,()),0)) (fun r=>rt r)else al (ek .i64 (h0+1))<|nx (h0+1)else dn ()
def quw(h2:(List ab))(i0:(List af))(nd:Int)(ka ke:qL1)(ki:(List ab))(lt:qL1)(s0:Int):Option (Unit⊕(f9×Int)):=bi (fun a=>qfs h2 i0 nd ka ke ki lt a (fun a' =>some (.next a')) (fun e=>some (.done e)) (fun r=>some (.ret r))) s0
def qsc:Shp:=⟨[jso,(10, .ptr 1),(22, .d true (.slice ab.ty)),(101, .d true (.slice af.ty)),(102, .d true qT0),(103, .d true qT0)],[ql6,jpc]⟩
def qsb:Shp:=⟨[jso],[ql6]⟩
def qey(ap av:a8)(lp:qL1)(g6:Int):Option (f9×Int):=bnd (qj7 ap av lp g6) fun r1=>bif (!decide (r1.2.1=0))then some (([],[],[],()),r1.2.1)else bnd (qb2 av r1.2.2 g6) fun r2=>bif (!r2.1)then some (([],[],[],()),13)else bnd (cw r1.2.2 r2.2) fun r3=>bnd (quu g6 r3 r3 (r3.length:Int) ap.1 ap.2.1 ap.2.2.1 ap.2.2.2.1 av.1 av.2.1 av.2.2.1 av.2.2.2.1 [] [] [] r1.1 (0,[])) fun oe4=>lk oe4 (fun e4=>bnd (qcm ap g6 [r1.1]) fun r5=>al (decide (r5.2.1.length=1))<|bnd (qcm av g6 e4) fun r6=>al (decide (r6.2.1.length=e4.length))<|bif (!r5.1)then some (([],[],[],()),13)else bif (!r6.1)then some (([],[],[],()),13)else al (ek .i64 ((r5.2.2.length:Int)*(r6.2.2.length:Int)))<|bif decide ((20000:Int)<((r5.2.2.length:Int)*(r6.2.2.length:Int)))then some (([],[],[],()),13)else bnd (qda ap av r5.2.2 r6.2.2) fun r7=>al (decide (r7.1.length=r5.2.2.length))<|al (decide (r7.2.1.length=r6.2.2.length))<|bnd (quw r7.2.2 r3 (r3.length:Int) [] [] [] r1.1 0) fun oe13=>lk oe13 (fun e13=>some (([],[],[],()),10)) (fun r=>some r)) (fun r=>some r)
def nt(ad:a8)(b0:qL1):Option Bool:=bnd (l4 ad b0) fun r1=>some (decide (r1.1=0))
def yv(gx:ab)(fd g7:a8):Option Bool:=al (ix 0 1)<|bnd (nt fd gx.1) fun r1=>bif (!r1)then some true else al (ix 0 1)<|bnd (nt g7 gx.2.1) fun r2=>some (!r2)
def cm{R:Type}(aa:(List ab))(f_1c0 f_1c1:a8)(a6 a1:Int)(nx:Int→Option R)(dn:Unit→Option R)(rt:Int→Option R):Option R:=bif decide (a1<a6)then al (ix a1 aa.length)<|al (ix a1 aa.length)<|bnd (yv (aa.getD a1.toNat ab.z) f_1c0 f_1c1) fun r1=>bif r1 then rt a1 else al (ek .i64 (a1+1))<|nx (a1+1)else dn ()
def ks(aa:(List ab))(f_1c0 f_1c1:a8)(a6 s0:Int):Option (Unit⊕Int):=bi (fun a=>cm aa f_1c0 f_1c1 a6 a (fun a' =>some (.next a')) (fun e=>some (.done e)) (fun r=>some (.ret r))) s0
def s8:Shp:=⟨[qw2,(1, .fn 77 (.cons (.rp false a8.ty) (.cons (.rp false a8.ty) .nil))),qwy,q4y],[]⟩
def s7:Shp:=⟨[],[]⟩
def fq(aa:(List ab))(f_1c0 f_1c1:a8):Option Int:=bnd (ks aa f_1c0 f_1c1 (aa.length:Int) 0) fun oe2=>lk oe2 (fun e2=>some (-1)) (fun r=>some r)
def eo(aa:(List ab))(f_1c0 f_1c1:a8):Option Bool:=bnd (fq aa f_1c0 f_1c1) fun r1=>some (decide ((0:Int)≤r1))
def rc(ap av:a8)(c5:(List ab)):Option Bool:=bnd (eo c5 ap av) fun r1=>some (!r1)
def mu{R:Type}(gy ha:(List ByteArray))(f0 ft:Int)(nx:Int→Option R)(dn:Unit→Option R)(rt:Bool→Option R):Option R:=bif decide (ft<f0)then al (ix ft gy.length)<|al (ix ft gy.length)<|al (ix ft ha.length)<|al (ix ft ha.length)<|bif (!(ByteArray.toList (gy.getD ft.toNat ⟨#[]⟩)==ByteArray.toList (ha.getD ft.toNat ⟨#[]⟩)))then rt false else al (ek .i64 (ft+1))<|nx (ft+1)else dn ()
def zc(gy ha:(List ByteArray))(f0 s0:Int):Option (Unit⊕Bool):=bi (fun a=>mu gy ha f0 a (fun a' =>some (.next a')) (fun e=>some (.done e)) (fun r=>some (.ret r))) s0
def yi:Shp:=⟨[(0, .d false (.slice .str)),jpf,jpx,jpy],[]⟩
def yh:Shp:=⟨[],[]⟩
def pf(gy ha:(List ByteArray)):Option Bool:=bif (!decide ((gy.length:Int)=(ha.length:Int)))then some false else bnd (zc gy ha (gy.length:Int) 0) fun oe1=>lk oe1 (fun e1=>some true) (fun r=>some r)
def qfp(gx:ab)(fd g7:qL1):Option Bool:=al (ix 0 1)<|bnd (bc gx.1 fd) fun r1=>bif r1 then al (ix 0 1)<|bnd (bc gx.2.1 g7) fun r2=>some r2 else some false
def j9{R:Type}(aa:(List ab))(f_1c0 f_1c1:qL1)(a6 a1:Int)(nx:Int→Option R)(dn:Unit→Option R)(rt:Int→Option R):Option R:=bif decide (a1<a6)then al (ix a1 aa.length)<|al (ix a1 aa.length)<|bnd (qfp (aa.getD a1.toNat ab.z) f_1c0 f_1c1) fun r1=>bif r1 then rt a1 else al (ek .i64 (a1+1))<|nx (a1+1)else dn ()
def tn(aa:(List ab))(f_1c0 f_1c1:qL1)(a6 s0:Int):Option (Unit⊕Int):=bi (fun a=>j9 aa f_1c0 f_1c1 a6 a (fun a' =>some (.next a')) (fun e=>some (.done e)) (fun r=>some (.ret r))) s0
def sw:Shp:=⟨[qw2,(1, .fn 47 (.cons (.rp false qT1) (.cons (.rp false qT1) .nil))),qwy,q4y],[]⟩
def su:Shp:=⟨[],[]⟩
def l9(aa:(List ab))(f_1c0 f_1c1:qL1):Option Int:=bnd (tn aa f_1c0 f_1c1 (aa.length:Int) 0) fun oe2=>lk oe2 (fun e2=>some (-1)) (fun r=>some r)
def j7(aa:(List ab))(f_1c0 f_1c1:qL1):Option Bool:=bnd (l9 aa f_1c0 f_1c1) fun r1=>some (decide ((0:Int)≤r1))
def ir(hs op:qL1)(g7:(List (ByteArray×Bool))):Option (Bool×(List (ByteArray×Bool))):=bnd (k9 hs op) fun r1=>some (((qz .str r1 g7).getD false),g7)
def m9(f5:ag)(fd:a8)(g7:ByteArray)(ob:ag)(p_3c0:(List (ByteArray×Bool))):Option (Bool×(List (ByteArray×Bool))):=al (ix 0 1)<|al (ix f5.1 fd.2.1.length)<|al (ix f5.1 fd.2.1.length)<|al (ix 0 1)<|bif (ByteArray.toList (fd.2.1.getD f5.1.toNat ae.z).1==ByteArray.toList g7)then al (ix 0 1)<|bnd (ir ob.2.1 f5.2.1 p_3c0) fun r1=>some (r1.1,r1.2)else some (false,p_3c0)
def bg{R:Type}(aa:(List ag))(f_1c0:a8)(f_1c1:ByteArray)(f_1c3:ag)(a6 a1:Int)(f_1c2c0:(List (ByteArray×Bool)))(nx:(Int×(List (ByteArray×Bool)))→Option R)(dn:(List (ByteArray×Bool))→Option R)(rt:(Int×(List (ByteArray×Bool)))→Option R):Option R:=bif decide (a1<a6)then al (ix a1 aa.length)<|al (ix a1 aa.length)<|bnd (m9 (aa.getD a1.toNat ag.z) f_1c0 f_1c1 f_1c3 f_1c2c0) fun r1=>bif r1.1 then rt (a1,r1.2)else al (ek .i64 (a1+1))<|nx ((a1+1),r1.2)else dn f_1c2c0
def df(aa:(List ag))(f_1c0:a8)(f_1c1:ByteArray)(f_1c3:ag)(a6:Int)(s0:(Int×(List (ByteArray×Bool)))):Option ((List (ByteArray×Bool))⊕(Int×(List (ByteArray×Bool)))):=bi (fun a=>bg aa f_1c0 f_1c1 f_1c3 a6 a.1 a.2 (fun a' =>some (.next a')) (fun e=>some (.done e)) (fun r=>some (.ret r))) s0
def jj:Shp:=⟨[jsk,q2s,qwy,q4y],[qrv,qmi,qoo]⟩
def ji:Shp:=⟨[],[qrv,qmi,qoo]⟩
def b7(aa:(List ag))(f_1c0:a8)(f_1c1:ByteArray)(f_1c3:ag)(f_1c2c0:(List (ByteArray×Bool))):Option (Int×(List (ByteArray×Bool))):=bnd (df aa f_1c0 f_1c1 f_1c3 (aa.length:Int) (0,f_1c2c0)) fun oe2=>lk oe2 (fun e2=>some ((-1),e2)) (fun r=>some r)
def aw(aa:(List ag))(f_1c0:a8)(f_1c1:ByteArray)(f_1c3:ag)(f_1c2c0:(List (ByteArray×Bool))):Option (Bool×(List (ByteArray×Bool))):=bnd (b7 aa f_1c0 f_1c1 f_1c3 f_1c2c0) fun r1=>some (decide ((0:Int)≤r1.1),r1.2)
def fg{R:Type}(g3:qL1)(fr cc:(List ag))(le ev:Int)(b1:(List ae))(ex e0 dw:Int)(d0:(List ae))(ec ef cb:Int)(k0:(List (ByteArray×Bool)))(nx:(Int×(List (ByteArray×Bool)))→Option R)(dn:(List (ByteArray×Bool))→Option R)(rt:(Bool×(List (ByteArray×Bool)))→Option R):Option R:=bif decide (cb<le)then al (ix cb cc.length)<|al (ix cb cc.length)<|al (ix (cc.getD cb.toNat ag.z).1 b1.length)<|al (ix (cc.getD cb.toNat ag.z).1 b1.length)<|bif (ByteArray.toList (b1.getD (Int.toNat (cc.getD cb.toNat ag.z).1) ae.z).1==ByteArray.toList ⟨#[]⟩)then bnd (ir (cc.getD cb.toNat ag.z).2.1 g3 k0) fun r8=>bif r8.1 then al (ek .i64 (cb+1))<|nx ((cb+1),r8.2)else bnd (aw fr (dw,d0,ec,ef,()) (b1.getD (Int.toNat (cc.getD cb.toNat ag.z).1) ae.z).1 (cc.getD cb.toNat ag.z) r8.2) fun r9=>bif (!r9.1)then rt (false,r9.2)else al (ek .i64 (cb+1))<|nx ((cb+1),r9.2)else bnd (aw fr (dw,d0,ec,ef,()) (b1.getD (Int.toNat (cc.getD cb.toNat ag.z).1) ae.z).1 (cc.getD cb.toNat ag.z) k0) fun r10=>bif (!r10.1)then rt (false,r10.2)else al (ek .i64 (cb+1))<|nx ((cb+1),r10.2)else dn k0
def qax(g3:qL1)(fr cc:(List ag))(le ev:Int)(b1:(List ae))(ex e0 dw:Int)(d0:(List ae))(ec ef:Int)(s0:(Int×(List (ByteArray×Bool)))):Option ((List (ByteArray×Bool))⊕(Bool×(List (ByteArray×Bool)))):=bi (fun a=>fg g3 fr cc le ev b1 ex e0 dw d0 ec ef a.1 a.2 (fun a' =>some (.next a')) (fun e=>some (.done e)) (fun r=>some (.ret r))) s0
def qjl:Shp:=⟨[jr9,js8,js9,jtc,jph,jpi,(59, .d true qT0),(60, .d true qT0)],[qt9,qoo,qcg,qcg,jpd]⟩
def qjk:Shp:=⟨[],[qt9,qoo]⟩
def qp{R:Type}(hw g3:qL1)(k0:(List (ByteArray×Bool)))(ev:Int)(b1:(List ae))(ex e0 dw:Int)(d0:(List ae))(ec ef:Int)(dn:Unit→Option R)(rt:(Bool×(List (ByteArray×Bool)))→Option R):Option R:=bnd (eh (dw,d0,ec,ef,()) g3) fun r5=>bnd (l4 (ev,b1,ex,e0,()) hw) fun r6=>bnd (eh (ev,b1,ex,e0,()) hw) fun r7=>bif decide ((r7.length:Int)<(r6.2.length:Int))then rt (false,k0)else bnd (qax g3 r5 r7 (r7.length:Int) ev b1 ex e0 dw d0 ec ef (0,k0)) fun oe11=>lk oe11 (fun e11=>rt (true,e11)) (fun r=>rt r)
def na(hw g3:qL1)(k0:(List (ByteArray×Bool)))(ev:Int)(b1:(List ae))(ex e0 dw:Int)(d0:(List ae))(ec ef:Int):Option (Unit⊕(Bool×(List (ByteArray×Bool)))):=qp hw g3 k0 ev b1 ex e0 dw d0 ec ef (fun e=>some (.inl e)) (fun r=>some (.inr r))
def qjn:Shp:=⟨[jsj,jr9,js8,js9,jtc],[qt9,qoo,qcg,qcg,jpd]⟩
def qjm:Shp:=⟨[],[]⟩
def pn(ap av:a8)(hw g3:qL1)(in_4c0:(List (ByteArray×Bool))):Option (Bool×(List (ByteArray×Bool))):=bnd (o3 ap) fun r1=>bnd (o3 av) fun r2=>bnd (bc hw r1.2) fun r3=>bif r3 then bnd (bc g3 r2.2) fun r4=>bif (!r4)then some (false,in_4c0)else bnd (na hw g3 in_4c0 ap.1 ap.2.1 ap.2.2.1 ap.2.2.2.1 av.1 av.2.1 av.2.2.1 av.2.2.2.1) fun oe12=>lk oe12 (fun e12=>none) (fun r=>some r)else bnd (na hw g3 in_4c0 ap.1 ap.2.1 ap.2.2.1 ap.2.2.2.1 av.1 av.2.1 av.2.2.1 av.2.2.2.1) fun oe13=>lk oe13 (fun e13=>none) (fun r=>some r)
def nc(gx:ab)(fd g7:a8)(p_3c0:(List (ByteArray×Bool))):Option (Bool×(List (ByteArray×Bool))):=al (ix 0 1)<|al (ix 0 1)<|bnd (pn fd g7 gx.1 gx.2.1 p_3c0) fun r1=>some ((!r1.1),r1.2)
def ca{R:Type}(aa:(List ab))(f_1c0 f_1c1:a8)(a6 a1:Int)(f_1c2c0:(List (ByteArray×Bool)))(nx:(Int×(List (ByteArray×Bool)))→Option R)(dn:(List (ByteArray×Bool))→Option R)(rt:(Int×(List (ByteArray×Bool)))→Option R):Option R:=bif decide (a1<a6)then al (ix a1 aa.length)<|al (ix a1 aa.length)<|bnd (nc (aa.getD a1.toNat ab.z) f_1c0 f_1c1 f_1c2c0) fun r1=>bif r1.1 then rt (a1,r1.2)else al (ek .i64 (a1+1))<|nx ((a1+1),r1.2)else dn f_1c2c0
def ja(aa:(List ab))(f_1c0 f_1c1:a8)(a6:Int)(s0:(Int×(List (ByteArray×Bool)))):Option ((List (ByteArray×Bool))⊕(Int×(List (ByteArray×Bool)))):=bi (fun a=>ca aa f_1c0 f_1c1 a6 a.1 a.2 (fun a' =>some (.next a')) (fun e=>some (.done e)) (fun r=>some (.ret r))) s0
def qd:Shp:=⟨[qw2,(1, .fn 83 (.cons (.rp false a8.ty) (.cons (.rp false a8.ty) (.cons (.ptr 0) .nil)))),qwy,q4y],[qrv,qmi,qoo]⟩
def qc:Shp:=⟨[],[qrv,qmi,qoo]⟩
def ep(aa:(List ab))(f_1c0 f_1c1:a8)(f_1c2c0:(List (ByteArray×Bool))):Option (Int×(List (ByteArray×Bool))):=bnd (ja aa f_1c0 f_1c1 (aa.length:Int) (0,f_1c2c0)) fun oe2=>lk oe2 (fun e2=>some ((-1),e2)) (fun r=>some r)
def lb{R:Type}(c5 f0:(List ab))(ft hh:Int)(hi:(List ae))(hj hk hd:Int)(he:(List ae))(hf hg g0:Int)(p1:(List (ByteArray×Bool)))(nx:(Int×(List (ByteArray×Bool)))→Option R)(dn:(List (ByteArray×Bool))→Option R)(rt:Int→Option R):Option R:=bif decide (g0<ft)then al (ix g0 f0.length)<|al (ix g0 f0.length)<|bnd (k9 (f0.getD g0.toNat ab.z).1 (f0.getD g0.toNat ab.z).2.1) fun r1=>al (ek .i64 (g0+1))<|nx ((g0+1),(qcn .str r1 true p1))else dn p1
def zp(c5 f0:(List ab))(ft hh:Int)(hi:(List ae))(hj hk hd:Int)(he:(List ae))(hf hg:Int)(s0:(Int×(List (ByteArray×Bool)))):Option ((List (ByteArray×Bool))⊕Int):=bi (fun a=>lb c5 f0 ft hh hi hj hk hd he hf hg a.1 a.2 (fun a' =>some (.next a')) (fun e=>some (.done e)) (fun r=>some (.ret r))) s0
def qhq:Shp:=⟨[q1y,jcu,js7,jta,(12, .d false (.slice ab.ty)),jpy,(14, .d true qT0)],[qcg,qcg,jaz,qoo]⟩
def qhp:Shp:=⟨[q1y,jcu,js7,jta],[qcg,qcg,jaz,qoo]⟩
def la(ap av:a8)(c5:(List ab)):Option Int:=bnd (zp c5 c5 (c5.length:Int) ap.1 ap.2.1 ap.2.2.1 ap.2.2.2.1 av.1 av.2.1 av.2.2.1 av.2.2.2.1 (0,[])) fun oe2=>lk oe2 (fun e2=>bnd (ep c5 ap av e2) fun r3=>some r3.1) (fun r=>some r)
def qcl(ap av:a8)(lp:qL1)(lo:f9):Option Bool:=bnd (ug ap av) fun r1=>bif (!decide (r1=0))then some false else bif decide ((20000:Int)<(lo.2.2.1.length:Int))then some false else bnd (rc ap av lo.2.2.1) fun r2=>bif (!r2)then some false else bnd (ry ap lp) fun r3=>bnd (ry av lo.2.1) fun r4=>bif (!r3.2.1)then some false else bif (!r4.2.1)then some false else bnd (pf r3.2.2 r4.2.2) fun r5=>bif (!r5)then some false else bnd (bc r4.1 lo.1) fun r6=>bif (!r6)then some false else bnd (j7 lo.2.2.1 r3.1 r4.1) fun r7=>bif (!r7)then some false else bnd (la ap av lo.2.2.1) fun r8=>some (decide (r8<0))
def qg8:Option Bool:=bnd (qk9 ⟨#[]⟩ [⟨#[97]⟩,⟨#[98]⟩]) fun r1=>bnd (qk9 ⟨#[99]⟩ [⟨#[97]⟩,⟨#[98]⟩]) fun r2=>bnd (qey r1 r2 [0] 100) fun r3=>bnd (qey r2 r1 [0] 100) fun r4=>bif decide (r3.2=0)then bif decide (r4.2=10)then bnd (qcl r1 r2 [0] r3.1) fun r5=>bif r5 then bnd (qcl r2 r1 [0] r3.1) fun r6=>some (!r6)else some false else some false else some false
def xd(oo:ae):Option Bool:=bif decide ((50:Int)<(oo.2.1.length:Int))then some true else bif decide ((50:Int)<(oo.2.2.1.length:Int))then some true else some (decide ((200:Int)<(ByteArray.size oo.1:Int)))
def bx{R:Type}(aa:(List ae))(a6 a1:Int)(nx:Int→Option R)(dn:Unit→Option R)(rt:Int→Option R):Option R:=bif decide (a1<a6)then al (ix a1 aa.length)<|al (ix a1 aa.length)<|bnd (xd (aa.getD a1.toNat ae.z)) fun r1=>bif r1 then rt a1 else al (ek .i64 (a1+1))<|nx (a1+1)else dn ()
def fj(aa:(List ae))(a6 s0:Int):Option (Unit⊕Int):=bi (fun a=>bx aa a6 a (fun a' =>some (.next a')) (fun e=>some (.done e)) (fun r=>some (.ret r))) s0
def nj:Shp:=⟨[(0, .d false (.slice ae.ty)),(1, .fn 35 .nil),qwy,q4y],[]⟩
def ni:Shp:=⟨[],[]⟩
def de(aa:(List ae)):Option Int:=bnd (fj aa (aa.length:Int) 0) fun oe2=>lk oe2 (fun e2=>some (-1)) (fun r=>some r)
def ay(aa:(List ae)):Option Bool:=bnd (de aa) fun r1=>some (decide ((0:Int)≤r1))
def x4(ad:a8):Option Bool:=bif decide ((8:Int)<(ad.2.1.length:Int))then bif decide ((ad.2.1.length:Int)≤60)then some true else bif decide ((100:Int)<(ad.2.1.length:Int))then some true else bif decide ((8:Int)<ad.1)then bif decide (ad.1≤40)then some true else bnd (ay ad.2.1) fun r1=>some r1 else bnd (ay ad.2.1) fun r2=>some r2 else bif decide ((100:Int)<(ad.2.1.length:Int))then some true else bif decide ((8:Int)<ad.1)then bif decide (ad.1≤40)then some true else bnd (ay ad.2.1) fun r3=>some r3 else bnd (ay ad.2.1) fun r4=>some r4
def qex(gx:ab):Option Bool:=bif decide ((50:Int)<(gx.1.length:Int))then some true else some (decide ((50:Int)<(gx.2.1.length:Int)))
def cl{R:Type}(aa:(List ab))(a6 a1:Int)(nx:Int→Option R)(dn:Unit→Option R)(rt:Int→Option R):Option R:=bif decide (a1<a6)then al (ix a1 aa.length)<|al (ix a1 aa.length)<|bnd (qex (aa.getD a1.toNat ab.z)) fun r1=>bif r1 then rt a1 else al (ek .i64 (a1+1))<|nx (a1+1)else dn ()
def kl(aa:(List ab))(a6 s0:Int):Option (Unit⊕Int):=bi (fun a=>cl aa a6 a (fun a' =>some (.next a')) (fun e=>some (.done e)) (fun r=>some (.ret r))) s0
def sr:Shp:=⟨[qw2,(1, .fn 37 .nil),qwy,q4y],[]⟩
def sq:Shp:=⟨[],[]⟩
def fp(aa:(List ab)):Option Int:=bnd (kl aa (aa.length:Int) 0) fun oe2=>lk oe2 (fun e2=>some (-1)) (fun r=>some r)
def en(aa:(List ab)):Option Bool:=bnd (fp aa) fun r1=>some (decide ((0:Int)≤r1))
def qew(ej:(List ab)):Option Bool:=bif decide ((60:Int)<(ej.length:Int))then some true else bnd (en ej) fun r1=>some r1
def uu(g5:Int):Option Bool:=bif decide ((97:Int)≤g5)then bif decide (g5≤122)then some true else bif decide ((65:Int)≤g5)then some (decide (g5≤90))else some false else bif decide ((65:Int)≤g5)then some (decide (g5≤90))else some false
def nv{R:Type}(aa:ByteArray)(c3:Int)(nx:Int→Option R)(dn:Unit→Option R)(rt:Bool→Option R):Option R:=bif decide (c3<(ByteArray.size aa:Int))then al (ix c3 (ByteArray.size aa))<|bnd (uu (((ByteArray.data aa).getD c3.toNat 0).toNat:Int)) fun r2=>bif (!r2)then bif decide ((48:Int)≤(((ByteArray.data aa).getD c3.toNat 0).toNat:Int))then bif (!(decide ((((ByteArray.data aa).getD c3.toNat 0).toNat:Int)≤57)))then bif (!decide ((((ByteArray.data aa).getD c3.toNat 0).toNat:Int)=95))then bif (!decide ((((ByteArray.data aa).getD c3.toNat 0).toNat:Int)=45))then bif (!decide ((((ByteArray.data aa).getD c3.toNat 0).toNat:Int)=46))then rt false else al (ek .i64 (c3+1))<|nx (c3+1)else al (ek .i64 (c3+1))<|nx (c3+1)else al (ek .i64 (c3+1))<|nx (c3+1)else al (ek .i64 (c3+1))<|nx (c3+1)else bif (!decide ((((ByteArray.data aa).getD c3.toNat 0).toNat:Int)=95))then bif (!decide ((((ByteArray.data aa).getD c3.toNat 0).toNat:Int)=45))then bif (!decide ((((ByteArray.data aa).getD c3.toNat 0).toNat:Int)=46))then rt false else al (ek .i64 (c3+1))<|nx (c3+1)else al (ek .i64 (c3+1))<|nx (c3+1)else al (ek .i64 (c3+1))<|nx (c3+1)else al (ek .i64 (c3+1))<|nx (c3+1)else dn ()
def qh6(aa:ByteArray)(s0:Int):Option (Unit⊕Bool):=bi (fun a=>nv aa a (fun a' =>some (.next a')) (fun e=>some (.done e)) (fun r=>some (.ret r))) s0
def qsy:Shp:=⟨[jpl,jsg],[]⟩
def qsx:Shp:=⟨[],[]⟩
def qaa(aa:ByteArray):Option Bool:=bif decide ((ByteArray.size aa:Int)<1)then some false else bif decide ((40:Int)<(ByteArray.size aa:Int))then some false else al (ix 0 (ByteArray.size aa))<|bnd (uu (((ByteArray.data aa).getD 0 0).toNat:Int)) fun r1=>bif (!r1)then some false else bnd (qh6 aa 1) fun oe3=>lk oe3 (fun e3=>some true) (fun r=>some r)
def k6{R:Type}(ad:Int)(c1:qL1)(a3:Int)(nx:Int→Option R)(dn:Unit→Option R)(rt:Bool→Option R):Option R:=bif decide (a3<(c1.length:Int))then al (ix a3 c1.length)<|al (ix a3 c1.length)<|bif decide ((c1.getD a3.toNat 0)<0)then rt false else al (ix a3 c1.length)<|al (ix a3 c1.length)<|bif decide (ad≤(c1.getD a3.toNat 0))then rt false else bif decide ((0:Int)<a3)then al (ek .i64 (a3-1))<|al (ix (a3-1) c1.length)<|al (ix (a3-1) c1.length)<|al (ix a3 c1.length)<|al (ix a3 c1.length)<|bif decide ((c1.getD a3.toNat 0)≤(c1.getD (a3-1).toNat 0))then rt false else al (ek .i64 (a3+1))<|nx (a3+1)else al (ek .i64 (a3+1))<|nx (a3+1)else dn ()
def qik(ad:Int)(c1:qL1)(s0:Int):Option (Unit⊕Bool):=bi (fun a=>k6 ad c1 a (fun a' =>some (.next a')) (fun e=>some (.done e)) (fun r=>some (.ret r))) s0
def qs5:Shp:=⟨[qw4,jcv,jfa],[]⟩
def qs4:Shp:=⟨[],[]⟩
def ng(ad:Int)(c1:qL1):Option Bool:=bnd (qik ad c1 0) fun oe1=>lk oe1 (fun e1=>some true) (fun r=>some r)
def uw{R:Type}(c2:Int)(a4:(List ae))(dd dt c3:Int)(nx:Int→Option R)(dn:Unit→Option R)(rt:Bool→Option R):Option R:=bif decide (c3<(a4.length:Int))then al (ix c3 a4.length)<|al (ix c3 a4.length)<|bif (!(ByteArray.toList (a4.getD c3.toNat ae.z).1==ByteArray.toList ⟨#[]⟩))then bnd (qaa (a4.getD c3.toNat ae.z).1) fun r1=>bif (!r1)then rt false else bnd (ng c2 (a4.getD c3.toNat ae.z).2.1) fun r2=>bif (!r2)then rt false else bnd (ng c2 (a4.getD c3.toNat ae.z).2.2.1) fun r3=>bif (!r3)then rt false else al (ek .i64 (c3+1))<|nx (c3+1)else bnd (ng c2 (a4.getD c3.toNat ae.z).2.1) fun r4=>bif (!r4)then rt false else bnd (ng c2 (a4.getD c3.toNat ae.z).2.2.1) fun r5=>bif (!r5)then rt false else al (ek .i64 (c3+1))<|nx (c3+1)else dn ()
def qkq(c2:Int)(a4:(List ae))(dd dt s0:Int):Option (Unit⊕Bool):=bi (fun a=>uw c2 a4 dd dt a (fun a' =>some (.next a')) (fun e=>some (.done e)) (fun r=>some (.ret r))) s0
def qv1:Shp:=⟨[jsd,jsg],[qcg]⟩
def qv0:Shp:=⟨[],[]⟩
def yd(ad:a8):Option Bool:=bif decide (ad.1<1)then some false else bif decide ((40:Int)<ad.1)then some false else bif decide ((60:Int)<(ad.2.1.length:Int))then some false else bif decide (ad.2.2.1<0)then some false else bif decide (ad.1≤ad.2.2.1)then some false else bif decide (ad.2.2.2.1<0)then some false else bif decide (ad.1≤ad.2.2.2.1)then some false else bnd (qkq ad.1 ad.2.1 ad.2.2.1 ad.2.2.2.1 0) fun oe6=>lk oe6 (fun e6=>some true) (fun r=>some r)
def qab{R:Type}(ej:qL1)(kt a3:Int)(nx:Int→Option R)(dn:Unit→Option R)(rt:Bool→Option R):Option R:=bif decide (a3<(ej.length:Int))then al (ix a3 ej.length)<|al (ix a3 ej.length)<|bif decide ((ej.getD a3.toNat 0)=kt)then rt true else al (ek .i64 (a3+1))<|nx (a3+1)else dn ()
def qrm(ej:qL1)(kt s0:Int):Option (Unit⊕Bool):=bi (fun a=>qab ej kt a (fun a' =>some (.next a')) (fun e=>some (.done e)) (fun r=>some (.ret r))) s0
def q1e:Shp:=⟨[jif,q8h,jfa],[]⟩
def q1d:Shp:=⟨[],[]⟩
def n9(ej:qL1)(kt:Int):Option Bool:=bnd (qrm ej kt 0) fun oe1=>lk oe1 (fun e1=>some false) (fun r=>some r)
def o5{R:Type}(g4 g2 f3:Int)(bs:(List ae))(gd gj kn:Int)(et:qL1)(nx:(Int×qL1)→Option R)(dn rt:qL1→Option R):Option R:=al (ix g2 bs.length)<|al (ix g2 bs.length)<|bif decide (kn<((bs.getD g2.toNat ae.z).2.2.1.length:Int))then al (ix g2 bs.length)<|al (ix g2 bs.length)<|al (ix kn (bs.getD g2.toNat ae.z).2.2.1.length)<|al (ix kn (bs.getD g2.toNat ae.z).2.2.1.length)<|bnd (n9 et ((bs.getD g2.toNat ae.z).2.2.1.getD kn.toNat 0)) fun r2=>bif (!r2)then al (ix g2 bs.length)<|al (ix g2 bs.length)<|al (ix kn (bs.getD g2.toNat ae.z).2.2.1.length)<|al (ix kn (bs.getD g2.toNat ae.z).2.2.1.length)<|al (room (et.length+1) 8)<|al (ek .i64 (kn+1))<|nx ((kn+1),(et++[((bs.getD g2.toNat ae.z).2.2.1.getD kn.toNat 0)]))else al (ek .i64 (kn+1))<|nx ((kn+1),et)else dn et
def qcp(g4 g2 f3:Int)(bs:(List ae))(gd gj:Int)(s0:(Int×qL1)):Option (qL1⊕qL1):=bi (fun a=>o5 g4 g2 f3 bs gd gj a.1 a.2 (fun a' =>some (.next a')) (fun e=>some (.done e)) (fun r=>some (.ret r))) s0
def qv4:Shp:=⟨[jsi,jsz,jpb,qwy,q4y],[qcg,qmk]⟩
def qv3:Shp:=⟨[jsi,jsz,jpb,qwy],[qcg,qmk]⟩
def o6{R:Type}(g4 f3:Int)(bs:(List ae))(gd gj g2:Int)(et:qL1)(nx:(Int×qL1)→Option R)(dn rt:qL1→Option R):Option R:=bif decide (g2<(bs.length:Int))then al (ix g2 bs.length)<|al (ix g2 bs.length)<|al (ix g4 et.length)<|al (ix g4 et.length)<|bnd (n9 (bs.getD g2.toNat ae.z).2.1 (et.getD g4.toNat 0)) fun r1=>bif (!r1)then al (ek .i64 (g2+1))<|nx ((g2+1),et)else bnd (qcp g4 g2 f3 bs gd gj (0,et)) fun oe3=>lk oe3 (fun e3=>al (ek .i64 (g2+1))<|nx ((g2+1),e3)) (fun r=>rt r)else dn et
def qcq(g4 f3:Int)(bs:(List ae))(gd gj:Int)(s0:(Int×qL1)):Option (qL1⊕qL1):=bi (fun a=>o6 g4 f3 bs gd gj a.1 a.2 (fun a' =>some (.next a')) (fun e=>some (.done e)) (fun r=>some (.ret r))) s0
def qv6:Shp:=⟨[jsi,jsz,jpb,qwy],[qcg,qmk]⟩
def qv5:Shp:=⟨[jsi,jsz,jpb],[qcg,qmk]⟩
def uy{R:Type}(f3:Int)(bs:(List ae))(gd gj g4:Int)(et:qL1)(nx:(Int×qL1)→Option R)(dn rt:qL1→Option R):Option R:=bif decide (g4<(et.length:Int))then bnd (qcq g4 f3 bs gd gj (0,et)) fun oe4=>lk oe4 (fun e4=>al (ek .i64 (g4+1))<|nx ((g4+1),e4)) (fun r=>rt r)else dn et
def qkv(f3:Int)(bs:(List ae))(gd gj:Int)(s0:(Int×qL1)):Option (qL1⊕qL1):=bi (fun a=>uy f3 bs gd gj a.1 a.2 (fun a' =>some (.next a')) (fun e=>some (.done e)) (fun r=>some (.ret r))) s0
def qv8:Shp:=⟨[jsi,jsz,jpb],[qcg,qmk]⟩
def qv7:Shp:=⟨[(5, .own 0)],[qmk]⟩
def ye(ad:a8)(hc:Int):Option qL1:=bnd (qkv ad.1 ad.2.1 ad.2.2.1 ad.2.2.2.1 (0,[hc])) fun oe5=>lk oe5 (fun e5=>some e5) (fun r=>some r)
def pw{R:Type}(c2:Int)(a4:(List ae))(dd dt a9:Int)(fs:(List ae))(gs i2 n1 n2 n3 gw:Int)(md:(List ae))(nx:(Int×(List ae))→Option R)(dn:(List ae)→Option R)(rt:a8→Option R):Option R:=bif decide (gw<(a4.length:Int))then al (ix gw a4.length)<|al (ix gw a4.length)<|al (room (0+(a4.getD gw.toNat ae.z).2.2.1.length) 8)<|al (room (0+(a4.getD gw.toNat ae.z).2.1.length) 8)<|al (room (md.length+1) 64)<|al (ek .i64 (gw+1))<|nx ((gw+1),(md++[((a4.getD gw.toNat ae.z).1,([]++(a4.getD gw.toNat ae.z).2.2.1),([]++(a4.getD gw.toNat ae.z).2.1),())]))else dn md
def qgd(c2:Int)(a4:(List ae))(dd dt a9:Int)(fs:(List ae))(gs i2 n1 n2 n3:Int)(s0:(Int×(List ae))):Option ((List ae)⊕a8):=bi (fun a=>pw c2 a4 dd dt a9 fs gs i2 n1 n2 n3 a.1 a.2 (fun a' =>some (.next a')) (fun e=>some (.done e)) (fun r=>some (.ret r))) s0
def qqj:Shp:=⟨[jsd,(2, .ptr 1),(3, .ptr 2),js4],[qcg,qr4, .cs 24 4 1 (.cons (.d true qT0) (.cons (.own 3) (.cons (.d true qT0) (.cons (.d true qT0) .nil)))),jcy]⟩
def qqi:Shp:=⟨[jsi,jsp],[qr4,qw1,jcy]⟩
def xn(ad:a8):Option a8:=bnd (qgd ad.1 ad.2.1 ad.2.2.1 ad.2.2.2.1 0 [] 0 0 ad.1 ad.2.2.2.1 ad.2.2.1 (0,[])) fun oe1=>lk oe1 (fun e1=>some (ad.1,e1,ad.2.2.2.1,ad.2.2.1,())) (fun r=>some r)
def xo{R:Type}(f5 ih:qL1)(a3:Int)(nx:Int→Option R)(dn:Unit→Option R)(rt:Bool→Option R):Option R:=bif decide (a3<(f5.length:Int))then al (ix a3 f5.length)<|al (ix a3 f5.length)<|bnd (n9 ih (f5.getD a3.toNat 0)) fun r1=>bif r1 then rt true else al (ek .i64 (a3+1))<|nx (a3+1)else dn ()
def qny(f5 ih:qL1)(s0:Int):Option (Unit⊕Bool):=bi (fun a=>xo f5 ih a (fun a' =>some (.next a')) (fun e=>some (.done e)) (fun r=>some (.ret r))) s0
def qya:Shp:=⟨[jif,jcv,jfa],[]⟩
def qx9:Shp:=⟨[],[]⟩
def qbc(f5 ih:qL1):Option Bool:=bnd (qny f5 ih 0) fun oe2=>lk oe2 (fun e2=>some false) (fun r=>some r)
def ld{R:Type}(ht h1:qL1)(c2:Int)(a4:(List ae))(dd dt a3:Int)(nx:Int→Option R)(dn:Unit→Option R)(rt:Bool→Option R):Option R:=bif decide (a3<c2)then bnd (n9 ht a3) fun r5=>bif (!r5)then rt false else bnd (n9 h1 a3) fun r6=>bif (!r6)then rt false else al (ek .i64 (a3+1))<|nx (a3+1)else dn ()
def qdx(ht h1:qL1)(c2:Int)(a4:(List ae))(dd dt s0:Int):Option (Unit⊕Bool):=bi (fun a=>ld ht h1 c2 a4 dd dt a (fun a' =>some (.next a')) (fun e=>some (.done e)) (fun r=>some (.ret r))) s0
def qns:Shp:=⟨[jsd,js3,js5,jfa],[qcg]⟩
def qnr:Shp:=⟨[jsd,js3,js5],[qcg]⟩
def oh{R:Type}(ht h1:qL1)(c2:Int)(a4:(List ae))(dd dt g4:Int)(nx:Int→Option R)(dn:Unit→Option R)(rt:Bool→Option R):Option R:=bif decide (g4<(a4.length:Int))then al (ix g4 a4.length)<|al (ix g4 a4.length)<|bnd (n9 (a4.getD g4.toNat ae.z).2.2.1 dd) fun r8=>bif r8 then rt false else bnd (n9 (a4.getD g4.toNat ae.z).2.1 dt) fun r9=>bif r9 then rt false else bnd (qbc (a4.getD g4.toNat ae.z).2.1 ht) fun r10=>bif (!r10)then rt false else bnd (qbc (a4.getD g4.toNat ae.z).2.2.1 h1) fun r11=>bif (!r11)then rt false else al (ek .i64 (g4+1))<|nx (g4+1)else dn ()
def qdy(ht h1:qL1)(c2:Int)(a4:(List ae))(dd dt s0:Int):Option (Unit⊕Bool):=bi (fun a=>oh ht h1 c2 a4 dd dt a (fun a' =>some (.next a')) (fun e=>some (.done e)) (fun r=>some (.ret r))) s0
def qnu:Shp:=⟨[jsd,js3,js5,jpb],[qcg]⟩
def qnt:Shp:=⟨[],[]⟩
def mj(ad:a8):Option Bool:=bnd (yd ad) fun r1=>bif (!r1)then some false else bif decide (ad.2.2.1=ad.2.2.2.1)then some false else bnd (ye ad ad.2.2.1) fun r2=>bnd (xn ad) fun r3=>bnd (ye r3 ad.2.2.2.1) fun r4=>bnd (qdx r2 r4 ad.1 ad.2.1 ad.2.2.1 ad.2.2.2.1 0) fun oe7=>lk oe7 (fun e7=>bnd (qdy r2 r4 ad.1 ad.2.1 ad.2.2.1 ad.2.2.2.1 0) fun oe12=>lk oe12 (fun e12=>some true) (fun r=>some r)) (fun r=>some r)
def qi3(ad:a8)(l1:Int):Option qL1:=al (qxm ad.1 ad.1 8)<|al (ix l1 (List.replicate ad.1.toNat (0:Int)).length)<|al (ix l1 (List.replicate ad.1.toNat (0:Int)).length)<|some ((List.replicate ad.1.toNat (0:Int)).set l1.toNat 1)
def mi{R:Type}(f5 ih:qL1)(a3:Int)(nx:Int→Option R)(dn:Unit→Option R)(rt:Bool→Option R):Option R:=bif decide (a3<(f5.length:Int))then al (ix a3 f5.length)<|al (ix a3 f5.length)<|al (ix a3 ih.length)<|al (ix a3 ih.length)<|bif (!decide ((f5.getD a3.toNat 0)=(ih.getD a3.toNat 0)))then rt false else al (ek .i64 (a3+1))<|nx (a3+1)else dn ()
def qf9(f5 ih:qL1)(s0:Int):Option (Unit⊕Bool):=bi (fun a=>mi f5 ih a (fun a' =>some (.next a')) (fun e=>some (.done e)) (fun r=>some (.ret r))) s0
def qqf:Shp:=⟨[jif,jcv,jfa],[]⟩
def qqe:Shp:=⟨[],[]⟩
def n8(f5 ih:qL1):Option Bool:=bif (!decide ((f5.length:Int)=(ih.length:Int)))then some false else bnd (qf9 f5 ih 0) fun oe1=>lk oe1 (fun e1=>some true) (fun r=>some r)
def ub(ap av:a8)(c5:(List ab)):Option (Bool×Int×Int):=bnd (ug ap av) fun r1=>bif (!decide (r1=0))then some (false,0,1)else bnd (rc ap av c5) fun r2=>bif (!r2)then some (false,0,1)else bif decide ((20000:Int)<(c5.length:Int))then some (false,0,5)else bnd (la ap av c5) fun r3=>bif decide ((0:Int)≤r3)then some (false,r3,0)else some (true,0,0)
def u3{R:Type}(ej:(List ab))(gw:Int)(nb:(List ab))(nx:(Int×(List ab))→Option R)(dn rt:(List ab)→Option R):Option R:=bif decide (gw<(ej.length:Int))then al (ix gw ej.length)<|al (ix gw ej.length)<|al (ix gw ej.length)<|al (ix gw ej.length)<|al (room (nb.length+1) 48)<|al (ek .i64 (gw+1))<|nx ((gw+1),(nb++[(ej.getD gw.toNat ab.z)]))else dn nb
def qkx(ej:(List ab))(s0:(Int×(List ab))):Option ((List ab)⊕(List ab)):=bi (fun a=>u3 ej a.1 a.2 (fun a' =>some (.next a')) (fun e=>some (.done e)) (fun r=>some (.ret r))) s0
def qwd:Shp:=⟨[(0, .d true (.slice ab.ty)),(3, .nl false (.own 0)),js4],[jfv]⟩
def qwc:Shp:=⟨[(3, .nl false (.own 0))],[jfv]⟩
def qcb(ej:(List ab)):Option (List ab):=bnd (qkx ej (0,[])) fun oe1=>lk oe1 (fun e1=>some e1) (fun r=>some r)
def pu{R:Type}(b0:qL1)(a3:Int)(nx:Int→Option R)(dn:Unit→Option R)(rt:Bool→Option R):Option R:=bif decide (a3<(b0.length:Int))then al (ix a3 b0.length)<|al (ix a3 b0.length)<|bif decide ((b0.getD a3.toNat 0)<0)then rt false else al (ix a3 b0.length)<|al (ix a3 b0.length)<|bif decide ((100:Int)<(b0.getD a3.toNat 0))then rt false else al (ek .i64 (a3+1))<|nx (a3+1)else dn ()
def qgb(b0:qL1)(s0:Int):Option (Unit⊕Bool):=bi (fun a=>pu b0 a (fun a' =>some (.next a')) (fun e=>some (.done e)) (fun r=>some (.ret r))) s0
def qqh:Shp:=⟨[jcv,jfa],[]⟩
def qqg:Shp:=⟨[],[]⟩
def gg(ad:a8)(b0:qL1):Option Bool:=bif (!decide ((b0.length:Int)=ad.1))then some false else bnd (qgb b0 0) fun oe1=>lk oe1 (fun e1=>some true) (fun r=>some r)
def oi{R:Type}(c4:(List ab))(hh:Int)(hi:(List ae))(hj hk hd:Int)(he:(List ae))(hf hg eg:Int)(nx:Int→Option R)(dn:Unit→Option R)(rt:Bool→Option R):Option R:=bif decide (eg<(c4.length:Int))then al (ix eg c4.length)<|al (ix eg c4.length)<|bnd (gg (hh,hi,hj,hk,()) (c4.getD eg.toNat ab.z).1) fun r1=>bif (!r1)then rt false else al (ix eg c4.length)<|al (ix eg c4.length)<|bnd (gg (hd,he,hf,hg,()) (c4.getD eg.toNat ab.z).2.1) fun r2=>bif (!r2)then rt false else al (ek .i64 (eg+1))<|nx (eg+1)else dn ()
def qd0(c4:(List ab))(hh:Int)(hi:(List ae))(hj hk hd:Int)(he:(List ae))(hf hg s0:Int):Option (Unit⊕Bool):=bi (fun a=>oi c4 hh hi hj hk hd he hf hg a (fun a' =>some (.next a')) (fun e=>some (.done e)) (fun r=>some (.ret r))) s0
def qn1:Shp:=⟨[q1y,jcu,js7,qwy],[qcg,qcg]⟩
def qn0:Shp:=⟨[],[]⟩
def uz(ap av:a8)(c4:(List ab)):Option Bool:=bnd (qd0 c4 ap.1 ap.2.1 ap.2.2.1 ap.2.2.2.1 av.1 av.2.1 av.2.2.1 av.2.2.2.1 0) fun oe3=>lk oe3 (fun e3=>some true) (fun r=>some r)
def o9(ad:a8)(b0:qL1):Option Bool:=bnd (qi3 ad ad.2.2.2.1) fun r1=>bnd (n8 b0 r1) fun r2=>some r2
def uv{R:Type}(b0:qL1)(a2 bk:Int)(a0:(List ae))(bl bo eg:Int)(nx:Int→Option R)(dn:Unit→Option R)(rt:Bool→Option R):Option R:=al (ix a2 a0.length)<|al (ix a2 a0.length)<|bif decide (eg<((a0.getD a2.toNat ae.z).2.1.length:Int))then al (ix a2 a0.length)<|al (ix a2 a0.length)<|al (ix eg (a0.getD a2.toNat ae.z).2.1.length)<|al (ix eg (a0.getD a2.toNat ae.z).2.1.length)<|al (ix ((a0.getD a2.toNat ae.z).2.1.getD eg.toNat 0) b0.length)<|al (ix ((a0.getD a2.toNat ae.z).2.1.getD eg.toNat 0) b0.length)<|bif decide ((b0.getD ((a0.getD a2.toNat ae.z).2.1.getD eg.toNat 0).toNat 0)<1)then rt false else al (ek .i64 (eg+1))<|nx (eg+1)else dn ()
def qrk(b0:qL1)(a2 bk:Int)(a0:(List ae))(bl bo s0:Int):Option (Unit⊕Bool):=bi (fun a=>uv b0 a2 bk a0 bl bo a (fun a' =>some (.next a')) (fun e=>some (.done e)) (fun r=>some (.ret r))) s0
def q1a:Shp:=⟨[jcv,q7l,jcu,qwy],[qcg]⟩
def q09:Shp:=⟨[],[]⟩
def qah(ad:a8)(b0:qL1)(a2:Int):Option Bool:=bnd (qrk b0 a2 ad.1 ad.2.1 ad.2.2.1 ad.2.2.2.1 0) fun oe1=>lk oe1 (fun e1=>some true) (fun r=>some r)
def xl{R:Type}(a2 bk:Int)(a0:(List ae))(bl bo ik:Int)(f2:qL1)(nx:(Int×qL1)→Option R)(dn:qL1→Option R)(rt:(Int×qL1)→Option R):Option R:=al (ix a2 a0.length)<|al (ix a2 a0.length)<|bif decide (ik<((a0.getD a2.toNat ae.z).2.1.length:Int))then al (ix a2 a0.length)<|al (ix a2 a0.length)<|al (ix ik (a0.getD a2.toNat ae.z).2.1.length)<|al (ix ik (a0.getD a2.toNat ae.z).2.1.length)<|al (ix a2 a0.length)<|al (ix a2 a0.length)<|al (ix ik (a0.getD a2.toNat ae.z).2.1.length)<|al (ix ik (a0.getD a2.toNat ae.z).2.1.length)<|al (ix ((a0.getD a2.toNat ae.z).2.1.getD ik.toNat 0) f2.length)<|al (ix ((a0.getD a2.toNat ae.z).2.1.getD ik.toNat 0) f2.length)<|al (ek .i64 ((f2.getD ((a0.getD a2.toNat ae.z).2.1.getD ik.toNat 0).toNat 0)-1))<|al (ix ((a0.getD a2.toNat ae.z).2.1.getD ik.toNat 0) f2.length)<|al (ix ((a0.getD a2.toNat ae.z).2.1.getD ik.toNat 0) f2.length)<|al (ek .i64 (ik+1))<|nx ((ik+1),(f2.set ((a0.getD a2.toNat ae.z).2.1.getD ik.toNat 0).toNat ((f2.getD ((a0.getD a2.toNat ae.z).2.1.getD ik.toNat 0).toNat 0)-1)))else dn f2
def qnm(a2 bk:Int)(a0:(List ae))(bl bo:Int)(s0:(Int×qL1)):Option (qL1⊕(Int×qL1)):=bi (fun a=>xl a2 bk a0 bl bo a.1 a.2 (fun a' =>some (.next a')) (fun e=>some (.done e)) (fun r=>some (.ret r))) s0
def qx2:Shp:=⟨[q7l,jcu,jtb,js6],[qcg,qmk]⟩
def qx1:Shp:=⟨[q7l,jcu,jtb],[qcg,qmk]⟩
def xm{R:Type}(a2 bk:Int)(a0:(List ae))(bl bo ho:Int)(f2:qL1)(nx:(Int×qL1)→Option R)(dn:qL1→Option R)(rt:(Int×qL1)→Option R):Option R:=al (ix a2 a0.length)<|al (ix a2 a0.length)<|bif decide (ho<((a0.getD a2.toNat ae.z).2.2.1.length:Int))then al (ix a2 a0.length)<|al (ix a2 a0.length)<|al (ix ho (a0.getD a2.toNat ae.z).2.2.1.length)<|al (ix ho (a0.getD a2.toNat ae.z).2.2.1.length)<|al (ix a2 a0.length)<|al (ix a2 a0.length)<|al (ix ho (a0.getD a2.toNat ae.z).2.2.1.length)<|al (ix ho (a0.getD a2.toNat ae.z).2.2.1.length)<|al (ix ((a0.getD a2.toNat ae.z).2.2.1.getD ho.toNat 0) f2.length)<|al (ix ((a0.getD a2.toNat ae.z).2.2.1.getD ho.toNat 0) f2.length)<|al (ek .i64 ((f2.getD ((a0.getD a2.toNat ae.z).2.2.1.getD ho.toNat 0).toNat 0)+1))<|al (ix ((a0.getD a2.toNat ae.z).2.2.1.getD ho.toNat 0) f2.length)<|al (ix ((a0.getD a2.toNat ae.z).2.2.1.getD ho.toNat 0) f2.length)<|al (ek .i64 (ho+1))<|nx ((ho+1),(f2.set ((a0.getD a2.toNat ae.z).2.2.1.getD ho.toNat 0).toNat ((f2.getD ((a0.getD a2.toNat ae.z).2.2.1.getD ho.toNat 0).toNat 0)+1)))else dn f2
def qnn(a2 bk:Int)(a0:(List ae))(bl bo:Int)(s0:(Int×qL1)):Option (qL1⊕(Int×qL1)):=bi (fun a=>xm a2 bk a0 bl bo a.1 a.2 (fun a' =>some (.next a')) (fun e=>some (.done e)) (fun r=>some (.ret r))) s0
def qx4:Shp:=⟨[q7l,jcu,jtb,(10, .d true qT0)],[qcg,qmk]⟩
def qx3:Shp:=⟨[jcu,jtb],[qcg,qmk]⟩
def sk(ad:a8)(b0:qL1)(a2:Int):Option (Int×qL1):=bnd (yd ad) fun r1=>bif (!r1)then some (1,[])else bnd (gg ad b0) fun r2=>bif (!r2)then some (1,[])else bif decide (a2<0)then some (2,[])else bif decide ((ad.2.1.length:Int)≤a2)then some (2,[])else bnd (qah ad b0 a2) fun r3=>bif (!r3)then some (12,[])else al (room (0+b0.length) 8)<|bnd (qnm a2 ad.1 ad.2.1 ad.2.2.1 ad.2.2.2.1 (0,([]++b0))) fun oe4=>lk oe4 (fun e4=>bnd (qnn a2 ad.1 ad.2.1 ad.2.2.1 ad.2.2.2.1 (0,e4)) fun oe5=>lk oe5 (fun e5=>bnd (gg ad e5) fun r6=>bif (!r6)then some (5,[])else some (0,e5)) (fun r=>some r)) (fun r=>some r)
def qca{R:Type}(ej:(List ab))(kt os:qL1)(eg:Int)(nx:Int→Option R)(dn:Unit→Option R)(rt:Bool→Option R):Option R:=bif decide (eg<(ej.length:Int))then al (ix eg ej.length)<|al (ix eg ej.length)<|bnd (n8 (ej.getD eg.toNat ab.z).1 kt) fun r1=>bif r1 then al (ix eg ej.length)<|al (ix eg ej.length)<|bnd (n8 (ej.getD eg.toNat ab.z).2.1 os) fun r2=>bif r2 then rt true else al (ek .i64 (eg+1))<|nx (eg+1)else al (ek .i64 (eg+1))<|nx (eg+1)else dn ()
def qwa(ej:(List ab))(kt os:qL1)(s0:Int):Option (Unit⊕Bool):=bi (fun a=>qca ej kt os a (fun a' =>some (.next a')) (fun e=>some (.done e)) (fun r=>some (.ret r))) s0
def q3h:Shp:=⟨[qw2,jcv,jsj,qwy],[]⟩
def q3g:Shp:=⟨[],[]⟩
def qim(ej:(List ab))(kt os:qL1):Option Bool:=bnd (qwa ej kt os 0) fun oe3=>lk oe3 (fun e3=>some false) (fun r=>some r)
def lf{R:Type}(c1:(List ab))(ga:ByteArray)(ku kv:qL1)(bd:Int)(a5:(List ae))(be bf h4:Int)(nx:Int→Option R)(dn:Unit→Option R)(rt:Bool→Option R):Option R:=bif decide (h4<(a5.length:Int))then al (ix h4 a5.length)<|al (ix h4 a5.length)<|bif (!(ByteArray.toList (a5.getD h4.toNat ae.z).1==ByteArray.toList ga))then al (ek .i64 (h4+1))<|nx (h4+1)else bnd (sk (bd,a5,be,bf,()) kv h4) fun r2=>bif decide (r2.1=0)then bnd (qim c1 ku r2.2) fun r3=>bif r3 then rt true else al (ek .i64 (h4+1))<|nx (h4+1)else al (ek .i64 (h4+1))<|nx (h4+1)else dn ()
def qd2(c1:(List ab))(ga:ByteArray)(ku kv:qL1)(bd:Int)(a5:(List ae))(be bf s0:Int):Option (Unit⊕Bool):=bi (fun a=>lf c1 ga ku kv bd a5 be bf a (fun a' =>some (.next a')) (fun e=>some (.done e)) (fun r=>some (.ret r))) s0
def qob:Shp:=⟨[jsc,(2, .d true .str),jr9,(4, .d false qT1),(5, .ptr 0),(11, .d true qT0)],[qcg]⟩
def qoa:Shp:=⟨[],[]⟩
def u5{R:Type}(c1:(List ab))(ga:ByteArray)(ku kv:qL1)(bd:Int)(a5:(List ae))(be bf:Int)(dn:Unit→Option R)(rt:Bool→Option R):Option R:=bnd (qd2 c1 ga ku kv bd a5 be bf 0) fun oe4=>lk oe4 (fun e4=>rt false) (fun r=>rt r)
def px(c1:(List ab))(ga:ByteArray)(ku kv:qL1)(bd:Int)(a5:(List ae))(be bf:Int):Option (Unit⊕Bool):=u5 c1 ga ku kv bd a5 be bf (fun e=>some (.inl e)) (fun r=>some (.inr r))
def qod:Shp:=⟨[jsc,(2, .d true .str),jr9,(4, .d false qT1),(5, .ptr 0)],[qcg]⟩
def qoc:Shp:=⟨[],[]⟩
def o8(ip:a8)(c1:(List ab))(ga:ByteArray)(ku kv:qL1):Option Bool:=bif (ByteArray.toList ga==ByteArray.toList ⟨#[]⟩)then bnd (qim c1 ku kv) fun r1=>bif r1 then some true else bnd (px c1 ga ku kv ip.1 ip.2.1 ip.2.2.1 ip.2.2.2.1) fun oe5=>lk oe5 (fun e5=>none) (fun r=>some r)else bnd (px c1 ga ku kv ip.1 ip.2.1 ip.2.2.1 ip.2.2.2.1) fun oe6=>lk oe6 (fun e6=>none) (fun r=>some r)
def o7{R:Type}(c4:(List ab))(ch:Int)(b4:(List ae))(cv cy bd:Int)(a5:(List ae))(be bf:Int)(kp k4:qL1)(k3:Int)(nx:Int→Option R)(dn:Unit→Option R)(rt:Bool→Option R):Option R:=bif decide (k3<(b4.length:Int))then bnd (qah (ch,b4,cv,cy,()) kp k3) fun r3=>bif (!r3)then al (ek .i64 (k3+1))<|nx (k3+1)else bnd (sk (ch,b4,cv,cy,()) kp k3) fun r4=>bif (!decide (r4.1=0))then rt false else al (ix k3 b4.length)<|al (ix k3 b4.length)<|bnd (o8 (bd,a5,be,bf,()) c4 (b4.getD k3.toNat ae.z).1 r4.2 k4) fun r5=>bif (!r5)then rt false else al (ek .i64 (k3+1))<|nx (k3+1)else dn ()
def qkz(c4:(List ab))(ch:Int)(b4:(List ae))(cv cy bd:Int)(a5:(List ae))(be bf:Int)(kp k4:qL1)(s0:Int):Option (Unit⊕Bool):=bi (fun a=>o7 c4 ch b4 cv cy bd a5 be bf kp k4 a (fun a' =>some (.next a')) (fun e=>some (.done e)) (fun r=>some (.ret r))) s0
def qwg:Shp:=⟨[q1y,jsq,jsr,jta,js6],[qcg,qcg,jm9]⟩
def qwf:Shp:=⟨[],[]⟩
def qbd{R:Type}(c4:(List ab))(ch:Int)(b4:(List ae))(cv cy bd:Int)(a5:(List ae))(be bf:Int)(kp k4:qL1)(dn:Unit→Option R)(rt:Bool→Option R):Option R:=bnd (qkz c4 ch b4 cv cy bd a5 be bf kp k4 0) fun oe6=>lk oe6 (fun e6=>rt true) (fun r=>rt r)
def xp(c4:(List ab))(ch:Int)(b4:(List ae))(cv cy bd:Int)(a5:(List ae))(be bf:Int)(kp k4:qL1):Option (Unit⊕Bool):=qbd c4 ch b4 cv cy bd a5 be bf kp k4 (fun e=>some (.inl e)) (fun r=>some (.inr r))
def qwi:Shp:=⟨[q1y,jsq,jsr,jta],[qcg,qcg,jm9]⟩
def qwh:Shp:=⟨[],[]⟩
def yf(ap av:a8)(c4:(List ab))(m0:ab):Option Bool:=bnd (o9 ap m0.1) fun r1=>bif r1 then bnd (o9 av m0.2.1) fun r2=>bif (!r2)then some false else bnd (xp c4 ap.1 ap.2.1 ap.2.2.1 ap.2.2.2.1 av.1 av.2.1 av.2.2.1 av.2.2.2.1 m0.1 m0.2.1) fun oe7=>lk oe7 (fun e7=>none) (fun r=>some r)else bnd (xp c4 ap.1 ap.2.1 ap.2.2.1 ap.2.2.2.1 av.1 av.2.1 av.2.2.1 av.2.2.2.1 m0.1 m0.2.1) fun oe8=>lk oe8 (fun e8=>none) (fun r=>some r)
def u4{R:Type}(c4:(List ab))(hh:Int)(hi:(List ae))(hj hk hd:Int)(he:(List ae))(hf hg eg:Int)(nx:Int→Option R)(dn:Unit→Option R)(rt:Int→Option R):Option R:=bif decide (eg<(c4.length:Int))then al (ix eg c4.length)<|al (ix eg c4.length)<|bnd (yf (hh,hi,hj,hk,()) (hd,he,hf,hg,()) c4 (c4.getD eg.toNat ab.z)) fun r1=>bif (!r1)then rt eg else al (ek .i64 (eg+1))<|nx (eg+1)else dn ()
def qk1(c4:(List ab))(hh:Int)(hi:(List ae))(hj hk hd:Int)(he:(List ae))(hf hg s0:Int):Option (Unit⊕Int):=bi (fun a=>u4 c4 hh hi hj hk hd he hf hg a (fun a' =>some (.next a')) (fun e=>some (.done e)) (fun r=>some (.ret r))) s0
def qwl:Shp:=⟨[q1y,jcu,js7,qwy],[qcg,qcg]⟩
def qwk:Shp:=⟨[],[]⟩
def qcc(ap av:a8)(c4:(List ab)):Option Int:=bnd (qk1 c4 ap.1 ap.2.1 ap.2.2.1 ap.2.2.2.1 av.1 av.2.1 av.2.2.1 av.2.2.2.1 0) fun oe2=>lk oe2 (fun e2=>some (-1)) (fun r=>some r)
def m7(ap av:a8)(c5:(List ab)):Option Bool:=bnd (qg8) fun r1=>bif (!r1)then some false else bnd (x4 ap) fun r2=>bif r2 then some true else bnd (x4 av) fun r3=>bif r3 then some true else bnd (qew c5) fun r4=>bif r4 then some true else bnd (ub ap av c5) fun r5=>bnd (qcb c5) fun r6=>bnd (mj ap) fun r7=>bif (!r7)then bif (!r5.1)then bif decide (r5.2.1=0)then some (decide (r5.2.2=1))else some false else some false else bnd (mj av) fun r8=>bif (!r8)then bif (!r5.1)then bif decide (r5.2.1=0)then some (decide (r5.2.2=1))else some false else some false else bnd (uz ap av r6) fun r9=>bif (!r9)then bif (!r5.1)then bif decide (r5.2.1=0)then some (decide (r5.2.2=1))else some false else some false else bnd (qcc ap av r6) fun r10=>bif decide (r5.2.2=0)then bif (r5.1==decide (r10<0))then some (decide (r5.2.1=(max r10 0)))else some false else some false
end Go.Proofs.Ytdhfhpdadbopkaa
