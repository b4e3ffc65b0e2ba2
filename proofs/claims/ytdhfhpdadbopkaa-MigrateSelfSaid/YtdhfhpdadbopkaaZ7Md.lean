/-
  What the functions compute, as plain functions of Lean. Made by program (mg3.py) out of the translation.
-/
import Derived.Test.YtdhfhpdadbopkaaZ7KE
set_option linter.all false
set_option maxRecDepth 100000
namespace Go.Proofs.Ytdhfhpdadbopkaa
open Go.K Go.M
abbrev qL1:Type:=List Int
abbrev qL2:Type:=List (List Int)
abbrev qT0:Ty:=.int .i64
abbrev qT1:Ty:=.slice qT0
abbrev qT2:Ty:=.slice qT1
abbrev af:Type:=ByteArray×qL1×qL1×Unit
abbrev af.z:af:=(⟨#[]⟩,[],[],())
def af.ty:Ty:= .struct (.cons .str (.cons qT1 (.cons qT1 .nil)))
abbrev az:Type:=Int×(List af)×Int×Int×Unit
abbrev az.z:az:=(0,[],0,0,())
def az.ty:Ty:= .struct (.cons qT0 (.cons (.slice af.ty) (.cons qT0 (.cons qT0 .nil))))
abbrev ae:Type:=Int×qL1×qL1×Unit
abbrev ae.z:ae:=(0,[],[],())
def ae.ty:Ty:= .struct (.cons qT0 (.cons qT1 (.cons qT1 .nil)))
abbrev ag:Type:=Int×qL1×Unit
abbrev ag.z:ag:=(0,[],())
def ag.ty:Ty:= .struct (.cons qT0 (.cons qT1 .nil))
abbrev ab:Type:=qL1×qL1×Unit
abbrev ab.z:ab:=([],[],())
def ab.ty:Ty:= .struct (.cons qT1 (.cons qT1 .nil))
abbrev fv:Type:=qL1×qL1×(List ab)×Unit
abbrev fv.z:fv:=([],[],[],())
def fv.ty:Ty:= .struct (.cons qT1 (.cons qT1 (.cons (.slice ab.ty) .nil)))
abbrev qct:Hs:=.cs 24 4 1 (.cons (.d true qT0) (.cons (.d false (.slice af.ty)) (.cons (.d true qT0) (.cons (.d true qT0) .nil))))
abbrev qc7:Nat×Sh:=(0, .d true .bool)
abbrev qfg:Hs:=.arr 25 (.fz true) [3] qT1
abbrev qg5:Hs:=.cs 28 3 1 (.cons (.d true qT1) (.cons (.d true qT1) (.cons (.d true (.slice ab.ty)) .nil)))
abbrev qls:Hs:=.cs 116 1 1 (.cons (.mp 2) .nil)
abbrev qmd:Hs:=.arr 3 (.fz true) [0] qT0
abbrev qpc:Hs:=.mp .str .bool
abbrev qpv:Hs:=.arr 48 (.fz true) [3,3] ab.ty
abbrev qrr:Hs:=.cs 45 1 1 (.cons (.fn 82 (.cons (.ptr 1) .nil)) .nil)
abbrev qr5:Hs:=.cs 45 1 1 (.cons (.fn 96 (.cons (.ptr 1) .nil)) .nil)
abbrev qty:Hs:=.cs 24 4 1 (.cons (.d true qT0) (.cons (.d true (.slice af.ty)) (.cons (.d true qT0) (.cons (.d true qT0) .nil))))
abbrev qu5:Hs:=.arr 92 (.fz true) [0,3,3] ae.ty
abbrev qvd:Hs:=.arr 4 (.fz true) [0] .bool
abbrev qve:Hs:=.cs 116 1 1 (.cons (.mp 1) .nil)
abbrev qwh:Hs:=.cs 24 4 1 (.cons (.d true qT0) (.cons (.own 2) (.cons (.d true qT0) (.cons (.d true qT0) .nil))))
abbrev qxg:Nat×Sh:=(0, .d true qT0)
abbrev qzv:Nat×Sh:=(7, .d true qT0)
abbrev qzy:Nat×Sh:=(10, .fn 95 (.cons (.ptr 3) (.cons (.ptr 2) .nil)))
abbrev q1j:Nat×Sh:=(1, .fn 107 (.cons (.rp false az.ty) (.cons (.rp false .str) (.cons (.ptr 0) (.cons (.rp false ag.ty) .nil)))))
abbrev q2x:Nat×Sh:=(8, .d true qT0)
abbrev q48:Nat×Sh:=(2, .d true qT0)
abbrev q49:Hs:=.arr 9 (.fz true) [0] .str
abbrev q5a:Nat×Sh:=(0, .d false (.slice ab.ty))
abbrev q5d:Nat×Sh:=(1, .d true qT0)
abbrev q6c:Hs:=.cs 43 3 1 (.cons (.d true .str) (.cons (.d false qT1) (.cons (.d false qT1) .nil)))
abbrev q78:Hs:=.cs 45 1 1 (.cons (.fn 96 (.cons (.ptr 2) .nil)) .nil)
abbrev q8n:Hs:=.cs 133 1 1 (.cons (.own 3) .nil)
abbrev jbk:Hs:=.cs 28 3 1 (.cons (.d true qT1) (.cons (.d true qT1) (.cons (.own 2) .nil)))
abbrev jco:Hs:=.cs 116 1 1 (.cons (.mp 3) .nil)
abbrev jcp:Hs:=.cs 116 1 1 (.cons (.mp 5) .nil)
abbrev jcq:Hs:=.cs 38 1 1 (.cons (.own 4) .nil)
abbrev jfa:Nat×Sh:=(3, .ptr 0)
abbrev jfc:Hs:=.arr 43 (.fz true) [0,3,3] af.ty
abbrev jfg:Nat×Sh:=(0, .own 0)
abbrev jg7:Nat×Sh:=(1, .d false qT1)
abbrev jg8:Nat×Sh:=(5, .d true qT0)
abbrev jhb:Hs:=.cs 116 1 1 (.cons (.mp 6) .nil)
abbrev jj8:Hs:=.arr 129 (.fz true) [0,3] ag.ty
abbrev jmg:Nat×Sh:=(0, .d false qT1)
abbrev jmr:Nat×Sh:=(2, .d true .bool)
abbrev jms:Nat×Sh:=(1, .ptr 0)
abbrev jmt:Nat×Sh:=(6, .d true qT0)
abbrev jrn:Hs:=.cs 25 1 1 (.cons (.d true qT1) .nil)
abbrev jtl:Hs:=.cs 45 1 1 (.cons (.fn 82 (.cons (.ptr 0) .nil)) .nil)
abbrev jto:Hs:=.cs 45 1 1 (.cons (.fn 96 (.cons (.ptr 0) .nil)) .nil)
abbrev jtp:Nat×Sh:=(1, .d false (.slice .str))
abbrev jtq:Nat×Sh:=(1, .fn 66 (.cons (.rp false (.slice .str)) .nil))
abbrev jtr:Nat×Sh:=(15, .nl false (.d true (.slice ag.ty)))
abbrev jts:Nat×Sh:=(58, .nl false (.d true (.slice ag.ty)))
abbrev jtt:Nat×Sh:=(0, .d true qT1)
abbrev jtu:Nat×Sh:=(29, .d false (.slice af.ty))
abbrev jtv:Nat×Sh:=(0, .d true .str)
abbrev jtw:Nat×Sh:=(12, .d true qT0)
abbrev jtx:Nat×Sh:=(13, .d true qT0)
abbrev jty:Nat×Sh:=(2, .d false qT1)
abbrev jua:Nat×Sh:=(20, .d true qT0)
abbrev jub:Nat×Sh:=(0, .nl false (.own 0))
abbrev juc:Nat×Sh:=(10, .d true .bool)
abbrev jwm:Nat×Sh:=(2, .d false (.slice ab.ty))
abbrev jwo:Nat×Sh:=(2, .ptr 0)
abbrev jwp:Nat×Sh:=(6, .nl false (.own 0))
abbrev jwq:Nat×Sh:=(9, .nl false (.own 4))
abbrev jwr:Nat×Sh:=(3, .d true qT0)
abbrev jws:Nat×Sh:=(0, .d false (.slice ae.ty))
abbrev jwt:Nat×Sh:=(13, .d true (.slice ae.ty))
abbrev jwu:Nat×Sh:=(0, .d false (.slice ag.ty))
abbrev jwv:Nat×Sh:=(4, .d true qT0)
abbrev jww:Nat×Sh:=(1, .nl false (.own 0))
abbrev jwx:Nat×Sh:=(21, .d true qT0)
abbrev jwy:Nat×Sh:=(3, .d false qT1)
abbrev jwz:Nat×Sh:=(8, .ptr 0)
abbrev jw0:Nat×Sh:=(9, .d true qT1)
abbrev jw1:Nat×Sh:=(3, .own 1)
abbrev jw2:Nat×Sh:=(3, .ptr 1)
abbrev jw3:Nat×Sh:=(9, .own 2)
abbrev jw4:Nat×Sh:=(1, .d true .bool)
abbrev jw5:Nat×Sh:=(10, .ptr 5)
abbrev jw6:Nat×Sh:=(19, .d true qT0)
abbrev jw7:Nat×Sh:=(26, .d true qT0)
abbrev jw8:Nat×Sh:=(30, .d true qT0)
abbrev jw9:Nat×Sh:=(31, .d true qT0)
abbrev jxa:Nat×Sh:=(4, .ptr 2)
abbrev jxb:Nat×Sh:=(5, .own 1)
abbrev jxc:Nat×Sh:=(5, .ptr 3)
abbrev jxd:Nat×Sh:=(8, .ptr 1)
abbrev jxe:Nat×Sh:=(9, .ptr 2)
abbrev jxf:Nat×Sh:=(3, .d true qT1)
abbrev jxg:Nat×Sh:=(4, .d true qT1)
abbrev jxh:Nat×Sh:=(4, .ptr 0)
abbrev jxi:Nat×Sh:=(5, .ptr 1)
abbrev jxj:Nat×Sh:=(5, .ptr 2)
abbrev jxk:Nat×Sh:=(6, .ptr 3)
abbrev jxl:Nat×Sh:=(8, .own 1)
abbrev jxm:Nat×Sh:=(9, .ptr 4)
def qnc{R:Type}(ih:ByteArray)(gs:(List ByteArray))(ke h8:Int)(kt:(List af))(ho pa o0 o1 o2 gt:Int)(nd:(List af))(nx:(Int×(List af))→Option R)(dn:(List af)→Option R)(rt:az→Option R):Option R:=bif decide (gt<ke)then aq (ix gt gs.length)<|aq (ix gt gs.length)<|aq (gc .i64 (gt+1))<|aq (room (nd.length+1) 64)<|aq (gc .i64 (gt+1))<|nx ((gt+1),(nd++[((gs.getD gt.toNat ⟨#[]⟩),[gt],[(gt+1)],())]))else dn nd
def q3r(ih:ByteArray)(gs:(List ByteArray))(ke h8:Int)(kt:(List af))(ho pa o0 o1 o2:Int)(s0:(Int×(List af))):Option ((List af)⊕az):=bx (fun a=>qnc ih gs ke h8 kt ho pa o0 o1 o2 a.1 a.2 (fun a' =>some (.next a')) (fun e=>some (.done e)) (fun r=>some (.ret r))) s0
def q0d:Shp:=⟨[jtv,jxh,jxi,(14, .d false (.slice .str)),(15, .d true qT0),(16, .d true qT0)],[qty,qwh,jfc]⟩
def q0c:Shp:=⟨[jtv,jxh,jxi],[qty,qwh,jfc]⟩
def qoe(ih:ByteArray)(ei:(List ByteArray)):Option az:=aq (gc .i64 ((ei.length:Int)+1))<|bnd (q3r ih ei (ei.length:Int) 0 [] 0 0 ((ei.length:Int)+1) 0 (ei.length:Int) (0,[])) fun oe1=>lk oe1 (fun e1=>bif (!(ByteArray.toList ih==ByteArray.toList ⟨#[]⟩))then aq (gc .i64 ((ei.length:Int)-1))<|aq (room (e1.length+1) 64)<|some (((ei.length:Int)+1),(e1++[(ih,[((ei.length:Int)-1)],[(ei.length:Int)],())]),0,(ei.length:Int),())else some (((ei.length:Int)+1),e1,0,(ei.length:Int),())) (fun r=>some r)
def qbn(g2:Int):Option Bool:=bif decide ((65:Int)≤g2)then bif decide (g2≤90)then some true else bif decide ((97:Int)≤g2)then some (decide (g2≤122))else some false else bif decide ((97:Int)≤g2)then some (decide (g2≤122))else some false
def ql1(g2:Int):Option Bool:=bnd (qbn g2) fun r1=>bif r1 then some true else bif decide ((48:Int)≤g2)then bif decide (g2≤57)then some true else bif decide (g2=95)then some true else bif decide (g2=45)then some true else some (decide (g2=46))else bif decide (g2=95)then some true else bif decide (g2=45)then some true else some (decide (g2=46))
def si{R:Type}(ad:ByteArray)(f0 bk:Int)(nx:Int→Option R)(dn:Unit→Option R)(rt:Bool→Option R):Option R:=bif decide (bk<f0)then aq (ix bk (ByteArray.size ad))<|bnd (ql1 (((ByteArray.data ad).getD bk.toNat 0).toNat:Int)) fun r2=>bif (!r2)then rt false else aq (gc .i64 (bk+1))<|nx (bk+1)else dn ()
def qnd(ad:ByteArray)(f0 s0:Int):Option (Unit⊕Bool):=bx (fun a=>si ad f0 a (fun a' =>some (.next a')) (fun e=>some (.done e)) (fun r=>some (.ret r))) s0
def qya:Shp:=⟨[jtv,jw6,jua],[]⟩
def qx9:Shp:=⟨[],[]⟩
def qe7(ad:ByteArray):Option Bool:=bif decide ((ByteArray.size ad:Int)<1)then some false else bif decide ((40:Int)<(ByteArray.size ad:Int))then some false else aq (ix 0 (ByteArray.size ad))<|bnd (qbn (((ByteArray.data ad).getD 0 0).toNat:Int)) fun r1=>bif (!r1)then some false else bnd (qnd ad (ByteArray.size ad:Int) 0) fun oe3=>lk oe3 (fun e3=>some true) (fun r=>some r)
def np{R:Type}(b0 be:qL1)(av es:Int)(bf:(List af))(ev ex h2:Int)(nx:Int→Option R)(dn:Unit→Option R)(rt:Bool→Option R):Option R:=bif decide (h2<av)then aq (ix h2 be.length)<|aq (ix h2 be.length)<|bif decide ((be.getD h2.toNat 0)<0)then rt false else bif decide (es≤(be.getD h2.toNat 0))then rt false else bif decide ((0:Int)<h2)then aq (gc .i64 (h2-1))<|aq (ix (h2-1) b0.length)<|aq (ix (h2-1) b0.length)<|bif decide ((be.getD h2.toNat 0)≤(b0.getD (h2-1).toNat 0))then rt false else aq (gc .i64 (h2+1))<|nx (h2+1)else aq (gc .i64 (h2+1))<|nx (h2+1)else dn ()
def qk3(b0 be:qL1)(av es:Int)(bf:(List af))(ev ex s0:Int):Option (Unit⊕Bool):=bx (fun a=>np b0 be av es bf ev ex a (fun a' =>some (.next a')) (fun e=>some (.done e)) (fun r=>some (.ret r))) s0
def qvy:Shp:=⟨[jg7,jwo,(7, .d false qT1),q2x,(9, .d true qT0)],[qct]⟩
def qvx:Shp:=⟨[],[]⟩
def ls(aa:az)(b0:qL1):Option Bool:=bnd (qk3 b0 b0 (b0.length:Int) aa.1 aa.2.1 aa.2.2.1 aa.2.2.2.1 0) fun oe1=>lk oe1 (fun e1=>some true) (fun r=>some r)
def yf{R:Type}(bk:(List af))(et b2:Int)(a9:(List af))(b3 b4 gg:Int)(nx:Int→Option R)(dn:Unit→Option R)(rt:Bool→Option R):Option R:=bif decide (gg<et)then aq (ix gg bk.length)<|aq (ix gg bk.length)<|bif (!(ByteArray.toList (bk.getD gg.toNat af.z).1==ByteArray.toList ⟨#[]⟩))then bnd (qe7 (bk.getD gg.toNat af.z).1) fun r1=>bif (!r1)then rt false else bnd (ls (b2,a9,b3,b4,()) (bk.getD gg.toNat af.z).2.1) fun r2=>bif (!r2)then rt false else bnd (ls (b2,a9,b3,b4,()) (bk.getD gg.toNat af.z).2.2.1) fun r3=>bif (!r3)then rt false else aq (gc .i64 (gg+1))<|nx (gg+1)else bnd (ls (b2,a9,b3,b4,()) (bk.getD gg.toNat af.z).2.1) fun r4=>bif (!r4)then rt false else bnd (ls (b2,a9,b3,b4,()) (bk.getD gg.toNat af.z).2.2.1) fun r5=>bif (!r5)then rt false else aq (gc .i64 (gg+1))<|nx (gg+1)else dn ()
def qnk(bk:(List af))(et b2:Int)(a9:(List af))(b3 b4 s0:Int):Option (Unit⊕Bool):=bx (fun a=>yf bk et b2 a9 b3 b4 a (fun a' =>some (.next a')) (fun e=>some (.done e)) (fun r=>some (.ret r))) s0
def qyq:Shp:=⟨[jms,(20, .d false (.slice af.ty)),jwx,(22, .d true qT0)],[qct]⟩
def qyp:Shp:=⟨[jms],[qct]⟩
def sk(aa:az):Option Bool:=bif decide (aa.1<1)then some false else bif decide ((40:Int)<aa.1)then some false else bif decide ((60:Int)<(aa.2.1.length:Int))then some false else bnd (qnk aa.2.1 (aa.2.1.length:Int) aa.1 aa.2.1 aa.2.2.1 aa.2.2.2.1 0) fun oe6=>lk oe6 (fun e6=>bnd (ls aa [aa.2.2.1]) fun r7=>bif r7 then bnd (ls aa [aa.2.2.2.1]) fun r8=>some r8 else some false) (fun r=>some r)
def kq{R:Type}(ad:qL1)(hz be av:Int)(nx:Int→Option R)(dn:Unit→Option R)(rt:Int→Option R):Option R:=bif decide (av<be)then aq (ix av ad.length)<|aq (ix av ad.length)<|bif decide (hz=(ad.getD av.toNat 0))then rt av else aq (gc .i64 (av+1))<|nx (av+1)else dn ()
def y6(ad:qL1)(hz be s0:Int):Option (Unit⊕Int):=bx (fun a=>kq ad hz be a (fun a' =>some (.next a')) (fun e=>some (.done e)) (fun r=>some (.ret r))) s0
def qg0:Shp:=⟨[jmg,q5d,qzv,q2x],[]⟩
def qgz:Shp:=⟨[],[]⟩
def sx(ad:qL1)(hz:Int):Option Int:=bnd (y6 ad hz (ad.length:Int) 0) fun oe1=>lk oe1 (fun e1=>some (-1)) (fun r=>some r)
def ia(ad:qL1)(hz:Int):Option Bool:=bnd (sx ad hz) fun r1=>some (decide ((0:Int)≤r1))
def v6(gx:Int)(c5:(List Bool)):Option Bool:=aq (ix 0 1)<|aq (ix gx c5.length)<|aq (ix gx c5.length)<|some (c5.getD gx.toNat false)
def fk{R:Type}(ad:qL1)(f_1c0:(List Bool))(be av:Int)(nx:Int→Option R)(dn:Unit→Option R)(rt:Int→Option R):Option R:=bif decide (av<be)then aq (ix av ad.length)<|aq (ix av ad.length)<|bnd (v6 (ad.getD av.toNat 0) f_1c0) fun r1=>bif r1 then rt av else aq (gc .i64 (av+1))<|nx (av+1)else dn ()
def o7(ad:qL1)(f_1c0:(List Bool))(be s0:Int):Option (Unit⊕Int):=bx (fun a=>fk ad f_1c0 be a (fun a' =>some (.next a')) (fun e=>some (.done e)) (fun r=>some (.ret r))) s0
def zh:Shp:=⟨[jmg,(1, .fn 116 (.cons (.rp false (.slice .bool)) .nil)),qzv,q2x],[]⟩
def zg:Shp:=⟨[],[]⟩
def ky(ad:qL1)(f_1c0:(List Bool)):Option Int:=bnd (o7 ad f_1c0 (ad.length:Int) 0) fun oe2=>lk oe2 (fun e2=>some (-1)) (fun r=>some r)
def de(ad:qL1)(f_1c0:(List Bool)):Option Bool:=bnd (ky ad f_1c0) fun r1=>some (decide ((0:Int)≤r1))
def tm{R:Type}(fs dd:Bool)(hd:(List af))(jn b1:Int)(hj:qL1)(n2 a4:Int)(ap:(List af))(a5 a6:Int)(bl:(List Bool))(cc:Int)(cv:(List Bool))(nx:(Int×(List Bool))→Option R)(dn:(List Bool)→Option R)(rt:((List Bool)×(List Bool))→Option R):Option R:=bif decide (cc<n2)then aq (ix cc hj.length)<|aq (ix cc hj.length)<|aq (ix (hj.getD cc.toNat 0) cv.length)<|aq (ix (hj.getD cc.toNat 0) cv.length)<|aq (gc .i64 (cc+1))<|nx ((cc+1),(cv.set (hj.getD cc.toNat 0).toNat true))else dn cv
def qca(fs dd:Bool)(hd:(List af))(jn b1:Int)(hj:qL1)(n2 a4:Int)(ap:(List af))(a5 a6:Int)(bl:(List Bool))(s0:(Int×(List Bool))):Option ((List Bool)⊕((List Bool)×(List Bool))):=bx (fun a=>tm fs dd hd jn b1 hj n2 a4 ap a5 a6 bl a.1 a.2 (fun a' =>some (.next a')) (fun e=>some (.done e)) (fun r=>some (.ret r))) s0
def qta:Shp:=⟨[jmr,jfa,jxd,jw3,juc,jtu,jw8,jw9,(56, .d false qT1),(57, .d true qT0),(58, .d true qT0)],[qct,q8n,qvd,qvd]⟩
def qs9:Shp:=⟨[jmr,jfa,jxd,jw3,juc,jtu,jw8,jw9],[qct,q8n,qvd,qvd]⟩
def g8{R:Type}(fs:Bool)(hd:(List af))(jn a4:Int)(ap:(List af))(a5 a6:Int)(dd:Bool)(b1:Int)(bl cv:(List Bool))(nx:(Bool×Int×(List Bool)×(List Bool))→Option R)(dn:(Bool×(List Bool)×(List Bool))→Option R)(rt:((List Bool)×(List Bool))→Option R):Option R:=bif decide (b1<jn)then aq (ix b1 hd.length)<|aq (ix b1 hd.length)<|bif fs then aq (ix b1 bl.length)<|aq (ix b1 bl.length)<|bif (bl.getD b1.toNat false)then aq (gc .i64 (b1+1))<|nx (dd,(b1+1),bl,cv)else bnd (de (hd.getD b1.toNat af.z).2.2.1 cv) fun r1=>bif (!r1)then aq (gc .i64 (b1+1))<|nx (dd,(b1+1),bl,cv)else aq (ix b1 bl.length)<|aq (ix b1 bl.length)<|bnd (qca fs true hd jn b1 (hd.getD b1.toNat af.z).2.1 ((hd.getD b1.toNat af.z).2.1.length:Int) a4 ap a5 a6 (bl.set b1.toNat true) (0,cv)) fun oe2=>lk oe2 (fun e2=>aq (gc .i64 (b1+1))<|nx (true,(b1+1),(bl.set b1.toNat true),e2)) (fun r=>rt r)else aq (ix b1 bl.length)<|aq (ix b1 bl.length)<|bif (bl.getD b1.toNat false)then aq (gc .i64 (b1+1))<|nx (dd,(b1+1),bl,cv)else bnd (de (hd.getD b1.toNat af.z).2.1 cv) fun r3=>bif (!r3)then aq (gc .i64 (b1+1))<|nx (dd,(b1+1),bl,cv)else aq (ix b1 bl.length)<|aq (ix b1 bl.length)<|bnd (qca fs true hd jn b1 (hd.getD b1.toNat af.z).2.2.1 ((hd.getD b1.toNat af.z).2.2.1.length:Int) a4 ap a5 a6 (bl.set b1.toNat true) (0,cv)) fun oe4=>lk oe4 (fun e4=>aq (gc .i64 (b1+1))<|nx (true,(b1+1),(bl.set b1.toNat true),e4)) (fun r=>rt r)else dn (dd,bl,cv)
def qcb(fs:Bool)(hd:(List af))(jn a4:Int)(ap:(List af))(a5 a6:Int)(s0:(Bool×Int×(List Bool)×(List Bool))):Option ((Bool×(List Bool)×(List Bool))⊕((List Bool)×(List Bool))):=bx (fun a=>g8 fs hd jn a4 ap a5 a6 a.1 a.2.1 a.2.2.1 a.2.2.2 (fun a' =>some (.next a')) (fun e=>some (.done e)) (fun r=>some (.ret r))) s0
def qtc:Shp:=⟨[jmr,jfa,jxd,jw3,juc,jtu,jw8,jw9],[qct,q8n,qvd,qvd]⟩
def qtb:Shp:=⟨[jmr,jfa,jxd,jw3,juc],[qct,q8n,qvd,qvd]⟩
def qad{R:Type}(fs:Bool)(a4:Int)(ap:(List af))(a5 a6:Int)(dd:Bool)(bl cv:(List Bool))(nx:(Bool×(List Bool)×(List Bool))→Option R)(dn rt:((List Bool)×(List Bool))→Option R):Option R:=bif dd then bnd (qcb fs ap (ap.length:Int) a4 ap a5 a6 (false,0,bl,cv)) fun oe5=>lk oe5 (fun e5=>nx (e5.1,e5.2.1,e5.2.2)) (fun r=>rt r)else dn (bl,cv)
def qi0(fs:Bool)(a4:Int)(ap:(List af))(a5 a6:Int)(s0:(Bool×(List Bool)×(List Bool))):Option (((List Bool)×(List Bool))⊕((List Bool)×(List Bool))):=bx (fun a=>qad fs a4 ap a5 a6 a.1 a.2.1 a.2.2 (fun a' =>some (.next a')) (fun e=>some (.done e)) (fun r=>some (.ret r))) s0
def qte:Shp:=⟨[jmr,jfa,jxd,jw3,juc],[qct,q8n,qvd,qvd]⟩
def qtd:Shp:=⟨[jwz,(9, .own 1)],[.cs 133 1 1 (.cons (.own 2) .nil),qvd,qvd]⟩
def oi(aa:az)(ha:Int)(fs:Bool):Option ((List Bool)×(List Bool)):=aq (q0m aa.1 aa.1 1)<|aq (q0m (aa.2.1.length:Int) (aa.2.1.length:Int) 1)<|aq (ix ha (List.replicate aa.1.toNat (false:Bool)).length)<|aq (ix ha (List.replicate aa.1.toNat (false:Bool)).length)<|bnd (qi0 fs aa.1 aa.2.1 aa.2.2.1 aa.2.2.2.1 (true,(List.replicate (aa.2.1.length:Int).toNat (false:Bool)),((List.replicate aa.1.toNat (false:Bool)).set ha.toNat true))) fun oe6=>lk oe6 (fun e6=>some (e6.2,e6.1)) (fun r=>some r)
def jb{R:Type}(ad:(List Bool))(hz:Bool)(be av:Int)(nx:Int→Option R)(dn:Unit→Option R)(rt:Int→Option R):Option R:=bif decide (av<be)then aq (ix av ad.length)<|aq (ix av ad.length)<|bif (hz==(ad.getD av.toNat false))then rt av else aq (gc .i64 (av+1))<|nx (av+1)else dn ()
def vg(ad:(List Bool))(hz:Bool)(be s0:Int):Option (Unit⊕Int):=bx (fun a=>jb ad hz be a (fun a' =>some (.next a')) (fun e=>some (.done e)) (fun r=>some (.ret r))) s0
def qer:Shp:=⟨[(0, .d false (.slice .bool)),jw4,qzv,q2x],[]⟩
def qeq:Shp:=⟨[],[]⟩
def qd(ad:(List Bool))(hz:Bool):Option Int:=bnd (vg ad hz (ad.length:Int) 0) fun oe1=>lk oe1 (fun e1=>some (-1)) (fun r=>some r)
def cq(ad:(List Bool))(hz:Bool):Option Bool:=bnd (qd ad hz) fun r1=>some (decide ((0:Int)≤r1))
def ri{R:Type}(et:(List af))(gg b2:Int)(a9:(List af))(b3 b4 h7:Int)(nx:Int→Option R)(dn:Unit→Option R)(rt:Bool→Option R):Option R:=bif decide (h7<gg)then aq (ix h7 et.length)<|aq (ix h7 et.length)<|bnd (ia (et.getD h7.toNat af.z).2.2.1 b3) fun r2=>bif r2 then rt false else bnd (ia (et.getD h7.toNat af.z).2.1 b4) fun r3=>bif r3 then rt false else aq (gc .i64 (h7+1))<|nx (h7+1)else dn ()
def qgc(et:(List af))(gg b2:Int)(a9:(List af))(b3 b4 s0:Int):Option (Unit⊕Bool):=bx (fun a=>ri et gg b2 a9 b3 b4 a (fun a' =>some (.next a')) (fun e=>some (.done e)) (fun r=>some (.ret r))) s0
def qqq:Shp:=⟨[jms,(21, .d false (.slice af.ty)),(22, .d true qT0),(23, .d true qT0)],[qct]⟩
def qqp:Shp:=⟨[jms],[qct]⟩
def rj{R:Type}(h8:(List Bool))(kt b2:Int)(a9:(List af))(b3 b4 ho:Int)(nx:Int→Option R)(dn:Unit→Option R)(rt:Bool→Option R):Option R:=bif decide (ho<kt)then aq (ix ho h8.length)<|aq (ix ho h8.length)<|bif (h8.getD ho.toNat false)then bnd (oi (b2,a9,b3,b4,()) b4 (h8.getD ho.toNat false)) fun r5=>bnd (cq r5.1 false) fun r6=>bif r6 then rt false else bnd (cq r5.2 false) fun r7=>bif r7 then rt false else aq (gc .i64 (ho+1))<|nx (ho+1)else bnd (oi (b2,a9,b3,b4,()) b3 (h8.getD ho.toNat false)) fun r8=>bnd (cq r8.1 false) fun r9=>bif r9 then rt false else bnd (cq r8.2 false) fun r10=>bif r10 then rt false else aq (gc .i64 (ho+1))<|nx (ho+1)else dn ()
def qgd(h8:(List Bool))(kt b2:Int)(a9:(List af))(b3 b4 s0:Int):Option (Unit⊕Bool):=bx (fun a=>rj h8 kt b2 a9 b3 b4 a (fun a' =>some (.next a')) (fun e=>some (.done e)) (fun r=>some (.ret r))) s0
def qqs:Shp:=⟨[jms,(40, .d true (.slice .bool)),(41, .d true qT0),(42, .d true qT0)],[qct]⟩
def qqr:Shp:=⟨[],[]⟩
def eb(aa:az):Option Bool:=bnd (sk aa) fun r1=>bif (!r1)then some false else bif decide (aa.2.2.1=aa.2.2.2.1)then some false else bnd (qgc aa.2.1 (aa.2.1.length:Int) aa.1 aa.2.1 aa.2.2.1 aa.2.2.2.1 0) fun oe4=>lk oe4 (fun e4=>bnd (qgd [false,true] 2 aa.1 aa.2.1 aa.2.2.1 aa.2.2.2.1 0) fun oe11=>lk oe11 (fun e11=>some true) (fun r=>some r)) (fun r=>some r)
def x9(a2 a3:az):Option Int:=bnd (eb a2) fun r1=>bif (!r1)then some 1 else bnd (eb a3) fun r2=>bif (!r2)then some 1 else some 0
def qgi(aa:az)(c5:Int):Option (Int×qL1):=bnd (sk aa) fun r1=>bif (!r1)then some (1,[])else aq (q0m aa.1 aa.1 8)<|aq (ix c5 (List.replicate aa.1.toNat (0:Int)).length)<|aq (ix c5 (List.replicate aa.1.toNat (0:Int)).length)<|some (0,((List.replicate aa.1.toNat (0:Int)).set c5.toNat 1))
def u4(aa:az):Option (qL1×Int):=bnd (qgi aa aa.2.2.1) fun r1=>some (r1.2,r1.1)
def qb9(py:Int):Option Bool:=bif decide (py<0)then some true else some (decide ((100:Int)<py))
def f9{R:Type}(ad:qL1)(be av:Int)(nx:Int→Option R)(dn:Unit→Option R)(rt:Int→Option R):Option R:=bif decide (av<be)then aq (ix av ad.length)<|aq (ix av ad.length)<|bnd (qb9 (ad.getD av.toNat 0)) fun r1=>bif r1 then rt av else aq (gc .i64 (av+1))<|nx (av+1)else dn ()
def pn(ad:qL1)(be s0:Int):Option (Unit⊕Int):=bx (fun a=>f9 ad be a (fun a' =>some (.next a')) (fun e=>some (.done e)) (fun r=>some (.ret r))) s0
def qam:Shp:=⟨[jmg,(1, .fn 87 .nil),qzv,q2x],[]⟩
def qal:Shp:=⟨[],[]⟩
def lx(ad:qL1):Option Int:=bnd (pn ad (ad.length:Int) 0) fun oe2=>lk oe2 (fun e2=>some (-1)) (fun r=>some r)
def fy(ad:qL1):Option Bool:=bnd (lx ad) fun r1=>some (decide ((0:Int)≤r1))
def ma(aa:az)(bs:qL1):Option Bool:=bnd (sk aa) fun r1=>bif r1 then bif decide ((bs.length:Int)=aa.1)then bnd (fy bs) fun r2=>some (!r2)else some false else some false
def yv(ad:qL1):Option qL1:=bif decide ((ad.length:Int)=0)then some []else aq (room (0+ad.length) 8)<|some ([]++ad)
def lu(ad:qL1):Option qL1:=aq (room (0+ad.length) 8)<|some ([]++ad)
def cm(ad:qL1):Option qL1:=lu ad
def qb8(gx:Int)(c5:qL1):Option Bool:=aq (ix 0 1)<|aq (ix gx c5.length)<|aq (ix gx c5.length)<|some (decide ((c5.getD gx.toNat 0)=0))
def fj{R:Type}(ad f_1c0:qL1)(be av:Int)(nx:Int→Option R)(dn:Unit→Option R)(rt:Int→Option R):Option R:=bif decide (av<be)then aq (ix av ad.length)<|aq (ix av ad.length)<|bnd (qb8 (ad.getD av.toNat 0) f_1c0) fun r1=>bif r1 then rt av else aq (gc .i64 (av+1))<|nx (av+1)else dn ()
def o5(ad f_1c0:qL1)(be s0:Int):Option (Unit⊕Int):=bx (fun a=>fj ad f_1c0 be a (fun a' =>some (.next a')) (fun e=>some (.done e)) (fun r=>some (.ret r))) s0
def ze:Shp:=⟨[jmg,(1, .fn 111 (.cons (.rp false qT1) .nil)),qzv,q2x],[]⟩
def zd:Shp:=⟨[],[]⟩
def kw(ad f_1c0:qL1):Option Int:=bnd (o5 ad f_1c0 (ad.length:Int) 0) fun oe2=>lk oe2 (fun e2=>some (-1)) (fun r=>some r)
def i4(ad f_1c0:qL1):Option Bool:=bnd (kw ad f_1c0) fun r1=>some (decide ((0:Int)≤r1))
def u5(m0:af)(bs:qL1):Option Bool:=bnd (i4 m0.2.1 bs) fun r1=>some (!r1)
def m3{R:Type}(hl:qL1)(kk ft:Int)(nx:(Int×Int)→Option R)(dn rt:Int→Option R):Option R:=bif decide (ft<(hl.length:Int))then aq (ix ft hl.length)<|aq (ix ft hl.length)<|aq (gc .i64 (ft+1))<|nx ((max kk (hl.getD ft.toNat 0)),(ft+1))else dn kk
def qbx(hl:qL1)(s0:(Int×Int)):Option (Int⊕Int):=bx (fun a=>m3 hl a.1 a.2 (fun a' =>some (.next a')) (fun e=>some (.done e)) (fun r=>some (.ret r))) s0
def qjk:Shp:=⟨[jmg,jwr,jwv],[]⟩
def qjj:Shp:=⟨[jwr],[]⟩
def qe(hl:qL1):Option Int:=bif decide ((hl.length:Int)<1)then none else aq (ix 0 hl.length)<|aq (ix 0 hl.length)<|bnd (qbx hl ((hl.getD 0 0),1)) fun oe1=>lk oe1 (fun e1=>some e1) (fun r=>some r)
def qay{R:Type}(h0:qL1)(nn:Int)(pl:ByteArray)(pm ps:qL1)(hq:Int)(bo:qL1)(nx:(Int×qL1)→Option R)(dn:qL1→Option R)(rt:(Int×qL1)→Option R):Option R:=bif decide (hq<nn)then aq (ix hq h0.length)<|aq (ix hq h0.length)<|aq (ix (h0.getD hq.toNat 0) bo.length)<|aq (ix (h0.getD hq.toNat 0) bo.length)<|aq (gc .i64 ((bo.getD (h0.getD hq.toNat 0).toNat 0)-1))<|aq (ix (h0.getD hq.toNat 0) bo.length)<|aq (ix (h0.getD hq.toNat 0) bo.length)<|aq (gc .i64 (hq+1))<|nx ((hq+1),(bo.set (h0.getD hq.toNat 0).toNat ((bo.getD (h0.getD hq.toNat 0).toNat 0)-1)))else dn bo
def qqu(h0:qL1)(nn:Int)(pl:ByteArray)(pm ps:qL1)(s0:(Int×qL1)):Option (qL1⊕(Int×qL1)):=bx (fun a=>qay h0 nn pl pm ps a.1 a.2 (fun a' =>some (.next a')) (fun e=>some (.done e)) (fun r=>some (.ret r))) s0
def q0u:Shp:=⟨[jwz,(9, .own 1),(35, .d false qT1),(36, .d true qT0),(37, .d true qT0)],[q6c,qmd]⟩
def q0t:Shp:=⟨[jwz,(9, .own 1)],[q6c,qmd]⟩
def qaz{R:Type}(h1:qL1)(n0 hr:Int)(bo:qL1)(nx:(Int×qL1)→Option R)(dn:qL1→Option R)(rt:(Int×qL1)→Option R):Option R:=bif decide (hr<n0)then aq (ix hr h1.length)<|aq (ix hr h1.length)<|aq (ix (h1.getD hr.toNat 0) bo.length)<|aq (ix (h1.getD hr.toNat 0) bo.length)<|aq (gc .i64 ((bo.getD (h1.getD hr.toNat 0).toNat 0)+1))<|aq (ix (h1.getD hr.toNat 0) bo.length)<|aq (ix (h1.getD hr.toNat 0) bo.length)<|aq (gc .i64 (hr+1))<|nx ((hr+1),(bo.set (h1.getD hr.toNat 0).toNat ((bo.getD (h1.getD hr.toNat 0).toNat 0)+1)))else dn bo
def qqv(h1:qL1)(n0:Int)(s0:(Int×qL1)):Option (qL1⊕(Int×qL1)):=bx (fun a=>qaz h1 n0 a.1 a.2 (fun a' =>some (.next a')) (fun e=>some (.done e)) (fun r=>some (.ret r))) s0
def q0w:Shp:=⟨[(9, .own 0),(49, .d false qT1),(50, .d true qT0),(51, .d true qT0)],[qmd]⟩
def q0v:Shp:=⟨[(9, .own 0)],[qmd]⟩
def oh(aa:az)(bs:qL1)(bb:Int):Option (Int×qL1):=bif decide (bb<0)then some (2,[])else bif decide ((aa.2.1.length:Int)≤bb)then some (2,[])else aq (ix bb aa.2.1.length)<|aq (ix bb aa.2.1.length)<|bnd (u5 (aa.2.1.getD bb.toNat af.z) bs) fun r1=>bif (!r1)then some (12,[])else bnd (cm bs) fun r2=>bnd (qqu (aa.2.1.getD bb.toNat af.z).2.1 ((aa.2.1.getD bb.toNat af.z).2.1.length:Int) (aa.2.1.getD bb.toNat af.z).1 (aa.2.1.getD bb.toNat af.z).2.1 (aa.2.1.getD bb.toNat af.z).2.2.1 (0,r2)) fun oe3=>lk oe3 (fun e3=>bnd (qqv (aa.2.1.getD bb.toNat af.z).2.2.1 ((aa.2.1.getD bb.toNat af.z).2.2.1.length:Int) (0,e3)) fun oe4=>lk oe4 (fun e4=>bnd (qe e4) fun r5=>bif decide ((100:Int)<r5)then some (5,[])else some (0,e4)) (fun r=>some r)) (fun r=>some r)
def ye{R:Type}(hi ip:qL1)(g7 a4:Int)(ap:(List af))(a5 a6:Int)(n3:qL1)(hc:Int)(nx:(qL1×Int)→Option R)(dn:qL1→Option R)(rt:(qL1×Int×Int)→Option R):Option R:=bif decide (hc<g7)then aq (ix hc ip.length)<|aq (ix hc ip.length)<|bnd (oh (a4,ap,a5,a6,()) n3 (ip.getD hc.toNat 0)) fun r3=>bif (!decide (r3.1=0))then rt ([],hc,r3.1)else aq (gc .i64 (hc+1))<|nx (r3.2,(hc+1))else dn n3
def qui(hi ip:qL1)(g7 a4:Int)(ap:(List af))(a5 a6:Int)(s0:(qL1×Int)):Option (qL1⊕(qL1×Int×Int)):=bx (fun a=>ye hi ip g7 a4 ap a5 a6 a.1 a.2 (fun a' =>some (.next a')) (fun e=>some (.done e)) (fun r=>some (.ret r))) s0
def q39:Shp:=⟨[jty,jfa,jw0,(25, .d false qT1),jw7,(27, .d true qT0)],[qct]⟩
def q38:Shp:=⟨[jty,jw0],[]⟩
def ql3(aa:az)(bs hi:qL1):Option (qL1×Int×Int):=bnd (ma aa bs) fun r1=>bif (!r1)then some ([],0,1)else bif decide ((1000:Int)<(hi.length:Int))then some ([],0,5)else bnd (cm bs) fun r2=>bnd (qui hi hi (hi.length:Int) aa.1 aa.2.1 aa.2.2.1 aa.2.2.2.1 (r2,0)) fun oe4=>lk oe4 (fun e4=>some (e4,(hi.length:Int),0)) (fun r=>some r)
def qax{R:Type}(g6:qL1)(f0 es:Int)(bf:(List af))(ev ex bk:Int)(g1:(List ByteArray))(nx:(Int×(List ByteArray))→Option R)(dn:(List ByteArray)→Option R)(rt:(Int×(List ByteArray))→Option R):Option R:=bif decide (bk<f0)then aq (ix bk g6.length)<|aq (ix bk g6.length)<|bif decide ((g6.getD bk.toNat 0)<0)then rt (2,[])else bif decide ((bf.length:Int)≤(g6.getD bk.toNat 0))then rt (2,[])else aq (ix (g6.getD bk.toNat 0) bf.length)<|aq (ix (g6.getD bk.toNat 0) bf.length)<|bif (!(ByteArray.toList (bf.getD (g6.getD bk.toNat 0).toNat af.z).1==ByteArray.toList ⟨#[]⟩))then aq (room (g1.length+1) 16)<|aq (gc .i64 (bk+1))<|nx ((bk+1),(g1++[(bf.getD (g6.getD bk.toNat 0).toNat af.z).1]))else aq (gc .i64 (bk+1))<|nx ((bk+1),g1)else dn g1
def qqn(g6:qL1)(f0 es:Int)(bf:(List af))(ev ex:Int)(s0:(Int×(List ByteArray))):Option ((List ByteArray)⊕(Int×(List ByteArray))):=bx (fun a=>qax g6 f0 es bf ev ex a.1 a.2 (fun a' =>some (.next a')) (fun e=>some (.done e)) (fun r=>some (.ret r))) s0
def q0r:Shp:=⟨[jwo,(6, .nl false (.own 1)),(18, .d false qT1),jw6,jua],[qct,q49]⟩
def q0q:Shp:=⟨[jwp],[q49]⟩
def qhx(aa:az)(b0:qL1):Option (Int×(List ByteArray)):=bnd (sk aa) fun r1=>bif (!r1)then some (1,[])else bif decide ((1000:Int)<(b0.length:Int))then some (5,[])else bnd (qqn b0 (b0.length:Int) aa.1 aa.2.1 aa.2.2.1 aa.2.2.2.1 (0,[])) fun oe2=>lk oe2 (fun e2=>some (0,e2)) (fun r=>some r)
def nm(a2:az)(hb:qL1):Option (qL1×Bool×(List ByteArray)):=bnd (u4 a2) fun r1=>bnd (ql3 a2 r1.1 hb) fun r2=>bif (!decide (r2.2.2=0))then some ([],false,[])else bnd (qhx a2 hb) fun r3=>some (r2.1,decide (r3.1=0),r3.2)
def jq(a2 a3:az)(hs:qL1)(dw:Int):Option (qL1×Int×(List ByteArray)):=bnd (x9 a2 a3) fun r1=>bif (!decide (r1=0))then some ([],r1,[])else bnd (nm a2 hs) fun r2=>bif (!r2.2.1)then some ([],12,[])else bif decide (dw<1)then some ([],2,[])else bif decide ((2000:Int)<dw)then some ([],2,[])else some (r2.1,0,r2.2.2)
def iv(hw:qL1):Option ByteArray:=jgg hw
def qab(aa:az)(bs:qL1)(bb:Int):Option (Int×qL1):=bnd (ma aa bs) fun r1=>bif (!r1)then some (1,[])else bnd (oh aa bs bb) fun r2=>some (r2.1,r2.2)
def tf{R:Type}(bs:qL1)(nf es:Int)(bf:(List af))(ev ex fr:Int)(dt:(List ag))(nx:(Int×(List ag))→Option R)(dn rt:(List ag)→Option R):Option R:=bif decide (fr<nf)then bnd (qab (es,bf,ev,ex,()) bs fr) fun r1=>bif decide (r1.1=0)then aq (room (dt.length+1) 32)<|aq (gc .i64 (fr+1))<|nx ((fr+1),(dt++[(fr,r1.2,())]))else aq (gc .i64 (fr+1))<|nx ((fr+1),dt)else dn dt
def qir(bs:qL1)(nf es:Int)(bf:(List af))(ev ex:Int)(s0:(Int×(List ag))):Option ((List ag)⊕(List ag)):=bx (fun a=>tf bs nf es bf ev ex a.1 a.2 (fun a' =>some (.next a')) (fun e=>some (.done e)) (fun r=>some (.ret r))) s0
def qsu:Shp:=⟨[jg7,jwo,(5, .nl false (.own 1)),(11, .d true qT0),jtw],[qct,jj8]⟩
def qst:Shp:=⟨[(5, .nl false (.own 0))],[jj8]⟩
def c9(aa:az)(bs:qL1):Option (List ag):=bnd (qir bs (aa.2.1.length:Int) aa.1 aa.2.1 aa.2.2.1 aa.2.2.2.1 (0,[])) fun oe2=>lk oe2 (fun e2=>some e2) (fun r=>some r)
def cw{R:Type}(cy:(List ByteArray))(a1 hn:Int)(gj:(List ag))(h9 a4:Int)(ap:(List af))(a5 a6 hk:Int)(oo ku:qL1)(dc:Int)(b6:(List ae))(gf:(List (ByteArray×Bool)))(nx:(Int×(List ae)×(List (ByteArray×Bool)))→Option R)(dn:((List ae)×(List (ByteArray×Bool)))→Option R)(rt:(Bool×(List ae))→Option R):Option R:=bif decide (dc<h9)then aq (ix dc gj.length)<|aq (ix dc gj.length)<|aq (ix (gj.getD dc.toNat ag.z).1 ap.length)<|aq (ix (gj.getD dc.toNat ag.z).1 ap.length)<|bif (!(ByteArray.toList (ap.getD (Int.toNat (gj.getD dc.toNat ag.z).1) af.z).1==ByteArray.toList ⟨#[]⟩))then bif decide (hk=(cy.length:Int))then aq (gc .i64 (dc+1))<|nx ((dc+1),b6,gf)else aq (ix hk cy.length)<|aq (ix hk cy.length)<|bif (!(ByteArray.toList (cy.getD hk.toNat ⟨#[]⟩)==ByteArray.toList (ap.getD (Int.toNat (gj.getD dc.toNat ag.z).1) af.z).1))then aq (gc .i64 (dc+1))<|nx ((dc+1),b6,gf)else aq (gc .i64 (hk+1))<|aq (room (1+(gj.getD dc.toNat ag.z).2.1.length) 8)<|bnd (iv ([(hk+1)]++(gj.getD dc.toNat ag.z).2.1)) fun r4=>bif ((l8 .str r4 gf).getD false)then aq (gc .i64 (dc+1))<|nx ((dc+1),b6,gf)else bif decide ((b6.length:Int)=a1)then rt (false,b6)else bnd (cm ku) fun r5=>aq (room (r5.length+1) 8)<|aq (room (b6.length+1) 56)<|aq (gc .i64 (dc+1))<|nx ((dc+1),(b6++[((hk+1),(gj.getD dc.toNat ag.z).2.1,(r5++[(gj.getD dc.toNat ag.z).1]),())]),(tj .str r4 true gf))else aq (room (1+(gj.getD dc.toNat ag.z).2.1.length) 8)<|bnd (iv ([hk]++(gj.getD dc.toNat ag.z).2.1)) fun r6=>bif ((l8 .str r6 gf).getD false)then aq (gc .i64 (dc+1))<|nx ((dc+1),b6,gf)else bif decide ((b6.length:Int)=a1)then rt (false,b6)else bnd (cm ku) fun r7=>aq (room (r7.length+1) 8)<|aq (room (b6.length+1) 56)<|aq (gc .i64 (dc+1))<|nx ((dc+1),(b6++[(hk,(gj.getD dc.toNat ag.z).2.1,(r7++[(gj.getD dc.toNat ag.z).1]),())]),(tj .str r6 true gf))else dn (b6,gf)
def qcn(cy:(List ByteArray))(a1 hn:Int)(gj:(List ag))(h9 a4:Int)(ap:(List af))(a5 a6 hk:Int)(oo ku:qL1)(s0:(Int×(List ae)×(List (ByteArray×Bool)))):Option (((List ae)×(List (ByteArray×Bool)))⊕(Bool×(List ae))):=bx (fun a=>cw cy a1 hn gj h9 a4 ap a5 a6 hk oo ku a.1 a.2.1 a.2.2 (fun a' =>some (.next a')) (fun e=>some (.done e)) (fun r=>some (.ret r))) s0
def qkk:Shp:=⟨[jtp,q48,jfa,(10, .own 1),(11, .mp 2),jtw,(13, .ptr 3),(46, .nl false (.d true (.slice ag.ty))),(47, .d true qT0),(48, .d true qT0)],[qct,qu5,qpc, .cs 92 3 1 (.cons (.d true qT0) (.cons (.d true qT1) (.cons (.d true qT1) .nil)))]⟩
def qkj:Shp:=⟨[jtp,q48,jfa,(10, .own 1),(11, .mp 2),jtw],[qct,qu5,qpc]⟩
def j1{R:Type}(cy:(List ByteArray))(a1 a4:Int)(ap:(List af))(a5 a6 hn:Int)(b6:(List ae))(gf:(List (ByteArray×Bool)))(nx:(Int×(List ae)×(List (ByteArray×Bool)))→Option R)(dn:(List ae)→Option R)(rt:(Bool×(List ae))→Option R):Option R:=bif decide (hn<(b6.length:Int))then aq (ix hn b6.length)<|aq (ix hn b6.length)<|bnd (c9 (a4,ap,a5,a6,()) (b6.getD hn.toNat ae.z).2.1) fun r3=>bnd (qcn cy a1 hn r3 (r3.length:Int) a4 ap a5 a6 (b6.getD hn.toNat ae.z).1 (b6.getD hn.toNat ae.z).2.1 (b6.getD hn.toNat ae.z).2.2.1 (0,b6,gf)) fun oe8=>lk oe8 (fun e8=>aq (gc .i64 (hn+1))<|nx ((hn+1),e8.1,e8.2)) (fun r=>rt r)else dn b6
def um(cy:(List ByteArray))(a1 a4:Int)(ap:(List af))(a5 a6:Int)(s0:(Int×(List ae)×(List (ByteArray×Bool)))):Option ((List ae)⊕(Bool×(List ae))):=bx (fun a=>j1 cy a1 a4 ap a5 a6 a.1 a.2.1 a.2.2 (fun a' =>some (.next a')) (fun e=>some (.done e)) (fun r=>some (.ret r))) s0
def qkm:Shp:=⟨[jtp,q48,jfa,(10, .own 1),(11, .mp 2),jtw],[qct,qu5,qpc]⟩
def qkl:Shp:=⟨[(10, .own 0)],[qu5]⟩
def kh(aa:az)(cy:(List ByteArray))(a1:Int):Option (Bool×(List ae)):=bnd (u4 aa) fun r1=>aq (room (1+r1.1.length) 8)<|bnd (iv ([0]++r1.1)) fun r2=>bnd (um cy a1 aa.1 aa.2.1 aa.2.2.1 aa.2.2.2.1 (0,[(0,r1.1,[],())],(tj .str r2 true ([]:(List (ByteArray×Bool)))))) fun oe9=>lk oe9 (fun e9=>some (true,e9)) (fun r=>some r)
def x4(gx:ae)(c5:(List ByteArray)):Option Bool:=aq (ix 0 1)<|some (decide (gx.1<(c5.length:Int)))
def br{R:Type}(ad:(List ae))(f_1c0:(List ByteArray))(be av:Int)(nx:Int→Option R)(dn:Unit→Option R)(rt:Int→Option R):Option R:=bif decide (av<be)then aq (ix av ad.length)<|aq (ix av ad.length)<|bnd (x4 (ad.getD av.toNat ae.z) f_1c0) fun r1=>bif r1 then rt av else aq (gc .i64 (av+1))<|nx (av+1)else dn ()
def d9(ad:(List ae))(f_1c0:(List ByteArray))(be s0:Int):Option (Unit⊕Int):=bx (fun a=>br ad f_1c0 be a (fun a' =>some (.next a')) (fun e=>some (.done e)) (fun r=>some (.ret r))) s0
def j7:Shp:=⟨[jws,jtq,qzv,q2x],[]⟩
def j6:Shp:=⟨[],[]⟩
def b7(ad:(List ae))(f_1c0:(List ByteArray)):Option Int:=bnd (d9 ad f_1c0 (ad.length:Int) 0) fun oe2=>lk oe2 (fun e2=>some (-1)) (fun r=>some r)
def bg{R:Type}(del_1c0:(List ByteArray))(bd hh:Int)(ad:(List ae))(nx:(Int×Int×(List ae))→Option R)(dn:(Int×(List ae))→Option R)(rt:(List ae)→Option R):Option R:=bif decide (hh<(ad.length:Int))then aq (ix hh ad.length)<|aq (ix hh ad.length)<|bnd (x4 (ad.getD hh.toNat ae.z) del_1c0) fun r2=>bif (!r2)then aq (ix bd ad.length)<|aq (ix bd ad.length)<|aq (gc .i64 (bd+1))<|aq (gc .i64 (hh+1))<|nx ((bd+1),(hh+1),(ad.set bd.toNat (ad.getD hh.toNat ae.z)))else aq (gc .i64 (hh+1))<|nx (bd,(hh+1),ad)else dn (bd,ad)
def di(del_1c0:(List ByteArray))(s0:(Int×Int×(List ae))):Option ((Int×(List ae))⊕(List ae)):=bx (fun a=>bg del_1c0 a.1 a.2.1 a.2.2 (fun a' =>some (.next a')) (fun e=>some (.done e)) (fun r=>some (.ret r))) s0
def jt:Shp:=⟨[jfg,jtq,jg8,jmt],[qu5]⟩
def js:Shp:=⟨[jfg,jg8],[qu5]⟩
def bt(del_1c0:(List ByteArray))(ad:(List ae)):Option (List ae):=bnd (b7 ad del_1c0) fun r1=>bif decide (r1=(-1))then some ad else aq (gc .i64 (r1+1))<|bnd (di del_1c0 (r1,(r1+1),ad)) fun oe3=>lk oe3 (fun e3=>aq (cut e3.1 (e3.2.length:Int) e3.2.length)<|aq (cut 0 e3.1 (m5 e3.2 e3.1.toNat ((e3.2.length:Int).toNat-e3.1.toNat) (List.replicate ((e3.2.length:Int).toNat-e3.1.toNat) (ae.z:ae))).length)<|some (((m5 e3.2 e3.1.toNat ((e3.2.length:Int).toNat-e3.1.toNat) (List.replicate ((e3.2.length:Int).toNat-e3.1.toNat) (ae.z:ae))).drop 0).take (e3.1.toNat-0))) (fun r=>some r)
def qk(os:qL1)(c5:(List (ByteArray×Bool)))(g3:qL2):Option ((List (ByteArray×Bool))×qL2):=bnd (iv os) fun r1=>bif (!((l8 .str r1 c5).getD false))then bnd (iv os) fun r2=>aq (room (g3.length+1) 24)<|some ((tj .str r2 true c5),(g3++[os]))else some (c5,g3)
def td{R:Type}(a1 f0:Int)(g6:qL2)(a4:Int)(ap:(List af))(a5 a6 bk:Int)(bo:qL2)(add_10c0:(List (ByteArray×Bool)))(nx:(Int×qL2×(List (ByteArray×Bool)))→Option R)(dn:(qL2×(List (ByteArray×Bool)))→Option R)(rt:(Bool×qL2×qL2)→Option R):Option R:=bif decide (bk<f0)then aq (ix bk g6.length)<|aq (ix bk g6.length)<|bnd (qk (g6.getD bk.toNat []) add_10c0 bo) fun r1=>aq (gc .i64 (bk+1))<|nx ((bk+1),r1.2,r1.1)else dn (bo,add_10c0)
def qin(a1 f0:Int)(g6:qL2)(a4:Int)(ap:(List af))(a5 a6:Int)(s0:(Int×qL2×(List (ByteArray×Bool)))):Option ((qL2×(List (ByteArray×Bool)))⊕(Bool×qL2×qL2)):=bx (fun a=>td a1 f0 g6 a4 ap a5 a6 a.1 a.2.1 a.2.2 (fun a' =>some (.next a')) (fun e=>some (.done e)) (fun r=>some (.ret r))) s0
def qsl:Shp:=⟨[q48,jw2,jxe,qzy,(18, .own 0),jw6,jua],[qfg,qct,jcq,jcp,qfg,qpc]⟩
def qsk:Shp:=⟨[q48,jw2,jxe,qzy],[qfg,qct,jcq,jcp,qfg,qpc]⟩
def te{R:Type}(a1 h6:Int)(kx:(List ag))(gj:Int)(k0:qL2)(a4:Int)(ap:(List af))(a5 a6 h9:Int)(bo:qL2)(add_10c0:(List (ByteArray×Bool)))(nx:(Int×qL2×(List (ByteArray×Bool)))→Option R)(dn:(qL2×(List (ByteArray×Bool)))→Option R)(rt:(Bool×qL2×qL2)→Option R):Option R:=bif decide (h9<gj)then aq (ix h9 kx.length)<|aq (ix h9 kx.length)<|bnd (qk (kx.getD h9.toNat ag.z).2.1 add_10c0 bo) fun r4=>aq (gc .i64 (h9+1))<|nx ((h9+1),r4.2,r4.1)else dn (bo,add_10c0)
def qio(a1 h6:Int)(kx:(List ag))(gj:Int)(k0:qL2)(a4:Int)(ap:(List af))(a5 a6:Int)(s0:(Int×qL2×(List (ByteArray×Bool)))):Option ((qL2×(List (ByteArray×Bool)))⊕(Bool×qL2×qL2)):=bx (fun a=>te a1 h6 kx gj k0 a4 ap a5 a6 a.1 a.2.1 a.2.2 (fun a' =>some (.next a')) (fun e=>some (.done e)) (fun r=>some (.ret r))) s0
def qsn:Shp:=⟨[q48,jw2,jxe,qzy,jtx,(45, .nl false (.d true (.slice ag.ty))),(46, .d true qT0),(47, .d true qT0)],[qfg,qct,jcq,jcp,qfg,qpc]⟩
def qsm:Shp:=⟨[q48,jw2,jxe,qzy,jtx],[qfg,qct,jcq,jcp,qfg,qpc]⟩
def oz{R:Type}(a1:Int)(k0:qL2)(a4:Int)(ap:(List af))(a5 a6 h6:Int)(bo:qL2)(add_10c0:(List (ByteArray×Bool)))(nx:(Int×qL2×(List (ByteArray×Bool)))→Option R)(dn:qL2→Option R)(rt:(Bool×qL2×qL2)→Option R):Option R:=bif decide (h6<(bo.length:Int))then bif decide ((bo.length:Int)≤a1)then aq (ix h6 bo.length)<|aq (ix h6 bo.length)<|bnd (c9 (a4,ap,a5,a6,()) (bo.getD h6.toNat [])) fun r3=>bnd (qio a1 h6 r3 (r3.length:Int) k0 a4 ap a5 a6 (0,bo,add_10c0)) fun oe5=>lk oe5 (fun e5=>aq (gc .i64 (h6+1))<|nx ((h6+1),e5.1,e5.2)) (fun r=>rt r)else dn bo else dn bo
def qip(a1:Int)(k0:qL2)(a4:Int)(ap:(List af))(a5 a6:Int)(s0:(Int×qL2×(List (ByteArray×Bool)))):Option (qL2⊕(Bool×qL2×qL2)):=bx (fun a=>oz a1 k0 a4 ap a5 a6 a.1 a.2.1 a.2.2 (fun a' =>some (.next a')) (fun e=>some (.done e)) (fun r=>some (.ret r))) s0
def qsp:Shp:=⟨[q48,jw2,jxe,qzy,jtx],[qfg,qct,jcq,jcp,qfg,qpc]⟩
def qso:Shp:=⟨[q48,(9, .ptr 1)],[qfg, .cs 38 1 1 (.cons (.own 2) .nil),qfg]⟩
def uz(aa:az)(a1:Int)(ha:qL2):Option (Bool×qL2×qL2):=bnd (qin a1 (ha.length:Int) ha aa.1 aa.2.1 aa.2.2.1 aa.2.2.2.1 (0,[],[])) fun oe2=>lk oe2 (fun e2=>bnd (qip a1 ha aa.1 aa.2.1 aa.2.2.1 aa.2.2.2.1 (0,e2.1,e2.2)) fun oe6=>lk oe6 (fun e6=>some (decide ((e6.length:Int)≤a1),ha,e6)) (fun r=>some r)) (fun r=>some r)
def jr(hl m2:qL1):Option ByteArray:=bnd (iv hl) fun r1=>aq (decide (((ByteArray.size r1+ByteArray.size ⟨#[124]⟩:Nat):Int)≤9223372036854775807))<|bnd (iv m2) fun r2=>aq (decide (((ByteArray.size (r1++⟨#[124]⟩)+ByteArray.size r2:Nat):Int)≤9223372036854775807))<|some ((r1++⟨#[124]⟩)++r2)
def sj(aa:az):Option (Int×qL1):=bnd (qgi aa aa.2.2.2.1) fun r1=>some (r1.1,r1.2)
def ib{R:Type}(gr g4:qL1)(fr e0:Int)(nx:Int→Option R)(dn:Unit→Option R)(rt:Bool→Option R):Option R:=bif decide (e0<fr)then aq (ix e0 gr.length)<|aq (ix e0 gr.length)<|aq (ix e0 g4.length)<|aq (ix e0 g4.length)<|bif (!decide ((gr.getD e0.toNat 0)=(g4.getD e0.toNat 0)))then rt false else aq (gc .i64 (e0+1))<|nx (e0+1)else dn ()
def y4(gr g4:qL1)(fr s0:Int):Option (Unit⊕Bool):=bx (fun a=>ib gr g4 fr a (fun a' =>some (.next a')) (fun e=>some (.done e)) (fun r=>some (.ret r))) s0
def qgy:Shp:=⟨[jmg,jg7,jtw,jtx],[]⟩
def qgx:Shp:=⟨[],[]⟩
def bp(gr g4:qL1):Option Bool:=bif (!decide ((gr.length:Int)=(g4.length:Int)))then some false else bnd (y4 gr g4 (gr.length:Int) 0) fun oe1=>lk oe1 (fun e1=>some true) (fun r=>some r)
def o3{R:Type}(bs:qL1)(gs:(List af))(ke gt:Int)(g1:qL1)(nx:(Int×qL1)→Option R)(dn:qL1→Option R)(rt:(Int×qL1)→Option R):Option R:=bif decide (gt<ke)then aq (ix gt gs.length)<|aq (ix gt gs.length)<|bnd (u5 (gs.getD gt.toNat af.z) bs) fun r2=>bif r2 then aq (room (g1.length+1) 8)<|aq (gc .i64 (gt+1))<|nx ((gt+1),(g1++[gt]))else aq (gc .i64 (gt+1))<|nx ((gt+1),g1)else dn g1
def qiu(bs:qL1)(gs:(List af))(ke:Int)(s0:(Int×qL1)):Option (qL1⊕(Int×qL1)):=bx (fun a=>o3 bs gs ke a.1 a.2 (fun a' =>some (.next a')) (fun e=>some (.done e)) (fun r=>some (.ret r))) s0
def qs2:Shp:=⟨[jg7,jwp,(14, .d false (.slice af.ty)),(15, .d true qT0),(16, .d true qT0)],[qmd]⟩
def qs1:Shp:=⟨[jwp],[qmd]⟩
def l9(aa:az)(bs:qL1):Option (Int×qL1):=bnd (ma aa bs) fun r1=>bif (!r1)then some (1,[])else bnd (qiu bs aa.2.1 (aa.2.1.length:Int) (0,[])) fun oe3=>lk oe3 (fun e3=>some (0,e3)) (fun r=>some r)
def mu(hl m2:qL1)(g3:(List (ByteArray×Bool))):Option (Bool×(List (ByteArray×Bool))):=bnd (jr hl m2) fun r1=>some (((l8 .str r1 g3).getD false),g3)
def pt(f1:ag)(c5:az)(g3:ByteArray)(mx:ag)(p_3c0:(List (ByteArray×Bool))):Option (Bool×(List (ByteArray×Bool))):=aq (ix 0 1)<|aq (ix f1.1 c5.2.1.length)<|aq (ix f1.1 c5.2.1.length)<|aq (ix 0 1)<|bif (ByteArray.toList (c5.2.1.getD f1.1.toNat af.z).1==ByteArray.toList g3)then aq (ix 0 1)<|bnd (mu mx.2.1 f1.2.1 p_3c0) fun r1=>some (r1.1,r1.2)else some (false,p_3c0)
def b9{R:Type}(ad:(List ag))(f_1c0:az)(f_1c1:ByteArray)(f_1c3:ag)(be av:Int)(f_1c2c0:(List (ByteArray×Bool)))(nx:(Int×(List (ByteArray×Bool)))→Option R)(dn:(List (ByteArray×Bool))→Option R)(rt:(Int×(List (ByteArray×Bool)))→Option R):Option R:=bif decide (av<be)then aq (ix av ad.length)<|aq (ix av ad.length)<|bnd (pt (ad.getD av.toNat ag.z) f_1c0 f_1c1 f_1c3 f_1c2c0) fun r1=>bif r1.1 then rt (av,r1.2)else aq (gc .i64 (av+1))<|nx ((av+1),r1.2)else dn f_1c2c0
def ff(ad:(List ag))(f_1c0:az)(f_1c1:ByteArray)(f_1c3:ag)(be:Int)(s0:(Int×(List (ByteArray×Bool)))):Option ((List (ByteArray×Bool))⊕(Int×(List (ByteArray×Bool)))):=bx (fun a=>b9 ad f_1c0 f_1c1 f_1c3 be a.1 a.2 (fun a' =>some (.next a')) (fun e=>some (.done e)) (fun r=>some (.ret r))) s0
def l5:Shp:=⟨[jwu,q1j,qzv,q2x],[qr5,qls,qpc]⟩
def l4:Shp:=⟨[],[qr5,qls,qpc]⟩
def c7(ad:(List ag))(f_1c0:az)(f_1c1:ByteArray)(f_1c3:ag)(f_1c2c0:(List (ByteArray×Bool))):Option (Int×(List (ByteArray×Bool))):=bnd (ff ad f_1c0 f_1c1 f_1c3 (ad.length:Int) (0,f_1c2c0)) fun oe2=>lk oe2 (fun e2=>some ((-1),e2)) (fun r=>some r)
def a8(ad:(List ag))(f_1c0:az)(f_1c1:ByteArray)(f_1c3:ag)(f_1c2c0:(List (ByteArray×Bool))):Option (Bool×(List (ByteArray×Bool))):=bnd (c7 ad f_1c0 f_1c1 f_1c3 f_1c2c0) fun r1=>some (decide ((0:Int)≤r1.1),r1.2)
def iq{R:Type}(gy:qL1)(ej cc:(List ag))(ki d0:Int)(bw:(List af))(ec ef c1:Int)(c2:(List af))(c3 c4 cb:Int)(k0:(List (ByteArray×Bool)))(nx:(Int×(List (ByteArray×Bool)))→Option R)(dn:(List (ByteArray×Bool))→Option R)(rt:(Bool×(List (ByteArray×Bool)))→Option R):Option R:=bif decide (cb<ki)then aq (ix cb cc.length)<|aq (ix cb cc.length)<|aq (ix (cc.getD cb.toNat ag.z).1 bw.length)<|aq (ix (cc.getD cb.toNat ag.z).1 bw.length)<|bif (ByteArray.toList (bw.getD (Int.toNat (cc.getD cb.toNat ag.z).1) af.z).1==ByteArray.toList ⟨#[]⟩)then bnd (mu (cc.getD cb.toNat ag.z).2.1 gy k0) fun r8=>bif r8.1 then aq (gc .i64 (cb+1))<|nx ((cb+1),r8.2)else bnd (a8 ej (c1,c2,c3,c4,()) (bw.getD (Int.toNat (cc.getD cb.toNat ag.z).1) af.z).1 (cc.getD cb.toNat ag.z) r8.2) fun r9=>bif (!r9.1)then rt (false,r9.2)else aq (gc .i64 (cb+1))<|nx ((cb+1),r9.2)else bnd (a8 ej (c1,c2,c3,c4,()) (bw.getD (Int.toNat (cc.getD cb.toNat ag.z).1) af.z).1 (cc.getD cb.toNat ag.z) k0) fun r10=>bif (!r10.1)then rt (false,r10.2)else aq (gc .i64 (cb+1))<|nx ((cb+1),r10.2)else dn k0
def qd2(gy:qL1)(ej cc:(List ag))(ki d0:Int)(bw:(List af))(ec ef c1:Int)(c2:(List af))(c3 c4:Int)(s0:(Int×(List (ByteArray×Bool)))):Option ((List (ByteArray×Bool))⊕(Bool×(List (ByteArray×Bool)))):=bx (fun a=>iq gy ej cc ki d0 bw ec ef c1 c2 c3 c4 a.1 a.2 (fun a' =>some (.next a')) (fun e=>some (.done e)) (fun r=>some (.ret r))) s0
def qmy:Shp:=⟨[jwy,jxj,jxk,jxm,jtr,jts,(59, .d true qT0),(60, .d true qT0)],[qve,qpc,qct,qct,jto]⟩
def qmx:Shp:=⟨[],[qve,qpc]⟩
def ul{R:Type}(hp gy:qL1)(k0:(List (ByteArray×Bool)))(d0:Int)(bw:(List af))(ec ef c1:Int)(c2:(List af))(c3 c4:Int)(dn:Unit→Option R)(rt:(Bool×(List (ByteArray×Bool)))→Option R):Option R:=bnd (c9 (c1,c2,c3,c4,()) gy) fun r5=>bnd (l9 (d0,bw,ec,ef,()) hp) fun r6=>bnd (c9 (d0,bw,ec,ef,()) hp) fun r7=>bif decide ((r7.length:Int)<(r6.2.length:Int))then rt (false,k0)else bnd (qd2 gy r5 r7 (r7.length:Int) d0 bw ec ef c1 c2 c3 c4 (0,k0)) fun oe11=>lk oe11 (fun e11=>rt (true,e11)) (fun r=>rt r)
def pw(hp gy:qL1)(k0:(List (ByteArray×Bool)))(d0:Int)(bw:(List af))(ec ef c1:Int)(c2:(List af))(c3 c4:Int):Option (Unit⊕(Bool×(List (ByteArray×Bool)))):=ul hp gy k0 d0 bw ec ef c1 c2 c3 c4 (fun e=>some (.inl e)) (fun r=>some (.inr r))
def qm0:Shp:=⟨[jty,jwy,jxj,jxk,jxm],[qve,qpc,qct,qct,jto]⟩
def qmz:Shp:=⟨[],[]⟩
def tc(a2 a3:az)(hp gy:qL1)(in_4c0:(List (ByteArray×Bool))):Option (Bool×(List (ByteArray×Bool))):=bnd (sj a2) fun r1=>bnd (sj a3) fun r2=>bnd (bp hp r1.2) fun r3=>bif r3 then bnd (bp gy r2.2) fun r4=>bif (!r4)then some (false,in_4c0)else bnd (pw hp gy in_4c0 a2.1 a2.2.1 a2.2.2.1 a2.2.2.2.1 a3.1 a3.2.1 a3.2.2.1 a3.2.2.2.1) fun oe12=>lk oe12 (fun e12=>none) (fun r=>some r)else bnd (pw hp gy in_4c0 a2.1 a2.2.1 a2.2.2.1 a2.2.2.2.1 a3.1 a3.2.1 a3.2.2.1 a3.2.2.2.1) fun oe13=>lk oe13 (fun e13=>none) (fun r=>some r)
def jf(gx:ab)(c5 g3:az)(mx:(List (ByteArray×Bool))):Option (Bool×(List (ByteArray×Bool))):=aq (ix 0 1)<|aq (ix 0 1)<|bnd (tc c5 g3 gx.1 gx.2.1 mx) fun r1=>bif r1.1 then some (false,r1.2)else bnd (jr gx.1 gx.2.1) fun r2=>some (true,(qem .str r2 r1.2))
def ca{R:Type}(ad:(List ab))(f_1c0 f_1c1:az)(be av:Int)(f_1c3:(List (ByteArray×Bool)))(nx:(Int×(List (ByteArray×Bool)))→Option R)(dn:(List (ByteArray×Bool))→Option R)(rt:(Int×(List (ByteArray×Bool)))→Option R):Option R:=bif decide (av<be)then aq (ix av ad.length)<|aq (ix av ad.length)<|bnd (jf (ad.getD av.toNat ab.z) f_1c0 f_1c1 f_1c3) fun r1=>bif r1.1 then rt (av,r1.2)else aq (gc .i64 (av+1))<|nx ((av+1),r1.2)else dn f_1c3
def ge(ad:(List ab))(f_1c0 f_1c1:az)(be:Int)(s0:(Int×(List (ByteArray×Bool)))):Option ((List (ByteArray×Bool))⊕(Int×(List (ByteArray×Bool)))):=bx (fun a=>ca ad f_1c0 f_1c1 be a.1 a.2 (fun a' =>some (.next a')) (fun e=>some (.done e)) (fun r=>some (.ret r))) s0
def ua:Shp:=⟨[q5a,(1, .fn 98 (.cons (.rp false az.ty) (.cons (.rp false az.ty) (.cons (.ptr 0) (.cons (.ptr 1) .nil))))),qzv,q2x],[qr5,qls,qpc]⟩
def t8:Shp:=⟨[],[qr5,qls,qpc]⟩
def gv(ad:(List ab))(f_1c0 f_1c1:az)(f_1c3:(List (ByteArray×Bool))):Option (Int×(List (ByteArray×Bool))):=bnd (ge ad f_1c0 f_1c1 (ad.length:Int) (0,f_1c3)) fun oe2=>lk oe2 (fun e2=>some ((-1),e2)) (fun r=>some r)
def cn{R:Type}(del_1c0 del_1c1:az)(bd hh:Int)(ad:(List ab))(del_1c3:(List (ByteArray×Bool)))(nx:(Int×Int×(List ab)×(List (ByteArray×Bool)))→Option R)(dn:(Int×(List ab)×(List (ByteArray×Bool)))→Option R)(rt:((List ab)×(List (ByteArray×Bool)))→Option R):Option R:=bif decide (hh<(ad.length:Int))then aq (ix hh ad.length)<|aq (ix hh ad.length)<|bnd (jf (ad.getD hh.toNat ab.z) del_1c0 del_1c1 del_1c3) fun r2=>bif (!r2.1)then aq (ix bd ad.length)<|aq (ix bd ad.length)<|aq (gc .i64 (bd+1))<|aq (gc .i64 (hh+1))<|nx ((bd+1),(hh+1),(ad.set bd.toNat (ad.getD hh.toNat ab.z)),r2.2)else aq (gc .i64 (hh+1))<|nx (bd,(hh+1),ad,r2.2)else dn (bd,ad,del_1c3)
def kl(del_1c0 del_1c1:az)(s0:(Int×Int×(List ab)×(List (ByteArray×Bool)))):Option ((Int×(List ab)×(List (ByteArray×Bool)))⊕((List ab)×(List (ByteArray×Bool)))):=bx (fun a=>cn del_1c0 del_1c1 a.1 a.2.1 a.2.2.1 a.2.2.2 (fun a' =>some (.next a')) (fun e=>some (.done e)) (fun r=>some (.ret r))) s0
def su:Shp:=⟨[jfg,(1, .fn 98 (.cons (.rp false az.ty) (.cons (.rp false az.ty) (.cons (.ptr 1) (.cons (.ptr 2) .nil))))),jg8,jmt],[qpv,q78,jco,qpc]⟩
def ss:Shp:=⟨[jfg,jg8],[qpv,q78,jco,qpc]⟩
def cx(del_1c0 del_1c1:az)(ad:(List ab))(del_1c3:(List (ByteArray×Bool))):Option ((List ab)×(List (ByteArray×Bool))):=bnd (gv ad del_1c0 del_1c1 del_1c3) fun r1=>bif decide (r1.1=(-1))then some (ad,r1.2)else aq (gc .i64 (r1.1+1))<|bnd (kl del_1c0 del_1c1 (r1.1,(r1.1+1),ad,r1.2)) fun oe3=>lk oe3 (fun e3=>aq (cut e3.1 (e3.2.1.length:Int) e3.2.1.length)<|aq (cut 0 e3.1 (m5 e3.2.1 e3.1.toNat ((e3.2.1.length:Int).toNat-e3.1.toNat) (List.replicate ((e3.2.1.length:Int).toNat-e3.1.toNat) (ab.z:ab))).length)<|some ((((m5 e3.2.1 e3.1.toNat ((e3.2.1.length:Int).toNat-e3.1.toNat) (List.replicate ((e3.2.1.length:Int).toNat-e3.1.toNat) (ab.z:ab))).drop 0).take (e3.1.toNat-0)),e3.2.2)) (fun r=>some r)
def ou{R:Type}(lp:qL1)(bk et g7:Int)(f0 he:qL2)(f6:Int)(f7:(List af))(ga gd f2:Int)(f3:(List af))(f4 f5 hc:Int)(hf:(List ab))(hy:(List (ByteArray×Bool)))(nx:(Int×(List ab)×(List (ByteArray×Bool)))→Option R)(dn:((List ab)×(List (ByteArray×Bool)))→Option R)(rt:(qL2×qL2×(List ab))→Option R):Option R:=bif decide (hc<g7)then aq (ix hc he.length)<|aq (ix hc he.length)<|aq (room (hf.length+1) 48)<|bnd (jr lp (he.getD hc.toNat [])) fun r1=>aq (gc .i64 (hc+1))<|nx ((hc+1),(hf++[(lp,(he.getD hc.toNat []),())]),(tj .str r1 true hy))else dn (hf,hy)
def qdv(lp:qL1)(bk et g7:Int)(f0 he:qL2)(f6:Int)(f7:(List af))(ga gd f2:Int)(f3:(List af))(f4 f5:Int)(s0:(Int×(List ab)×(List (ByteArray×Bool)))):Option (((List ab)×(List (ByteArray×Bool)))⊕(qL2×qL2×(List ab))):=bx (fun a=>ou lp bk et g7 f0 he f6 f7 ga gd f2 f3 f4 f5 a.1 a.2.1 a.2.2 (fun a' =>some (.next a')) (fun e=>some (.done e)) (fun r=>some (.ret r))) s0
def qmg:Shp:=⟨[jw1,jxa,jxc,jwq,jw5,(12, .d true qT1),(19, .own 0),jua,jwx,(25, .own 1),jw7,(27, .d true qT0)],[qfg,qfg,qct,qct,qpv,jhb,qpc]⟩
def qmf:Shp:=⟨[jw1,jxa,jxc,jwq,jw5,(19, .own 0),jua,jwx],[qfg,qfg,qct,qct,qpv,jhb,qpc]⟩
def ov{R:Type}(bk:Int)(f0 he:qL2)(f6:Int)(f7:(List af))(ga gd f2:Int)(f3:(List af))(f4 f5 et:Int)(hf:(List ab))(hy:(List (ByteArray×Bool)))(nx:(Int×(List ab)×(List (ByteArray×Bool)))→Option R)(dn:((List ab)×(List (ByteArray×Bool)))→Option R)(rt:(qL2×qL2×(List ab))→Option R):Option R:=bif decide (et<bk)then aq (ix et f0.length)<|aq (ix et f0.length)<|bnd (qdv (f0.getD et.toNat []) bk et (he.length:Int) f0 he f6 f7 ga gd f2 f3 f4 f5 (0,hf,hy)) fun oe2=>lk oe2 (fun e2=>aq (gc .i64 (et+1))<|nx ((et+1),e2.1,e2.2)) (fun r=>rt r)else dn (hf,hy)
def qdw(bk:Int)(f0 he:qL2)(f6:Int)(f7:(List af))(ga gd f2:Int)(f3:(List af))(f4 f5:Int)(s0:(Int×(List ab)×(List (ByteArray×Bool)))):Option (((List ab)×(List (ByteArray×Bool)))⊕(qL2×qL2×(List ab))):=bx (fun a=>ov bk f0 he f6 f7 ga gd f2 f3 f4 f5 a.1 a.2.1 a.2.2 (fun a' =>some (.next a')) (fun e=>some (.done e)) (fun r=>some (.ret r))) s0
def qmi:Shp:=⟨[jw1,jxa,jxc,jwq,jw5,(19, .own 0),jua,jwx],[qfg,qfg,qct,qct,qpv,jhb,qpc]⟩
def qmh:Shp:=⟨[jxa,jxc,jwq,jw5],[qfg,qfg,qct,qct,qpv,jhb,qpc]⟩
def ow{R:Type}(k0 k1:qL2)(f6:Int)(f7:(List af))(ga gd f2:Int)(f3:(List af))(f4 f5:Int)(lc:Bool)(hf:(List ab))(hy:(List (ByteArray×Bool)))(nx:(Bool×(List ab)×(List (ByteArray×Bool)))→Option R)(dn:(List ab)→Option R)(rt:(qL2×qL2×(List ab))→Option R):Option R:=bif lc then bnd (cx (f6,f7,ga,gd,()) (f2,f3,f4,f5,()) hf hy) fun r4=>nx (decide ((r4.1.length:Int)<(hf.length:Int)),r4.1,r4.2)else dn hf
def qdx(k0 k1:qL2)(f6:Int)(f7:(List af))(ga gd f2:Int)(f3:(List af))(f4 f5:Int)(s0:(Bool×(List ab)×(List (ByteArray×Bool)))):Option ((List ab)⊕(qL2×qL2×(List ab))):=bx (fun a=>ow k0 k1 f6 f7 ga gd f2 f3 f4 f5 a.1 a.2.1 a.2.2 (fun a' =>some (.next a')) (fun e=>some (.done e)) (fun r=>some (.ret r))) s0
def qmk:Shp:=⟨[jxa,jxc,(9, .own 4),jw5,(15, .ptr 6),(16, .d true .bool)],[qfg,qfg,qct,qct,qpv, .cs 116 1 1 (.cons (.mp 7) .nil), .cs 45 1 1 (.cons (.fn 96 (.cons (.ptr 5) .nil)) .nil),qpc]⟩
def qmj:Shp:=⟨[jw3],[qfg,qfg,qpv]⟩
def oy(a2 a3:az)(lr he:qL2):Option (qL2×qL2×(List ab)):=bnd (qdw (lr.length:Int) lr he a2.1 a2.2.1 a2.2.2.1 a2.2.2.2.1 a3.1 a3.2.1 a3.2.2.1 a3.2.2.2.1 (0,[],[])) fun oe3=>lk oe3 (fun e3=>bnd (qdx lr he a2.1 a2.2.1 a2.2.2.1 a2.2.2.2.1 a3.1 a3.2.1 a3.2.2.1 a3.2.2.2.1 (true,e3.1,e3.2)) fun oe5=>lk oe5 (fun e5=>some (lr,he,e5)) (fun r=>some r)) (fun r=>some r)
def qdt(p1:ab)(c5:qL1)(g3:ae):Option Bool:=aq (ix 0 1)<|bnd (bp p1.1 c5) fun r1=>bif r1 then aq (ix 0 1)<|bnd (bp p1.2.1 g3.2.1) fun r2=>some r2 else some false
def du{R:Type}(ad:(List ab))(f_1c0:qL1)(f_1c1:ae)(be av:Int)(nx:Int→Option R)(dn:Unit→Option R)(rt:Int→Option R):Option R:=bif decide (av<be)then aq (ix av ad.length)<|aq (ix av ad.length)<|bnd (qdt (ad.getD av.toNat ab.z) f_1c0 f_1c1) fun r1=>bif r1 then rt av else aq (gc .i64 (av+1))<|nx (av+1)else dn ()
def ng(ad:(List ab))(f_1c0:qL1)(f_1c1:ae)(be s0:Int):Option (Unit⊕Int):=bx (fun a=>du ad f_1c0 f_1c1 be a (fun a' =>some (.next a')) (fun e=>some (.done e)) (fun r=>some (.ret r))) s0
def wn:Shp:=⟨[q5a,(1, .fn 69 (.cons (.rp false qT1) (.cons (.rp false ae.ty) .nil))),qzv,q2x],[]⟩
def wm:Shp:=⟨[],[]⟩
def i6(ad:(List ab))(f_1c0:qL1)(f_1c1:ae):Option Int:=bnd (ng ad f_1c0 f_1c1 (ad.length:Int) 0) fun oe2=>lk oe2 (fun e2=>some (-1)) (fun r=>some r)
def dq(ad:(List ab))(f_1c0:qL1)(f_1c1:ae):Option Bool:=bnd (i6 ad f_1c0 f_1c1) fun r1=>some (decide ((0:Int)≤r1))
def vp{R:Type}(dw:Int)(op k2:(List ae))(n1 f6:Int)(f7:(List af))(ga gd f2:Int)(f3:(List af))(f4 f5:Int)(i0 i1:qL1)(i2:(List ab))(kn:qL1)(hj:Int)(km:qL2)(nx:(Int×qL2)→Option R)(dn:qL2→Option R)(rt:(fv×Int)→Option R):Option R:=bif decide (hj<n1)then aq (ix hj k2.length)<|aq (ix hj k2.length)<|aq (room (km.length+1) 24)<|aq (gc .i64 (hj+1))<|nx ((hj+1),(km++[(k2.getD hj.toNat ae.z).2.1]))else dn km
def qke(dw:Int)(op k2:(List ae))(n1 f6:Int)(f7:(List af))(ga gd f2:Int)(f3:(List af))(f4 f5:Int)(i0 i1:qL1)(i2:(List ab))(kn:qL1)(s0:(Int×qL2)):Option (qL2⊕(fv×Int)):=bx (fun a=>vp dw op k2 n1 f6 f7 ga gd f2 f3 f4 f5 i0 i1 i2 kn a.1 a.2 (fun a' =>some (.next a')) (fun e=>some (.done e)) (fun r=>some (.ret r))) s0
def qvj:Shp:=⟨[jwr,jxh,jxi,(8, .ptr 2),(10, .ptr 3),jwt,(15, .nl false (.own 4)),(54, .d true (.slice ae.ty)),(55, .d true qT0),(56, .d true qT0)],[qct,qct,qg5,jrn,qfg]⟩
def qvi:Shp:=⟨[jwr,jxh,jxi,(8, .ptr 2),(10, .ptr 3),jwt,(15, .nl false (.own 4))],[qct,qct,qg5,jrn,qfg]⟩
def vq{R:Type}(j0:(List ab))(lo:Int)(i0 i1:qL1)(i2:(List ab))(k4 k5:qL1)(ik:Int)(kp:(List ab))(nx:(Int×(List ab))→Option R)(dn:(List ab)→Option R)(rt:(fv×Int)→Option R):Option R:=bif decide (ik<lo)then aq (ix ik j0.length)<|aq (ix ik j0.length)<|bnd (cm (j0.getD ik.toNat ab.z).1) fun r10=>bnd (cm (j0.getD ik.toNat ab.z).2.1) fun r11=>aq (room (kp.length+1) 48)<|aq (gc .i64 (ik+1))<|nx ((ik+1),(kp++[(r10,r11,())]))else dn kp
def qkf(j0:(List ab))(lo:Int)(i0 i1:qL1)(i2:(List ab))(k4 k5:qL1)(s0:(Int×(List ab))):Option ((List ab)⊕(fv×Int)):=bx (fun a=>vq j0 lo i0 i1 i2 k4 k5 a.1 a.2 (fun a' =>some (.next a')) (fun e=>some (.done e)) (fun r=>some (.ret r))) s0
def qvl:Shp:=⟨[jwz,(25, .ptr 1),(116, .d true (.slice ab.ty)),(117, .d true qT0),(118, .d true qT0)],[qg5,jbk,qpv]⟩
def qvk:Shp:=⟨[jwz,(25, .ptr 1)],[qg5,jbk,qpv]⟩
def vx{R:Type}(hx:(List ab))(h4:(List ae))(le:Int)(i0 i1:qL1)(i2:(List ab))(kn:qL1)(ht:Int)(nx:Int→Option R)(dn:Unit→Option R)(rt:(fv×Int)→Option R):Option R:=bif decide (ht<le)then aq (ix ht h4.length)<|aq (ix ht h4.length)<|bnd (dq hx kn (h4.getD ht.toNat ae.z)) fun r8=>bif r8 then bnd (cm (h4.getD ht.toNat ae.z).2.1) fun r9=>bnd (qkf hx (hx.length:Int) i0 i1 i2 r9 (h4.getD ht.toNat ae.z).2.2.1 (0,[])) fun oe12=>lk oe12 (fun e12=>rt ((r9,(h4.getD ht.toNat ae.z).2.2.1,e12,()),0)) (fun r=>rt r)else aq (gc .i64 (ht+1))<|nx (ht+1)else dn ()
def qds(hx:(List ab))(h4:(List ae))(le:Int)(i0 i1:qL1)(i2:(List ab))(kn:qL1)(s0:Int):Option (Unit⊕(fv×Int)):=bx (fun a=>vx hx h4 le i0 i1 i2 kn a (fun a' =>some (.next a')) (fun e=>some (.done e)) (fun r=>some (.ret r))) s0
def qvn:Shp:=⟨[jwz,(10, .ptr 1),(22, .d true (.slice ab.ty)),(101, .d true (.slice ae.ty)),(102, .d true qT0),(103, .d true qT0)],[qg5,jrn]⟩
def qvm:Shp:=⟨[jwz],[qg5]⟩
def dm(a2 a3:az)(hs:qL1)(dw:Int):Option (fv×Int):=bnd (jq a2 a3 hs dw) fun r1=>bif (!decide (r1.2.1=0))then some (([],[],[],()),r1.2.1)else bnd (kh a3 r1.2.2 dw) fun r2=>bif (!r2.1)then some (([],[],[],()),13)else bnd (bt r1.2.2 r2.2) fun r3=>bnd (qke dw r3 r3 (r3.length:Int) a2.1 a2.2.1 a2.2.2.1 a2.2.2.2.1 a3.1 a3.2.1 a3.2.2.1 a3.2.2.2.1 [] [] [] r1.1 (0,[])) fun oe4=>lk oe4 (fun e4=>bnd (uz a2 dw [r1.1]) fun r5=>aq (decide (r5.2.1.length=1))<|bnd (uz a3 dw e4) fun r6=>aq (decide (r6.2.1.length=e4.length))<|bif (!r5.1)then some (([],[],[],()),13)else bif (!r6.1)then some (([],[],[],()),13)else aq (gc .i64 ((r5.2.2.length:Int)*(r6.2.2.length:Int)))<|bif decide ((20000:Int)<((r5.2.2.length:Int)*(r6.2.2.length:Int)))then some (([],[],[],()),13)else bnd (oy a2 a3 r5.2.2 r6.2.2) fun r7=>aq (decide (r7.1.length=r5.2.2.length))<|aq (decide (r7.2.1.length=r6.2.2.length))<|bnd (qds r7.2.2 r3 (r3.length:Int) [] [] [] r1.1 0) fun oe13=>lk oe13 (fun e13=>some (([],[],[],()),10)) (fun r=>some r)) (fun r=>some r)
def qi(aa:az)(bs:qL1):Option Bool:=bnd (l9 aa bs) fun r1=>some (decide (r1.1=0))
def qb4(gx:ab)(c5 g3:az):Option Bool:=aq (ix 0 1)<|bnd (qi c5 gx.1) fun r1=>bif (!r1)then some true else aq (ix 0 1)<|bnd (qi g3 gx.2.1) fun r2=>some (!r2)
def dv{R:Type}(ad:(List ab))(f_1c0 f_1c1:az)(be av:Int)(nx:Int→Option R)(dn:Unit→Option R)(rt:Int→Option R):Option R:=bif decide (av<be)then aq (ix av ad.length)<|aq (ix av ad.length)<|bnd (qb4 (ad.getD av.toNat ab.z) f_1c0 f_1c1) fun r1=>bif r1 then rt av else aq (gc .i64 (av+1))<|nx (av+1)else dn ()
def ni(ad:(List ab))(f_1c0 f_1c1:az)(be s0:Int):Option (Unit⊕Int):=bx (fun a=>dv ad f_1c0 f_1c1 be a (fun a' =>some (.next a')) (fun e=>some (.done e)) (fun r=>some (.ret r))) s0
def wu:Shp:=⟨[q5a,(1, .fn 77 (.cons (.rp false az.ty) (.cons (.rp false az.ty) .nil))),qzv,q2x],[]⟩
def wq:Shp:=⟨[],[]⟩
def i7(ad:(List ab))(f_1c0 f_1c1:az):Option Int:=bnd (ni ad f_1c0 f_1c1 (ad.length:Int) 0) fun oe2=>lk oe2 (fun e2=>some (-1)) (fun r=>some r)
def gq(ad:(List ab))(f_1c0 f_1c1:az):Option Bool:=bnd (i7 ad f_1c0 f_1c1) fun r1=>some (decide ((0:Int)≤r1))
def qav(a2 a3:az)(g5:(List ab)):Option Bool:=bnd (gq g5 a2 a3) fun r1=>some (!r1)
def dk{R:Type}(gr g4:(List ByteArray))(fr e0:Int)(nx:Int→Option R)(dn:Unit→Option R)(rt:Bool→Option R):Option R:=bif decide (e0<fr)then aq (ix e0 gr.length)<|aq (ix e0 gr.length)<|aq (ix e0 g4.length)<|aq (ix e0 g4.length)<|bif (!(ByteArray.toList (gr.getD e0.toNat ⟨#[]⟩)==ByteArray.toList (g4.getD e0.toNat ⟨#[]⟩)))then rt false else aq (gc .i64 (e0+1))<|nx (e0+1)else dn ()
def qm(gr g4:(List ByteArray))(fr s0:Int):Option (Unit⊕Bool):=bx (fun a=>dk gr g4 fr a (fun a' =>some (.next a')) (fun e=>some (.done e)) (fun r=>some (.ret r))) s0
def qbt:Shp:=⟨[(0, .d false (.slice .str)),jtp,jtw,jtx],[]⟩
def qbs:Shp:=⟨[],[]⟩
def im(gr g4:(List ByteArray)):Option Bool:=bif (!decide ((gr.length:Int)=(g4.length:Int)))then some false else bnd (qm gr g4 (gr.length:Int) 0) fun oe1=>lk oe1 (fun e1=>some true) (fun r=>some r)
def qb2(gx:ab)(c5 g3:qL1):Option Bool:=aq (ix 0 1)<|bnd (bp gx.1 c5) fun r1=>bif r1 then aq (ix 0 1)<|bnd (bp gx.2.1 g3) fun r2=>some r2 else some false
def dr{R:Type}(ad:(List ab))(f_1c0 f_1c1:qL1)(be av:Int)(nx:Int→Option R)(dn:Unit→Option R)(rt:Int→Option R):Option R:=bif decide (av<be)then aq (ix av ad.length)<|aq (ix av ad.length)<|bnd (qb2 (ad.getD av.toNat ab.z) f_1c0 f_1c1) fun r1=>bif r1 then rt av else aq (gc .i64 (av+1))<|nx (av+1)else dn ()
def nc(ad:(List ab))(f_1c0 f_1c1:qL1)(be s0:Int):Option (Unit⊕Int):=bx (fun a=>dr ad f_1c0 f_1c1 be a (fun a' =>some (.next a')) (fun e=>some (.done e)) (fun r=>some (.ret r))) s0
def wj:Shp:=⟨[q5a,(1, .fn 47 (.cons (.rp false qT1) (.cons (.rp false qT1) .nil))),qzv,q2x],[]⟩
def wi:Shp:=⟨[],[]⟩
def i5(ad:(List ab))(f_1c0 f_1c1:qL1):Option Int:=bnd (nc ad f_1c0 f_1c1 (ad.length:Int) 0) fun oe2=>lk oe2 (fun e2=>some (-1)) (fun r=>some r)
def dp(ad:(List ab))(f_1c0 f_1c1:qL1):Option Bool:=bnd (i5 ad f_1c0 f_1c1) fun r1=>some (decide ((0:Int)≤r1))
def k6(hl m2:qL1)(g3:(List (ByteArray×Bool))):Option (Bool×(List (ByteArray×Bool))):=bnd (jr hl m2) fun r1=>some (((l8 .str r1 g3).getD false),g3)
def pr(f1:ag)(c5:az)(g3:ByteArray)(mx:ag)(p_3c0:(List (ByteArray×Bool))):Option (Bool×(List (ByteArray×Bool))):=aq (ix 0 1)<|aq (ix f1.1 c5.2.1.length)<|aq (ix f1.1 c5.2.1.length)<|aq (ix 0 1)<|bif (ByteArray.toList (c5.2.1.getD f1.1.toNat af.z).1==ByteArray.toList g3)then aq (ix 0 1)<|bnd (k6 mx.2.1 f1.2.1 p_3c0) fun r1=>some (r1.1,r1.2)else some (false,p_3c0)
def b8{R:Type}(ad:(List ag))(f_1c0:az)(f_1c1:ByteArray)(f_1c3:ag)(be av:Int)(f_1c2c0:(List (ByteArray×Bool)))(nx:(Int×(List (ByteArray×Bool)))→Option R)(dn:(List (ByteArray×Bool))→Option R)(rt:(Int×(List (ByteArray×Bool)))→Option R):Option R:=bif decide (av<be)then aq (ix av ad.length)<|aq (ix av ad.length)<|bnd (pr (ad.getD av.toNat ag.z) f_1c0 f_1c1 f_1c3 f_1c2c0) fun r1=>bif r1.1 then rt (av,r1.2)else aq (gc .i64 (av+1))<|nx ((av+1),r1.2)else dn f_1c2c0
def fc(ad:(List ag))(f_1c0:az)(f_1c1:ByteArray)(f_1c3:ag)(be:Int)(s0:(Int×(List (ByteArray×Bool)))):Option ((List (ByteArray×Bool))⊕(Int×(List (ByteArray×Bool)))):=bx (fun a=>b8 ad f_1c0 f_1c1 f_1c3 be a.1 a.2 (fun a' =>some (.next a')) (fun e=>some (.done e)) (fun r=>some (.ret r))) s0
def lz:Shp:=⟨[jwu,q1j,qzv,q2x],[qrr,qls,qpc]⟩
def ly:Shp:=⟨[],[qrr,qls,qpc]⟩
def c6(ad:(List ag))(f_1c0:az)(f_1c1:ByteArray)(f_1c3:ag)(f_1c2c0:(List (ByteArray×Bool))):Option (Int×(List (ByteArray×Bool))):=bnd (fc ad f_1c0 f_1c1 f_1c3 (ad.length:Int) (0,f_1c2c0)) fun oe2=>lk oe2 (fun e2=>some ((-1),e2)) (fun r=>some r)
def a7(ad:(List ag))(f_1c0:az)(f_1c1:ByteArray)(f_1c3:ag)(f_1c2c0:(List (ByteArray×Bool))):Option (Bool×(List (ByteArray×Bool))):=bnd (c6 ad f_1c0 f_1c1 f_1c3 f_1c2c0) fun r1=>some (decide ((0:Int)≤r1.1),r1.2)
def io{R:Type}(gy:qL1)(ej cc:(List ag))(ki d0:Int)(bw:(List af))(ec ef c1:Int)(c2:(List af))(c3 c4 cb:Int)(k0:(List (ByteArray×Bool)))(nx:(Int×(List (ByteArray×Bool)))→Option R)(dn:(List (ByteArray×Bool))→Option R)(rt:(Bool×(List (ByteArray×Bool)))→Option R):Option R:=bif decide (cb<ki)then aq (ix cb cc.length)<|aq (ix cb cc.length)<|aq (ix (cc.getD cb.toNat ag.z).1 bw.length)<|aq (ix (cc.getD cb.toNat ag.z).1 bw.length)<|bif (ByteArray.toList (bw.getD (Int.toNat (cc.getD cb.toNat ag.z).1) af.z).1==ByteArray.toList ⟨#[]⟩)then bnd (k6 (cc.getD cb.toNat ag.z).2.1 gy k0) fun r8=>bif r8.1 then aq (gc .i64 (cb+1))<|nx ((cb+1),r8.2)else bnd (a7 ej (c1,c2,c3,c4,()) (bw.getD (Int.toNat (cc.getD cb.toNat ag.z).1) af.z).1 (cc.getD cb.toNat ag.z) r8.2) fun r9=>bif (!r9.1)then rt (false,r9.2)else aq (gc .i64 (cb+1))<|nx ((cb+1),r9.2)else bnd (a7 ej (c1,c2,c3,c4,()) (bw.getD (Int.toNat (cc.getD cb.toNat ag.z).1) af.z).1 (cc.getD cb.toNat ag.z) k0) fun r10=>bif (!r10.1)then rt (false,r10.2)else aq (gc .i64 (cb+1))<|nx ((cb+1),r10.2)else dn k0
def qd0(gy:qL1)(ej cc:(List ag))(ki d0:Int)(bw:(List af))(ec ef c1:Int)(c2:(List af))(c3 c4:Int)(s0:(Int×(List (ByteArray×Bool)))):Option ((List (ByteArray×Bool))⊕(Bool×(List (ByteArray×Bool)))):=bx (fun a=>io gy ej cc ki d0 bw ec ef c1 c2 c3 c4 a.1 a.2 (fun a' =>some (.next a')) (fun e=>some (.done e)) (fun r=>some (.ret r))) s0
def qmt:Shp:=⟨[jwy,jxj,jxk,jxm,jtr,jts,(59, .d true qT0),(60, .d true qT0)],[qve,qpc,qct,qct,jtl]⟩
def qms:Shp:=⟨[],[qve,qpc]⟩
def uk{R:Type}(hp gy:qL1)(k0:(List (ByteArray×Bool)))(d0:Int)(bw:(List af))(ec ef c1:Int)(c2:(List af))(c3 c4:Int)(dn:Unit→Option R)(rt:(Bool×(List (ByteArray×Bool)))→Option R):Option R:=bnd (c9 (c1,c2,c3,c4,()) gy) fun r5=>bnd (l9 (d0,bw,ec,ef,()) hp) fun r6=>bnd (c9 (d0,bw,ec,ef,()) hp) fun r7=>bif decide ((r7.length:Int)<(r6.2.length:Int))then rt (false,k0)else bnd (qd0 gy r5 r7 (r7.length:Int) d0 bw ec ef c1 c2 c3 c4 (0,k0)) fun oe11=>lk oe11 (fun e11=>rt (true,e11)) (fun r=>rt r)
def pu(hp gy:qL1)(k0:(List (ByteArray×Bool)))(d0:Int)(bw:(List af))(ec ef c1:Int)(c2:(List af))(c3 c4:Int):Option (Unit⊕(Bool×(List (ByteArray×Bool)))):=uk hp gy k0 d0 bw ec ef c1 c2 c3 c4 (fun e=>some (.inl e)) (fun r=>some (.inr r))
def qmv:Shp:=⟨[jty,jwy,jxj,jxk,jxm],[qve,qpc,qct,qct,jtl]⟩
def qmu:Shp:=⟨[],[]⟩
def ta(a2 a3:az)(hp gy:qL1)(in_4c0:(List (ByteArray×Bool))):Option (Bool×(List (ByteArray×Bool))):=bnd (sj a2) fun r1=>bnd (sj a3) fun r2=>bnd (bp hp r1.2) fun r3=>bif r3 then bnd (bp gy r2.2) fun r4=>bif (!r4)then some (false,in_4c0)else bnd (pu hp gy in_4c0 a2.1 a2.2.1 a2.2.2.1 a2.2.2.2.1 a3.1 a3.2.1 a3.2.2.1 a3.2.2.2.1) fun oe12=>lk oe12 (fun e12=>none) (fun r=>some r)else bnd (pu hp gy in_4c0 a2.1 a2.2.1 a2.2.2.1 a2.2.2.2.1 a3.1 a3.2.1 a3.2.2.1 a3.2.2.2.1) fun oe13=>lk oe13 (fun e13=>none) (fun r=>some r)
def px(gx:ab)(c5 g3:az)(p_3c0:(List (ByteArray×Bool))):Option (Bool×(List (ByteArray×Bool))):=aq (ix 0 1)<|aq (ix 0 1)<|bnd (ta c5 g3 gx.1 gx.2.1 p_3c0) fun r1=>some ((!r1.1),r1.2)
def da{R:Type}(ad:(List ab))(f_1c0 f_1c1:az)(be av:Int)(f_1c2c0:(List (ByteArray×Bool)))(nx:(Int×(List (ByteArray×Bool)))→Option R)(dn:(List (ByteArray×Bool))→Option R)(rt:(Int×(List (ByteArray×Bool)))→Option R):Option R:=bif decide (av<be)then aq (ix av ad.length)<|aq (ix av ad.length)<|bnd (px (ad.getD av.toNat ab.z) f_1c0 f_1c1 f_1c2c0) fun r1=>bif r1.1 then rt (av,r1.2)else aq (gc .i64 (av+1))<|nx ((av+1),r1.2)else dn f_1c2c0
def lj(ad:(List ab))(f_1c0 f_1c1:az)(be:Int)(s0:(Int×(List (ByteArray×Bool)))):Option ((List (ByteArray×Bool))⊕(Int×(List (ByteArray×Bool)))):=bx (fun a=>da ad f_1c0 f_1c1 be a.1 a.2 (fun a' =>some (.next a')) (fun e=>some (.done e)) (fun r=>some (.ret r))) s0
def t6:Shp:=⟨[q5a,(1, .fn 83 (.cons (.rp false az.ty) (.cons (.rp false az.ty) (.cons (.ptr 0) .nil)))),qzv,q2x],[qrr,qls,qpc]⟩
def tz:Shp:=⟨[],[qrr,qls,qpc]⟩
def gu(ad:(List ab))(f_1c0 f_1c1:az)(f_1c2c0:(List (ByteArray×Bool))):Option (Int×(List (ByteArray×Bool))):=bnd (lj ad f_1c0 f_1c1 (ad.length:Int) (0,f_1c2c0)) fun oe2=>lk oe2 (fun e2=>some ((-1),e2)) (fun r=>some r)
def nv{R:Type}(g5 fr:(List ab))(e0 l2:Int)(mb:(List af))(md mk lt:Int)(lv:(List af))(l0 l1 gs:Int)(ob:(List (ByteArray×Bool)))(nx:(Int×(List (ByteArray×Bool)))→Option R)(dn:(List (ByteArray×Bool))→Option R)(rt:Int→Option R):Option R:=bif decide (gs<e0)then aq (ix gs fr.length)<|aq (ix gs fr.length)<|bnd (jr (fr.getD gs.toNat ab.z).1 (fr.getD gs.toNat ab.z).2.1) fun r1=>aq (gc .i64 (gs+1))<|nx ((gs+1),(tj .str r1 true ob))else dn ob
def qcp(g5 fr:(List ab))(e0 l2:Int)(mb:(List af))(md mk lt:Int)(lv:(List af))(l0 l1:Int)(s0:(Int×(List (ByteArray×Bool)))):Option ((List (ByteArray×Bool))⊕Int):=bx (fun a=>nv g5 fr e0 l2 mb md mk lt lv l0 l1 a.1 a.2 (fun a' =>some (.next a')) (fun e=>some (.done e)) (fun r=>some (.ret r))) s0
def qkp:Shp:=⟨[jwm,jfa,(4, .ptr 1),(7, .ptr 2),(12, .d false (.slice ab.ty)),jtx,(14, .d true qT0)],[qct,qct,jco,qpc]⟩
def qko:Shp:=⟨[jwm,jfa,(4, .ptr 1),(7, .ptr 2)],[qct,qct,jco,qpc]⟩
def rg(a2 a3:az)(g5:(List ab)):Option Int:=bnd (qcp g5 g5 (g5.length:Int) a2.1 a2.2.1 a2.2.2.1 a2.2.2.2.1 a3.1 a3.2.1 a3.2.2.1 a3.2.2.2.1 (0,[])) fun oe2=>lk oe2 (fun e2=>bnd (gu g5 a2 a3 e2) fun r3=>some r3.1) (fun r=>some r)
def qy(a2 a3:az)(hs:qL1)(kk:fv):Option Bool:=bnd (x9 a2 a3) fun r1=>bif (!decide (r1=0))then some false else bif decide ((20000:Int)<(kk.2.2.1.length:Int))then some false else bnd (qav a2 a3 kk.2.2.1) fun r2=>bif (!r2)then some false else bnd (nm a2 hs) fun r3=>bnd (nm a3 kk.2.1) fun r4=>bif (!r3.2.1)then some false else bif (!r4.2.1)then some false else bnd (im r3.2.2 r4.2.2) fun r5=>bif (!r5)then some false else bnd (bp r4.1 kk.1) fun r6=>bif (!r6)then some false else bnd (dp kk.2.2.1 r3.1 r4.1) fun r7=>bif (!r7)then some false else bnd (rg a2 a3 kk.2.2.1) fun r8=>some (decide (r8<0))
def qj3:Option Bool:=bnd (qoe ⟨#[]⟩ [⟨#[97]⟩,⟨#[98]⟩]) fun r1=>bnd (qoe ⟨#[99]⟩ [⟨#[97]⟩,⟨#[98]⟩]) fun r2=>bnd (dm r1 r2 [0] 100) fun r3=>bnd (dm r2 r1 [0] 100) fun r4=>bif decide (r3.2=0)then bif decide (r4.2=10)then bnd (qy r1 r2 [0] r3.1) fun r5=>bif r5 then bnd (qy r2 r1 [0] r3.1) fun r6=>some (!r6)else some false else some false else some false
def qas(m0:af):Option Bool:=bif decide ((50:Int)<(m0.2.1.length:Int))then some true else bif decide ((50:Int)<(m0.2.2.1.length:Int))then some true else some (decide ((200:Int)<(ByteArray.size m0.1:Int)))
def cu{R:Type}(ad:(List af))(be av:Int)(nx:Int→Option R)(dn:Unit→Option R)(rt:Int→Option R):Option R:=bif decide (av<be)then aq (ix av ad.length)<|aq (ix av ad.length)<|bnd (qas (ad.getD av.toNat af.z)) fun r1=>bif r1 then rt av else aq (gc .i64 (av+1))<|nx (av+1)else dn ()
def iy(ad:(List af))(be s0:Int):Option (Unit⊕Int):=bx (fun a=>cu ad be a (fun a' =>some (.next a')) (fun e=>some (.done e)) (fun r=>some (.ret r))) s0
def qb:Shp:=⟨[(0, .d false (.slice af.ty)),(1, .fn 35 .nil),qzv,q2x],[]⟩
def qa:Shp:=⟨[],[]⟩
def fa(ad:(List af)):Option Int:=bnd (iy ad (ad.length:Int) 0) fun oe2=>lk oe2 (fun e2=>some (-1)) (fun r=>some r)
def bh(ad:(List af)):Option Bool:=bnd (fa ad) fun r1=>some (decide ((0:Int)≤r1))
def qew(aa:az):Option Bool:=bif decide ((8:Int)<(aa.2.1.length:Int))then bif decide ((aa.2.1.length:Int)≤60)then some true else bif decide ((100:Int)<(aa.2.1.length:Int))then some true else bif decide ((8:Int)<aa.1)then bif decide (aa.1≤40)then some true else bnd (bh aa.2.1) fun r1=>some r1 else bnd (bh aa.2.1) fun r2=>some r2 else bif decide ((100:Int)<(aa.2.1.length:Int))then some true else bif decide ((8:Int)<aa.1)then bif decide (aa.1≤40)then some true else bnd (bh aa.2.1) fun r3=>some r3 else bnd (bh aa.2.1) fun r4=>some r4
def qhp(hw:qL1):Option Bool:=bif decide ((40:Int)<(hw.length:Int))then bif decide ((hw.length:Int)≤1000)then some true else some (decide ((2000:Int)<(hw.length:Int)))else some (decide ((2000:Int)<(hw.length:Int)))
def ym(g2:Int):Option Bool:=bif decide ((97:Int)≤g2)then bif decide (g2≤122)then some true else bif decide ((65:Int)≤g2)then some (decide (g2≤90))else some false else bif decide ((65:Int)≤g2)then some (decide (g2≤90))else some false
def ql{R:Type}(ad:ByteArray)(ch:Int)(nx:Int→Option R)(dn:Unit→Option R)(rt:Bool→Option R):Option R:=bif decide (ch<(ByteArray.size ad:Int))then aq (ix ch (ByteArray.size ad))<|bnd (ym (((ByteArray.data ad).getD ch.toNat 0).toNat:Int)) fun r2=>bif (!r2)then bif decide ((48:Int)≤(((ByteArray.data ad).getD ch.toNat 0).toNat:Int))then bif (!(decide ((((ByteArray.data ad).getD ch.toNat 0).toNat:Int)≤57)))then bif (!decide ((((ByteArray.data ad).getD ch.toNat 0).toNat:Int)=95))then bif (!decide ((((ByteArray.data ad).getD ch.toNat 0).toNat:Int)=45))then bif (!decide ((((ByteArray.data ad).getD ch.toNat 0).toNat:Int)=46))then rt false else aq (gc .i64 (ch+1))<|nx (ch+1)else aq (gc .i64 (ch+1))<|nx (ch+1)else aq (gc .i64 (ch+1))<|nx (ch+1)else aq (gc .i64 (ch+1))<|nx (ch+1)else bif (!decide ((((ByteArray.data ad).getD ch.toNat 0).toNat:Int)=95))then bif (!decide ((((ByteArray.data ad).getD ch.toNat 0).toNat:Int)=45))then bif (!decide ((((ByteArray.data ad).getD ch.toNat 0).toNat:Int)=46))then rt false else aq (gc .i64 (ch+1))<|nx (ch+1)else aq (gc .i64 (ch+1))<|nx (ch+1)else aq (gc .i64 (ch+1))<|nx (ch+1)else aq (gc .i64 (ch+1))<|nx (ch+1)else dn ()
def qk8(ad:ByteArray)(s0:Int):Option (Unit⊕Bool):=bx (fun a=>ql ad a (fun a' =>some (.next a')) (fun e=>some (.done e)) (fun r=>some (.ret r))) s0
def qv5:Shp:=⟨[jtv,jwr],[]⟩
def qv4:Shp:=⟨[],[]⟩
def qc2(ad:ByteArray):Option Bool:=bif decide ((ByteArray.size ad:Int)<1)then some false else bif decide ((40:Int)<(ByteArray.size ad:Int))then some false else aq (ix 0 (ByteArray.size ad))<|bnd (ym (((ByteArray.data ad).getD 0 0).toNat:Int)) fun r1=>bif (!r1)then some false else bnd (qk8 ad 1) fun oe3=>lk oe3 (fun e3=>some true) (fun r=>some r)
def nq{R:Type}(aa:Int)(b0:qL1)(bd:Int)(nx:Int→Option R)(dn:Unit→Option R)(rt:Bool→Option R):Option R:=bif decide (bd<(b0.length:Int))then aq (ix bd b0.length)<|aq (ix bd b0.length)<|bif decide ((b0.getD bd.toNat 0)<0)then rt false else aq (ix bd b0.length)<|aq (ix bd b0.length)<|bif decide (aa≤(b0.getD bd.toNat 0))then rt false else bif decide ((0:Int)<bd)then aq (gc .i64 (bd-1))<|aq (ix (bd-1) b0.length)<|aq (ix (bd-1) b0.length)<|aq (ix bd b0.length)<|aq (ix bd b0.length)<|bif decide ((b0.getD bd.toNat 0)≤(b0.getD (bd-1).toNat 0))then rt false else aq (gc .i64 (bd+1))<|nx (bd+1)else aq (gc .i64 (bd+1))<|nx (bd+1)else dn ()
def qlj(aa:Int)(b0:qL1)(s0:Int):Option (Unit⊕Bool):=bx (fun a=>nq aa b0 a (fun a' =>some (.next a')) (fun e=>some (.done e)) (fun r=>some (.ret r))) s0
def qwb:Shp:=⟨[qxg,jg7,jg8],[]⟩
def qwa:Shp:=⟨[],[]⟩
def p0(aa:Int)(b0:qL1):Option Bool:=bnd (qlj aa b0 0) fun oe1=>lk oe1 (fun e1=>some true) (fun r=>some r)
def yp{R:Type}(b2:Int)(a9:(List af))(b3 b4 ch:Int)(nx:Int→Option R)(dn:Unit→Option R)(rt:Bool→Option R):Option R:=bif decide (ch<(a9.length:Int))then aq (ix ch a9.length)<|aq (ix ch a9.length)<|bif (!(ByteArray.toList (a9.getD ch.toNat af.z).1==ByteArray.toList ⟨#[]⟩))then bnd (qc2 (a9.getD ch.toNat af.z).1) fun r1=>bif (!r1)then rt false else bnd (p0 b2 (a9.getD ch.toNat af.z).2.1) fun r2=>bif (!r2)then rt false else bnd (p0 b2 (a9.getD ch.toNat af.z).2.2.1) fun r3=>bif (!r3)then rt false else aq (gc .i64 (ch+1))<|nx (ch+1)else bnd (p0 b2 (a9.getD ch.toNat af.z).2.1) fun r4=>bif (!r4)then rt false else bnd (p0 b2 (a9.getD ch.toNat af.z).2.2.1) fun r5=>bif (!r5)then rt false else aq (gc .i64 (ch+1))<|nx (ch+1)else dn ()
def qnv(b2:Int)(a9:(List af))(b3 b4 s0:Int):Option (Unit⊕Bool):=bx (fun a=>yp b2 a9 b3 b4 a (fun a' =>some (.next a')) (fun e=>some (.done e)) (fun r=>some (.ret r))) s0
def qzc:Shp:=⟨[jms,jwr],[qct]⟩
def qzb:Shp:=⟨[],[]⟩
def sm(aa:az):Option Bool:=bif decide (aa.1<1)then some false else bif decide ((40:Int)<aa.1)then some false else bif decide ((60:Int)<(aa.2.1.length:Int))then some false else bif decide (aa.2.2.1<0)then some false else bif decide (aa.1≤aa.2.2.1)then some false else bif decide (aa.2.2.2.1<0)then some false else bif decide (aa.1≤aa.2.2.2.1)then some false else bnd (qnv aa.1 aa.2.1 aa.2.2.1 aa.2.2.2.1 0) fun oe6=>lk oe6 (fun e6=>some true) (fun r=>some r)
def qc3{R:Type}(hw:qL1)(m1 bd:Int)(nx:Int→Option R)(dn:Unit→Option R)(rt:Bool→Option R):Option R:=bif decide (bd<(hw.length:Int))then aq (ix bd hw.length)<|aq (ix bd hw.length)<|bif decide ((hw.getD bd.toNat 0)=m1)then rt true else aq (gc .i64 (bd+1))<|nx (bd+1)else dn ()
def qur(hw:qL1)(m1 s0:Int):Option (Unit⊕Bool):=bx (fun a=>qc3 hw m1 a (fun a' =>some (.next a')) (fun e=>some (.done e)) (fun r=>some (.ret r))) s0
def q4m:Shp:=⟨[jmg,q5d,jg8],[]⟩
def q4l:Shp:=⟨[],[]⟩
def q0(hw:qL1)(m1:Int):Option Bool:=bnd (qur hw m1 0) fun oe1=>lk oe1 (fun e1=>some false) (fun r=>some r)
def sn{R:Type}(g0 gw es:Int)(bf:(List af))(ev ex i8:Int)(dt:qL1)(nx:(Int×qL1)→Option R)(dn rt:qL1→Option R):Option R:=aq (ix gw bf.length)<|aq (ix gw bf.length)<|bif decide (i8<((bf.getD gw.toNat af.z).2.2.1.length:Int))then aq (ix gw bf.length)<|aq (ix gw bf.length)<|aq (ix i8 (bf.getD gw.toNat af.z).2.2.1.length)<|aq (ix i8 (bf.getD gw.toNat af.z).2.2.1.length)<|bnd (q0 dt ((bf.getD gw.toNat af.z).2.2.1.getD i8.toNat 0)) fun r2=>bif (!r2)then aq (ix gw bf.length)<|aq (ix gw bf.length)<|aq (ix i8 (bf.getD gw.toNat af.z).2.2.1.length)<|aq (ix i8 (bf.getD gw.toNat af.z).2.2.1.length)<|aq (room (dt.length+1) 8)<|aq (gc .i64 (i8+1))<|nx ((i8+1),(dt++[((bf.getD gw.toNat af.z).2.2.1.getD i8.toNat 0)]))else aq (gc .i64 (i8+1))<|nx ((i8+1),dt)else dn dt
def qfo(g0 gw es:Int)(bf:(List af))(ev ex:Int)(s0:(Int×qL1)):Option (qL1⊕qL1):=bx (fun a=>sn g0 gw es bf ev ex a.1 a.2 (fun a' =>some (.next a')) (fun e=>some (.done e)) (fun r=>some (.ret r))) s0
def qzf:Shp:=⟨[jwo,jxb,jmt,qzv,q2x],[qct,qmd]⟩
def qze:Shp:=⟨[jwo,jxb,jmt,qzv],[qct,qmd]⟩
def sq{R:Type}(g0 es:Int)(bf:(List af))(ev ex gw:Int)(dt:qL1)(nx:(Int×qL1)→Option R)(dn rt:qL1→Option R):Option R:=bif decide (gw<(bf.length:Int))then aq (ix gw bf.length)<|aq (ix gw bf.length)<|aq (ix g0 dt.length)<|aq (ix g0 dt.length)<|bnd (q0 (bf.getD gw.toNat af.z).2.1 (dt.getD g0.toNat 0)) fun r1=>bif (!r1)then aq (gc .i64 (gw+1))<|nx ((gw+1),dt)else bnd (qfo g0 gw es bf ev ex (0,dt)) fun oe3=>lk oe3 (fun e3=>aq (gc .i64 (gw+1))<|nx ((gw+1),e3)) (fun r=>rt r)else dn dt
def qfp(g0 es:Int)(bf:(List af))(ev ex:Int)(s0:(Int×qL1)):Option (qL1⊕qL1):=bx (fun a=>sq g0 es bf ev ex a.1 a.2 (fun a' =>some (.next a')) (fun e=>some (.done e)) (fun r=>some (.ret r))) s0
def qzh:Shp:=⟨[jwo,jxb,jmt,qzv],[qct,qmd]⟩
def qzg:Shp:=⟨[jwo,jxb,jmt],[qct,qmd]⟩
def yt{R:Type}(es:Int)(bf:(List af))(ev ex g0:Int)(dt:qL1)(nx:(Int×qL1)→Option R)(dn rt:qL1→Option R):Option R:=bif decide (g0<(dt.length:Int))then bnd (qfp g0 es bf ev ex (0,dt)) fun oe4=>lk oe4 (fun e4=>aq (gc .i64 (g0+1))<|nx ((g0+1),e4)) (fun r=>rt r)else dn dt
def qn0(es:Int)(bf:(List af))(ev ex:Int)(s0:(Int×qL1)):Option (qL1⊕qL1):=bx (fun a=>yt es bf ev ex a.1 a.2 (fun a' =>some (.next a')) (fun e=>some (.done e)) (fun r=>some (.ret r))) s0
def qzj:Shp:=⟨[jwo,jxb,jmt],[qct,qmd]⟩
def qzi:Shp:=⟨[(5, .own 0)],[qmd]⟩
def qbp(aa:az)(ha:Int):Option qL1:=bnd (qn0 aa.1 aa.2.1 aa.2.2.1 aa.2.2.2.1 (0,[ha])) fun oe5=>lk oe5 (fun e5=>some e5) (fun r=>some r)
def tq{R:Type}(b2:Int)(a9:(List af))(b3 b4 bk:Int)(et:(List af))(gg h7 ml ms mv ft:Int)(kv:(List af))(nx:(Int×(List af))→Option R)(dn:(List af)→Option R)(rt:az→Option R):Option R:=bif decide (ft<(a9.length:Int))then aq (ix ft a9.length)<|aq (ix ft a9.length)<|aq (room (0+(a9.getD ft.toNat af.z).2.2.1.length) 8)<|aq (room (0+(a9.getD ft.toNat af.z).2.1.length) 8)<|aq (room (kv.length+1) 64)<|aq (gc .i64 (ft+1))<|nx ((ft+1),(kv++[((a9.getD ft.toNat af.z).1,([]++(a9.getD ft.toNat af.z).2.2.1),([]++(a9.getD ft.toNat af.z).2.1),())]))else dn kv
def qi5(b2:Int)(a9:(List af))(b3 b4 bk:Int)(et:(List af))(gg h7 ml ms mv:Int)(s0:(Int×(List af))):Option ((List af)⊕az):=bx (fun a=>tq b2 a9 b3 b4 bk et gg h7 ml ms mv a.1 a.2 (fun a' =>some (.next a')) (fun e=>some (.done e)) (fun r=>some (.ret r))) s0
def qtm:Shp:=⟨[jms,(2, .ptr 1),(3, .ptr 2),jwv],[qct,qty, .cs 24 4 1 (.cons (.d true qT0) (.cons (.own 3) (.cons (.d true qT0) (.cons (.d true qT0) .nil)))),jfc]⟩
def qtl:Shp:=⟨[jwo,jw2],[qty,qwh,jfc]⟩
def qa2(aa:az):Option az:=bnd (qi5 aa.1 aa.2.1 aa.2.2.1 aa.2.2.2.1 0 [] 0 0 aa.1 aa.2.2.2.1 aa.2.2.1 (0,[])) fun oe1=>lk oe1 (fun e1=>some (aa.1,e1,aa.2.2.2.1,aa.2.2.1,())) (fun r=>some r)
def qa4{R:Type}(f1 h3:qL1)(bd:Int)(nx:Int→Option R)(dn:Unit→Option R)(rt:Bool→Option R):Option R:=bif decide (bd<(f1.length:Int))then aq (ix bd f1.length)<|aq (ix bd f1.length)<|bnd (q0 h3 (f1.getD bd.toNat 0)) fun r1=>bif r1 then rt true else aq (gc .i64 (bd+1))<|nx (bd+1)else dn ()
def qrf(f1 h3:qL1)(s0:Int):Option (Unit⊕Bool):=bx (fun a=>qa4 f1 h3 a (fun a' =>some (.next a')) (fun e=>some (.done e)) (fun r=>some (.ret r))) s0
def q1d:Shp:=⟨[jmg,jg7,jg8],[]⟩
def q1c:Shp:=⟨[],[]⟩
def qee(f1 h3:qL1):Option Bool:=bnd (qrf f1 h3 0) fun oe2=>lk oe2 (fun e2=>some false) (fun r=>some r)
def nw{R:Type}(hm hu:qL1)(b2:Int)(a9:(List af))(b3 b4 bd:Int)(nx:Int→Option R)(dn:Unit→Option R)(rt:Bool→Option R):Option R:=bif decide (bd<b2)then bnd (q0 hm bd) fun r5=>bif (!r5)then rt false else bnd (q0 hu bd) fun r6=>bif (!r6)then rt false else aq (gc .i64 (bd+1))<|nx (bd+1)else dn ()
def qgm(hm hu:qL1)(b2:Int)(a9:(List af))(b3 b4 s0:Int):Option (Unit⊕Bool):=bx (fun a=>nw hm hu b2 a9 b3 b4 a (fun a' =>some (.next a')) (fun e=>some (.done e)) (fun r=>some (.ret r))) s0
def qq9:Shp:=⟨[jms,jxf,jxg,jg8],[qct]⟩
def qq8:Shp:=⟨[jms,jxf,jxg],[qct]⟩
def rk{R:Type}(hm hu:qL1)(b2:Int)(a9:(List af))(b3 b4 g0:Int)(nx:Int→Option R)(dn:Unit→Option R)(rt:Bool→Option R):Option R:=bif decide (g0<(a9.length:Int))then aq (ix g0 a9.length)<|aq (ix g0 a9.length)<|bnd (q0 (a9.getD g0.toNat af.z).2.2.1 b3) fun r8=>bif r8 then rt false else bnd (q0 (a9.getD g0.toNat af.z).2.1 b4) fun r9=>bif r9 then rt false else bnd (qee (a9.getD g0.toNat af.z).2.1 hm) fun r10=>bif (!r10)then rt false else bnd (qee (a9.getD g0.toNat af.z).2.2.1 hu) fun r11=>bif (!r11)then rt false else aq (gc .i64 (g0+1))<|nx (g0+1)else dn ()
def qgn(hm hu:qL1)(b2:Int)(a9:(List af))(b3 b4 s0:Int):Option (Unit⊕Bool):=bx (fun a=>rk hm hu b2 a9 b3 b4 a (fun a' =>some (.next a')) (fun e=>some (.done e)) (fun r=>some (.ret r))) s0
def qrb:Shp:=⟨[jms,jxf,jxg,jmt],[qct]⟩
def qra:Shp:=⟨[],[]⟩
def o4(aa:az):Option Bool:=bnd (sm aa) fun r1=>bif (!r1)then some false else bif decide (aa.2.2.1=aa.2.2.2.1)then some false else bnd (qbp aa aa.2.2.1) fun r2=>bnd (qa2 aa) fun r3=>bnd (qbp r3 aa.2.2.2.1) fun r4=>bnd (qgm r2 r4 aa.1 aa.2.1 aa.2.2.1 aa.2.2.2.1 0) fun oe7=>lk oe7 (fun e7=>bnd (qgn r2 r4 aa.1 aa.2.1 aa.2.2.1 aa.2.2.2.1 0) fun oe12=>lk oe12 (fun e12=>some true) (fun r=>some r)) (fun r=>some r)
def qdb(aa:az)(kr:Int):Option qL1:=aq (q0m aa.1 aa.1 8)<|aq (ix kr (List.replicate aa.1.toNat (0:Int)).length)<|aq (ix kr (List.replicate aa.1.toNat (0:Int)).length)<|some ((List.replicate aa.1.toNat (0:Int)).set kr.toNat 1)
def tn{R:Type}(f1 h3:qL1)(bd:Int)(nx:Int→Option R)(dn:Unit→Option R)(rt:Bool→Option R):Option R:=bif decide (bd<(f1.length:Int))then aq (ix bd f1.length)<|aq (ix bd f1.length)<|aq (ix bd h3.length)<|aq (ix bd h3.length)<|bif (!decide ((f1.getD bd.toNat 0)=(h3.getD bd.toNat 0)))then rt false else aq (gc .i64 (bd+1))<|nx (bd+1)else dn ()
def qi2(f1 h3:qL1)(s0:Int):Option (Unit⊕Bool):=bx (fun a=>tn f1 h3 a (fun a' =>some (.next a')) (fun e=>some (.done e)) (fun r=>some (.ret r))) s0
def qfn(f1 h3:qL1):Option Bool:=bif (!decide ((f1.length:Int)=(h3.length:Int)))then some false else bnd (qi2 f1 h3 0) fun oe1=>lk oe1 (fun e1=>some true) (fun r=>some r)
def tp{R:Type}(bs:qL1)(bd:Int)(nx:Int→Option R)(dn:Unit→Option R)(rt:Bool→Option R):Option R:=bif decide (bd<(bs.length:Int))then aq (ix bd bs.length)<|aq (ix bd bs.length)<|bif decide ((bs.getD bd.toNat 0)<0)then rt false else aq (ix bd bs.length)<|aq (ix bd bs.length)<|bif decide ((100:Int)<(bs.getD bd.toNat 0))then rt false else aq (gc .i64 (bd+1))<|nx (bd+1)else dn ()
def qi3(bs:qL1)(s0:Int):Option (Unit⊕Bool):=bx (fun a=>tp bs a (fun a' =>some (.next a')) (fun e=>some (.done e)) (fun r=>some (.ret r))) s0
def qtk:Shp:=⟨[jg7,jg8],[]⟩
def qtj:Shp:=⟨[],[]⟩
def rb(aa:az)(bs:qL1):Option Bool:=bif (!decide ((bs.length:Int)=aa.1))then some false else bnd (qi3 bs 0) fun oe1=>lk oe1 (fun e1=>some true) (fun r=>some r)
def yn{R:Type}(bs:qL1)(bb a4:Int)(ap:(List af))(a5 a6 fd:Int)(nx:Int→Option R)(dn:Unit→Option R)(rt:Bool→Option R):Option R:=aq (ix bb ap.length)<|aq (ix bb ap.length)<|bif decide (fd<((ap.getD bb.toNat af.z).2.1.length:Int))then aq (ix bb ap.length)<|aq (ix bb ap.length)<|aq (ix fd (ap.getD bb.toNat af.z).2.1.length)<|aq (ix fd (ap.getD bb.toNat af.z).2.1.length)<|aq (ix ((ap.getD bb.toNat af.z).2.1.getD fd.toNat 0) bs.length)<|aq (ix ((ap.getD bb.toNat af.z).2.1.getD fd.toNat 0) bs.length)<|bif decide ((bs.getD ((ap.getD bb.toNat af.z).2.1.getD fd.toNat 0).toNat 0)<1)then rt false else aq (gc .i64 (fd+1))<|nx (fd+1)else dn ()
def qup(bs:qL1)(bb a4:Int)(ap:(List af))(a5 a6 s0:Int):Option (Unit⊕Bool):=bx (fun a=>yn bs bb a4 ap a5 a6 a (fun a' =>some (.next a')) (fun e=>some (.done e)) (fun r=>some (.ret r))) s0
def q4h:Shp:=⟨[jg7,q48,jfa,qzv],[qct]⟩
def q4g:Shp:=⟨[],[]⟩
def ql5(aa:az)(bs:qL1)(bb:Int):Option Bool:=bnd (qup bs bb aa.1 aa.2.1 aa.2.2.1 aa.2.2.2.1 0) fun oe1=>lk oe1 (fun e1=>some true) (fun r=>some r)
def qa0{R:Type}(bb a4:Int)(ap:(List af))(a5 a6 b5:Int)(a0:qL1)(nx:(Int×qL1)→Option R)(dn:qL1→Option R)(rt:(Int×qL1)→Option R):Option R:=aq (ix bb ap.length)<|aq (ix bb ap.length)<|bif decide (b5<((ap.getD bb.toNat af.z).2.1.length:Int))then aq (ix bb ap.length)<|aq (ix bb ap.length)<|aq (ix b5 (ap.getD bb.toNat af.z).2.1.length)<|aq (ix b5 (ap.getD bb.toNat af.z).2.1.length)<|aq (ix bb ap.length)<|aq (ix bb ap.length)<|aq (ix b5 (ap.getD bb.toNat af.z).2.1.length)<|aq (ix b5 (ap.getD bb.toNat af.z).2.1.length)<|aq (ix ((ap.getD bb.toNat af.z).2.1.getD b5.toNat 0) a0.length)<|aq (ix ((ap.getD bb.toNat af.z).2.1.getD b5.toNat 0) a0.length)<|aq (gc .i64 ((a0.getD ((ap.getD bb.toNat af.z).2.1.getD b5.toNat 0).toNat 0)-1))<|aq (ix ((ap.getD bb.toNat af.z).2.1.getD b5.toNat 0) a0.length)<|aq (ix ((ap.getD bb.toNat af.z).2.1.getD b5.toNat 0) a0.length)<|aq (gc .i64 (b5+1))<|nx ((b5+1),(a0.set ((ap.getD bb.toNat af.z).2.1.getD b5.toNat 0).toNat ((a0.getD ((ap.getD bb.toNat af.z).2.1.getD b5.toNat 0).toNat 0)-1)))else dn a0
def qq0(bb a4:Int)(ap:(List af))(a5 a6:Int)(s0:(Int×qL1)):Option (qL1⊕(Int×qL1)):=bx (fun a=>qa0 bb a4 ap a5 a6 a.1 a.2 (fun a' =>some (.next a')) (fun e=>some (.done e)) (fun r=>some (.ret r))) s0
def q02:Shp:=⟨[q48,jfa,jxl,(9, .d true qT0)],[qct,qmd]⟩
def q01:Shp:=⟨[q48,jfa,jxl],[qct,qmd]⟩
def qa1{R:Type}(bb a4:Int)(ap:(List af))(a5 a6 fi:Int)(a0:qL1)(nx:(Int×qL1)→Option R)(dn:qL1→Option R)(rt:(Int×qL1)→Option R):Option R:=aq (ix bb ap.length)<|aq (ix bb ap.length)<|bif decide (fi<((ap.getD bb.toNat af.z).2.2.1.length:Int))then aq (ix bb ap.length)<|aq (ix bb ap.length)<|aq (ix fi (ap.getD bb.toNat af.z).2.2.1.length)<|aq (ix fi (ap.getD bb.toNat af.z).2.2.1.length)<|aq (ix bb ap.length)<|aq (ix bb ap.length)<|aq (ix fi (ap.getD bb.toNat af.z).2.2.1.length)<|aq (ix fi (ap.getD bb.toNat af.z).2.2.1.length)<|aq (ix ((ap.getD bb.toNat af.z).2.2.1.getD fi.toNat 0) a0.length)<|aq (ix ((ap.getD bb.toNat af.z).2.2.1.getD fi.toNat 0) a0.length)<|aq (gc .i64 ((a0.getD ((ap.getD bb.toNat af.z).2.2.1.getD fi.toNat 0).toNat 0)+1))<|aq (ix ((ap.getD bb.toNat af.z).2.2.1.getD fi.toNat 0) a0.length)<|aq (ix ((ap.getD bb.toNat af.z).2.2.1.getD fi.toNat 0) a0.length)<|aq (gc .i64 (fi+1))<|nx ((fi+1),(a0.set ((ap.getD bb.toNat af.z).2.2.1.getD fi.toNat 0).toNat ((a0.getD ((ap.getD bb.toNat af.z).2.2.1.getD fi.toNat 0).toNat 0)+1)))else dn a0
def qq1(bb a4:Int)(ap:(List af))(a5 a6:Int)(s0:(Int×qL1)):Option (qL1⊕(Int×qL1)):=bx (fun a=>qa1 bb a4 ap a5 a6 a.1 a.2 (fun a' =>some (.next a')) (fun e=>some (.done e)) (fun r=>some (.ret r))) s0
def q04:Shp:=⟨[q48,jfa,jxl,(10, .d true qT0)],[qct,qmd]⟩
def q03:Shp:=⟨[jfa,jxl],[qct,qmd]⟩
def mw(aa:az)(bs:qL1)(bb:Int):Option (Int×qL1):=bnd (sm aa) fun r1=>bif (!r1)then some (1,[])else bnd (rb aa bs) fun r2=>bif (!r2)then some (1,[])else bif decide (bb<0)then some (2,[])else bif decide ((aa.2.1.length:Int)≤bb)then some (2,[])else bnd (ql5 aa bs bb) fun r3=>bif (!r3)then some (12,[])else aq (room (0+bs.length) 8)<|bnd (qq0 bb aa.1 aa.2.1 aa.2.2.1 aa.2.2.2.1 (0,([]++bs))) fun oe4=>lk oe4 (fun e4=>bnd (qq1 bb aa.1 aa.2.1 aa.2.2.1 aa.2.2.2.1 (0,e4)) fun oe5=>lk oe5 (fun e5=>bnd (rb aa e5) fun r6=>bif (!r6)then some (5,[])else some (0,e5)) (fun r=>some r)) (fun r=>some r)
def ui(gx:ae)(c5:(List ByteArray)):Option Bool:=aq (ix 0 1)<|some (decide (gx.1=(c5.length:Int)))
def bq{R:Type}(ad:(List ae))(f_1c0:(List ByteArray))(be av:Int)(nx:Int→Option R)(dn:Unit→Option R)(rt:Int→Option R):Option R:=bif decide (av<be)then aq (ix av ad.length)<|aq (ix av ad.length)<|bnd (ui (ad.getD av.toNat ae.z) f_1c0) fun r1=>bif r1 then rt av else aq (gc .i64 (av+1))<|nx (av+1)else dn ()
def d7(ad:(List ae))(f_1c0:(List ByteArray))(be s0:Int):Option (Unit⊕Int):=bx (fun a=>bq ad f_1c0 be a (fun a' =>some (.next a')) (fun e=>some (.done e)) (fun r=>some (.ret r))) s0
def j4:Shp:=⟨[jws,(1, .fn 61 (.cons (.rp false (.slice .str)) .nil)),qzv,q2x],[]⟩
def j3:Shp:=⟨[],[]⟩
def bz(ad:(List ae))(f_1c0:(List ByteArray)):Option Int:=bnd (d7 ad f_1c0 (ad.length:Int) 0) fun oe2=>lk oe2 (fun e2=>some (-1)) (fun r=>some r)
def il(a2 a3:az)(hs:qL1)(dw:Int):Option (Bool×qL1×Int):=bnd (jq a2 a3 hs dw) fun r1=>bif (!decide (r1.2.1=0))then some (false,[],r1.2.1)else bnd (kh a3 r1.2.2 dw) fun r2=>bnd (bz r2.2 r1.2.2) fun r3=>bif decide ((0:Int)≤r3)then aq (ix r3 r2.2.length)<|aq (ix r3 r2.2.length)<|some (true,(r2.2.getD r3.toNat ae.z).2.2.1,0)else bif (!r2.1)then some (false,[],13)else some (false,[],0)
def yo{R:Type}(hi:qL1)(a4:Int)(ap:(List af))(a5 a6:Int)(bo:qL1)(fi:Int)(nx:(qL1×Int)→Option R)(dn:qL1→Option R)(rt:(qL1×Int×Int)→Option R):Option R:=bif decide (fi<(hi.length:Int))then aq (ix fi hi.length)<|aq (ix fi hi.length)<|bnd (mw (a4,ap,a5,a6,()) bo (hi.getD fi.toNat 0)) fun r3=>bif (!decide (r3.1=0))then rt ([],fi,r3.1)else aq (gc .i64 (fi+1))<|nx (r3.2,(fi+1))else dn bo
def quu(hi:qL1)(a4:Int)(ap:(List af))(a5 a6:Int)(s0:(qL1×Int)):Option (qL1⊕(qL1×Int×Int)):=bx (fun a=>yo hi a4 ap a5 a6 a.1 a.2 (fun a' =>some (.next a')) (fun e=>some (.done e)) (fun r=>some (.ret r))) s0
def q4o:Shp:=⟨[jty,jfa,jw0,(10, .d true qT0)],[qct]⟩
def q4n:Shp:=⟨[jty,jw0],[]⟩
def ql6(aa:az)(bs hi:qL1):Option (qL1×Int×Int):=bnd (sm aa) fun r1=>bif (!r1)then some ([],0,1)else bnd (rb aa bs) fun r2=>bif (!r2)then some ([],0,1)else bif decide ((1000:Int)<(hi.length:Int))then some ([],0,5)else aq (room (0+bs.length) 8)<|bnd (quu hi aa.1 aa.2.1 aa.2.2.1 aa.2.2.2.1 (([]++bs),0)) fun oe4=>lk oe4 (fun e4=>some (e4,(hi.length:Int),0)) (fun r=>some r)
def qa3{R:Type}(b0:qL1)(es:Int)(bf:(List af))(ev ex fd:Int)(g1:(List ByteArray))(nx:(Int×(List ByteArray))→Option R)(dn:(List ByteArray)→Option R)(rt:(Int×(List ByteArray))→Option R):Option R:=bif decide (fd<(b0.length:Int))then aq (ix fd b0.length)<|aq (ix fd b0.length)<|bif decide ((b0.getD fd.toNat 0)<0)then rt (2,[])else aq (ix fd b0.length)<|aq (ix fd b0.length)<|bif decide ((bf.length:Int)≤(b0.getD fd.toNat 0))then rt (2,[])else aq (ix fd b0.length)<|aq (ix fd b0.length)<|aq (ix (b0.getD fd.toNat 0) bf.length)<|aq (ix (b0.getD fd.toNat 0) bf.length)<|bif (!(ByteArray.toList (bf.getD (b0.getD fd.toNat 0).toNat af.z).1==ByteArray.toList ⟨#[]⟩))then aq (ix fd b0.length)<|aq (ix fd b0.length)<|aq (ix (b0.getD fd.toNat 0) bf.length)<|aq (ix (b0.getD fd.toNat 0) bf.length)<|aq (room (g1.length+1) 16)<|aq (gc .i64 (fd+1))<|nx ((fd+1),(g1++[(bf.getD (b0.getD fd.toNat 0).toNat af.z).1]))else aq (gc .i64 (fd+1))<|nx ((fd+1),g1)else dn g1
def qq6(b0:qL1)(es:Int)(bf:(List af))(ev ex:Int)(s0:(Int×(List ByteArray))):Option ((List ByteArray)⊕(Int×(List ByteArray))):=bx (fun a=>qa3 b0 es bf ev ex a.1 a.2 (fun a' =>some (.next a')) (fun e=>some (.done e)) (fun r=>some (.ret r))) s0
def q07:Shp:=⟨[jg7,jwo,(6, .nl false (.own 1)),qzv],[qct,q49]⟩
def q06:Shp:=⟨[jwp],[q49]⟩
def qh2(aa:az)(b0:qL1):Option (Int×(List ByteArray)):=bnd (sm aa) fun r1=>bif (!r1)then some (1,[])else bif decide ((1000:Int)<(b0.length:Int))then some (5,[])else bnd (qq6 b0 aa.1 aa.2.1 aa.2.2.1 aa.2.2.2.1 (0,[])) fun oe2=>lk oe2 (fun e2=>some (0,e2)) (fun r=>some r)
def qa5(aa:az)(hb:qL1):Option (qL1×Bool×(List ByteArray)):=bnd (qdb aa aa.2.2.1) fun r1=>bnd (ql6 aa r1 hb) fun r2=>bif (!decide (r2.2.2=0))then some ([],false,[])else bnd (qh2 aa hb) fun r3=>some (r2.1,true,r3.2)
def xz(a2 a3:az)(hs:qL1)(dw:Int):Option Int:=bnd (o4 a2) fun r1=>bif (!r1)then some 1 else bnd (o4 a3) fun r2=>bif (!r2)then some 1 else bnd (qa5 a2 hs) fun r3=>bif (!r3.2.1)then some 12 else bif decide (dw<1)then some 2 else bif decide ((2000:Int)<dw)then some 2 else some 0
def p8{R:Type}(cy:(List ByteArray))(a1 b5 eg jc:Int)(nb:qL1)(a4:Int)(ap:(List af))(a5 a6:Int)(a0:(List ae))(ka:Bool)(hv:Int)(nx:(Bool×Int)→Option R)(dn:Bool→Option R)(rt:(Bool×(List ae))→Option R):Option R:=bif decide (hv<(a0.length:Int))then bif (!ka)then aq (ix hv a0.length)<|aq (ix hv a0.length)<|bif decide ((a0.getD hv.toNat ae.z).1=jc)then aq (ix hv a0.length)<|aq (ix hv a0.length)<|bnd (qfn (a0.getD hv.toNat ae.z).2.1 nb) fun r3=>aq (gc .i64 (hv+1))<|nx (r3,(hv+1))else aq (gc .i64 (hv+1))<|nx (false,(hv+1))else dn ka else dn ka
def yu(cy:(List ByteArray))(a1 b5 eg jc:Int)(nb:qL1)(a4:Int)(ap:(List af))(a5 a6:Int)(a0:(List ae))(s0:(Bool×Int)):Option (Bool⊕(Bool×(List ae))):=bx (fun a=>p8 cy a1 b5 eg jc nb a4 ap a5 a6 a0 a.1 a.2 (fun a' =>some (.next a')) (fun e=>some (.done e)) (fun r=>some (.ret r))) s0
def qef{R:Type}(cy:(List ByteArray))(a1 b5 eg jc a4:Int)(ap:(List af))(a5 a6:Int)(a0:(List ae))(dn:(List ae)→Option R)(rt:(Bool×(List ae))→Option R):Option R:=aq (ix b5 a0.length)<|aq (ix b5 a0.length)<|bnd (mw (a4,ap,a5,a6,()) (a0.getD b5.toNat ae.z).2.1 eg) fun r2=>bnd (yu cy a1 b5 eg jc r2.2 a4 ap a5 a6 a0 ((!decide (r2.1=0)),0)) fun oe4=>lk oe4 (fun e4=>bif (!e4)then aq (ix b5 a0.length)<|aq (ix b5 a0.length)<|aq (room (0+(a0.getD b5.toNat ae.z).2.2.1.length) 8)<|aq (room (([]++(a0.getD b5.toNat ae.z).2.2.1).length+1) 8)<|aq (room (a0.length+1) 56)<|dn (a0++[(jc,r2.2,(([]++(a0.getD b5.toNat ae.z).2.2.1)++[eg]),())])else dn a0) (fun r=>rt r)
def rm(cy:(List ByteArray))(a1 b5 eg jc a4:Int)(ap:(List af))(a5 a6:Int)(a0:(List ae)):Option ((List ae)⊕(Bool×(List ae))):=qef cy a1 b5 eg jc a4 ap a5 a6 a0 (fun e=>some (.inl e)) (fun r=>some (.inr r))
def jm{R:Type}(cy:(List ByteArray))(a1 b5 a4:Int)(ap:(List af))(a5 a6 eg:Int)(a0:(List ae))(nx:(Int×(List ae))→Option R)(dn:(List ae)→Option R)(rt:(Bool×(List ae))→Option R):Option R:=bif decide (eg<(ap.length:Int))then bif decide ((a0.length:Int)≤a1)then aq (ix b5 a0.length)<|aq (ix b5 a0.length)<|aq (ix eg ap.length)<|aq (ix eg ap.length)<|bif (!(ByteArray.toList (ap.getD eg.toNat af.z).1==ByteArray.toList ⟨#[]⟩))then bif decide ((cy.length:Int)≤(a0.getD b5.toNat ae.z).1)then aq (gc .i64 (eg+1))<|nx ((eg+1),a0)else aq (ix (a0.getD b5.toNat ae.z).1 cy.length)<|aq (ix (a0.getD b5.toNat ae.z).1 cy.length)<|aq (ix eg ap.length)<|aq (ix eg ap.length)<|bif (!(ByteArray.toList (cy.getD (Int.toNat (a0.getD b5.toNat ae.z).1) ⟨#[]⟩)==ByteArray.toList (ap.getD eg.toNat af.z).1))then aq (gc .i64 (eg+1))<|nx ((eg+1),a0)else aq (gc .i64 ((a0.getD b5.toNat ae.z).1+1))<|bnd (rm cy a1 b5 eg ((a0.getD b5.toNat ae.z).1+1) a4 ap a5 a6 a0) fun oe5=>lk oe5 (fun e5=>aq (gc .i64 (eg+1))<|nx ((eg+1),e5)) (fun r=>rt r)else bnd (rm cy a1 b5 eg (a0.getD b5.toNat ae.z).1 a4 ap a5 a6 a0) fun oe6=>lk oe6 (fun e6=>aq (gc .i64 (eg+1))<|nx ((eg+1),e6)) (fun r=>rt r)else dn a0 else dn a0
def rl(cy:(List ByteArray))(a1 b5 a4:Int)(ap:(List af))(a5 a6:Int)(s0:(Int×(List ae))):Option ((List ae)⊕(Bool×(List ae))):=bx (fun a=>jm cy a1 b5 a4 ap a5 a6 a.1 a.2 (fun a' =>some (.next a')) (fun e=>some (.done e)) (fun r=>some (.ret r))) s0
def my{R:Type}(cy:(List ByteArray))(a1 a4:Int)(ap:(List af))(a5 a6 b5:Int)(a0:(List ae))(nx:(Int×(List ae))→Option R)(dn:(List ae)→Option R)(rt:(Bool×(List ae))→Option R):Option R:=bif decide (b5<(a0.length:Int))then bif decide (b5<a1)then bnd (rl cy a1 b5 a4 ap a5 a6 (0,a0)) fun oe7=>lk oe7 (fun e7=>aq (gc .i64 (b5+1))<|nx ((b5+1),e7)) (fun r=>rt r)else dn a0 else dn a0
def qfd(cy:(List ByteArray))(a1 a4:Int)(ap:(List af))(a5 a6:Int)(s0:(Int×(List ae))):Option ((List ae)⊕(Bool×(List ae))):=bx (fun a=>my cy a1 a4 ap a5 a6 a.1 a.2 (fun a' =>some (.next a')) (fun e=>some (.done e)) (fun r=>some (.ret r))) s0
def qce(aa:az)(cy:(List ByteArray))(a1:Int):Option (Bool×(List ae)):=bnd (qdb aa aa.2.2.1) fun r1=>bnd (qfd cy a1 aa.1 aa.2.1 aa.2.2.1 aa.2.2.2.1 (0,[(0,r1,[],())])) fun oe8=>lk oe8 (fun e8=>some (decide (a1<(e8.length:Int)),e8)) (fun r=>some r)
def we{R:Type}(cy:(List ByteArray))(a1:Int)(hf:(List ae))(k3:Bool)(h5:Int)(nx:Int→Option R)(dn:Unit→Option R)(rt:(Bool×qL1×Int)→Option R):Option R:=bif decide (h5<(hf.length:Int))then bif decide (h5<a1)then aq (ix h5 hf.length)<|aq (ix h5 hf.length)<|bif decide ((hf.getD h5.toNat ae.z).1=(cy.length:Int))then aq (ix h5 hf.length)<|aq (ix h5 hf.length)<|rt (true,(hf.getD h5.toNat ae.z).2.2.1,0)else aq (gc .i64 (h5+1))<|nx (h5+1)else dn ()else dn ()
def qfc(cy:(List ByteArray))(a1:Int)(hf:(List ae))(k3:Bool)(s0:Int):Option (Unit⊕(Bool×qL1×Int)):=bx (fun a=>we cy a1 hf k3 a (fun a' =>some (.next a')) (fun e=>some (.done e)) (fun r=>some (.ret r))) s0
def qi9(pv:az)(cy:(List ByteArray))(a1:Int):Option (Bool×qL1×Int):=bnd (qce pv cy a1) fun r1=>bnd (qfc cy a1 r1.2 r1.1 0) fun oe2=>lk oe2 (fun e2=>bif r1.1 then some (false,[],13)else some (false,[],0)) (fun r=>some r)
def qho(p2 c5:qL1):Option Bool:=aq (ix 0 1)<|bnd (bp c5 p2) fun r1=>some r1
def f8{R:Type}(ad:qL2)(f_1c0:qL1)(be av:Int)(nx:Int→Option R)(dn:Unit→Option R)(rt:Int→Option R):Option R:=bif decide (av<be)then aq (ix av ad.length)<|aq (ix av ad.length)<|bnd (qho (ad.getD av.toNat []) f_1c0) fun r1=>bif r1 then rt av else aq (gc .i64 (av+1))<|nx (av+1)else dn ()
def pj(ad:qL2)(f_1c0:qL1)(be s0:Int):Option (Unit⊕Int):=bx (fun a=>f8 ad f_1c0 be a (fun a' =>some (.next a')) (fun e=>some (.done e)) (fun r=>some (.ret r))) s0
def qaj:Shp:=⟨[(0, .d false qT2),(1, .fn 71 (.cons (.rp false qT1) .nil)),qzv,q2x],[]⟩
def qai:Shp:=⟨[],[]⟩
def lw(ad:qL2)(f_1c0:qL1):Option Int:=bnd (pj ad f_1c0 (ad.length:Int) 0) fun oe2=>lk oe2 (fun e2=>some (-1)) (fun r=>some r)
def fx(ad:qL2)(f_1c0:qL1):Option Bool:=bnd (lw ad f_1c0) fun r1=>some (decide ((0:Int)≤r1))
def qw{R:Type}(ft ip b2:Int)(a9:(List af))(b3 b4 g7:Int)(hg:qL2)(nx:(Int×qL2)→Option R)(dn:qL2→Option R)(rt:Bool→Option R):Option R:=bif decide (g7<ip)then aq (ix ft hg.length)<|aq (ix ft hg.length)<|bnd (mw (b2,a9,b3,b4,()) (hg.getD ft.toNat []) g7) fun r2=>bif decide (r2.1=5)then rt true else bif decide (r2.1=0)then bnd (fx hg r2.2) fun r3=>bif (!r3)then aq (room (hg.length+1) 24)<|aq (gc .i64 (g7+1))<|nx ((g7+1),(hg++[r2.2]))else aq (gc .i64 (g7+1))<|nx ((g7+1),hg)else aq (gc .i64 (g7+1))<|nx ((g7+1),hg)else dn hg
def qp2(ft ip b2:Int)(a9:(List af))(b3 b4:Int)(s0:(Int×qL2)):Option (qL2⊕Bool):=bx (fun a=>qw ft ip b2 a9 b3 b4 a.1 a.2 (fun a' =>some (.next a')) (fun e=>some (.done e)) (fun r=>some (.ret r))) s0
def qz6:Shp:=⟨[jms,jw1,jwv,(25, .d true qT0),jw7],[qct,qfg]⟩
def qz5:Shp:=⟨[jms,jw1,jwv],[qct,qfg]⟩
def qx{R:Type}(b2:Int)(a9:(List af))(b3 b4 ft:Int)(hg:qL2)(nx:(Int×qL2)→Option R)(dn:qL2→Option R)(rt:Bool→Option R):Option R:=bif decide (ft<(hg.length:Int))then bif decide (ft<400)then bnd (qp2 ft (a9.length:Int) b2 a9 b3 b4 (0,hg)) fun oe4=>lk oe4 (fun e4=>aq (gc .i64 (ft+1))<|nx ((ft+1),e4)) (fun r=>rt r)else dn hg else dn hg
def qp3(b2:Int)(a9:(List af))(b3 b4:Int)(s0:(Int×qL2)):Option (qL2⊕Bool):=bx (fun a=>qx b2 a9 b3 b4 a.1 a.2 (fun a' =>some (.next a')) (fun e=>some (.done e)) (fun r=>some (.ret r))) s0
def qz8:Shp:=⟨[jms,jw1,jwv],[qct,qfg]⟩
def qz7:Shp:=⟨[(3, .own 0)],[qfg]⟩
def qhn(aa:az):Option Bool:=bnd (qdb aa aa.2.2.1) fun r1=>bnd (qp3 aa.1 aa.2.1 aa.2.2.1 aa.2.2.2.1 (0,[r1])) fun oe5=>lk oe5 (fun e5=>some (decide ((400:Int)≤(e5.length:Int)))) (fun r=>some r)
def xy(aa:az)(hb:qL1):Option Bool:=bnd (qj3) fun r1=>bif (!r1)then some false else bnd (qew aa) fun r2=>bif r2 then some true else bnd (qhp hb) fun r3=>bif r3 then some true else bnd (xz aa aa hb 25) fun r4=>bif (!decide (r4=0))then some true else bnd (dm aa aa hb 25) fun r5=>bif decide (r5.2=0)then bnd (qy aa aa hb r5.1) fun r6=>bif (!r6)then some false else bnd (il aa aa hb 25) fun r7=>bif decide (r7.2.2=0)then bif r7.1 then some true else some (decide (r7.2.2=13))else some (decide (r7.2.2=13))else bif (!decide (r5.2=13))then bif decide (r5.2=10)then bnd (qhn aa) fun r8=>some r8 else some false else bnd (il aa aa hb 25) fun r9=>bif decide (r9.2.2=0)then bif r9.1 then some true else some (decide (r9.2.2=13))else some (decide (r9.2.2=13))
end Go.Proofs.Ytdhfhpdadbopkaa
