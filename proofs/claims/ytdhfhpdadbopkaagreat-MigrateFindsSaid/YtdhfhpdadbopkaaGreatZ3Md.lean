/-
  What the functions compute, as plain functions of Lean. Made by program (mg3.py) out of the translation.
-/
import Derived.Test.YtdhfhpdadbopkaaGreatZ3KE
set_option linter.all false
set_option maxRecDepth 100000
namespace Go.Proofs.YtdhfhpdadbopkaaGreat
open Go.K Go.M
abbrev qL1:Type:=List Int
abbrev qL2:Type:=List (List Int)
abbrev qT0:Ty:=.int .i64
abbrev qT1:Ty:=.slice qT0
abbrev qT2:Ty:=.slice qT1
abbrev af:Type:=ByteArray×qL1×qL1×Unit
abbrev af.z:af:=(⟨#[]⟩,[],[],())
def af.ty:Ty:= .struct (.cons .str (.cons qT1 (.cons qT1 .nil)))
abbrev a7:Type:=Int×(List af)×Int×Int×Unit
abbrev a7.z:a7:=(0,[],0,0,())
def a7.ty:Ty:= .struct (.cons qT0 (.cons (.slice af.ty) (.cons qT0 (.cons qT0 .nil))))
abbrev ae:Type:=Int×qL1×qL1×Unit
abbrev ae.z:ae:=(0,[],[],())
def ae.ty:Ty:= .struct (.cons qT0 (.cons qT1 (.cons qT1 .nil)))
abbrev ag:Type:=Int×qL1×Unit
abbrev ag.z:ag:=(0,[],())
def ag.ty:Ty:= .struct (.cons qT0 (.cons qT1 .nil))
abbrev ab:Type:=qL1×qL1×Unit
abbrev ab.z:ab:=([],[],())
def ab.ty:Ty:= .struct (.cons qT1 (.cons qT1 .nil))
abbrev dg:Type:=qL1×qL1×(List ab)×Unit
abbrev dg.z:dg:=([],[],[],())
def dg.ty:Ty:= .struct (.cons qT1 (.cons qT1 (.cons (.slice ab.ty) .nil)))
abbrev qc5:Hs:=.cs 24 4 1 (.cons (.d true qT0) (.cons (.d false (.slice af.ty)) (.cons (.d true qT0) (.cons (.d true qT0) .nil))))
abbrev qe6:Hs:=.arr 25 (.fz true) [3] qT1
abbrev qf4:Nat×Sh:=(0, .d true .bool)
abbrev qm5:Hs:=.cs 24 4 1 (.cons (.d true qT0) (.cons (.d true (.slice af.ty)) (.cons (.d true qT0) (.cons (.d true qT0) .nil))))
abbrev qnn:Hs:=.cs 31 3 1 (.cons (.d true qT1) (.cons (.d true qT1) (.cons (.d true (.slice ab.ty)) .nil)))
abbrev qqy:Hs:=.arr 3 (.fz true) [0] qT0
abbrev qrg:Hs:=.cs 87 1 1 (.cons (.mp 2) .nil)
abbrev qtw:Hs:=.mp .str .bool
abbrev qt8:Hs:=.arr 60 (.fz true) [3,3] ab.ty
abbrev qwl:Hs:=.cs 61 1 1 (.cons (.fn 49 (.cons (.ptr 1) .nil)) .nil)
abbrev qxs:Hs:=.cs 61 1 1 (.cons (.fn 67 (.cons (.ptr 1) .nil)) .nil)
abbrev qx0:Hs:=.arr 79 (.fz true) [0,3,3] ae.ty
abbrev qx1:Nat×Sh:=(2, .d true qT0)
abbrev qzk:Hs:=.arr 81 (.fz true) [3,3] ab.ty
abbrev q0i:Hs:=.arr 53 (.fz true) [0,3,3] ae.ty
abbrev q3h:Hs:=.arr 4 (.fz true) [0] .bool
abbrev q3k:Nat×Sh:=(1, .d false (.slice .str))
abbrev q3l:Nat×Sh:=(7, .d true qT0)
abbrev q6l:Hs:=.cs 24 4 1 (.cons (.d true qT0) (.cons (.own 2) (.cons (.d true qT0) (.cons (.d true qT0) .nil))))
abbrev q6m:Hs:=.cs 87 1 1 (.cons (.mp 1) .nil)
abbrev q83:Nat×Sh:=(0, .d true qT0)
abbrev q84:Nat×Sh:=(21, .nl false (.d true (.slice ab.ty)))
abbrev q85:Nat×Sh:=(0, .d false (.slice ab.ty))
abbrev jaa:Nat×Sh:=(10, .fn 47 (.cons (.ptr 3) (.cons (.ptr 2) .nil)))
abbrev jcd:Nat×Sh:=(2, .d false (.slice ab.ty))
abbrev jct:Nat×Sh:=(1, .fn 83 (.cons (.rp false a7.ty) (.cons (.rp false .str) (.cons (.ptr 0) (.cons (.rp false ag.ty) .nil)))))
abbrev jej:Nat×Sh:=(15, .nl false (.d true qT2))
abbrev jfo:Nat×Sh:=(3, .ptr 0)
abbrev jgr:Nat×Sh:=(8, .d true qT0)
abbrev jgs:Hs:=.arr 9 (.fz true) [0] .str
abbrev jgt:Nat×Sh:=(1, .d true qT0)
abbrev jjc:Nat×Sh:=(1, .d false qT1)
abbrev jje:Hs:=.cs 43 3 1 (.cons (.d true .str) (.cons (.d false qT1) (.cons (.d false qT1) .nil)))
abbrev jjh:Nat×Sh:=(5, .d true qT0)
abbrev jlc:Nat×Sh:=(10, .d true qT0)
abbrev jld:Nat×Sh:=(10, .d true qT1)
abbrev jlg:Hs:=.cs 61 1 1 (.cons (.fn 49 (.cons (.ptr 2) .nil)) .nil)
abbrev jn2:Hs:=.cs 132 1 1 (.cons (.own 3) .nil)
abbrev jp8:Hs:=.cs 31 3 1 (.cons (.d true qT1) (.cons (.d true qT1) (.cons (.own 2) .nil)))
abbrev jp9:Hs:=.cs 55 1 1 (.cons (.own 4) .nil)
abbrev jqa:Nat×Sh:=(9, .d true qT0)
abbrev jvc:Hs:=.cs 87 1 1 (.cons (.mp 3) .nil)
abbrev jwy:Hs:=.cs 87 1 1 (.cons (.mp 5) .nil)
abbrev jw1:Nat×Sh:=(0, .own 0)
abbrev jw2:Nat×Sh:=(4, .ptr 0)
abbrev jw3:Nat×Sh:=(5, .ptr 1)
abbrev jw4:Hs:=.arr 43 (.fz true) [0,3,3] af.ty
abbrev jw5:Nat×Sh:=(3, .d true qT0)
abbrev jw6:Nat×Sh:=(0, .d false qT1)
abbrev jw7:Hs:=.cs 81 2 1 (.cons (.d false qT1) (.cons (.d false qT1) .nil))
abbrev jw8:Nat×Sh:=(13, .d true (.slice ae.ty))
abbrev jw9:Hs:=.cs 87 1 1 (.cons (.mp 6) .nil)
abbrev jxa:Hs:=.arr 91 (.fz true) [0,3] ag.ty
abbrev jxb:Nat×Sh:=(2, .d true .bool)
abbrev jxn:Nat×Sh:=(6, .d true qT0)
abbrev jxo:Hs:=.cs 25 1 1 (.cons (.d true qT1) .nil)
abbrev jxp:Hs:=.cs 61 1 1 (.cons (.fn 49 (.cons (.ptr 0) .nil)) .nil)
abbrev jz3:Hs:=.cs 61 1 1 (.cons (.fn 67 (.cons (.ptr 0) .nil)) .nil)
abbrev jz5:Nat×Sh:=(0, .nl false (.own 0))
abbrev jz6:Nat×Sh:=(8, .nl false (.own 2))
abbrev jz7:Nat×Sh:=(2, .d false qT1)
abbrev jz8:Nat×Sh:=(1, .fn 18 (.cons (.rp false (.slice .str)) .nil))
abbrev jz9:Nat×Sh:=(15, .nl false (.d true (.slice ag.ty)))
abbrev j0a:Nat×Sh:=(58, .nl false (.d true (.slice ag.ty)))
abbrev j0b:Nat×Sh:=(0, .d true qT1)
abbrev j0c:Nat×Sh:=(1, .d true .bool)
abbrev j0d:Nat×Sh:=(3, .ptr 1)
abbrev j0e:Nat×Sh:=(8, .own 1)
abbrev j0f:Nat×Sh:=(29, .d false (.slice af.ty))
abbrev j0g:Nat×Sh:=(0, .d true .str)
abbrev j0h:Nat×Sh:=(11, .d true qT0)
abbrev j0i:Nat×Sh:=(12, .d true qT0)
abbrev j0j:Nat×Sh:=(13, .d true qT0)
abbrev j0k:Nat×Sh:=(20, .d true qT0)
abbrev j0l:Nat×Sh:=(21, .nl false (.own 2))
abbrev j0m:Nat×Sh:=(3, .d false qT1)
abbrev j0n:Nat×Sh:=(1, .d false (.slice ab.ty))
abbrev j0o:Nat×Sh:=(1, .ptr 0)
abbrev j0p:Nat×Sh:=(10, .d true .bool)
abbrev j0q:Nat×Sh:=(2, .ptr 0)
abbrev j0r:Nat×Sh:=(6, .nl false (.own 0))
abbrev j0s:Nat×Sh:=(9, .nl false (.own 4))
abbrev j0t:Nat×Sh:=(17, .nl false (.d true qT2))
abbrev j0u:Nat×Sh:=(19, .nl false (.d true qT2))
abbrev j0v:Nat×Sh:=(0, .d false (.slice .str))
abbrev j0w:Nat×Sh:=(22, .d true qT0)
abbrev j0x:Nat×Sh:=(0, .d false (.slice ag.ty))
abbrev j0y:Nat×Sh:=(1, .nl false (.own 0))
abbrev j0z:Nat×Sh:=(21, .d true qT0)
abbrev j00:Nat×Sh:=(8, .ptr 0)
abbrev j01:Nat×Sh:=(9, .d true qT1)
abbrev j02:Nat×Sh:=(9, .own 2)
abbrev j03:Nat×Sh:=(9, .ptr 2)
abbrev j04:Nat×Sh:=(10, .ptr 5)
abbrev j05:Nat×Sh:=(12, .d true qT1)
abbrev j06:Nat×Sh:=(15, .d true qT0)
abbrev j07:Nat×Sh:=(16, .d true qT0)
abbrev j08:Nat×Sh:=(19, .d true qT0)
abbrev j09:Nat×Sh:=(26, .d true qT0)
abbrev j1a:Nat×Sh:=(30, .d true qT0)
abbrev j1b:Nat×Sh:=(31, .d true qT0)
abbrev j1c:Nat×Sh:=(4, .ptr 2)
abbrev j1d:Nat×Sh:=(5, .own 1)
abbrev j1e:Nat×Sh:=(5, .ptr 3)
abbrev j1f:Nat×Sh:=(8, .ptr 1)
abbrev j1g:Nat×Sh:=(3, .d true qT1)
abbrev j1h:Nat×Sh:=(4, .d true qT0)
abbrev j1i:Nat×Sh:=(4, .d true qT1)
abbrev j1j:Nat×Sh:=(4, .ptr 1)
abbrev j1k:Nat×Sh:=(5, .ptr 2)
abbrev j1l:Nat×Sh:=(6, .ptr 3)
abbrev j1m:Nat×Sh:=(7, .ptr 2)
abbrev j1n:Nat×Sh:=(9, .ptr 4)
def qol{R:Type}(kp:ByteArray)(g4:(List ByteArray))(mb km:Int)(nb:(List af))(hz rr ra rd re g5:Int)(p6:(List af))(nx:(Int×(List af))→Option R)(dn:(List af)→Option R)(rt:a7→Option R):Option R:=bif decide (g5<mb)then aq (ix g5 g4.length)<|aq (ix g5 g4.length)<|aq (d8 .i64 (g5+1))<|aq (room (p6.length+1) 64)<|aq (d8 .i64 (g5+1))<|nx ((g5+1),(p6++[((g4.getD g5.toNat ⟨#[]⟩),[g5],[(g5+1)],())]))else dn p6
def q7g(kp:ByteArray)(g4:(List ByteArray))(mb km:Int)(nb:(List af))(hz rr ra rd re:Int)(s0:(Int×(List af))):Option ((List af)⊕a7):=bp (fun a=>qol kp g4 mb km nb hz rr ra rd re a.1 a.2 (fun a' =>some (.next a')) (fun e=>some (.done e)) (fun r=>some (.ret r))) s0
def q3s:Shp:=⟨[j0g,jw2,jw3,(14, .d false (.slice .str)),j06,j07],[qm5,q6l,jw4]⟩
def q3r:Shp:=⟨[j0g,jw2,jw3],[qm5,q6l,jw4]⟩
def qpv(kp:ByteArray)(f3:(List ByteArray)):Option a7:=aq (d8 .i64 ((f3.length:Int)+1))<|bnd (q7g kp f3 (f3.length:Int) 0 [] 0 0 ((f3.length:Int)+1) 0 (f3.length:Int) (0,[])) fun oe1=>lk oe1 (fun e1=>bif (!(ByteArray.toList kp==ByteArray.toList ⟨#[]⟩))then aq (d8 .i64 ((f3.length:Int)-1))<|aq (room (e1.length+1) 64)<|some (((f3.length:Int)+1),(e1++[(kp,[((f3.length:Int)-1)],[(f3.length:Int)],())]),0,(f3.length:Int),())else some (((f3.length:Int)+1),e1,0,(f3.length:Int),())) (fun r=>some r)
def qb1(hc:Int):Option Bool:=bif decide ((65:Int)≤hc)then bif decide (hc≤90)then some true else bif decide ((97:Int)≤hc)then some (decide (hc≤122))else some false else bif decide ((97:Int)≤hc)then some (decide (hc≤122))else some false
def qnf(hc:Int):Option Bool:=bnd (qb1 hc) fun r1=>bif r1 then some true else bif decide ((48:Int)≤hc)then bif decide (hc≤57)then some true else bif decide (hc=95)then some true else bif decide (hc=45)then some true else some (decide (hc=46))else bif decide (hc=95)then some true else bif decide (hc=45)then some true else some (decide (hc=46))
def ry{R:Type}(ad:ByteArray)(gt b6:Int)(nx:Int→Option R)(dn:Unit→Option R)(rt:Bool→Option R):Option R:=bif decide (b6<gt)then aq (ix b6 (ByteArray.size ad))<|bnd (qnf (((ByteArray.data ad).getD b6.toNat 0).toNat:Int)) fun r2=>bif (!r2)then rt false else aq (d8 .i64 (b6+1))<|nx (b6+1)else dn ()
def qom(ad:ByteArray)(gt s0:Int):Option (Unit⊕Bool):=bp (fun a=>ry ad gt a (fun a' =>some (.next a')) (fun e=>some (.done e)) (fun r=>some (.ret r))) s0
def q1d:Shp:=⟨[j0g,j08,j0k],[]⟩
def q1c:Shp:=⟨[],[]⟩
def qfq(ad:ByteArray):Option Bool:=bif decide ((ByteArray.size ad:Int)<1)then some false else bif decide ((40:Int)<(ByteArray.size ad:Int))then some false else aq (ix 0 (ByteArray.size ad))<|bnd (qb1 (((ByteArray.data ad).getD 0 0).toNat:Int)) fun r1=>bif (!r1)then some false else bnd (qom ad (ByteArray.size ad:Int) 0) fun oe3=>lk oe3 (fun e3=>some true) (fun r=>some r)
def ng{R:Type}(b4 cb:qL1)(bb f5:Int)(b1:(List af))(ga gd jc:Int)(nx:Int→Option R)(dn:Unit→Option R)(rt:Bool→Option R):Option R:=bif decide (jc<bb)then aq (ix jc cb.length)<|aq (ix jc cb.length)<|bif decide ((cb.getD jc.toNat 0)<0)then rt false else bif decide (f5≤(cb.getD jc.toNat 0))then rt false else bif decide ((0:Int)<jc)then aq (d8 .i64 (jc-1))<|aq (ix (jc-1) b4.length)<|aq (ix (jc-1) b4.length)<|bif decide ((cb.getD jc.toNat 0)≤(b4.getD (jc-1).toNat 0))then rt false else aq (d8 .i64 (jc+1))<|nx (jc+1)else aq (d8 .i64 (jc+1))<|nx (jc+1)else dn ()
def ql5(b4 cb:qL1)(bb f5:Int)(b1:(List af))(ga gd s0:Int):Option (Unit⊕Bool):=bp (fun a=>ng b4 cb bb f5 b1 ga gd a (fun a' =>some (.next a')) (fun e=>some (.done e)) (fun r=>some (.ret r))) s0
def qyk:Shp:=⟨[jjc,j0q,(7, .d false qT1),jgr,jqa],[qc5]⟩
def qyj:Shp:=⟨[],[]⟩
def lf(aa:a7)(b4:qL1):Option Bool:=bnd (ql5 b4 b4 (b4.length:Int) aa.1 aa.2.1 aa.2.2.1 aa.2.2.2.1 0) fun oe1=>lk oe1 (fun e1=>some true) (fun r=>some r)
def yq{R:Type}(b6:(List af))(f6 eg:Int)(b3:(List af))(en eo gy:Int)(nx:Int→Option R)(dn:Unit→Option R)(rt:Bool→Option R):Option R:=bif decide (gy<f6)then aq (ix gy b6.length)<|aq (ix gy b6.length)<|bif (!(ByteArray.toList (b6.getD gy.toNat af.z).1==ByteArray.toList ⟨#[]⟩))then bnd (qfq (b6.getD gy.toNat af.z).1) fun r1=>bif (!r1)then rt false else bnd (lf (eg,b3,en,eo,()) (b6.getD gy.toNat af.z).2.1) fun r2=>bif (!r2)then rt false else bnd (lf (eg,b3,en,eo,()) (b6.getD gy.toNat af.z).2.2.1) fun r3=>bif (!r3)then rt false else aq (d8 .i64 (gy+1))<|nx (gy+1)else bnd (lf (eg,b3,en,eo,()) (b6.getD gy.toNat af.z).2.1) fun r4=>bif (!r4)then rt false else bnd (lf (eg,b3,en,eo,()) (b6.getD gy.toNat af.z).2.2.1) fun r5=>bif (!r5)then rt false else aq (d8 .i64 (gy+1))<|nx (gy+1)else dn ()
def qos(b6:(List af))(f6 eg:Int)(b3:(List af))(en eo s0:Int):Option (Unit⊕Bool):=bp (fun a=>yq b6 f6 eg b3 en eo a (fun a' =>some (.next a')) (fun e=>some (.done e)) (fun r=>some (.ret r))) s0
def q1r:Shp:=⟨[j0o,(20, .d false (.slice af.ty)),j0z,j0w],[qc5]⟩
def q1q:Shp:=⟨[j0o],[qc5]⟩
def r0(aa:a7):Option Bool:=bif decide (aa.1<1)then some false else bif decide ((40:Int)<aa.1)then some false else bif decide ((60:Int)<(aa.2.1.length:Int))then some false else bnd (qos aa.2.1 (aa.2.1.length:Int) aa.1 aa.2.1 aa.2.2.1 aa.2.2.2.1 0) fun oe6=>lk oe6 (fun e6=>bnd (lf aa [aa.2.2.1]) fun r7=>bif r7 then bnd (lf aa [aa.2.2.2.1]) fun r8=>some r8 else some false) (fun r=>some r)
def kb{R:Type}(ad:qL1)(i1 cb bb:Int)(nx:Int→Option R)(dn:Unit→Option R)(rt:Int→Option R):Option R:=bif decide (bb<cb)then aq (ix bb ad.length)<|aq (ix bb ad.length)<|bif decide (i1=(ad.getD bb.toNat 0))then rt bb else aq (d8 .i64 (bb+1))<|nx (bb+1)else dn ()
def zt(ad:qL1)(i1 cb s0:Int):Option (Unit⊕Int):=bp (fun a=>kb ad i1 cb a (fun a' =>some (.next a')) (fun e=>some (.done e)) (fun r=>some (.ret r))) s0
def qht:Shp:=⟨[jw6,jgt,q3l,jgr],[]⟩
def qhs:Shp:=⟨[],[]⟩
def ss(ad:qL1)(i1:Int):Option Int:=bnd (zt ad i1 (ad.length:Int) 0) fun oe1=>lk oe1 (fun e1=>some (-1)) (fun r=>some r)
def gu(ad:qL1)(i1:Int):Option Bool:=bnd (ss ad i1) fun r1=>some (decide ((0:Int)≤r1))
def wd(hd:Int)(f0:(List Bool)):Option Bool:=aq (ix 0 1)<|aq (ix hd f0.length)<|aq (ix hd f0.length)<|some (f0.getD hd.toNat false)
def ez{R:Type}(ad:qL1)(f_1c0:(List Bool))(cb bb:Int)(nx:Int→Option R)(dn:Unit→Option R)(rt:Int→Option R):Option R:=bif decide (bb<cb)then aq (ix bb ad.length)<|aq (ix bb ad.length)<|bnd (wd (ad.getD bb.toNat 0) f_1c0) fun r1=>bif r1 then rt bb else aq (d8 .i64 (bb+1))<|nx (bb+1)else dn ()
def o8(ad:qL1)(f_1c0:(List Bool))(cb s0:Int):Option (Unit⊕Int):=bp (fun a=>ez ad f_1c0 cb a (fun a' =>some (.next a')) (fun e=>some (.done e)) (fun r=>some (.ret r))) s0
def zz:Shp:=⟨[jw6,(1, .fn 100 (.cons (.rp false (.slice .bool)) .nil)),q3l,jgr],[]⟩
def zy:Shp:=⟨[],[]⟩
def kh(ad:qL1)(f_1c0:(List Bool)):Option Int:=bnd (o8 ad f_1c0 (ad.length:Int) 0) fun oe2=>lk oe2 (fun e2=>some (-1)) (fun r=>some r)
def df(ad:qL1)(f_1c0:(List Bool)):Option Bool:=bnd (kh ad f_1c0) fun r1=>some (decide ((0:Int)≤r1))
def tm{R:Type}(gs fd:Bool)(hr:(List af))(k5 c3:Int)(hu:qL1)(q4 bl:Int)(av:(List af))(bo bs:Int)(cy:(List Bool))(d0:Int)(ej:(List Bool))(nx:(Int×(List Bool))→Option R)(dn:(List Bool)→Option R)(rt:((List Bool)×(List Bool))→Option R):Option R:=bif decide (d0<q4)then aq (ix d0 hu.length)<|aq (ix d0 hu.length)<|aq (ix (hu.getD d0.toNat 0) ej.length)<|aq (ix (hu.getD d0.toNat 0) ej.length)<|aq (d8 .i64 (d0+1))<|nx ((d0+1),(ej.set (hu.getD d0.toNat 0).toNat true))else dn ej
def qcn(gs fd:Bool)(hr:(List af))(k5 c3:Int)(hu:qL1)(q4 bl:Int)(av:(List af))(bo bs:Int)(cy:(List Bool))(s0:(Int×(List Bool))):Option ((List Bool)⊕((List Bool)×(List Bool))):=bp (fun a=>tm gs fd hr k5 c3 hu q4 bl av bo bs cy a.1 a.2 (fun a' =>some (.next a')) (fun e=>some (.done e)) (fun r=>some (.ret r))) s0
def qvi:Shp:=⟨[jxb,jfo,j1f,j02,j0p,j0f,j1a,j1b,(56, .d false qT1),(57, .d true qT0),(58, .d true qT0)],[qc5,jn2,q3h,q3h]⟩
def qvh:Shp:=⟨[jxb,jfo,j1f,j02,j0p,j0f,j1a,j1b],[qc5,jn2,q3h,q3h]⟩
def gn{R:Type}(gs:Bool)(hr:(List af))(k5 bl:Int)(av:(List af))(bo bs:Int)(fd:Bool)(c3:Int)(cy ej:(List Bool))(nx:(Bool×Int×(List Bool)×(List Bool))→Option R)(dn:(Bool×(List Bool)×(List Bool))→Option R)(rt:((List Bool)×(List Bool))→Option R):Option R:=bif decide (c3<k5)then aq (ix c3 hr.length)<|aq (ix c3 hr.length)<|bif gs then aq (ix c3 cy.length)<|aq (ix c3 cy.length)<|bif (cy.getD c3.toNat false)then aq (d8 .i64 (c3+1))<|nx (fd,(c3+1),cy,ej)else bnd (df (hr.getD c3.toNat af.z).2.2.1 ej) fun r1=>bif (!r1)then aq (d8 .i64 (c3+1))<|nx (fd,(c3+1),cy,ej)else aq (ix c3 cy.length)<|aq (ix c3 cy.length)<|bnd (qcn gs true hr k5 c3 (hr.getD c3.toNat af.z).2.1 ((hr.getD c3.toNat af.z).2.1.length:Int) bl av bo bs (cy.set c3.toNat true) (0,ej)) fun oe2=>lk oe2 (fun e2=>aq (d8 .i64 (c3+1))<|nx (true,(c3+1),(cy.set c3.toNat true),e2)) (fun r=>rt r)else aq (ix c3 cy.length)<|aq (ix c3 cy.length)<|bif (cy.getD c3.toNat false)then aq (d8 .i64 (c3+1))<|nx (fd,(c3+1),cy,ej)else bnd (df (hr.getD c3.toNat af.z).2.1 ej) fun r3=>bif (!r3)then aq (d8 .i64 (c3+1))<|nx (fd,(c3+1),cy,ej)else aq (ix c3 cy.length)<|aq (ix c3 cy.length)<|bnd (qcn gs true hr k5 c3 (hr.getD c3.toNat af.z).2.2.1 ((hr.getD c3.toNat af.z).2.2.1.length:Int) bl av bo bs (cy.set c3.toNat true) (0,ej)) fun oe4=>lk oe4 (fun e4=>aq (d8 .i64 (c3+1))<|nx (true,(c3+1),(cy.set c3.toNat true),e4)) (fun r=>rt r)else dn (fd,cy,ej)
def qco(gs:Bool)(hr:(List af))(k5 bl:Int)(av:(List af))(bo bs:Int)(s0:(Bool×Int×(List Bool)×(List Bool))):Option ((Bool×(List Bool)×(List Bool))⊕((List Bool)×(List Bool))):=bp (fun a=>gn gs hr k5 bl av bo bs a.1 a.2.1 a.2.2.1 a.2.2.2 (fun a' =>some (.next a')) (fun e=>some (.done e)) (fun r=>some (.ret r))) s0
def qvk:Shp:=⟨[jxb,jfo,j1f,j02,j0p,j0f,j1a,j1b],[qc5,jn2,q3h,q3h]⟩
def qvj:Shp:=⟨[jxb,jfo,j1f,j02,j0p],[qc5,jn2,q3h,q3h]⟩
def qax{R:Type}(gs:Bool)(bl:Int)(av:(List af))(bo bs:Int)(fd:Bool)(cy ej:(List Bool))(nx:(Bool×(List Bool)×(List Bool))→Option R)(dn rt:((List Bool)×(List Bool))→Option R):Option R:=bif fd then bnd (qco gs av (av.length:Int) bl av bo bs (false,0,cy,ej)) fun oe5=>lk oe5 (fun e5=>nx (e5.1,e5.2.1,e5.2.2)) (fun r=>rt r)else dn (cy,ej)
def qjt(gs:Bool)(bl:Int)(av:(List af))(bo bs:Int)(s0:(Bool×(List Bool)×(List Bool))):Option (((List Bool)×(List Bool))⊕((List Bool)×(List Bool))):=bp (fun a=>qax gs bl av bo bs a.1 a.2.1 a.2.2 (fun a' =>some (.next a')) (fun e=>some (.done e)) (fun r=>some (.ret r))) s0
def qvm:Shp:=⟨[jxb,jfo,j1f,j02,j0p],[qc5,jn2,q3h,q3h]⟩
def qvl:Shp:=⟨[j00,(9, .own 1)],[.cs 132 1 1 (.cons (.own 2) .nil),q3h,q3h]⟩
def oc(aa:a7)(c5:Int)(gs:Bool):Option ((List Bool)×(List Bool)):=aq (q31 aa.1 aa.1 1)<|aq (q31 (aa.2.1.length:Int) (aa.2.1.length:Int) 1)<|aq (ix c5 (List.replicate aa.1.toNat (false:Bool)).length)<|aq (ix c5 (List.replicate aa.1.toNat (false:Bool)).length)<|bnd (qjt gs aa.1 aa.2.1 aa.2.2.1 aa.2.2.2.1 (true,(List.replicate (aa.2.1.length:Int).toNat (false:Bool)),((List.replicate aa.1.toNat (false:Bool)).set c5.toNat true))) fun oe6=>lk oe6 (fun e6=>some (e6.2,e6.1)) (fun r=>some r)
def i9{R:Type}(ad:(List Bool))(i1:Bool)(cb bb:Int)(nx:Int→Option R)(dn:Unit→Option R)(rt:Int→Option R):Option R:=bif decide (bb<cb)then aq (ix bb ad.length)<|aq (ix bb ad.length)<|bif (i1==(ad.getD bb.toNat false))then rt bb else aq (d8 .i64 (bb+1))<|nx (bb+1)else dn ()
def vy(ad:(List Bool))(i1:Bool)(cb s0:Int):Option (Unit⊕Int):=bp (fun a=>i9 ad i1 cb a (fun a' =>some (.next a')) (fun e=>some (.done e)) (fun r=>some (.ret r))) s0
def qfc:Shp:=⟨[(0, .d false (.slice .bool)),j0c,q3l,jgr],[]⟩
def qfb:Shp:=⟨[],[]⟩
def qf(ad:(List Bool))(i1:Bool):Option Int:=bnd (vy ad i1 (ad.length:Int) 0) fun oe1=>lk oe1 (fun e1=>some (-1)) (fun r=>some r)
def cu(ad:(List Bool))(i1:Bool):Option Bool:=bnd (qf ad i1) fun r1=>some (decide ((0:Int)≤r1))
def rf{R:Type}(f6:(List af))(gy eg:Int)(b3:(List af))(en eo kk:Int)(nx:Int→Option R)(dn:Unit→Option R)(rt:Bool→Option R):Option R:=bif decide (kk<gy)then aq (ix kk f6.length)<|aq (ix kk f6.length)<|bnd (gu (f6.getD kk.toNat af.z).2.2.1 en) fun r2=>bif r2 then rt false else bnd (gu (f6.getD kk.toNat af.z).2.1 eo) fun r3=>bif r3 then rt false else aq (d8 .i64 (kk+1))<|nx (kk+1)else dn ()
def qg0(f6:(List af))(gy eg:Int)(b3:(List af))(en eo s0:Int):Option (Unit⊕Bool):=bp (fun a=>rf f6 gy eg b3 en eo a (fun a' =>some (.next a')) (fun e=>some (.done e)) (fun r=>some (.ret r))) s0
def qr9:Shp:=⟨[j0o,(21, .d false (.slice af.ty)),j0w,(23, .d true qT0)],[qc5]⟩
def qr8:Shp:=⟨[j0o],[qc5]⟩
def rg{R:Type}(km:(List Bool))(nb eg:Int)(b3:(List af))(en eo hz:Int)(nx:Int→Option R)(dn:Unit→Option R)(rt:Bool→Option R):Option R:=bif decide (hz<nb)then aq (ix hz km.length)<|aq (ix hz km.length)<|bif (km.getD hz.toNat false)then bnd (oc (eg,b3,en,eo,()) eo (km.getD hz.toNat false)) fun r5=>bnd (cu r5.1 false) fun r6=>bif r6 then rt false else bnd (cu r5.2 false) fun r7=>bif r7 then rt false else aq (d8 .i64 (hz+1))<|nx (hz+1)else bnd (oc (eg,b3,en,eo,()) en (km.getD hz.toNat false)) fun r8=>bnd (cu r8.1 false) fun r9=>bif r9 then rt false else bnd (cu r8.2 false) fun r10=>bif r10 then rt false else aq (d8 .i64 (hz+1))<|nx (hz+1)else dn ()
def qg1(km:(List Bool))(nb eg:Int)(b3:(List af))(en eo s0:Int):Option (Unit⊕Bool):=bp (fun a=>rg km nb eg b3 en eo a (fun a' =>some (.next a')) (fun e=>some (.done e)) (fun r=>some (.ret r))) s0
def qsb:Shp:=⟨[j0o,(40, .d true (.slice .bool)),(41, .d true qT0),(42, .d true qT0)],[qc5]⟩
def qsa:Shp:=⟨[],[]⟩
def ea(aa:a7):Option Bool:=bnd (r0 aa) fun r1=>bif (!r1)then some false else bif decide (aa.2.2.1=aa.2.2.2.1)then some false else bnd (qg0 aa.2.1 (aa.2.1.length:Int) aa.1 aa.2.1 aa.2.2.1 aa.2.2.2.1 0) fun oe4=>lk oe4 (fun e4=>bnd (qg1 [false,true] 2 aa.1 aa.2.1 aa.2.2.1 aa.2.2.2.1 0) fun oe11=>lk oe11 (fun e11=>some true) (fun r=>some r)) (fun r=>some r)
def yk(ap a0:a7):Option Int:=bnd (ea ap) fun r1=>bif (!r1)then some 1 else bnd (ea a0) fun r2=>bif (!r2)then some 1 else some 0
def qg6(aa:a7)(f0:Int):Option (Int×qL1):=bnd (r0 aa) fun r1=>bif (!r1)then some (1,[])else aq (q31 aa.1 aa.1 8)<|aq (ix f0 (List.replicate aa.1.toNat (0:Int)).length)<|aq (ix f0 (List.replicate aa.1.toNat (0:Int)).length)<|some (0,((List.replicate aa.1.toNat (0:Int)).set f0.toNat 1))
def u9(aa:a7):Option (qL1×Int):=bnd (qg6 aa aa.2.2.1) fun r1=>some (r1.2,r1.1)
def qcm(sf:Int):Option Bool:=bif decide (sf<0)then some true else some (decide ((100:Int)<sf))
def fa{R:Type}(ad:qL1)(cb bb:Int)(nx:Int→Option R)(dn:Unit→Option R)(rt:Int→Option R):Option R:=bif decide (bb<cb)then aq (ix bb ad.length)<|aq (ix bb ad.length)<|bnd (qcm (ad.getD bb.toNat 0)) fun r1=>bif r1 then rt bb else aq (d8 .i64 (bb+1))<|nx (bb+1)else dn ()
def pb(ad:qL1)(cb s0:Int):Option (Unit⊕Int):=bp (fun a=>fa ad cb a (fun a' =>some (.next a')) (fun e=>some (.done e)) (fun r=>some (.ret r))) s0
def z8:Shp:=⟨[jw6,(1, .fn 102 .nil),q3l,jgr],[]⟩
def z7:Shp:=⟨[],[]⟩
def kj(ad:qL1):Option Int:=bnd (pb ad (ad.length:Int) 0) fun oe2=>lk oe2 (fun e2=>some (-1)) (fun r=>some r)
def ey(ad:qL1):Option Bool:=bnd (kj ad) fun r1=>some (decide ((0:Int)≤r1))
def lw(aa:a7)(b5:qL1):Option Bool:=bnd (r0 aa) fun r1=>bif r1 then bif decide ((b5.length:Int)=aa.1)then bnd (ey b5) fun r2=>some (!r2)else some false else some false
def zj(ad:qL1):Option qL1:=bif decide ((ad.length:Int)=0)then some []else aq (room (0+ad.length) 8)<|some ([]++ad)
def lh(ad:qL1):Option qL1:=aq (room (0+ad.length) 8)<|some ([]++ad)
def cm(ad:qL1):Option qL1:=lh ad
def qcl(hd:Int)(f0:qL1):Option Bool:=aq (ix 0 1)<|aq (ix hd f0.length)<|aq (ix hd f0.length)<|some (decide ((f0.getD hd.toNat 0)=0))
def fb{R:Type}(ad f_1c0:qL1)(cb bb:Int)(nx:Int→Option R)(dn:Unit→Option R)(rt:Int→Option R):Option R:=bif decide (bb<cb)then aq (ix bb ad.length)<|aq (ix bb ad.length)<|bnd (qcl (ad.getD bb.toNat 0) f_1c0) fun r1=>bif r1 then rt bb else aq (d8 .i64 (bb+1))<|nx (bb+1)else dn ()
def pd(ad f_1c0:qL1)(cb s0:Int):Option (Unit⊕Int):=bp (fun a=>fb ad f_1c0 cb a (fun a' =>some (.next a')) (fun e=>some (.done e)) (fun r=>some (.ret r))) s0
def qac:Shp:=⟨[jw6,(1, .fn 105 (.cons (.rp false qT1) .nil)),q3l,jgr],[]⟩
def qab:Shp:=⟨[],[]⟩
def kl(ad f_1c0:qL1):Option Int:=bnd (pd ad f_1c0 (ad.length:Int) 0) fun oe2=>lk oe2 (fun e2=>some (-1)) (fun r=>some r)
def i3(ad f_1c0:qL1):Option Bool:=bnd (kl ad f_1c0) fun r1=>some (decide ((0:Int)≤r1))
def vb(p2:af)(b5:qL1):Option Bool:=bnd (i3 p2.2.1 b5) fun r1=>some (!r1)
def mr{R:Type}(hw:qL1)(jn g2:Int)(nx:(Int×Int)→Option R)(dn rt:Int→Option R):Option R:=bif decide (g2<(hw.length:Int))then aq (ix g2 hw.length)<|aq (ix g2 hw.length)<|aq (d8 .i64 (g2+1))<|nx ((max jn (hw.getD g2.toNat 0)),(g2+1))else dn jn
def qca(hw:qL1)(s0:(Int×Int)):Option (Int⊕Int):=bp (fun a=>mr hw a.1 a.2 (fun a' =>some (.next a')) (fun e=>some (.done e)) (fun r=>some (.ret r))) s0
def qkt:Shp:=⟨[jw6,jw5,j1h],[]⟩
def qks:Shp:=⟨[jw5],[]⟩
def qg(hw:qL1):Option Int:=bif decide ((hw.length:Int)<1)then none else aq (ix 0 hw.length)<|aq (ix 0 hw.length)<|bnd (qca hw ((hw.getD 0 0),1)) fun oe1=>lk oe1 (fun e1=>some e1) (fun r=>some r)
def qbe{R:Type}(i2:qL1)(q1:Int)(rs:ByteArray)(sa sb:qL1)(h4:Int)(c1:qL1)(nx:(Int×qL1)→Option R)(dn:qL1→Option R)(rt:(Int×qL1)→Option R):Option R:=bif decide (h4<q1)then aq (ix h4 i2.length)<|aq (ix h4 i2.length)<|aq (ix (i2.getD h4.toNat 0) c1.length)<|aq (ix (i2.getD h4.toNat 0) c1.length)<|aq (d8 .i64 ((c1.getD (i2.getD h4.toNat 0).toNat 0)-1))<|aq (ix (i2.getD h4.toNat 0) c1.length)<|aq (ix (i2.getD h4.toNat 0) c1.length)<|aq (d8 .i64 (h4+1))<|nx ((h4+1),(c1.set (i2.getD h4.toNat 0).toNat ((c1.getD (i2.getD h4.toNat 0).toNat 0)-1)))else dn c1
def qsd(i2:qL1)(q1:Int)(rs:ByteArray)(sa sb:qL1)(s0:(Int×qL1)):Option (qL1⊕(Int×qL1)):=bp (fun a=>qbe i2 q1 rs sa sb a.1 a.2 (fun a' =>some (.next a')) (fun e=>some (.done e)) (fun r=>some (.ret r))) s0
def q39:Shp:=⟨[j00,(9, .own 1),(35, .d false qT1),(36, .d true qT0),(37, .d true qT0)],[jje,qqy]⟩
def q38:Shp:=⟨[j00,(9, .own 1)],[jje,qqy]⟩
def qbf{R:Type}(i8:qL1)(q2 h5:Int)(c1:qL1)(nx:(Int×qL1)→Option R)(dn:qL1→Option R)(rt:(Int×qL1)→Option R):Option R:=bif decide (h5<q2)then aq (ix h5 i8.length)<|aq (ix h5 i8.length)<|aq (ix (i8.getD h5.toNat 0) c1.length)<|aq (ix (i8.getD h5.toNat 0) c1.length)<|aq (d8 .i64 ((c1.getD (i8.getD h5.toNat 0).toNat 0)+1))<|aq (ix (i8.getD h5.toNat 0) c1.length)<|aq (ix (i8.getD h5.toNat 0) c1.length)<|aq (d8 .i64 (h5+1))<|nx ((h5+1),(c1.set (i8.getD h5.toNat 0).toNat ((c1.getD (i8.getD h5.toNat 0).toNat 0)+1)))else dn c1
def qse(i8:qL1)(q2:Int)(s0:(Int×qL1)):Option (qL1⊕(Int×qL1)):=bp (fun a=>qbf i8 q2 a.1 a.2 (fun a' =>some (.next a')) (fun e=>some (.done e)) (fun r=>some (.ret r))) s0
def q4b:Shp:=⟨[(9, .own 0),(49, .d false qT1),(50, .d true qT0),(51, .d true qT0)],[qqy]⟩
def q4a:Shp:=⟨[(9, .own 0)],[qqy]⟩
def oa(aa:a7)(b5:qL1)(b0:Int):Option (Int×qL1):=bif decide (b0<0)then some (2,[])else bif decide ((aa.2.1.length:Int)≤b0)then some (2,[])else aq (ix b0 aa.2.1.length)<|aq (ix b0 aa.2.1.length)<|bnd (vb (aa.2.1.getD b0.toNat af.z) b5) fun r1=>bif (!r1)then some (12,[])else bnd (cm b5) fun r2=>bnd (qsd (aa.2.1.getD b0.toNat af.z).2.1 ((aa.2.1.getD b0.toNat af.z).2.1.length:Int) (aa.2.1.getD b0.toNat af.z).1 (aa.2.1.getD b0.toNat af.z).2.1 (aa.2.1.getD b0.toNat af.z).2.2.1 (0,r2)) fun oe3=>lk oe3 (fun e3=>bnd (qse (aa.2.1.getD b0.toNat af.z).2.2.1 ((aa.2.1.getD b0.toNat af.z).2.2.1.length:Int) (0,e3)) fun oe4=>lk oe4 (fun e4=>bnd (qg e4) fun r5=>bif decide ((100:Int)<r5)then some (5,[])else some (0,e4)) (fun r=>some r)) (fun r=>some r)
def yp{R:Type}(c4 n0:qL1)(md bl:Int)(av:(List af))(bo bs:Int)(q6:qL1)(hq:Int)(nx:(qL1×Int)→Option R)(dn:qL1→Option R)(rt:(qL1×Int×Int)→Option R):Option R:=bif decide (hq<md)then aq (ix hq n0.length)<|aq (ix hq n0.length)<|bnd (oa (bl,av,bo,bs,()) q6 (n0.getD hq.toNat 0)) fun r3=>bif (!decide (r3.1=0))then rt ([],hq,r3.1)else aq (d8 .i64 (hq+1))<|nx (r3.2,(hq+1))else dn q6
def qw3(c4 n0:qL1)(md bl:Int)(av:(List af))(bo bs:Int)(s0:(qL1×Int)):Option (qL1⊕(qL1×Int×Int)):=bp (fun a=>yp c4 n0 md bl av bo bs a.1 a.2 (fun a' =>some (.next a')) (fun e=>some (.done e)) (fun r=>some (.ret r))) s0
def q7y:Shp:=⟨[jz7,jfo,j01,(25, .d false qT1),j09,(27, .d true qT0)],[qc5]⟩
def q7x:Shp:=⟨[jz7,j01],[]⟩
def qnh(aa:a7)(b5 c4:qL1):Option (qL1×Int×Int):=bnd (lw aa b5) fun r1=>bif (!r1)then some ([],0,1)else bif decide ((1000:Int)<(c4.length:Int))then some ([],0,5)else bnd (cm b5) fun r2=>bnd (qw3 c4 c4 (c4.length:Int) aa.1 aa.2.1 aa.2.2.1 aa.2.2.2.1 (r2,0)) fun oe4=>lk oe4 (fun e4=>some (e4,(c4.length:Int),0)) (fun r=>some r)
def qbd{R:Type}(hh:qL1)(gt f5:Int)(b1:(List af))(ga gd b6:Int)(hb:(List ByteArray))(nx:(Int×(List ByteArray))→Option R)(dn:(List ByteArray)→Option R)(rt:(Int×(List ByteArray))→Option R):Option R:=bif decide (b6<gt)then aq (ix b6 hh.length)<|aq (ix b6 hh.length)<|bif decide ((hh.getD b6.toNat 0)<0)then rt (2,[])else bif decide ((b1.length:Int)≤(hh.getD b6.toNat 0))then rt (2,[])else aq (ix (hh.getD b6.toNat 0) b1.length)<|aq (ix (hh.getD b6.toNat 0) b1.length)<|bif (!(ByteArray.toList (b1.getD (hh.getD b6.toNat 0).toNat af.z).1==ByteArray.toList ⟨#[]⟩))then aq (room (hb.length+1) 16)<|aq (d8 .i64 (b6+1))<|nx ((b6+1),(hb++[(b1.getD (hh.getD b6.toNat 0).toNat af.z).1]))else aq (d8 .i64 (b6+1))<|nx ((b6+1),hb)else dn hb
def qr6(hh:qL1)(gt f5:Int)(b1:(List af))(ga gd:Int)(s0:(Int×(List ByteArray))):Option ((List ByteArray)⊕(Int×(List ByteArray))):=bp (fun a=>qbd hh gt f5 b1 ga gd a.1 a.2 (fun a' =>some (.next a')) (fun e=>some (.done e)) (fun r=>some (.ret r))) s0
def q36:Shp:=⟨[j0q,(6, .nl false (.own 1)),(18, .d false qT1),j08,j0k],[qc5,jgs]⟩
def q35:Shp:=⟨[j0r],[jgs]⟩
def qik(aa:a7)(b4:qL1):Option (Int×(List ByteArray)):=bnd (r0 aa) fun r1=>bif (!r1)then some (1,[])else bif decide ((1000:Int)<(b4.length:Int))then some (5,[])else bnd (qr6 b4 (b4.length:Int) aa.1 aa.2.1 aa.2.2.1 aa.2.2.2.1 (0,[])) fun oe2=>lk oe2 (fun e2=>some (0,e2)) (fun r=>some r)
def ne(ap:a7)(ml:qL1):Option (qL1×Bool×(List ByteArray)):=bnd (u9 ap) fun r1=>bnd (qnh ap r1.1 ml) fun r2=>bif (!decide (r2.2.2=0))then some ([],false,[])else bnd (qik ap ml) fun r3=>some (r2.1,decide (r3.1=0),r3.2)
def n9(ap a0:a7)(dc:qL1)(bw:Int):Option (qL1×Int×(List ByteArray)):=bnd (yk ap a0) fun r1=>bif (!decide (r1=0))then some ([],r1,[])else bnd (ne ap dc) fun r2=>bif (!r2.2.1)then some ([],12,[])else bif decide (bw<1)then some ([],2,[])else bif decide ((2000:Int)<bw)then some ([],2,[])else some (r2.1,0,r2.2.2)
def ir(dd:qL1):Option ByteArray:=jkk dd
def qav(aa:a7)(b5:qL1)(b0:Int):Option (Int×qL1):=bnd (lw aa b5) fun r1=>bif (!r1)then some (1,[])else bnd (oa aa b5 b0) fun r2=>some (r2.1,r2.2)
def td{R:Type}(b5:qL1)(p7 f5:Int)(b1:(List af))(ga gd gr:Int)(fi:(List ag))(nx:(Int×(List ag))→Option R)(dn rt:(List ag)→Option R):Option R:=bif decide (gr<p7)then bnd (qav (f5,b1,ga,gd,()) b5 gr) fun r1=>bif decide (r1.1=0)then aq (room (fi.length+1) 32)<|aq (d8 .i64 (gr+1))<|nx ((gr+1),(fi++[(gr,r1.2,())]))else aq (d8 .i64 (gr+1))<|nx ((gr+1),fi)else dn fi
def qjj(b5:qL1)(p7 f5:Int)(b1:(List af))(ga gd:Int)(s0:(Int×(List ag))):Option ((List ag)⊕(List ag)):=bp (fun a=>td b5 p7 f5 b1 ga gd a.1 a.2 (fun a' =>some (.next a')) (fun e=>some (.done e)) (fun r=>some (.ret r))) s0
def qu1:Shp:=⟨[jjc,j0q,(5, .nl false (.own 1)),j0h,j0i],[qc5,jxa]⟩
def qu0:Shp:=⟨[(5, .nl false (.own 0))],[jxa]⟩
def da(aa:a7)(b5:qL1):Option (List ag):=bnd (qjj b5 (aa.2.1.length:Int) aa.1 aa.2.1 aa.2.2.1 aa.2.2.2.1 (0,[])) fun oe2=>lk oe2 (fun e2=>some e2) (fun r=>some r)
def cz{R:Type}(f2:(List ByteArray))(a3 hy:Int)(g0:(List ag))(kn bl:Int)(av:(List af))(bo bs hv:Int)(q8 nd:qL1)(e0:Int)(dt:(List ae))(gx:(List (ByteArray×Bool)))(nx:(Int×(List ae)×(List (ByteArray×Bool)))→Option R)(dn:((List ae)×(List (ByteArray×Bool)))→Option R)(rt:(Bool×(List ae))→Option R):Option R:=bif decide (e0<kn)then aq (ix e0 g0.length)<|aq (ix e0 g0.length)<|aq (ix (g0.getD e0.toNat ag.z).1 av.length)<|aq (ix (g0.getD e0.toNat ag.z).1 av.length)<|bif (!(ByteArray.toList (av.getD (Int.toNat (g0.getD e0.toNat ag.z).1) af.z).1==ByteArray.toList ⟨#[]⟩))then bif decide (hv=(f2.length:Int))then aq (d8 .i64 (e0+1))<|nx ((e0+1),dt,gx)else aq (ix hv f2.length)<|aq (ix hv f2.length)<|bif (!(ByteArray.toList (f2.getD hv.toNat ⟨#[]⟩)==ByteArray.toList (av.getD (Int.toNat (g0.getD e0.toNat ag.z).1) af.z).1))then aq (d8 .i64 (e0+1))<|nx ((e0+1),dt,gx)else aq (d8 .i64 (hv+1))<|aq (room (1+(g0.getD e0.toNat ag.z).2.1.length) 8)<|bnd (ir ([(hv+1)]++(g0.getD e0.toNat ag.z).2.1)) fun r4=>bif ((ls .str r4 gx).getD false)then aq (d8 .i64 (e0+1))<|nx ((e0+1),dt,gx)else bif decide ((dt.length:Int)=a3)then rt (false,dt)else bnd (cm nd) fun r5=>aq (room (r5.length+1) 8)<|aq (room (dt.length+1) 56)<|aq (d8 .i64 (e0+1))<|nx ((e0+1),(dt++[((hv+1),(g0.getD e0.toNat ag.z).2.1,(r5++[(g0.getD e0.toNat ag.z).1]),())]),(tf .str r4 true gx))else aq (room (1+(g0.getD e0.toNat ag.z).2.1.length) 8)<|bnd (ir ([hv]++(g0.getD e0.toNat ag.z).2.1)) fun r6=>bif ((ls .str r6 gx).getD false)then aq (d8 .i64 (e0+1))<|nx ((e0+1),dt,gx)else bif decide ((dt.length:Int)=a3)then rt (false,dt)else bnd (cm nd) fun r7=>aq (room (r7.length+1) 8)<|aq (room (dt.length+1) 56)<|aq (d8 .i64 (e0+1))<|nx ((e0+1),(dt++[(hv,(g0.getD e0.toNat ag.z).2.1,(r7++[(g0.getD e0.toNat ag.z).1]),())]),(tf .str r6 true gx))else dn (dt,gx)
def qc0(f2:(List ByteArray))(a3 hy:Int)(g0:(List ag))(kn bl:Int)(av:(List af))(bo bs hv:Int)(q8 nd:qL1)(s0:(Int×(List ae)×(List (ByteArray×Bool)))):Option (((List ae)×(List (ByteArray×Bool)))⊕(Bool×(List ae))):=bp (fun a=>cz f2 a3 hy g0 kn bl av bo bs hv q8 nd a.1 a.2.1 a.2.2 (fun a' =>some (.next a')) (fun e=>some (.done e)) (fun r=>some (.ret r))) s0
def qlk:Shp:=⟨[q3k,qx1,jfo,(10, .own 1),(11, .mp 2),j0i,(13, .ptr 3),(46, .nl false (.d true (.slice ag.ty))),(47, .d true qT0),(48, .d true qT0)],[qc5,q0i,qtw, .cs 53 3 1 (.cons (.d true qT0) (.cons (.d true qT1) (.cons (.d true qT1) .nil)))]⟩
def qlj:Shp:=⟨[q3k,qx1,jfo,(10, .own 1),(11, .mp 2),j0i],[qc5,q0i,qtw]⟩
def jv{R:Type}(f2:(List ByteArray))(a3 bl:Int)(av:(List af))(bo bs hy:Int)(dt:(List ae))(gx:(List (ByteArray×Bool)))(nx:(Int×(List ae)×(List (ByteArray×Bool)))→Option R)(dn:(List ae)→Option R)(rt:(Bool×(List ae))→Option R):Option R:=bif decide (hy<(dt.length:Int))then aq (ix hy dt.length)<|aq (ix hy dt.length)<|bnd (da (bl,av,bo,bs,()) (dt.getD hy.toNat ae.z).2.1) fun r3=>bnd (qc0 f2 a3 hy r3 (r3.length:Int) bl av bo bs (dt.getD hy.toNat ae.z).1 (dt.getD hy.toNat ae.z).2.1 (dt.getD hy.toNat ae.z).2.2.1 (0,dt,gx)) fun oe8=>lk oe8 (fun e8=>aq (d8 .i64 (hy+1))<|nx ((hy+1),e8.1,e8.2)) (fun r=>rt r)else dn dt
def us(f2:(List ByteArray))(a3 bl:Int)(av:(List af))(bo bs:Int)(s0:(Int×(List ae)×(List (ByteArray×Bool)))):Option ((List ae)⊕(Bool×(List ae))):=bp (fun a=>jv f2 a3 bl av bo bs a.1 a.2.1 a.2.2 (fun a' =>some (.next a')) (fun e=>some (.done e)) (fun r=>some (.ret r))) s0
def qlm:Shp:=⟨[q3k,qx1,jfo,(10, .own 1),(11, .mp 2),j0i],[qc5,q0i,qtw]⟩
def qll:Shp:=⟨[(10, .own 0)],[q0i]⟩
def q0(aa:a7)(f2:(List ByteArray))(a3:Int):Option (Bool×(List ae)):=bnd (u9 aa) fun r1=>aq (room (1+r1.1.length) 8)<|bnd (ir ([0]++r1.1)) fun r2=>bnd (us f2 a3 aa.1 aa.2.1 aa.2.2.1 aa.2.2.2.1 (0,[(0,r1.1,[],())],(tf .str r2 true ([]:(List (ByteArray×Bool)))))) fun oe9=>lk oe9 (fun e9=>some (true,e9)) (fun r=>some r)
def yf(hd:ae)(f0:(List ByteArray)):Option Bool:=aq (ix 0 1)<|some (decide (hd.1<(f0.length:Int)))
def bt{R:Type}(ad:(List ae))(f_1c0:(List ByteArray))(cb bb:Int)(nx:Int→Option R)(dn:Unit→Option R)(rt:Int→Option R):Option R:=bif decide (bb<cb)then aq (ix bb ad.length)<|aq (ix bb ad.length)<|bnd (yf (ad.getD bb.toNat ae.z) f_1c0) fun r1=>bif r1 then rt bb else aq (d8 .i64 (bb+1))<|nx (bb+1)else dn ()
def d6(ad:(List ae))(f_1c0:(List ByteArray))(cb s0:Int):Option (Unit⊕Int):=bp (fun a=>bt ad f_1c0 cb a (fun a' =>some (.next a')) (fun e=>some (.done e)) (fun r=>some (.ret r))) s0
def jz:Shp:=⟨[(0, .d false (.slice ae.ty)),jz8,q3l,jgr],[]⟩
def jy:Shp:=⟨[],[]⟩
def bx(ad:(List ae))(f_1c0:(List ByteArray)):Option Int:=bnd (d6 ad f_1c0 (ad.length:Int) 0) fun oe2=>lk oe2 (fun e2=>some (-1)) (fun r=>some r)
def bi{R:Type}(del_1c0:(List ByteArray))(bk ht:Int)(ad:(List ae))(nx:(Int×Int×(List ae))→Option R)(dn:(Int×(List ae))→Option R)(rt:(List ae)→Option R):Option R:=bif decide (ht<(ad.length:Int))then aq (ix ht ad.length)<|aq (ix ht ad.length)<|bnd (yf (ad.getD ht.toNat ae.z) del_1c0) fun r2=>bif (!r2)then aq (ix bk ad.length)<|aq (ix bk ad.length)<|aq (d8 .i64 (bk+1))<|aq (d8 .i64 (ht+1))<|nx ((bk+1),(ht+1),(ad.set bk.toNat (ad.getD ht.toNat ae.z)))else aq (d8 .i64 (ht+1))<|nx (bk,(ht+1),ad)else dn (bk,ad)
def dl(del_1c0:(List ByteArray))(s0:(Int×Int×(List ae))):Option ((Int×(List ae))⊕(List ae)):=bp (fun a=>bi del_1c0 a.1 a.2.1 a.2.2 (fun a' =>some (.next a')) (fun e=>some (.done e)) (fun r=>some (.ret r))) s0
def jp:Shp:=⟨[jw1,jz8,jjh,jxn],[q0i]⟩
def jo:Shp:=⟨[jw1,jjh],[q0i]⟩
def bv(del_1c0:(List ByteArray))(ad:(List ae)):Option (List ae):=bnd (bx ad del_1c0) fun r1=>bif decide (r1=(-1))then some ad else aq (d8 .i64 (r1+1))<|bnd (dl del_1c0 (r1,(r1+1),ad)) fun oe3=>lk oe3 (fun e3=>aq (cut e3.1 (e3.2.length:Int) e3.2.length)<|aq (cut 0 e3.1 (mw e3.2 e3.1.toNat ((e3.2.length:Int).toNat-e3.1.toNat) (List.replicate ((e3.2.length:Int).toNat-e3.1.toNat) (ae.z:ae))).length)<|some (((mw e3.2 e3.1.toNat ((e3.2.length:Int).toNat-e3.1.toNat) (List.replicate ((e3.2.length:Int).toNat-e3.1.toNat) (ae.z:ae))).drop 0).take (e3.1.toNat-0))) (fun r=>some r)
def qm(q9:qL1)(f0:(List (ByteArray×Bool)))(he:qL2):Option ((List (ByteArray×Bool))×qL2):=bnd (ir q9) fun r1=>bif (!((ls .str r1 f0).getD false))then bnd (ir q9) fun r2=>aq (room (he.length+1) 24)<|some ((tf .str r2 true f0),(he++[q9]))else some (f0,he)
def ta{R:Type}(a3 gt:Int)(hh:qL2)(bl:Int)(av:(List af))(bo bs b6:Int)(c1:qL2)(add_10c0:(List (ByteArray×Bool)))(nx:(Int×qL2×(List (ByteArray×Bool)))→Option R)(dn:(qL2×(List (ByteArray×Bool)))→Option R)(rt:(Bool×qL2×qL2)→Option R):Option R:=bif decide (b6<gt)then aq (ix b6 hh.length)<|aq (ix b6 hh.length)<|bnd (qm (hh.getD b6.toNat []) add_10c0 c1) fun r1=>aq (d8 .i64 (b6+1))<|nx ((b6+1),r1.2,r1.1)else dn (c1,add_10c0)
def qjf(a3 gt:Int)(hh:qL2)(bl:Int)(av:(List af))(bo bs:Int)(s0:(Int×qL2×(List (ByteArray×Bool)))):Option ((qL2×(List (ByteArray×Bool)))⊕(Bool×qL2×qL2)):=bp (fun a=>ta a3 gt hh bl av bo bs a.1 a.2.1 a.2.2 (fun a' =>some (.next a')) (fun e=>some (.done e)) (fun r=>some (.ret r))) s0
def qus:Shp:=⟨[qx1,j0d,j03,jaa,(18, .own 0),j08,j0k],[qe6,qc5,jp9,jwy,qe6,qtw]⟩
def qur:Shp:=⟨[qx1,j0d,j03,jaa],[qe6,qc5,jp9,jwy,qe6,qtw]⟩
def tc{R:Type}(a3 ke:Int)(n1:(List ag))(g0:Int)(k0:qL2)(bl:Int)(av:(List af))(bo bs kn:Int)(c1:qL2)(add_10c0:(List (ByteArray×Bool)))(nx:(Int×qL2×(List (ByteArray×Bool)))→Option R)(dn:(qL2×(List (ByteArray×Bool)))→Option R)(rt:(Bool×qL2×qL2)→Option R):Option R:=bif decide (kn<g0)then aq (ix kn n1.length)<|aq (ix kn n1.length)<|bnd (qm (n1.getD kn.toNat ag.z).2.1 add_10c0 c1) fun r4=>aq (d8 .i64 (kn+1))<|nx ((kn+1),r4.2,r4.1)else dn (c1,add_10c0)
def qjg(a3 ke:Int)(n1:(List ag))(g0:Int)(k0:qL2)(bl:Int)(av:(List af))(bo bs:Int)(s0:(Int×qL2×(List (ByteArray×Bool)))):Option ((qL2×(List (ByteArray×Bool)))⊕(Bool×qL2×qL2)):=bp (fun a=>tc a3 ke n1 g0 k0 bl av bo bs a.1 a.2.1 a.2.2 (fun a' =>some (.next a')) (fun e=>some (.done e)) (fun r=>some (.ret r))) s0
def quu:Shp:=⟨[qx1,j0d,j03,jaa,j0j,(45, .nl false (.d true (.slice ag.ty))),(46, .d true qT0),(47, .d true qT0)],[qe6,qc5,jp9,jwy,qe6,qtw]⟩
def qut:Shp:=⟨[qx1,j0d,j03,jaa,j0j],[qe6,qc5,jp9,jwy,qe6,qtw]⟩
def ox{R:Type}(a3:Int)(k0:qL2)(bl:Int)(av:(List af))(bo bs ke:Int)(c1:qL2)(add_10c0:(List (ByteArray×Bool)))(nx:(Int×qL2×(List (ByteArray×Bool)))→Option R)(dn:qL2→Option R)(rt:(Bool×qL2×qL2)→Option R):Option R:=bif decide (ke<(c1.length:Int))then bif decide ((c1.length:Int)≤a3)then aq (ix ke c1.length)<|aq (ix ke c1.length)<|bnd (da (bl,av,bo,bs,()) (c1.getD ke.toNat [])) fun r3=>bnd (qjg a3 ke r3 (r3.length:Int) k0 bl av bo bs (0,c1,add_10c0)) fun oe5=>lk oe5 (fun e5=>aq (d8 .i64 (ke+1))<|nx ((ke+1),e5.1,e5.2)) (fun r=>rt r)else dn c1 else dn c1
def qjh(a3:Int)(k0:qL2)(bl:Int)(av:(List af))(bo bs:Int)(s0:(Int×qL2×(List (ByteArray×Bool)))):Option (qL2⊕(Bool×qL2×qL2)):=bp (fun a=>ox a3 k0 bl av bo bs a.1 a.2.1 a.2.2 (fun a' =>some (.next a')) (fun e=>some (.done e)) (fun r=>some (.ret r))) s0
def quw:Shp:=⟨[qx1,j0d,j03,jaa,j0j],[qe6,qc5,jp9,jwy,qe6,qtw]⟩
def quv:Shp:=⟨[qx1,(9, .ptr 1)],[qe6, .cs 55 1 1 (.cons (.own 2) .nil),qe6]⟩
def u6(aa:a7)(a3:Int)(c5:qL2):Option (Bool×qL2×qL2):=bnd (qjf a3 (c5.length:Int) c5 aa.1 aa.2.1 aa.2.2.1 aa.2.2.2.1 (0,[],[])) fun oe2=>lk oe2 (fun e2=>bnd (qjh a3 c5 aa.1 aa.2.1 aa.2.2.1 aa.2.2.2.1 (0,e2.1,e2.2)) fun oe6=>lk oe6 (fun e6=>some (decide ((e6.length:Int)≤a3),c5,e6)) (fun r=>some r)) (fun r=>some r)
def jl(hw p3:qL1):Option ByteArray:=bnd (ir hw) fun r1=>aq (decide (((ByteArray.size r1+ByteArray.size ⟨#[124]⟩:Nat):Int)≤9223372036854775807))<|bnd (ir p3) fun r2=>aq (decide (((ByteArray.size (r1++⟨#[124]⟩)+ByteArray.size r2:Nat):Int)≤9223372036854775807))<|some ((r1++⟨#[124]⟩)++r2)
def rz(aa:a7):Option (Int×qL1):=bnd (qg6 aa aa.2.2.2.1) fun r1=>some (r1.1,r1.2)
def gv{R:Type}(g3 hf:qL1)(gr gj:Int)(nx:Int→Option R)(dn:Unit→Option R)(rt:Bool→Option R):Option R:=bif decide (gj<gr)then aq (ix gj g3.length)<|aq (ix gj g3.length)<|aq (ix gj hf.length)<|aq (ix gj hf.length)<|bif (!decide ((g3.getD gj.toNat 0)=(hf.getD gj.toNat 0)))then rt false else aq (d8 .i64 (gj+1))<|nx (gj+1)else dn ()
def zq(g3 hf:qL1)(gr s0:Int):Option (Unit⊕Bool):=bp (fun a=>gv g3 hf gr a (fun a' =>some (.next a')) (fun e=>some (.done e)) (fun r=>some (.ret r))) s0
def qhr:Shp:=⟨[jw6,jjc,j0i,j0j],[]⟩
def qhq:Shp:=⟨[],[]⟩
def bz(g3 hf:qL1):Option Bool:=bif (!decide ((g3.length:Int)=(hf.length:Int)))then some false else bnd (zq g3 hf (g3.length:Int) 0) fun oe1=>lk oe1 (fun e1=>some true) (fun r=>some r)
def oy{R:Type}(b5:qL1)(g4:(List af))(mb g5:Int)(hb:qL1)(nx:(Int×qL1)→Option R)(dn:qL1→Option R)(rt:(Int×qL1)→Option R):Option R:=bif decide (g5<mb)then aq (ix g5 g4.length)<|aq (ix g5 g4.length)<|bnd (vb (g4.getD g5.toNat af.z) b5) fun r2=>bif r2 then aq (room (hb.length+1) 8)<|aq (d8 .i64 (g5+1))<|nx ((g5+1),(hb++[g5]))else aq (d8 .i64 (g5+1))<|nx ((g5+1),hb)else dn hb
def qjn(b5:qL1)(g4:(List af))(mb:Int)(s0:(Int×qL1)):Option (qL1⊕(Int×qL1)):=bp (fun a=>oy b5 g4 mb a.1 a.2 (fun a' =>some (.next a')) (fun e=>some (.done e)) (fun r=>some (.ret r))) s0
def qva:Shp:=⟨[jjc,j0r,(14, .d false (.slice af.ty)),j06,j07],[qqy]⟩
def qu9:Shp:=⟨[j0r],[qqy]⟩
def lu(aa:a7)(b5:qL1):Option (Int×qL1):=bnd (lw aa b5) fun r1=>bif (!r1)then some (1,[])else bnd (qjn b5 aa.2.1 (aa.2.1.length:Int) (0,[])) fun oe3=>lk oe3 (fun e3=>some (0,e3)) (fun r=>some r)
def mm(hw p3:qL1)(he:(List (ByteArray×Bool))):Option (Bool×(List (ByteArray×Bool))):=bnd (jl hw p3) fun r1=>some (((ls .str r1 he).getD false),he)
def pw(ec:ag)(f0:a7)(he:ByteArray)(p1:ag)(p_3c0:(List (ByteArray×Bool))):Option (Bool×(List (ByteArray×Bool))):=aq (ix 0 1)<|aq (ix ec.1 f0.2.1.length)<|aq (ix ec.1 f0.2.1.length)<|aq (ix 0 1)<|bif (ByteArray.toList (f0.2.1.getD ec.1.toNat af.z).1==ByteArray.toList he)then aq (ix 0 1)<|bnd (mm p1.2.1 ec.2.1 p_3c0) fun r1=>some (r1.1,r1.2)else some (false,p_3c0)
def b9{R:Type}(ad:(List ag))(f_1c0:a7)(f_1c1:ByteArray)(f_1c3:ag)(cb bb:Int)(f_1c2c0:(List (ByteArray×Bool)))(nx:(Int×(List (ByteArray×Bool)))→Option R)(dn:(List (ByteArray×Bool))→Option R)(rt:(Int×(List (ByteArray×Bool)))→Option R):Option R:=bif decide (bb<cb)then aq (ix bb ad.length)<|aq (ix bb ad.length)<|bnd (pw (ad.getD bb.toNat ag.z) f_1c0 f_1c1 f_1c3 f_1c2c0) fun r1=>bif r1.1 then rt (bb,r1.2)else aq (d8 .i64 (bb+1))<|nx ((bb+1),r1.2)else dn f_1c2c0
def fc(ad:(List ag))(f_1c0:a7)(f_1c1:ByteArray)(f_1c3:ag)(cb:Int)(s0:(Int×(List (ByteArray×Bool)))):Option ((List (ByteArray×Bool))⊕(Int×(List (ByteArray×Bool)))):=bp (fun a=>b9 ad f_1c0 f_1c1 f_1c3 cb a.1 a.2 (fun a' =>some (.next a')) (fun e=>some (.done e)) (fun r=>some (.ret r))) s0
def mc:Shp:=⟨[j0x,jct,q3l,jgr],[qwl,qrg,qtw]⟩
def ma:Shp:=⟨[],[qwl,qrg,qtw]⟩
def c8(ad:(List ag))(f_1c0:a7)(f_1c1:ByteArray)(f_1c3:ag)(f_1c2c0:(List (ByteArray×Bool))):Option (Int×(List (ByteArray×Bool))):=bnd (fc ad f_1c0 f_1c1 f_1c3 (ad.length:Int) (0,f_1c2c0)) fun oe2=>lk oe2 (fun e2=>some ((-1),e2)) (fun r=>some r)
def bg(ad:(List ag))(f_1c0:a7)(f_1c1:ByteArray)(f_1c3:ag)(f_1c2c0:(List (ByteArray×Bool))):Option (Bool×(List (ByteArray×Bool))):=bnd (c8 ad f_1c0 f_1c1 f_1c3 f_1c2c0) fun r1=>some (decide ((0:Int)≤r1.1),r1.2)
def ij{R:Type}(g7:qL1)(f4 d0:(List ag))(mk fr:Int)(c2:(List af))(fs ft es:Int)(et:(List af))(ev ex dw:Int)(k0:(List (ByteArray×Bool)))(nx:(Int×(List (ByteArray×Bool)))→Option R)(dn:(List (ByteArray×Bool))→Option R)(rt:(Bool×(List (ByteArray×Bool)))→Option R):Option R:=bif decide (dw<mk)then aq (ix dw d0.length)<|aq (ix dw d0.length)<|aq (ix (d0.getD dw.toNat ag.z).1 c2.length)<|aq (ix (d0.getD dw.toNat ag.z).1 c2.length)<|bif (ByteArray.toList (c2.getD (Int.toNat (d0.getD dw.toNat ag.z).1) af.z).1==ByteArray.toList ⟨#[]⟩)then bnd (mm (d0.getD dw.toNat ag.z).2.1 g7 k0) fun r8=>bif r8.1 then aq (d8 .i64 (dw+1))<|nx ((dw+1),r8.2)else bnd (bg f4 (es,et,ev,ex,()) (c2.getD (Int.toNat (d0.getD dw.toNat ag.z).1) af.z).1 (d0.getD dw.toNat ag.z) r8.2) fun r9=>bif (!r9.1)then rt (false,r9.2)else aq (d8 .i64 (dw+1))<|nx ((dw+1),r9.2)else bnd (bg f4 (es,et,ev,ex,()) (c2.getD (Int.toNat (d0.getD dw.toNat ag.z).1) af.z).1 (d0.getD dw.toNat ag.z) k0) fun r10=>bif (!r10.1)then rt (false,r10.2)else aq (d8 .i64 (dw+1))<|nx ((dw+1),r10.2)else dn k0
def qef(g7:qL1)(f4 d0:(List ag))(mk fr:Int)(c2:(List af))(fs ft es:Int)(et:(List af))(ev ex:Int)(s0:(Int×(List (ByteArray×Bool)))):Option ((List (ByteArray×Bool))⊕(Bool×(List (ByteArray×Bool)))):=bp (fun a=>ij g7 f4 d0 mk fr c2 fs ft es et ev ex a.1 a.2 (fun a' =>some (.next a')) (fun e=>some (.done e)) (fun r=>some (.ret r))) s0
def qn3:Shp:=⟨[j0m,j1k,j1l,j1n,jz9,j0a,(59, .d true qT0),(60, .d true qT0)],[q6m,qtw,qc5,qc5,jxp]⟩
def qn2:Shp:=⟨[],[q6m,qtw]⟩
def uq{R:Type}(h2 g7:qL1)(k0:(List (ByteArray×Bool)))(fr:Int)(c2:(List af))(fs ft es:Int)(et:(List af))(ev ex:Int)(dn:Unit→Option R)(rt:(Bool×(List (ByteArray×Bool)))→Option R):Option R:=bnd (da (es,et,ev,ex,()) g7) fun r5=>bnd (lu (fr,c2,fs,ft,()) h2) fun r6=>bnd (da (fr,c2,fs,ft,()) h2) fun r7=>bif decide ((r7.length:Int)<(r6.2.length:Int))then rt (false,k0)else bnd (qef g7 r5 r7 (r7.length:Int) fr c2 fs ft es et ev ex (0,k0)) fun oe11=>lk oe11 (fun e11=>rt (true,e11)) (fun r=>rt r)
def pz(h2 g7:qL1)(k0:(List (ByteArray×Bool)))(fr:Int)(c2:(List af))(fs ft es:Int)(et:(List af))(ev ex:Int):Option (Unit⊕(Bool×(List (ByteArray×Bool)))):=uq h2 g7 k0 fr c2 fs ft es et ev ex (fun e=>some (.inl e)) (fun r=>some (.inr r))
def qn5:Shp:=⟨[jz7,j0m,j1k,j1l,j1n],[q6m,qtw,qc5,qc5,jxp]⟩
def qn4:Shp:=⟨[],[]⟩
def s8(ap a0:a7)(h2 g7:qL1)(in_4c0:(List (ByteArray×Bool))):Option (Bool×(List (ByteArray×Bool))):=bnd (rz ap) fun r1=>bnd (rz a0) fun r2=>bnd (bz h2 r1.2) fun r3=>bif r3 then bnd (bz g7 r2.2) fun r4=>bif (!r4)then some (false,in_4c0)else bnd (pz h2 g7 in_4c0 ap.1 ap.2.1 ap.2.2.1 ap.2.2.2.1 a0.1 a0.2.1 a0.2.2.1 a0.2.2.2.1) fun oe12=>lk oe12 (fun e12=>none) (fun r=>some r)else bnd (pz h2 g7 in_4c0 ap.1 ap.2.1 ap.2.2.1 ap.2.2.2.1 a0.1 a0.2.1 a0.2.2.1 a0.2.2.2.1) fun oe13=>lk oe13 (fun e13=>none) (fun r=>some r)
def jd(hd:ab)(f0 he:a7)(p1:(List (ByteArray×Bool))):Option (Bool×(List (ByteArray×Bool))):=aq (ix 0 1)<|aq (ix 0 1)<|bnd (s8 f0 he hd.1 hd.2.1 p1) fun r1=>bif r1.1 then some (false,r1.2)else bnd (jl hd.1 hd.2.1) fun r2=>some (true,(qe7 .str r2 r1.2))
def b8{R:Type}(ad:(List ab))(f_1c0 f_1c1:a7)(cb bb:Int)(f_1c3:(List (ByteArray×Bool)))(nx:(Int×(List (ByteArray×Bool)))→Option R)(dn:(List (ByteArray×Bool))→Option R)(rt:(Int×(List (ByteArray×Bool)))→Option R):Option R:=bif decide (bb<cb)then aq (ix bb ad.length)<|aq (ix bb ad.length)<|bnd (jd (ad.getD bb.toNat ab.z) f_1c0 f_1c1 f_1c3) fun r1=>bif r1.1 then rt (bb,r1.2)else aq (d8 .i64 (bb+1))<|nx ((bb+1),r1.2)else dn f_1c3
def fu(ad:(List ab))(f_1c0 f_1c1:a7)(cb:Int)(s0:(Int×(List (ByteArray×Bool)))):Option ((List (ByteArray×Bool))⊕(Int×(List (ByteArray×Bool)))):=bp (fun a=>b8 ad f_1c0 f_1c1 cb a.1 a.2 (fun a' =>some (.next a')) (fun e=>some (.done e)) (fun r=>some (.ret r))) s0
def ua:Shp:=⟨[q85,(1, .fn 51 (.cons (.rp false a7.ty) (.cons (.rp false a7.ty) (.cons (.ptr 0) (.cons (.ptr 1) .nil))))),q3l,jgr],[qwl,qrg,qtw]⟩
def t8:Shp:=⟨[],[qwl,qrg,qtw]⟩
def gk(ad:(List ab))(f_1c0 f_1c1:a7)(f_1c3:(List (ByteArray×Bool))):Option (Int×(List (ByteArray×Bool))):=bnd (fu ad f_1c0 f_1c1 (ad.length:Int) (0,f_1c3)) fun oe2=>lk oe2 (fun e2=>some ((-1),e2)) (fun r=>some r)
def cn{R:Type}(del_1c0 del_1c1:a7)(bk ht:Int)(ad:(List ab))(del_1c3:(List (ByteArray×Bool)))(nx:(Int×Int×(List ab)×(List (ByteArray×Bool)))→Option R)(dn:(Int×(List ab)×(List (ByteArray×Bool)))→Option R)(rt:((List ab)×(List (ByteArray×Bool)))→Option R):Option R:=bif decide (ht<(ad.length:Int))then aq (ix ht ad.length)<|aq (ix ht ad.length)<|bnd (jd (ad.getD ht.toNat ab.z) del_1c0 del_1c1 del_1c3) fun r2=>bif (!r2.1)then aq (ix bk ad.length)<|aq (ix bk ad.length)<|aq (d8 .i64 (bk+1))<|aq (d8 .i64 (ht+1))<|nx ((bk+1),(ht+1),(ad.set bk.toNat (ad.getD ht.toNat ab.z)),r2.2)else aq (d8 .i64 (ht+1))<|nx (bk,(ht+1),ad,r2.2)else dn (bk,ad,del_1c3)
def j8(del_1c0 del_1c1:a7)(s0:(Int×Int×(List ab)×(List (ByteArray×Bool)))):Option ((Int×(List ab)×(List (ByteArray×Bool)))⊕((List ab)×(List (ByteArray×Bool)))):=bp (fun a=>cn del_1c0 del_1c1 a.1 a.2.1 a.2.2.1 a.2.2.2 (fun a' =>some (.next a')) (fun e=>some (.done e)) (fun r=>some (.ret r))) s0
def sq:Shp:=⟨[jw1,(1, .fn 51 (.cons (.rp false a7.ty) (.cons (.rp false a7.ty) (.cons (.ptr 1) (.cons (.ptr 2) .nil))))),jjh,jxn],[qt8,jlg,jvc,qtw]⟩
def sn:Shp:=⟨[jw1,jjh],[qt8,jlg,jvc,qtw]⟩
def c0(del_1c0 del_1c1:a7)(ad:(List ab))(del_1c3:(List (ByteArray×Bool))):Option ((List ab)×(List (ByteArray×Bool))):=bnd (gk ad del_1c0 del_1c1 del_1c3) fun r1=>bif decide (r1.1=(-1))then some (ad,r1.2)else aq (d8 .i64 (r1.1+1))<|bnd (j8 del_1c0 del_1c1 (r1.1,(r1.1+1),ad,r1.2)) fun oe3=>lk oe3 (fun e3=>aq (cut e3.1 (e3.2.1.length:Int) e3.2.1.length)<|aq (cut 0 e3.1 (mw e3.2.1 e3.1.toNat ((e3.2.1.length:Int).toNat-e3.1.toNat) (List.replicate ((e3.2.1.length:Int).toNat-e3.1.toNat) (ab.z:ab))).length)<|some ((((mw e3.2.1 e3.1.toNat ((e3.2.1.length:Int).toNat-e3.1.toNat) (List.replicate ((e3.2.1.length:Int).toNat-e3.1.toNat) (ab.z:ab))).drop 0).take (e3.1.toNat-0)),e3.2.2)) (fun r=>some r)
def ol{R:Type}(pl:qL1)(b6 f6 md:Int)(gt hs:qL2)(bd:Int)(a9:(List af))(be bf a4:Int)(a2:(List af))(a5 a6 hq:Int)(lt:(List ab))(ip:(List (ByteArray×Bool)))(nx:(Int×(List ab)×(List (ByteArray×Bool)))→Option R)(dn:((List ab)×(List (ByteArray×Bool)))→Option R)(rt:(qL2×qL2×(List ab))→Option R):Option R:=bif decide (hq<md)then aq (ix hq hs.length)<|aq (ix hq hs.length)<|aq (room (lt.length+1) 48)<|bnd (jl pl (hs.getD hq.toNat [])) fun r1=>aq (d8 .i64 (hq+1))<|nx ((hq+1),(lt++[(pl,(hs.getD hq.toNat []),())]),(tf .str r1 true ip))else dn (lt,ip)
def qea(pl:qL1)(b6 f6 md:Int)(gt hs:qL2)(bd:Int)(a9:(List af))(be bf a4:Int)(a2:(List af))(a5 a6:Int)(s0:(Int×(List ab)×(List (ByteArray×Bool)))):Option (((List ab)×(List (ByteArray×Bool)))⊕(qL2×qL2×(List ab))):=bp (fun a=>ol pl b6 f6 md gt hs bd a9 be bf a4 a2 a5 a6 a.1 a.2.1 a.2.2 (fun a' =>some (.next a')) (fun e=>some (.done e)) (fun r=>some (.ret r))) s0
def qnq:Shp:=⟨[(3, .own 1),j1c,j1e,j0s,j04,j05,(19, .own 0),j0k,j0z,(25, .own 1),j09,(27, .d true qT0)],[qe6,qe6,qc5,qc5,qt8,jw9,qtw]⟩
def qnp:Shp:=⟨[(3, .own 1),j1c,j1e,j0s,j04,(19, .own 0),j0k,j0z],[qe6,qe6,qc5,qc5,qt8,jw9,qtw]⟩
def om{R:Type}(b6:Int)(gt hs:qL2)(bd:Int)(a9:(List af))(be bf a4:Int)(a2:(List af))(a5 a6 f6:Int)(lt:(List ab))(ip:(List (ByteArray×Bool)))(nx:(Int×(List ab)×(List (ByteArray×Bool)))→Option R)(dn:((List ab)×(List (ByteArray×Bool)))→Option R)(rt:(qL2×qL2×(List ab))→Option R):Option R:=bif decide (f6<b6)then aq (ix f6 gt.length)<|aq (ix f6 gt.length)<|bnd (qea (gt.getD f6.toNat []) b6 f6 (hs.length:Int) gt hs bd a9 be bf a4 a2 a5 a6 (0,lt,ip)) fun oe2=>lk oe2 (fun e2=>aq (d8 .i64 (f6+1))<|nx ((f6+1),e2.1,e2.2)) (fun r=>rt r)else dn (lt,ip)
def qeb(b6:Int)(gt hs:qL2)(bd:Int)(a9:(List af))(be bf a4:Int)(a2:(List af))(a5 a6:Int)(s0:(Int×(List ab)×(List (ByteArray×Bool)))):Option (((List ab)×(List (ByteArray×Bool)))⊕(qL2×qL2×(List ab))):=bp (fun a=>om b6 gt hs bd a9 be bf a4 a2 a5 a6 a.1 a.2.1 a.2.2 (fun a' =>some (.next a')) (fun e=>some (.done e)) (fun r=>some (.ret r))) s0
def qns:Shp:=⟨[(3, .own 1),j1c,j1e,j0s,j04,(19, .own 0),j0k,j0z],[qe6,qe6,qc5,qc5,qt8,jw9,qtw]⟩
def qnr:Shp:=⟨[j1c,j1e,j0s,j04],[qe6,qe6,qc5,qc5,qt8,jw9,qtw]⟩
def oq{R:Type}(k0 k1:qL2)(bd:Int)(a9:(List af))(be bf a4:Int)(a2:(List af))(a5 a6:Int)(op:Bool)(lt:(List ab))(ip:(List (ByteArray×Bool)))(nx:(Bool×(List ab)×(List (ByteArray×Bool)))→Option R)(dn:(List ab)→Option R)(rt:(qL2×qL2×(List ab))→Option R):Option R:=bif op then bnd (c0 (bd,a9,be,bf,()) (a4,a2,a5,a6,()) lt ip) fun r4=>nx (decide ((r4.1.length:Int)<(lt.length:Int)),r4.1,r4.2)else dn lt
def qec(k0 k1:qL2)(bd:Int)(a9:(List af))(be bf a4:Int)(a2:(List af))(a5 a6:Int)(s0:(Bool×(List ab)×(List (ByteArray×Bool)))):Option ((List ab)⊕(qL2×qL2×(List ab))):=bp (fun a=>oq k0 k1 bd a9 be bf a4 a2 a5 a6 a.1 a.2.1 a.2.2 (fun a' =>some (.next a')) (fun e=>some (.done e)) (fun r=>some (.ret r))) s0
def qnu:Shp:=⟨[j1c,j1e,(9, .own 4),j04,(15, .ptr 6),(16, .d true .bool)],[qe6,qe6,qc5,qc5,qt8, .cs 87 1 1 (.cons (.mp 7) .nil), .cs 61 1 1 (.cons (.fn 49 (.cons (.ptr 5) .nil)) .nil),qtw]⟩
def qnt:Shp:=⟨[j02],[qe6,qe6,qt8]⟩
def ow(ap a0:a7)(pm hs:qL2):Option (qL2×qL2×(List ab)):=bnd (qeb (pm.length:Int) pm hs ap.1 ap.2.1 ap.2.2.1 ap.2.2.2.1 a0.1 a0.2.1 a0.2.2.1 a0.2.2.2.1 (0,[],[])) fun oe3=>lk oe3 (fun e3=>bnd (qec pm hs ap.1 ap.2.1 ap.2.2.1 ap.2.2.2.1 a0.1 a0.2.1 a0.2.2.1 a0.2.2.2.1 (true,e3.1,e3.2)) fun oe5=>lk oe5 (fun e5=>some (pm,hs,e5)) (fun r=>some r)) (fun r=>some r)
def qd9(sl:ab)(f0:qL1)(he:ae):Option Bool:=aq (ix 0 1)<|bnd (bz sl.1 f0) fun r1=>bif r1 then aq (ix 0 1)<|bnd (bz sl.2.1 he.2.1) fun r2=>some r2 else some false
def du{R:Type}(ad:(List ab))(f_1c0:qL1)(f_1c1:ae)(cb bb:Int)(nx:Int→Option R)(dn:Unit→Option R)(rt:Int→Option R):Option R:=bif decide (bb<cb)then aq (ix bb ad.length)<|aq (ix bb ad.length)<|bnd (qd9 (ad.getD bb.toNat ab.z) f_1c0 f_1c1) fun r1=>bif r1 then rt bb else aq (d8 .i64 (bb+1))<|nx (bb+1)else dn ()
def m5(ad:(List ab))(f_1c0:qL1)(f_1c1:ae)(cb s0:Int):Option (Unit⊕Int):=bp (fun a=>du ad f_1c0 f_1c1 cb a (fun a' =>some (.next a')) (fun e=>some (.done e)) (fun r=>some (.ret r))) s0
def xe:Shp:=⟨[q85,(1, .fn 22 (.cons (.rp false qT1) (.cons (.rp false ae.ty) .nil))),q3l,jgr],[]⟩
def xd:Shp:=⟨[],[]⟩
def i4(ad:(List ab))(f_1c0:qL1)(f_1c1:ae):Option Int:=bnd (m5 ad f_1c0 f_1c1 (ad.length:Int) 0) fun oe2=>lk oe2 (fun e2=>some (-1)) (fun r=>some r)
def dq(ad:(List ab))(f_1c0:qL1)(f_1c1:ae):Option Bool:=bnd (i4 ad f_1c0 f_1c1) fun r1=>some (decide ((0:Int)≤r1))
def v7{R:Type}(bw:Int)(h3 n2:(List ae))(q3 bd:Int)(a9:(List af))(be bf a4:Int)(a2:(List af))(a5 a6:Int)(kt ku:qL1)(kv:(List ab))(m0:qL1)(hu:Int)(ms:qL2)(nx:(Int×qL2)→Option R)(dn:qL2→Option R)(rt:(dg×Int)→Option R):Option R:=bif decide (hu<q3)then aq (ix hu n2.length)<|aq (ix hu n2.length)<|aq (room (ms.length+1) 24)<|aq (d8 .i64 (hu+1))<|nx ((hu+1),(ms++[(n2.getD hu.toNat ae.z).2.1]))else dn ms
def qld(bw:Int)(h3 n2:(List ae))(q3 bd:Int)(a9:(List af))(be bf a4:Int)(a2:(List af))(a5 a6:Int)(kt ku:qL1)(kv:(List ab))(m0:qL1)(s0:(Int×qL2)):Option (qL2⊕(dg×Int)):=bp (fun a=>v7 bw h3 n2 q3 bd a9 be bf a4 a2 a5 a6 kt ku kv m0 a.1 a.2 (fun a' =>some (.next a')) (fun e=>some (.done e)) (fun r=>some (.ret r))) s0
def qx5:Shp:=⟨[jw5,jw2,jw3,(8, .ptr 2),(10, .ptr 3),jw8,(15, .nl false (.own 4)),(54, .d true (.slice ae.ty)),(55, .d true qT0),(56, .d true qT0)],[qc5,qc5,qnn,jxo,qe6]⟩
def qx4:Shp:=⟨[jw5,jw2,jw3,(8, .ptr 2),(10, .ptr 3),jw8,(15, .nl false (.own 4))],[qc5,qc5,qnn,jxo,qe6]⟩
def v8{R:Type}(lr:(List ab))(pa:Int)(kt ku:qL1)(kv:(List ab))(n3 ob:qL1)(kr:Int)(m1:(List ab))(nx:(Int×(List ab))→Option R)(dn:(List ab)→Option R)(rt:(dg×Int)→Option R):Option R:=bif decide (kr<pa)then aq (ix kr lr.length)<|aq (ix kr lr.length)<|bnd (cm (lr.getD kr.toNat ab.z).1) fun r10=>bnd (cm (lr.getD kr.toNat ab.z).2.1) fun r11=>aq (room (m1.length+1) 48)<|aq (d8 .i64 (kr+1))<|nx ((kr+1),(m1++[(r10,r11,())]))else dn m1
def qle(lr:(List ab))(pa:Int)(kt ku:qL1)(kv:(List ab))(n3 ob:qL1)(s0:(Int×(List ab))):Option ((List ab)⊕(dg×Int)):=bp (fun a=>v8 lr pa kt ku kv n3 ob a.1 a.2 (fun a' =>some (.next a')) (fun e=>some (.done e)) (fun r=>some (.ret r))) s0
def qx7:Shp:=⟨[j00,(25, .ptr 1),(116, .d true (.slice ab.ty)),(117, .d true qT0),(118, .d true qT0)],[qnn,jp8,qt8]⟩
def qx6:Shp:=⟨[j00,(25, .ptr 1)],[qnn,jp8,qt8]⟩
def wa{R:Type}(ik:(List ab))(ka:(List ae))(o2:Int)(kt ku:qL1)(kv:(List ab))(m0:qL1)(h6:Int)(nx:Int→Option R)(dn:Unit→Option R)(rt:(dg×Int)→Option R):Option R:=bif decide (h6<o2)then aq (ix h6 ka.length)<|aq (ix h6 ka.length)<|bnd (dq ik m0 (ka.getD h6.toNat ae.z)) fun r8=>bif r8 then bnd (cm (ka.getD h6.toNat ae.z).2.1) fun r9=>bnd (qle ik (ik.length:Int) kt ku kv r9 (ka.getD h6.toNat ae.z).2.2.1 (0,[])) fun oe12=>lk oe12 (fun e12=>rt ((r9,(ka.getD h6.toNat ae.z).2.2.1,e12,()),0)) (fun r=>rt r)else aq (d8 .i64 (h6+1))<|nx (h6+1)else dn ()
def qd8(ik:(List ab))(ka:(List ae))(o2:Int)(kt ku:qL1)(kv:(List ab))(m0:qL1)(s0:Int):Option (Unit⊕(dg×Int)):=bp (fun a=>wa ik ka o2 kt ku kv m0 a (fun a' =>some (.next a')) (fun e=>some (.done e)) (fun r=>some (.ret r))) s0
def qx9:Shp:=⟨[j00,(10, .ptr 1),(22, .d true (.slice ab.ty)),(101, .d true (.slice ae.ty)),(102, .d true qT0),(103, .d true qT0)],[qnn,jxo]⟩
def qx8:Shp:=⟨[j00],[qnn]⟩
def ep(ap a0:a7)(dc:qL1)(bw:Int):Option (dg×Int):=bnd (n9 ap a0 dc bw) fun r1=>bif (!decide (r1.2.1=0))then some (([],[],[],()),r1.2.1)else bnd (q0 a0 r1.2.2 bw) fun r2=>bif (!r2.1)then some (([],[],[],()),13)else bnd (bv r1.2.2 r2.2) fun r3=>bnd (qld bw r3 r3 (r3.length:Int) ap.1 ap.2.1 ap.2.2.1 ap.2.2.2.1 a0.1 a0.2.1 a0.2.2.1 a0.2.2.2.1 [] [] [] r1.1 (0,[])) fun oe4=>lk oe4 (fun e4=>bnd (u6 ap bw [r1.1]) fun r5=>aq (decide (r5.2.1.length=1))<|bnd (u6 a0 bw e4) fun r6=>aq (decide (r6.2.1.length=e4.length))<|bif (!r5.1)then some (([],[],[],()),13)else bif (!r6.1)then some (([],[],[],()),13)else aq (d8 .i64 ((r5.2.2.length:Int)*(r6.2.2.length:Int)))<|bif decide ((20000:Int)<((r5.2.2.length:Int)*(r6.2.2.length:Int)))then some (([],[],[],()),13)else bnd (ow ap a0 r5.2.2 r6.2.2) fun r7=>aq (decide (r7.1.length=r5.2.2.length))<|aq (decide (r7.2.1.length=r6.2.2.length))<|bnd (qd8 r7.2.2 r3 (r3.length:Int) [] [] [] r1.1 0) fun oe13=>lk oe13 (fun e13=>some (([],[],[],()),10)) (fun r=>some r)) (fun r=>some r)
def qk(aa:a7)(b5:qL1):Option Bool:=bnd (lu aa b5) fun r1=>some (decide (r1.1=0))
def qch(hd:ab)(f0 he:a7):Option Bool:=aq (ix 0 1)<|bnd (qk f0 hd.1) fun r1=>bif (!r1)then some true else aq (ix 0 1)<|bnd (qk he hd.2.1) fun r2=>some (!r2)
def dx{R:Type}(ad:(List ab))(f_1c0 f_1c1:a7)(cb bb:Int)(nx:Int→Option R)(dn:Unit→Option R)(rt:Int→Option R):Option R:=bif decide (bb<cb)then aq (ix bb ad.length)<|aq (ix bb ad.length)<|bnd (qch (ad.getD bb.toNat ab.z) f_1c0 f_1c1) fun r1=>bif r1 then rt bb else aq (d8 .i64 (bb+1))<|nx (bb+1)else dn ()
def m9(ad:(List ab))(f_1c0 f_1c1:a7)(cb s0:Int):Option (Unit⊕Int):=bp (fun a=>dx ad f_1c0 f_1c1 cb a (fun a' =>some (.next a')) (fun e=>some (.done e)) (fun r=>some (.ret r))) s0
def xl:Shp:=⟨[q85,(1, .fn 63 (.cons (.rp false a7.ty) (.cons (.rp false a7.ty) .nil))),q3l,jgr],[]⟩
def xk:Shp:=⟨[],[]⟩
def i6(ad:(List ab))(f_1c0 f_1c1:a7):Option Int:=bnd (m9 ad f_1c0 f_1c1 (ad.length:Int) 0) fun oe2=>lk oe2 (fun e2=>some (-1)) (fun r=>some r)
def gi(ad:(List ab))(f_1c0 f_1c1:a7):Option Bool:=bnd (i6 ad f_1c0 f_1c1) fun r1=>some (decide ((0:Int)≤r1))
def qbc(ap a0:a7)(hg:(List ab)):Option Bool:=bnd (gi hg ap a0) fun r1=>some (!r1)
def dp{R:Type}(g3 hf:(List ByteArray))(gr gj:Int)(nx:Int→Option R)(dn:Unit→Option R)(rt:Bool→Option R):Option R:=bif decide (gj<gr)then aq (ix gj g3.length)<|aq (ix gj g3.length)<|aq (ix gj hf.length)<|aq (ix gj hf.length)<|bif (!(ByteArray.toList (g3.getD gj.toNat ⟨#[]⟩)==ByteArray.toList (hf.getD gj.toNat ⟨#[]⟩)))then rt false else aq (d8 .i64 (gj+1))<|nx (gj+1)else dn ()
def qo(g3 hf:(List ByteArray))(gr s0:Int):Option (Unit⊕Bool):=bp (fun a=>dp g3 hf gr a (fun a' =>some (.next a')) (fun e=>some (.done e)) (fun r=>some (.ret r))) s0
def qb8:Shp:=⟨[j0v,q3k,j0i,j0j],[]⟩
def qb7:Shp:=⟨[],[]⟩
def ii(g3 hf:(List ByteArray)):Option Bool:=bif (!decide ((g3.length:Int)=(hf.length:Int)))then some false else bnd (qo g3 hf (g3.length:Int) 0) fun oe1=>lk oe1 (fun e1=>some true) (fun r=>some r)
def qcf(hd:ab)(f0 he:qL1):Option Bool:=aq (ix 0 1)<|bnd (bz hd.1 f0) fun r1=>bif r1 then aq (ix 0 1)<|bnd (bz hd.2.1 he) fun r2=>some r2 else some false
def dv{R:Type}(ad:(List ab))(f_1c0 f_1c1:qL1)(cb bb:Int)(nx:Int→Option R)(dn:Unit→Option R)(rt:Int→Option R):Option R:=bif decide (bb<cb)then aq (ix bb ad.length)<|aq (ix bb ad.length)<|bnd (qcf (ad.getD bb.toNat ab.z) f_1c0 f_1c1) fun r1=>bif r1 then rt bb else aq (d8 .i64 (bb+1))<|nx (bb+1)else dn ()
def m7(ad:(List ab))(f_1c0 f_1c1:qL1)(cb s0:Int):Option (Unit⊕Int):=bp (fun a=>dv ad f_1c0 f_1c1 cb a (fun a' =>some (.next a')) (fun e=>some (.done e)) (fun r=>some (.ret r))) s0
def xh:Shp:=⟨[q85,(1, .fn 31 (.cons (.rp false qT1) (.cons (.rp false qT1) .nil))),q3l,jgr],[]⟩
def xg:Shp:=⟨[],[]⟩
def i5(ad:(List ab))(f_1c0 f_1c1:qL1):Option Int:=bnd (m7 ad f_1c0 f_1c1 (ad.length:Int) 0) fun oe2=>lk oe2 (fun e2=>some (-1)) (fun r=>some r)
def dr(ad:(List ab))(f_1c0 f_1c1:qL1):Option Bool:=bnd (i5 ad f_1c0 f_1c1) fun r1=>some (decide ((0:Int)≤r1))
def ko(hw p3:qL1)(he:(List (ByteArray×Bool))):Option (Bool×(List (ByteArray×Bool))):=bnd (jl hw p3) fun r1=>some (((ls .str r1 he).getD false),he)
def px(ec:ag)(f0:a7)(he:ByteArray)(p1:ag)(p_3c0:(List (ByteArray×Bool))):Option (Bool×(List (ByteArray×Bool))):=aq (ix 0 1)<|aq (ix ec.1 f0.2.1.length)<|aq (ix ec.1 f0.2.1.length)<|aq (ix 0 1)<|bif (ByteArray.toList (f0.2.1.getD ec.1.toNat af.z).1==ByteArray.toList he)then aq (ix 0 1)<|bnd (ko p1.2.1 ec.2.1 p_3c0) fun r1=>some (r1.1,r1.2)else some (false,p_3c0)
def ca{R:Type}(ad:(List ag))(f_1c0:a7)(f_1c1:ByteArray)(f_1c3:ag)(cb bb:Int)(f_1c2c0:(List (ByteArray×Bool)))(nx:(Int×(List (ByteArray×Bool)))→Option R)(dn:(List (ByteArray×Bool))→Option R)(rt:(Int×(List (ByteArray×Bool)))→Option R):Option R:=bif decide (bb<cb)then aq (ix bb ad.length)<|aq (ix bb ad.length)<|bnd (px (ad.getD bb.toNat ag.z) f_1c0 f_1c1 f_1c3 f_1c2c0) fun r1=>bif r1.1 then rt (bb,r1.2)else aq (d8 .i64 (bb+1))<|nx ((bb+1),r1.2)else dn f_1c2c0
def ff(ad:(List ag))(f_1c0:a7)(f_1c1:ByteArray)(f_1c3:ag)(cb:Int)(s0:(Int×(List (ByteArray×Bool)))):Option ((List (ByteArray×Bool))⊕(Int×(List (ByteArray×Bool)))):=bp (fun a=>ca ad f_1c0 f_1c1 f_1c3 cb a.1 a.2 (fun a' =>some (.next a')) (fun e=>some (.done e)) (fun r=>some (.ret r))) s0
def mg:Shp:=⟨[j0x,jct,q3l,jgr],[qxs,qrg,qtw]⟩
def mf:Shp:=⟨[],[qxs,qrg,qtw]⟩
def c9(ad:(List ag))(f_1c0:a7)(f_1c1:ByteArray)(f_1c3:ag)(f_1c2c0:(List (ByteArray×Bool))):Option (Int×(List (ByteArray×Bool))):=bnd (ff ad f_1c0 f_1c1 f_1c3 (ad.length:Int) (0,f_1c2c0)) fun oe2=>lk oe2 (fun e2=>some ((-1),e2)) (fun r=>some r)
def bh(ad:(List ag))(f_1c0:a7)(f_1c1:ByteArray)(f_1c3:ag)(f_1c2c0:(List (ByteArray×Bool))):Option (Bool×(List (ByteArray×Bool))):=bnd (c9 ad f_1c0 f_1c1 f_1c3 f_1c2c0) fun r1=>some (decide ((0:Int)≤r1.1),r1.2)
def il{R:Type}(g7:qL1)(f4 d0:(List ag))(mk fr:Int)(c2:(List af))(fs ft es:Int)(et:(List af))(ev ex dw:Int)(k0:(List (ByteArray×Bool)))(nx:(Int×(List (ByteArray×Bool)))→Option R)(dn:(List (ByteArray×Bool))→Option R)(rt:(Bool×(List (ByteArray×Bool)))→Option R):Option R:=bif decide (dw<mk)then aq (ix dw d0.length)<|aq (ix dw d0.length)<|aq (ix (d0.getD dw.toNat ag.z).1 c2.length)<|aq (ix (d0.getD dw.toNat ag.z).1 c2.length)<|bif (ByteArray.toList (c2.getD (Int.toNat (d0.getD dw.toNat ag.z).1) af.z).1==ByteArray.toList ⟨#[]⟩)then bnd (ko (d0.getD dw.toNat ag.z).2.1 g7 k0) fun r8=>bif r8.1 then aq (d8 .i64 (dw+1))<|nx ((dw+1),r8.2)else bnd (bh f4 (es,et,ev,ex,()) (c2.getD (Int.toNat (d0.getD dw.toNat ag.z).1) af.z).1 (d0.getD dw.toNat ag.z) r8.2) fun r9=>bif (!r9.1)then rt (false,r9.2)else aq (d8 .i64 (dw+1))<|nx ((dw+1),r9.2)else bnd (bh f4 (es,et,ev,ex,()) (c2.getD (Int.toNat (d0.getD dw.toNat ag.z).1) af.z).1 (d0.getD dw.toNat ag.z) k0) fun r10=>bif (!r10.1)then rt (false,r10.2)else aq (d8 .i64 (dw+1))<|nx ((dw+1),r10.2)else dn k0
def qeh(g7:qL1)(f4 d0:(List ag))(mk fr:Int)(c2:(List af))(fs ft es:Int)(et:(List af))(ev ex:Int)(s0:(Int×(List (ByteArray×Bool)))):Option ((List (ByteArray×Bool))⊕(Bool×(List (ByteArray×Bool)))):=bp (fun a=>il g7 f4 d0 mk fr c2 fs ft es et ev ex a.1 a.2 (fun a' =>some (.next a')) (fun e=>some (.done e)) (fun r=>some (.ret r))) s0
def qn8:Shp:=⟨[j0m,j1k,j1l,j1n,jz9,j0a,(59, .d true qT0),(60, .d true qT0)],[q6m,qtw,qc5,qc5,jz3]⟩
def qn7:Shp:=⟨[],[q6m,qtw]⟩
def ur{R:Type}(h2 g7:qL1)(k0:(List (ByteArray×Bool)))(fr:Int)(c2:(List af))(fs ft es:Int)(et:(List af))(ev ex:Int)(dn:Unit→Option R)(rt:(Bool×(List (ByteArray×Bool)))→Option R):Option R:=bnd (da (es,et,ev,ex,()) g7) fun r5=>bnd (lu (fr,c2,fs,ft,()) h2) fun r6=>bnd (da (fr,c2,fs,ft,()) h2) fun r7=>bif decide ((r7.length:Int)<(r6.2.length:Int))then rt (false,k0)else bnd (qeh g7 r5 r7 (r7.length:Int) fr c2 fs ft es et ev ex (0,k0)) fun oe11=>lk oe11 (fun e11=>rt (true,e11)) (fun r=>rt r)
def p0(h2 g7:qL1)(k0:(List (ByteArray×Bool)))(fr:Int)(c2:(List af))(fs ft es:Int)(et:(List af))(ev ex:Int):Option (Unit⊕(Bool×(List (ByteArray×Bool)))):=ur h2 g7 k0 fr c2 fs ft es et ev ex (fun e=>some (.inl e)) (fun r=>some (.inr r))
def qoa:Shp:=⟨[jz7,j0m,j1k,j1l,j1n],[q6m,qtw,qc5,qc5,jz3]⟩
def qn9:Shp:=⟨[],[]⟩
def s9(ap a0:a7)(h2 g7:qL1)(in_4c0:(List (ByteArray×Bool))):Option (Bool×(List (ByteArray×Bool))):=bnd (rz ap) fun r1=>bnd (rz a0) fun r2=>bnd (bz h2 r1.2) fun r3=>bif r3 then bnd (bz g7 r2.2) fun r4=>bif (!r4)then some (false,in_4c0)else bnd (p0 h2 g7 in_4c0 ap.1 ap.2.1 ap.2.2.1 ap.2.2.2.1 a0.1 a0.2.1 a0.2.2.1 a0.2.2.2.1) fun oe12=>lk oe12 (fun e12=>none) (fun r=>some r)else bnd (p0 h2 g7 in_4c0 ap.1 ap.2.1 ap.2.2.1 ap.2.2.2.1 a0.1 a0.2.1 a0.2.2.1 a0.2.2.2.1) fun oe13=>lk oe13 (fun e13=>none) (fun r=>some r)
def p8(hd:ab)(f0 he:a7)(p_3c0:(List (ByteArray×Bool))):Option (Bool×(List (ByteArray×Bool))):=aq (ix 0 1)<|aq (ix 0 1)<|bnd (s9 f0 he hd.1 hd.2.1 p_3c0) fun r1=>some ((!r1.1),r1.2)
def db{R:Type}(ad:(List ab))(f_1c0 f_1c1:a7)(cb bb:Int)(f_1c2c0:(List (ByteArray×Bool)))(nx:(Int×(List (ByteArray×Bool)))→Option R)(dn:(List (ByteArray×Bool))→Option R)(rt:(Int×(List (ByteArray×Bool)))→Option R):Option R:=bif decide (bb<cb)then aq (ix bb ad.length)<|aq (ix bb ad.length)<|bnd (p8 (ad.getD bb.toNat ab.z) f_1c0 f_1c1 f_1c2c0) fun r1=>bif r1.1 then rt (bb,r1.2)else aq (d8 .i64 (bb+1))<|nx ((bb+1),r1.2)else dn f_1c2c0
def k8(ad:(List ab))(f_1c0 f_1c1:a7)(cb:Int)(s0:(Int×(List (ByteArray×Bool)))):Option ((List (ByteArray×Bool))⊕(Int×(List (ByteArray×Bool)))):=bp (fun a=>db ad f_1c0 f_1c1 cb a.1 a.2 (fun a' =>some (.next a')) (fun e=>some (.done e)) (fun r=>some (.ret r))) s0
def ud:Shp:=⟨[q85,(1, .fn 68 (.cons (.rp false a7.ty) (.cons (.rp false a7.ty) (.cons (.ptr 0) .nil)))),q3l,jgr],[qxs,qrg,qtw]⟩
def uc:Shp:=⟨[],[qxs,qrg,qtw]⟩
def gl(ad:(List ab))(f_1c0 f_1c1:a7)(f_1c2c0:(List (ByteArray×Bool))):Option (Int×(List (ByteArray×Bool))):=bnd (k8 ad f_1c0 f_1c1 (ad.length:Int) (0,f_1c2c0)) fun oe2=>lk oe2 (fun e2=>some ((-1),e2)) (fun r=>some r)
def nm{R:Type}(hg gr:(List ab))(gj hm:Int)(hn:(List af))(ho hp hi:Int)(hj:(List af))(hk hl g4:Int)(q7:(List (ByteArray×Bool)))(nx:(Int×(List (ByteArray×Bool)))→Option R)(dn:(List (ByteArray×Bool))→Option R)(rt:Int→Option R):Option R:=bif decide (g4<gj)then aq (ix g4 gr.length)<|aq (ix g4 gr.length)<|bnd (jl (gr.getD g4.toNat ab.z).1 (gr.getD g4.toNat ab.z).2.1) fun r1=>aq (d8 .i64 (g4+1))<|nx ((g4+1),(tf .str r1 true q7))else dn q7
def qc2(hg gr:(List ab))(gj hm:Int)(hn:(List af))(ho hp hi:Int)(hj:(List af))(hk hl:Int)(s0:(Int×(List (ByteArray×Bool)))):Option ((List (ByteArray×Bool))⊕Int):=bp (fun a=>nm hg gr gj hm hn ho hp hi hj hk hl a.1 a.2 (fun a' =>some (.next a')) (fun e=>some (.done e)) (fun r=>some (.ret r))) s0
def qlq:Shp:=⟨[jcd,jfo,j1j,j1m,(12, .d false (.slice ab.ty)),j0j,(14, .d true qT0)],[qc5,qc5,jvc,qtw]⟩
def qlp:Shp:=⟨[jcd,jfo,j1j,j1m],[qc5,qc5,jvc,qtw]⟩
def rb(ap a0:a7)(hg:(List ab)):Option Int:=bnd (qc2 hg hg (hg.length:Int) ap.1 ap.2.1 ap.2.2.1 ap.2.2.2.1 a0.1 a0.2.1 a0.2.2.1 a0.2.2.2.1 (0,[])) fun oe2=>lk oe2 (fun e2=>bnd (gl hg ap a0 e2) fun r3=>some r3.1) (fun r=>some r)
def qr(ap a0:a7)(dc:qL1)(jn:dg):Option Bool:=bnd (yk ap a0) fun r1=>bif (!decide (r1=0))then some false else bif decide ((20000:Int)<(jn.2.2.1.length:Int))then some false else bnd (qbc ap a0 jn.2.2.1) fun r2=>bif (!r2)then some false else bnd (ne ap dc) fun r3=>bnd (ne a0 jn.2.1) fun r4=>bif (!r3.2.1)then some false else bif (!r4.2.1)then some false else bnd (ii r3.2.2 r4.2.2) fun r5=>bif (!r5)then some false else bnd (bz r4.1 jn.1) fun r6=>bif (!r6)then some false else bnd (dr jn.2.2.1 r3.1 r4.1) fun r7=>bif (!r7)then some false else bnd (rb ap a0 jn.2.2.1) fun r8=>some (decide (r8<0))
def qk9:Option Bool:=bnd (qpv ⟨#[]⟩ [⟨#[97]⟩,⟨#[98]⟩]) fun r1=>bnd (qpv ⟨#[99]⟩ [⟨#[97]⟩,⟨#[98]⟩]) fun r2=>bnd (ep r1 r2 [0] 100) fun r3=>bnd (ep r2 r1 [0] 100) fun r4=>bif decide (r3.2=0)then bif decide (r4.2=10)then bnd (qr r1 r2 [0] r3.1) fun r5=>bif r5 then bnd (qr r2 r1 [0] r3.1) fun r6=>some (!r6)else some false else some false else some false
def qa9(p2:af):Option Bool:=bif decide ((50:Int)<(p2.2.1.length:Int))then some true else bif decide ((50:Int)<(p2.2.2.1.length:Int))then some true else some (decide ((200:Int)<(ByteArray.size p2.1:Int)))
def cx{R:Type}(ad:(List af))(cb bb:Int)(nx:Int→Option R)(dn:Unit→Option R)(rt:Int→Option R):Option R:=bif decide (bb<cb)then aq (ix bb ad.length)<|aq (ix bb ad.length)<|bnd (qa9 (ad.getD bb.toNat af.z)) fun r1=>bif r1 then rt bb else aq (d8 .i64 (bb+1))<|nx (bb+1)else dn ()
def iw(ad:(List af))(cb s0:Int):Option (Unit⊕Int):=bp (fun a=>cx ad cb a (fun a' =>some (.next a')) (fun e=>some (.done e)) (fun r=>some (.ret r))) s0
def qd:Shp:=⟨[(0, .d false (.slice af.ty)),(1, .fn 14 .nil),q3l,jgr],[]⟩
def qc:Shp:=⟨[],[]⟩
def eu(ad:(List af)):Option Int:=bnd (iw ad (ad.length:Int) 0) fun oe2=>lk oe2 (fun e2=>some (-1)) (fun r=>some r)
def bj(ad:(List af)):Option Bool:=bnd (eu ad) fun r1=>some (decide ((0:Int)≤r1))
def qbx(aa:a7):Option Bool:=bif decide ((8:Int)<(aa.2.1.length:Int))then bif decide ((aa.2.1.length:Int)≤60)then some true else bif decide ((100:Int)<(aa.2.1.length:Int))then some true else bif decide ((8:Int)<aa.1)then bif decide (aa.1≤40)then some true else bnd (bj aa.2.1) fun r1=>some r1 else bnd (bj aa.2.1) fun r2=>some r2 else bif decide ((100:Int)<(aa.2.1.length:Int))then some true else bif decide ((8:Int)<aa.1)then bif decide (aa.1≤40)then some true else bnd (bj aa.2.1) fun r3=>some r3 else bnd (bj aa.2.1) fun r4=>some r4
def qie(dd:qL1):Option Bool:=bif decide ((40:Int)<(dd.length:Int))then bif decide ((dd.length:Int)≤1000)then some true else some (decide ((2000:Int)<(dd.length:Int)))else some (decide ((2000:Int)<(dd.length:Int)))
def yz(hc:Int):Option Bool:=bif decide ((97:Int)≤hc)then bif decide (hc≤122)then some true else bif decide ((65:Int)≤hc)then some (decide (hc≤90))else some false else bif decide ((65:Int)≤hc)then some (decide (hc≤90))else some false
def qn{R:Type}(ad:ByteArray)(ei:Int)(nx:Int→Option R)(dn:Unit→Option R)(rt:Bool→Option R):Option R:=bif decide (ei<(ByteArray.size ad:Int))then aq (ix ei (ByteArray.size ad))<|bnd (yz (((ByteArray.data ad).getD ei.toNat 0).toNat:Int)) fun r2=>bif (!r2)then bif decide ((48:Int)≤(((ByteArray.data ad).getD ei.toNat 0).toNat:Int))then bif (!(decide ((((ByteArray.data ad).getD ei.toNat 0).toNat:Int)≤57)))then bif (!decide ((((ByteArray.data ad).getD ei.toNat 0).toNat:Int)=95))then bif (!decide ((((ByteArray.data ad).getD ei.toNat 0).toNat:Int)=45))then bif (!decide ((((ByteArray.data ad).getD ei.toNat 0).toNat:Int)=46))then rt false else aq (d8 .i64 (ei+1))<|nx (ei+1)else aq (d8 .i64 (ei+1))<|nx (ei+1)else aq (d8 .i64 (ei+1))<|nx (ei+1)else aq (d8 .i64 (ei+1))<|nx (ei+1)else bif (!decide ((((ByteArray.data ad).getD ei.toNat 0).toNat:Int)=95))then bif (!decide ((((ByteArray.data ad).getD ei.toNat 0).toNat:Int)=45))then bif (!decide ((((ByteArray.data ad).getD ei.toNat 0).toNat:Int)=46))then rt false else aq (d8 .i64 (ei+1))<|nx (ei+1)else aq (d8 .i64 (ei+1))<|nx (ei+1)else aq (d8 .i64 (ei+1))<|nx (ei+1)else aq (d8 .i64 (ei+1))<|nx (ei+1)else dn ()
def qme(ad:ByteArray)(s0:Int):Option (Unit⊕Bool):=bp (fun a=>qn ad a (fun a' =>some (.next a')) (fun e=>some (.done e)) (fun r=>some (.ret r))) s0
def qys:Shp:=⟨[j0g,jw5],[]⟩
def qyr:Shp:=⟨[],[]⟩
def qdg(ad:ByteArray):Option Bool:=bif decide ((ByteArray.size ad:Int)<1)then some false else bif decide ((40:Int)<(ByteArray.size ad:Int))then some false else aq (ix 0 (ByteArray.size ad))<|bnd (yz (((ByteArray.data ad).getD 0 0).toNat:Int)) fun r1=>bif (!r1)then some false else bnd (qme ad 1) fun oe3=>lk oe3 (fun e3=>some true) (fun r=>some r)
def nh{R:Type}(aa:Int)(b4:qL1)(bk:Int)(nx:Int→Option R)(dn:Unit→Option R)(rt:Bool→Option R):Option R:=bif decide (bk<(b4.length:Int))then aq (ix bk b4.length)<|aq (ix bk b4.length)<|bif decide ((b4.getD bk.toNat 0)<0)then rt false else aq (ix bk b4.length)<|aq (ix bk b4.length)<|bif decide (aa≤(b4.getD bk.toNat 0))then rt false else bif decide ((0:Int)<bk)then aq (d8 .i64 (bk-1))<|aq (ix (bk-1) b4.length)<|aq (ix (bk-1) b4.length)<|aq (ix bk b4.length)<|aq (ix bk b4.length)<|bif decide ((b4.getD bk.toNat 0)≤(b4.getD (bk-1).toNat 0))then rt false else aq (d8 .i64 (bk+1))<|nx (bk+1)else aq (d8 .i64 (bk+1))<|nx (bk+1)else dn ()
def qmq(aa:Int)(b4:qL1)(s0:Int):Option (Unit⊕Bool):=bp (fun a=>nh aa b4 a (fun a' =>some (.next a')) (fun e=>some (.done e)) (fun r=>some (.ret r))) s0
def qyz:Shp:=⟨[q83,jjc,jjh],[]⟩
def qyy:Shp:=⟨[],[]⟩
def qa(aa:Int)(b4:qL1):Option Bool:=bnd (qmq aa b4 0) fun oe1=>lk oe1 (fun e1=>some true) (fun r=>some r)
def y6{R:Type}(eg:Int)(b3:(List af))(en eo ei:Int)(nx:Int→Option R)(dn:Unit→Option R)(rt:Bool→Option R):Option R:=bif decide (ei<(b3.length:Int))then aq (ix ei b3.length)<|aq (ix ei b3.length)<|bif (!(ByteArray.toList (b3.getD ei.toNat af.z).1==ByteArray.toList ⟨#[]⟩))then bnd (qdg (b3.getD ei.toNat af.z).1) fun r1=>bif (!r1)then rt false else bnd (qa eg (b3.getD ei.toNat af.z).2.1) fun r2=>bif (!r2)then rt false else bnd (qa eg (b3.getD ei.toNat af.z).2.2.1) fun r3=>bif (!r3)then rt false else aq (d8 .i64 (ei+1))<|nx (ei+1)else bnd (qa eg (b3.getD ei.toNat af.z).2.1) fun r4=>bif (!r4)then rt false else bnd (qa eg (b3.getD ei.toNat af.z).2.2.1) fun r5=>bif (!r5)then rt false else aq (d8 .i64 (ei+1))<|nx (ei+1)else dn ()
def qo2(eg:Int)(b3:(List af))(en eo s0:Int):Option (Unit⊕Bool):=bp (fun a=>y6 eg b3 en eo a (fun a' =>some (.next a')) (fun e=>some (.done e)) (fun r=>some (.ret r))) s0
def q2b:Shp:=⟨[j0o,jw5],[qc5]⟩
def q2a:Shp:=⟨[],[]⟩
def sc(aa:a7):Option Bool:=bif decide (aa.1<1)then some false else bif decide ((40:Int)<aa.1)then some false else bif decide ((60:Int)<(aa.2.1.length:Int))then some false else bif decide (aa.2.2.1<0)then some false else bif decide (aa.1≤aa.2.2.1)then some false else bif decide (aa.2.2.2.1<0)then some false else bif decide (aa.1≤aa.2.2.2.1)then some false else bnd (qo2 aa.1 aa.2.1 aa.2.2.1 aa.2.2.2.1 0) fun oe6=>lk oe6 (fun e6=>some true) (fun r=>some r)
def qdh{R:Type}(dd:qL1)(lc bk:Int)(nx:Int→Option R)(dn:Unit→Option R)(rt:Bool→Option R):Option R:=bif decide (bk<(dd.length:Int))then aq (ix bk dd.length)<|aq (ix bk dd.length)<|bif decide ((dd.getD bk.toNat 0)=lc)then rt true else aq (d8 .i64 (bk+1))<|nx (bk+1)else dn ()
def qxc(dd:qL1)(lc s0:Int):Option (Unit⊕Bool):=bp (fun a=>qdh dd lc a (fun a' =>some (.next a')) (fun e=>some (.done e)) (fun r=>some (.ret r))) s0
def q8a:Shp:=⟨[jw6,jgt,jjh],[]⟩
def q79:Shp:=⟨[],[]⟩
def qt(dd:qL1)(lc:Int):Option Bool:=bnd (qxc dd lc 0) fun oe1=>lk oe1 (fun e1=>some false) (fun r=>some r)
def sd{R:Type}(ha g6 f5:Int)(b1:(List af))(ga gd kx:Int)(fi:qL1)(nx:(Int×qL1)→Option R)(dn rt:qL1→Option R):Option R:=aq (ix g6 b1.length)<|aq (ix g6 b1.length)<|bif decide (kx<((b1.getD g6.toNat af.z).2.2.1.length:Int))then aq (ix g6 b1.length)<|aq (ix g6 b1.length)<|aq (ix kx (b1.getD g6.toNat af.z).2.2.1.length)<|aq (ix kx (b1.getD g6.toNat af.z).2.2.1.length)<|bnd (qt fi ((b1.getD g6.toNat af.z).2.2.1.getD kx.toNat 0)) fun r2=>bif (!r2)then aq (ix g6 b1.length)<|aq (ix g6 b1.length)<|aq (ix kx (b1.getD g6.toNat af.z).2.2.1.length)<|aq (ix kx (b1.getD g6.toNat af.z).2.2.1.length)<|aq (room (fi.length+1) 8)<|aq (d8 .i64 (kx+1))<|nx ((kx+1),(fi++[((b1.getD g6.toNat af.z).2.2.1.getD kx.toNat 0)]))else aq (d8 .i64 (kx+1))<|nx ((kx+1),fi)else dn fi
def qgd(ha g6 f5:Int)(b1:(List af))(ga gd:Int)(s0:(Int×qL1)):Option (qL1⊕qL1):=bp (fun a=>sd ha g6 f5 b1 ga gd a.1 a.2 (fun a' =>some (.next a')) (fun e=>some (.done e)) (fun r=>some (.ret r))) s0
def q2e:Shp:=⟨[j0q,j1d,jxn,q3l,jgr],[qc5,qqy]⟩
def q2d:Shp:=⟨[j0q,j1d,jxn,q3l],[qc5,qqy]⟩
def se{R:Type}(ha f5:Int)(b1:(List af))(ga gd g6:Int)(fi:qL1)(nx:(Int×qL1)→Option R)(dn rt:qL1→Option R):Option R:=bif decide (g6<(b1.length:Int))then aq (ix g6 b1.length)<|aq (ix g6 b1.length)<|aq (ix ha fi.length)<|aq (ix ha fi.length)<|bnd (qt (b1.getD g6.toNat af.z).2.1 (fi.getD ha.toNat 0)) fun r1=>bif (!r1)then aq (d8 .i64 (g6+1))<|nx ((g6+1),fi)else bnd (qgd ha g6 f5 b1 ga gd (0,fi)) fun oe3=>lk oe3 (fun e3=>aq (d8 .i64 (g6+1))<|nx ((g6+1),e3)) (fun r=>rt r)else dn fi
def qge(ha f5:Int)(b1:(List af))(ga gd:Int)(s0:(Int×qL1)):Option (qL1⊕qL1):=bp (fun a=>se ha f5 b1 ga gd a.1 a.2 (fun a' =>some (.next a')) (fun e=>some (.done e)) (fun r=>some (.ret r))) s0
def q2g:Shp:=⟨[j0q,j1d,jxn,q3l],[qc5,qqy]⟩
def q2f:Shp:=⟨[j0q,j1d,jxn],[qc5,qqy]⟩
def y9{R:Type}(f5:Int)(b1:(List af))(ga gd ha:Int)(fi:qL1)(nx:(Int×qL1)→Option R)(dn rt:qL1→Option R):Option R:=bif decide (ha<(fi.length:Int))then bnd (qge ha f5 b1 ga gd (0,fi)) fun oe4=>lk oe4 (fun e4=>aq (d8 .i64 (ha+1))<|nx ((ha+1),e4)) (fun r=>rt r)else dn fi
def qo7(f5:Int)(b1:(List af))(ga gd:Int)(s0:(Int×qL1)):Option (qL1⊕qL1):=bp (fun a=>y9 f5 b1 ga gd a.1 a.2 (fun a' =>some (.next a')) (fun e=>some (.done e)) (fun r=>some (.ret r))) s0
def q2i:Shp:=⟨[j0q,j1d,jxn],[qc5,qqy]⟩
def q2h:Shp:=⟨[(5, .own 0)],[qqy]⟩
def qb3(aa:a7)(c5:Int):Option qL1:=bnd (qo7 aa.1 aa.2.1 aa.2.2.1 aa.2.2.2.1 (0,[c5])) fun oe5=>lk oe5 (fun e5=>some e5) (fun r=>some r)
def tq{R:Type}(eg:Int)(b3:(List af))(en eo b6:Int)(f6:(List af))(gy kk ps pv py g2:Int)(nn:(List af))(nx:(Int×(List af))→Option R)(dn:(List af)→Option R)(rt:a7→Option R):Option R:=bif decide (g2<(b3.length:Int))then aq (ix g2 b3.length)<|aq (ix g2 b3.length)<|aq (room (0+(b3.getD g2.toNat af.z).2.2.1.length) 8)<|aq (room (0+(b3.getD g2.toNat af.z).2.1.length) 8)<|aq (room (nn.length+1) 64)<|aq (d8 .i64 (g2+1))<|nx ((g2+1),(nn++[((b3.getD g2.toNat af.z).1,([]++(b3.getD g2.toNat af.z).2.2.1),([]++(b3.getD g2.toNat af.z).2.1),())]))else dn nn
def qj1(eg:Int)(b3:(List af))(en eo b6:Int)(f6:(List af))(gy kk ps pv py:Int)(s0:(Int×(List af))):Option ((List af)⊕a7):=bp (fun a=>tq eg b3 en eo b6 f6 gy kk ps pv py a.1 a.2 (fun a' =>some (.next a')) (fun e=>some (.done e)) (fun r=>some (.ret r))) s0
def qvz:Shp:=⟨[j0o,(2, .ptr 1),(3, .ptr 2),j1h],[qc5,qm5, .cs 24 4 1 (.cons (.d true qT0) (.cons (.own 3) (.cons (.d true qT0) (.cons (.d true qT0) .nil)))),jw4]⟩
def qvy:Shp:=⟨[j0q,j0d],[qm5,q6l,jw4]⟩
def qbi(aa:a7):Option a7:=bnd (qj1 aa.1 aa.2.1 aa.2.2.1 aa.2.2.2.1 0 [] 0 0 aa.1 aa.2.2.2.1 aa.2.2.1 (0,[])) fun oe1=>lk oe1 (fun e1=>some (aa.1,e1,aa.2.2.2.1,aa.2.2.1,())) (fun r=>some r)
def qbk{R:Type}(ec f7:qL1)(bk:Int)(nx:Int→Option R)(dn:Unit→Option R)(rt:Bool→Option R):Option R:=bif decide (bk<(ec.length:Int))then aq (ix bk ec.length)<|aq (ix bk ec.length)<|bnd (qt f7 (ec.getD bk.toNat 0)) fun r1=>bif r1 then rt true else aq (d8 .i64 (bk+1))<|nx (bk+1)else dn ()
def qs1(ec f7:qL1)(s0:Int):Option (Unit⊕Bool):=bp (fun a=>qbk ec f7 a (fun a' =>some (.next a')) (fun e=>some (.done e)) (fun r=>some (.ret r))) s0
def q4t:Shp:=⟨[jw6,jjc,jjh],[]⟩
def q4s:Shp:=⟨[],[]⟩
def qes(ec f7:qL1):Option Bool:=bnd (qs1 ec f7 0) fun oe2=>lk oe2 (fun e2=>some false) (fun r=>some r)
def np{R:Type}(hx h7:qL1)(eg:Int)(b3:(List af))(en eo bk:Int)(nx:Int→Option R)(dn:Unit→Option R)(rt:Bool→Option R):Option R:=bif decide (bk<eg)then bnd (qt hx bk) fun r5=>bif (!r5)then rt false else bnd (qt h7 bk) fun r6=>bif (!r6)then rt false else aq (d8 .i64 (bk+1))<|nx (bk+1)else dn ()
def qg8(hx h7:qL1)(eg:Int)(b3:(List af))(en eo s0:Int):Option (Unit⊕Bool):=bp (fun a=>np hx h7 eg b3 en eo a (fun a' =>some (.next a')) (fun e=>some (.done e)) (fun r=>some (.ret r))) s0
def qsw:Shp:=⟨[j0o,j1g,j1i,jjh],[qc5]⟩
def qsv:Shp:=⟨[j0o,j1g,j1i],[qc5]⟩
def rh{R:Type}(hx h7:qL1)(eg:Int)(b3:(List af))(en eo ha:Int)(nx:Int→Option R)(dn:Unit→Option R)(rt:Bool→Option R):Option R:=bif decide (ha<(b3.length:Int))then aq (ix ha b3.length)<|aq (ix ha b3.length)<|bnd (qt (b3.getD ha.toNat af.z).2.2.1 en) fun r8=>bif r8 then rt false else bnd (qt (b3.getD ha.toNat af.z).2.1 eo) fun r9=>bif r9 then rt false else bnd (qes (b3.getD ha.toNat af.z).2.1 hx) fun r10=>bif (!r10)then rt false else bnd (qes (b3.getD ha.toNat af.z).2.2.1 h7) fun r11=>bif (!r11)then rt false else aq (d8 .i64 (ha+1))<|nx (ha+1)else dn ()
def qg9(hx h7:qL1)(eg:Int)(b3:(List af))(en eo s0:Int):Option (Unit⊕Bool):=bp (fun a=>rh hx h7 eg b3 en eo a (fun a' =>some (.next a')) (fun e=>some (.done e)) (fun r=>some (.ret r))) s0
def qsy:Shp:=⟨[j0o,j1g,j1i,jxn],[qc5]⟩
def qsx:Shp:=⟨[],[]⟩
def jw(aa:a7):Option Bool:=bnd (sc aa) fun r1=>bif (!r1)then some false else bif decide (aa.2.2.1=aa.2.2.2.1)then some false else bnd (qb3 aa aa.2.2.1) fun r2=>bnd (qbi aa) fun r3=>bnd (qb3 r3 aa.2.2.2.1) fun r4=>bnd (qg8 r2 r4 aa.1 aa.2.1 aa.2.2.1 aa.2.2.2.1 0) fun oe7=>lk oe7 (fun e7=>bnd (qg9 r2 r4 aa.1 aa.2.1 aa.2.2.1 aa.2.2.2.1 0) fun oe12=>lk oe12 (fun e12=>some true) (fun r=>some r)) (fun r=>some r)
def qds(aa:a7)(m2:Int):Option qL1:=aq (q31 aa.1 aa.1 8)<|aq (ix m2 (List.replicate aa.1.toNat (0:Int)).length)<|aq (ix m2 (List.replicate aa.1.toNat (0:Int)).length)<|some ((List.replicate aa.1.toNat (0:Int)).set m2.toNat 1)
def tp{R:Type}(b5:qL1)(bk:Int)(nx:Int→Option R)(dn:Unit→Option R)(rt:Bool→Option R):Option R:=bif decide (bk<(b5.length:Int))then aq (ix bk b5.length)<|aq (ix bk b5.length)<|bif decide ((b5.getD bk.toNat 0)<0)then rt false else aq (ix bk b5.length)<|aq (ix bk b5.length)<|bif decide ((100:Int)<(b5.getD bk.toNat 0))then rt false else aq (d8 .i64 (bk+1))<|nx (bk+1)else dn ()
def qjz(b5:qL1)(s0:Int):Option (Unit⊕Bool):=bp (fun a=>tp b5 a (fun a' =>some (.next a')) (fun e=>some (.done e)) (fun r=>some (.ret r))) s0
def qvx:Shp:=⟨[jjc,jjh],[]⟩
def qvw:Shp:=⟨[],[]⟩
def ie(aa:a7)(b5:qL1):Option Bool:=bif (!decide ((b5.length:Int)=aa.1))then some false else bnd (qjz b5 0) fun oe1=>lk oe1 (fun e1=>some true) (fun r=>some r)
def y3{R:Type}(b5:qL1)(b0 bl:Int)(av:(List af))(bo bs ch:Int)(nx:Int→Option R)(dn:Unit→Option R)(rt:Bool→Option R):Option R:=aq (ix b0 av.length)<|aq (ix b0 av.length)<|bif decide (ch<((av.getD b0.toNat af.z).2.1.length:Int))then aq (ix b0 av.length)<|aq (ix b0 av.length)<|aq (ix ch (av.getD b0.toNat af.z).2.1.length)<|aq (ix ch (av.getD b0.toNat af.z).2.1.length)<|aq (ix ((av.getD b0.toNat af.z).2.1.getD ch.toNat 0) b5.length)<|aq (ix ((av.getD b0.toNat af.z).2.1.getD ch.toNat 0) b5.length)<|bif decide ((b5.getD ((av.getD b0.toNat af.z).2.1.getD ch.toNat 0).toNat 0)<1)then rt false else aq (d8 .i64 (ch+1))<|nx (ch+1)else dn ()
def qxa(b5:qL1)(b0 bl:Int)(av:(List af))(bo bs s0:Int):Option (Unit⊕Bool):=bp (fun a=>y3 b5 b0 bl av bo bs a (fun a' =>some (.next a')) (fun e=>some (.done e)) (fun r=>some (.ret r))) s0
def q76:Shp:=⟨[jjc,qx1,jfo,q3l],[qc5]⟩
def q75:Shp:=⟨[],[]⟩
def qdr(aa:a7)(b5:qL1)(b0:Int):Option Bool:=bnd (qxa b5 b0 aa.1 aa.2.1 aa.2.2.1 aa.2.2.2.1 0) fun oe1=>lk oe1 (fun e1=>some true) (fun r=>some r)
def qbg{R:Type}(b0 bl:Int)(av:(List af))(bo bs cc:Int)(a1:qL1)(nx:(Int×qL1)→Option R)(dn:qL1→Option R)(rt:(Int×qL1)→Option R):Option R:=aq (ix b0 av.length)<|aq (ix b0 av.length)<|bif decide (cc<((av.getD b0.toNat af.z).2.1.length:Int))then aq (ix b0 av.length)<|aq (ix b0 av.length)<|aq (ix cc (av.getD b0.toNat af.z).2.1.length)<|aq (ix cc (av.getD b0.toNat af.z).2.1.length)<|aq (ix b0 av.length)<|aq (ix b0 av.length)<|aq (ix cc (av.getD b0.toNat af.z).2.1.length)<|aq (ix cc (av.getD b0.toNat af.z).2.1.length)<|aq (ix ((av.getD b0.toNat af.z).2.1.getD cc.toNat 0) a1.length)<|aq (ix ((av.getD b0.toNat af.z).2.1.getD cc.toNat 0) a1.length)<|aq (d8 .i64 ((a1.getD ((av.getD b0.toNat af.z).2.1.getD cc.toNat 0).toNat 0)-1))<|aq (ix ((av.getD b0.toNat af.z).2.1.getD cc.toNat 0) a1.length)<|aq (ix ((av.getD b0.toNat af.z).2.1.getD cc.toNat 0) a1.length)<|aq (d8 .i64 (cc+1))<|nx ((cc+1),(a1.set ((av.getD b0.toNat af.z).2.1.getD cc.toNat 0).toNat ((a1.getD ((av.getD b0.toNat af.z).2.1.getD cc.toNat 0).toNat 0)-1)))else dn a1
def qso(b0 bl:Int)(av:(List af))(bo bs:Int)(s0:(Int×qL1)):Option (qL1⊕(Int×qL1)):=bp (fun a=>qbg b0 bl av bo bs a.1 a.2 (fun a' =>some (.next a')) (fun e=>some (.done e)) (fun r=>some (.ret r))) s0
def q4i:Shp:=⟨[qx1,jfo,j0e,jqa],[qc5,qqy]⟩
def q4h:Shp:=⟨[qx1,jfo,j0e],[qc5,qqy]⟩
def qbh{R:Type}(b0 bl:Int)(av:(List af))(bo bs ef:Int)(a1:qL1)(nx:(Int×qL1)→Option R)(dn:qL1→Option R)(rt:(Int×qL1)→Option R):Option R:=aq (ix b0 av.length)<|aq (ix b0 av.length)<|bif decide (ef<((av.getD b0.toNat af.z).2.2.1.length:Int))then aq (ix b0 av.length)<|aq (ix b0 av.length)<|aq (ix ef (av.getD b0.toNat af.z).2.2.1.length)<|aq (ix ef (av.getD b0.toNat af.z).2.2.1.length)<|aq (ix b0 av.length)<|aq (ix b0 av.length)<|aq (ix ef (av.getD b0.toNat af.z).2.2.1.length)<|aq (ix ef (av.getD b0.toNat af.z).2.2.1.length)<|aq (ix ((av.getD b0.toNat af.z).2.2.1.getD ef.toNat 0) a1.length)<|aq (ix ((av.getD b0.toNat af.z).2.2.1.getD ef.toNat 0) a1.length)<|aq (d8 .i64 ((a1.getD ((av.getD b0.toNat af.z).2.2.1.getD ef.toNat 0).toNat 0)+1))<|aq (ix ((av.getD b0.toNat af.z).2.2.1.getD ef.toNat 0) a1.length)<|aq (ix ((av.getD b0.toNat af.z).2.2.1.getD ef.toNat 0) a1.length)<|aq (d8 .i64 (ef+1))<|nx ((ef+1),(a1.set ((av.getD b0.toNat af.z).2.2.1.getD ef.toNat 0).toNat ((a1.getD ((av.getD b0.toNat af.z).2.2.1.getD ef.toNat 0).toNat 0)+1)))else dn a1
def qsp(b0 bl:Int)(av:(List af))(bo bs:Int)(s0:(Int×qL1)):Option (qL1⊕(Int×qL1)):=bp (fun a=>qbh b0 bl av bo bs a.1 a.2 (fun a' =>some (.next a')) (fun e=>some (.done e)) (fun r=>some (.ret r))) s0
def q4k:Shp:=⟨[qx1,jfo,j0e,jlc],[qc5,qqy]⟩
def q4j:Shp:=⟨[jfo,j0e],[qc5,qqy]⟩
def gg(aa:a7)(b5:qL1)(b0:Int):Option (Int×qL1):=bnd (sc aa) fun r1=>bif (!r1)then some (1,[])else bnd (ie aa b5) fun r2=>bif (!r2)then some (1,[])else bif decide (b0<0)then some (2,[])else bif decide ((aa.2.1.length:Int)≤b0)then some (2,[])else bnd (qdr aa b5 b0) fun r3=>bif (!r3)then some (12,[])else aq (room (0+b5.length) 8)<|bnd (qso b0 aa.1 aa.2.1 aa.2.2.1 aa.2.2.2.1 (0,([]++b5))) fun oe4=>lk oe4 (fun e4=>bnd (qsp b0 aa.1 aa.2.1 aa.2.2.1 aa.2.2.2.1 (0,e4)) fun oe5=>lk oe5 (fun e5=>bnd (ie aa e5) fun r6=>bif (!r6)then some (5,[])else some (0,e5)) (fun r=>some r)) (fun r=>some r)
def y5{R:Type}(c4:qL1)(bl:Int)(av:(List af))(bo bs:Int)(c1:qL1)(ef:Int)(nx:(qL1×Int)→Option R)(dn:qL1→Option R)(rt:(qL1×Int×Int)→Option R):Option R:=bif decide (ef<(c4.length:Int))then aq (ix ef c4.length)<|aq (ix ef c4.length)<|bnd (gg (bl,av,bo,bs,()) c1 (c4.getD ef.toNat 0)) fun r3=>bif (!decide (r3.1=0))then rt ([],ef,r3.1)else aq (d8 .i64 (ef+1))<|nx (r3.2,(ef+1))else dn c1
def qxf(c4:qL1)(bl:Int)(av:(List af))(bo bs:Int)(s0:(qL1×Int)):Option (qL1⊕(qL1×Int×Int)):=bp (fun a=>y5 c4 bl av bo bs a.1 a.2 (fun a' =>some (.next a')) (fun e=>some (.done e)) (fun r=>some (.ret r))) s0
def q8c:Shp:=⟨[jz7,jfo,j01,jlc],[qc5]⟩
def q8b:Shp:=⟨[jz7,j01],[]⟩
def qni(aa:a7)(b5 c4:qL1):Option (qL1×Int×Int):=bnd (sc aa) fun r1=>bif (!r1)then some ([],0,1)else bnd (ie aa b5) fun r2=>bif (!r2)then some ([],0,1)else bif decide ((1000:Int)<(c4.length:Int))then some ([],0,5)else aq (room (0+b5.length) 8)<|bnd (qxf c4 aa.1 aa.2.1 aa.2.2.1 aa.2.2.2.1 (([]++b5),0)) fun oe4=>lk oe4 (fun e4=>some (e4,(c4.length:Int),0)) (fun r=>some r)
def qbj{R:Type}(b4:qL1)(f5:Int)(b1:(List af))(ga gd ch:Int)(hb:(List ByteArray))(nx:(Int×(List ByteArray))→Option R)(dn:(List ByteArray)→Option R)(rt:(Int×(List ByteArray))→Option R):Option R:=bif decide (ch<(b4.length:Int))then aq (ix ch b4.length)<|aq (ix ch b4.length)<|bif decide ((b4.getD ch.toNat 0)<0)then rt (2,[])else aq (ix ch b4.length)<|aq (ix ch b4.length)<|bif decide ((b1.length:Int)≤(b4.getD ch.toNat 0))then rt (2,[])else aq (ix ch b4.length)<|aq (ix ch b4.length)<|aq (ix (b4.getD ch.toNat 0) b1.length)<|aq (ix (b4.getD ch.toNat 0) b1.length)<|bif (!(ByteArray.toList (b1.getD (b4.getD ch.toNat 0).toNat af.z).1==ByteArray.toList ⟨#[]⟩))then aq (ix ch b4.length)<|aq (ix ch b4.length)<|aq (ix (b4.getD ch.toNat 0) b1.length)<|aq (ix (b4.getD ch.toNat 0) b1.length)<|aq (room (hb.length+1) 16)<|aq (d8 .i64 (ch+1))<|nx ((ch+1),(hb++[(b1.getD (b4.getD ch.toNat 0).toNat af.z).1]))else aq (d8 .i64 (ch+1))<|nx ((ch+1),hb)else dn hb
def qst(b4:qL1)(f5:Int)(b1:(List af))(ga gd:Int)(s0:(Int×(List ByteArray))):Option ((List ByteArray)⊕(Int×(List ByteArray))):=bp (fun a=>qbj b4 f5 b1 ga gd a.1 a.2 (fun a' =>some (.next a')) (fun e=>some (.done e)) (fun r=>some (.ret r))) s0
def q4n:Shp:=⟨[jjc,j0q,(6, .nl false (.own 1)),q3l],[qc5,jgs]⟩
def q4m:Shp:=⟨[j0r],[jgs]⟩
def qir(aa:a7)(b4:qL1):Option (Int×(List ByteArray)):=bnd (sc aa) fun r1=>bif (!r1)then some (1,[])else bif decide ((1000:Int)<(b4.length:Int))then some (5,[])else bnd (qst b4 aa.1 aa.2.1 aa.2.2.1 aa.2.2.2.1 (0,[])) fun oe2=>lk oe2 (fun e2=>some (0,e2)) (fun r=>some r)
def og(aa:a7)(ml:qL1):Option (qL1×Bool×(List ByteArray)):=bnd (qds aa aa.2.2.1) fun r1=>bnd (qni aa r1 ml) fun r2=>bif (!decide (r2.2.2=0))then some ([],false,[])else bnd (qir aa ml) fun r3=>some (r2.1,true,r3.2)
def yd(ap a0:a7)(dc:qL1)(bw:Int):Option Int:=bnd (jw ap) fun r1=>bif (!r1)then some 1 else bnd (jw a0) fun r2=>bif (!r2)then some 1 else bnd (og ap dc) fun r3=>bif (!r3.2.1)then some 12 else bif decide (bw<1)then some 2 else bif decide ((2000:Int)<bw)then some 2 else some 0
def zc{R:Type}(dd:(List ab))(g2:Int)(o1:(List ab))(nx:(Int×(List ab))→Option R)(dn rt:(List ab)→Option R):Option R:=bif decide (g2<(dd.length:Int))then aq (ix g2 dd.length)<|aq (ix g2 dd.length)<|aq (ix g2 dd.length)<|aq (ix g2 dd.length)<|aq (room (o1.length+1) 48)<|aq (d8 .i64 (g2+1))<|nx ((g2+1),(o1++[(dd.getD g2.toNat ab.z)]))else dn o1
def qpb(dd:(List ab))(s0:(Int×(List ab))):Option ((List ab)⊕(List ab)):=bp (fun a=>zc dd a.1 a.2 (fun a' =>some (.next a')) (fun e=>some (.done e)) (fun r=>some (.ret r))) s0
def q2w:Shp:=⟨[(0, .d true (.slice ab.ty)),(3, .nl false (.own 0)),j1h],[qzk]⟩
def q2v:Shp:=⟨[(3, .nl false (.own 0))],[qzk]⟩
def qfy(dd:(List ab)):Option (List ab):=bnd (qpb dd (0,[])) fun oe1=>lk oe1 (fun e1=>some e1) (fun r=>some r)
def tn{R:Type}(ec f7:(List ByteArray))(bk:Int)(nx:Int→Option R)(dn:Unit→Option R)(rt:Int→Option R):Option R:=bif decide (bk<(ec.length:Int))then bif decide (bk<(f7.length:Int))then aq (ix bk ec.length)<|aq (ix bk ec.length)<|aq (ix bk f7.length)<|aq (ix bk f7.length)<|bif (Op.bytesLess (ByteArray.toList (ec.getD bk.toNat ⟨#[]⟩)) (ByteArray.toList (f7.getD bk.toNat ⟨#[]⟩)))then rt (-1)else aq (ix bk ec.length)<|aq (ix bk ec.length)<|aq (ix bk f7.length)<|aq (ix bk f7.length)<|bif (!(Op.bytesLess (ByteArray.toList (ec.getD bk.toNat ⟨#[]⟩)) (ByteArray.toList (f7.getD bk.toNat ⟨#[]⟩))||ByteArray.toList (ec.getD bk.toNat ⟨#[]⟩)==ByteArray.toList (f7.getD bk.toNat ⟨#[]⟩)))then rt 1 else aq (d8 .i64 (bk+1))<|nx (bk+1)else dn ()else dn ()
def qjv(ec f7:(List ByteArray))(s0:Int):Option (Unit⊕Int):=bp (fun a=>tn ec f7 a (fun a' =>some (.next a')) (fun e=>some (.done e)) (fun r=>some (.ret r))) s0
def qvs:Shp:=⟨[j0v,q3k,jjh],[]⟩
def qvr:Shp:=⟨[j0v,q3k],[]⟩
def qgc(ec f7:(List ByteArray)):Option Int:=bnd (qjv ec f7 0) fun oe1=>lk oe1 (fun e1=>bif decide ((ec.length:Int)<(f7.length:Int))then some (-1)else bif decide ((f7.length:Int)<(ec.length:Int))then some 1 else some 0) (fun r=>some r)
def qim(ec f7:(List ByteArray)):Option Bool:=bnd (qgc ec f7) fun r1=>some (decide (r1=0))
def oz{R:Type}(ec f7:qL1)(bk:Int)(nx:Int→Option R)(dn:Unit→Option R)(rt:Bool→Option R):Option R:=bif decide (bk<(ec.length:Int))then aq (ix bk ec.length)<|aq (ix bk ec.length)<|aq (ix bk f7.length)<|aq (ix bk f7.length)<|bif (!decide ((ec.getD bk.toNat 0)=(f7.getD bk.toNat 0)))then rt false else aq (d8 .i64 (bk+1))<|nx (bk+1)else dn ()
def qjx(ec f7:qL1)(s0:Int):Option (Unit⊕Bool):=bp (fun a=>oz ec f7 a (fun a' =>some (.next a')) (fun e=>some (.done e)) (fun r=>some (.ret r))) s0
def qvv:Shp:=⟨[jw6,jjc,jjh],[]⟩
def qvu:Shp:=⟨[],[]⟩
def jm(ec f7:qL1):Option Bool:=bif (!decide ((ec.length:Int)=(f7.length:Int)))then some false else bnd (qjx ec f7 0) fun oe1=>lk oe1 (fun e1=>some true) (fun r=>some r)
def ri{R:Type}(c4:(List ab))(hm:Int)(hn:(List af))(ho hp hi:Int)(hj:(List af))(hk hl ch:Int)(nx:Int→Option R)(dn:Unit→Option R)(rt:Bool→Option R):Option R:=bif decide (ch<(c4.length:Int))then aq (ix ch c4.length)<|aq (ix ch c4.length)<|bnd (ie (hm,hn,ho,hp,()) (c4.getD ch.toNat ab.z).1) fun r1=>bif (!r1)then rt false else aq (ix ch c4.length)<|aq (ix ch c4.length)<|bnd (ie (hi,hj,hk,hl,()) (c4.getD ch.toNat ab.z).2.1) fun r2=>bif (!r2)then rt false else aq (d8 .i64 (ch+1))<|nx (ch+1)else dn ()
def qhb(c4:(List ab))(hm:Int)(hn:(List af))(ho hp hi:Int)(hj:(List af))(hk hl s0:Int):Option (Unit⊕Bool):=bp (fun a=>ri c4 hm hn ho hp hi hj hk hl a (fun a' =>some (.next a')) (fun e=>some (.done e)) (fun r=>some (.ret r))) s0
def qs5:Shp:=⟨[jcd,jfo,j1j,q3l],[qc5,qc5]⟩
def qs4:Shp:=⟨[],[]⟩
def zb(ap a0:a7)(c4:(List ab)):Option Bool:=bnd (qhb c4 ap.1 ap.2.1 ap.2.2.1 ap.2.2.2.1 a0.1 a0.2.1 a0.2.2.1 a0.2.2.2.1 0) fun oe3=>lk oe3 (fun e3=>some true) (fun r=>some r)
def qfx{R:Type}(dd:(List ab))(lc p4:qL1)(ch:Int)(nx:Int→Option R)(dn:Unit→Option R)(rt:Bool→Option R):Option R:=bif decide (ch<(dd.length:Int))then aq (ix ch dd.length)<|aq (ix ch dd.length)<|bnd (jm (dd.getD ch.toNat ab.z).1 lc) fun r1=>bif r1 then aq (ix ch dd.length)<|aq (ix ch dd.length)<|bnd (jm (dd.getD ch.toNat ab.z).2.1 p4) fun r2=>bif r2 then rt true else aq (d8 .i64 (ch+1))<|nx (ch+1)else aq (d8 .i64 (ch+1))<|nx (ch+1)else dn ()
def q2t(dd:(List ab))(lc p4:qL1)(s0:Int):Option (Unit⊕Bool):=bp (fun a=>qfx dd lc p4 a (fun a' =>some (.next a')) (fun e=>some (.done e)) (fun r=>some (.ret r))) s0
def jba:Shp:=⟨[q85,jjc,jz7,q3l],[]⟩
def ja9:Shp:=⟨[],[]⟩
def qew(dd:(List ab))(lc p4:qL1):Option Bool:=bnd (q2t dd lc p4 0) fun oe3=>lk oe3 (fun e3=>some false) (fun r=>some r)
def sk(aa:a7)(b5:qL1):Option Bool:=bnd (qds aa aa.2.2.2.1) fun r1=>bnd (jm b5 r1) fun r2=>some r2
def nq{R:Type}(b4:(List ab))(gw:ByteArray)(le li:qL1)(a4:Int)(a2:(List af))(a5 a6 i0:Int)(nx:Int→Option R)(dn:Unit→Option R)(rt:Bool→Option R):Option R:=bif decide (i0<(a2.length:Int))then aq (ix i0 a2.length)<|aq (ix i0 a2.length)<|bif (!(ByteArray.toList (a2.getD i0.toNat af.z).1==ByteArray.toList gw))then aq (d8 .i64 (i0+1))<|nx (i0+1)else bnd (gg (a4,a2,a5,a6,()) li i0) fun r2=>bif decide (r2.1=0)then bnd (qew b4 le r2.2) fun r3=>bif r3 then rt true else aq (d8 .i64 (i0+1))<|nx (i0+1)else aq (d8 .i64 (i0+1))<|nx (i0+1)else dn ()
def qhe(b4:(List ab))(gw:ByteArray)(le li:qL1)(a4:Int)(a2:(List af))(a5 a6 s0:Int):Option (Unit⊕Bool):=bp (fun a=>nq b4 gw le li a4 a2 a5 a6 a (fun a' =>some (.next a')) (fun e=>some (.done e)) (fun r=>some (.ret r))) s0
def qti:Shp:=⟨[j0n,(2, .d true .str),j0m,(4, .d false qT1),(5, .ptr 0),j0h],[qc5]⟩
def qth:Shp:=⟨[],[]⟩
def zf{R:Type}(b4:(List ab))(gw:ByteArray)(le li:qL1)(a4:Int)(a2:(List af))(a5 a6:Int)(dn:Unit→Option R)(rt:Bool→Option R):Option R:=bnd (qhe b4 gw le li a4 a2 a5 a6 0) fun oe4=>lk oe4 (fun e4=>rt false) (fun r=>rt r)
def tu(b4:(List ab))(gw:ByteArray)(le li:qL1)(a4:Int)(a2:(List af))(a5 a6:Int):Option (Unit⊕Bool):=zf b4 gw le li a4 a2 a5 a6 (fun e=>some (.inl e)) (fun r=>some (.inr r))
def qtk:Shp:=⟨[j0n,(2, .d true .str),j0m,(4, .d false qT1),(5, .ptr 0)],[qc5]⟩
def qtj:Shp:=⟨[],[]⟩
def sj(j0:a7)(b4:(List ab))(gw:ByteArray)(le li:qL1):Option Bool:=bif (ByteArray.toList gw==ByteArray.toList ⟨#[]⟩)then bnd (qew b4 le li) fun r1=>bif r1 then some true else bnd (tu b4 gw le li j0.1 j0.2.1 j0.2.2.1 j0.2.2.2.1) fun oe5=>lk oe5 (fun e5=>none) (fun r=>some r)else bnd (tu b4 gw le li j0.1 j0.2.1 j0.2.2.1 j0.2.2.2.1) fun oe6=>lk oe6 (fun e6=>none) (fun r=>some r)
def si{R:Type}(c4:(List ab))(bd:Int)(a9:(List af))(be bf a4:Int)(a2:(List af))(a5 a6:Int)(k3 l2:qL1)(lv:Int)(nx:Int→Option R)(dn:Unit→Option R)(rt:Bool→Option R):Option R:=bif decide (lv<(a9.length:Int))then bnd (qdr (bd,a9,be,bf,()) k3 lv) fun r3=>bif (!r3)then aq (d8 .i64 (lv+1))<|nx (lv+1)else bnd (gg (bd,a9,be,bf,()) k3 lv) fun r4=>bif (!decide (r4.1=0))then rt false else aq (ix lv a9.length)<|aq (ix lv a9.length)<|bnd (sj (a4,a2,a5,a6,()) c4 (a9.getD lv.toNat af.z).1 r4.2 l2) fun r5=>bif (!r5)then rt false else aq (d8 .i64 (lv+1))<|nx (lv+1)else dn ()
def qpd(c4:(List ab))(bd:Int)(a9:(List af))(be bf a4:Int)(a2:(List af))(a5 a6:Int)(k3 l2:qL1)(s0:Int):Option (Unit⊕Bool):=bp (fun a=>si c4 bd a9 be bf a4 a2 a5 a6 k3 l2 a (fun a' =>some (.next a')) (fun e=>some (.done e)) (fun r=>some (.ret r))) s0
def q2z:Shp:=⟨[jcd,jw2,jw3,j1m,jqa],[qc5,qc5,jw7]⟩
def q2y:Shp:=⟨[],[]⟩
def qex{R:Type}(c4:(List ab))(bd:Int)(a9:(List af))(be bf a4:Int)(a2:(List af))(a5 a6:Int)(k3 l2:qL1)(dn:Unit→Option R)(rt:Bool→Option R):Option R:=bnd (qpd c4 bd a9 be bf a4 a2 a5 a6 k3 l2 0) fun oe6=>lk oe6 (fun e6=>rt true) (fun r=>rt r)
def qbl(c4:(List ab))(bd:Int)(a9:(List af))(be bf a4:Int)(a2:(List af))(a5 a6:Int)(k3 l2:qL1):Option (Unit⊕Bool):=qex c4 bd a9 be bf a4 a2 a5 a6 k3 l2 (fun e=>some (.inl e)) (fun r=>some (.inr r))
def q21:Shp:=⟨[jcd,jw2,jw3,j1m],[qc5,qc5,jw7]⟩
def q20:Shp:=⟨[],[]⟩
def sg(ap a0:a7)(c4:(List ab))(oo:ab):Option Bool:=bnd (sk ap oo.1) fun r1=>bif r1 then bnd (sk a0 oo.2.1) fun r2=>bif (!r2)then some false else bnd (qbl c4 ap.1 ap.2.1 ap.2.2.1 ap.2.2.2.1 a0.1 a0.2.1 a0.2.2.1 a0.2.2.2.1 oo.1 oo.2.1) fun oe7=>lk oe7 (fun e7=>none) (fun r=>some r)else bnd (qbl c4 ap.1 ap.2.1 ap.2.2.1 ap.2.2.2.1 a0.1 a0.2.1 a0.2.2.1 a0.2.2.2.1 oo.1 oo.2.1) fun oe8=>lk oe8 (fun e8=>none) (fun r=>some r)
def ze{R:Type}(c4:(List ab))(hm:Int)(hn:(List af))(ho hp hi:Int)(hj:(List af))(hk hl ch:Int)(nx:Int→Option R)(dn:Unit→Option R)(rt:Int→Option R):Option R:=bif decide (ch<(c4.length:Int))then aq (ix ch c4.length)<|aq (ix ch c4.length)<|bnd (sg (hm,hn,ho,hp,()) (hi,hj,hk,hl,()) c4 (c4.getD ch.toNat ab.z)) fun r1=>bif (!r1)then rt ch else aq (d8 .i64 (ch+1))<|nx (ch+1)else dn ()
def qpf(c4:(List ab))(hm:Int)(hn:(List af))(ho hp hi:Int)(hj:(List af))(hk hl s0:Int):Option (Unit⊕Int):=bp (fun a=>ze c4 hm hn ho hp hi hj hk hl a (fun a' =>some (.next a')) (fun e=>some (.done e)) (fun r=>some (.ret r))) s0
def q23:Shp:=⟨[jcd,jfo,j1j,q3l],[qc5,qc5]⟩
def q22:Shp:=⟨[],[]⟩
def qf1(ap a0:a7)(c4:(List ab)):Option Int:=bnd (qpf c4 ap.1 ap.2.1 ap.2.2.1 ap.2.2.2.1 a0.1 a0.2.1 a0.2.2.1 a0.2.2.2.1 0) fun oe2=>lk oe2 (fun e2=>some (-1)) (fun r=>some r)
def qfw(ap a0:a7)(dc:qL1)(jn:dg):Option Bool:=bnd (jw ap) fun r1=>bif (!r1)then some false else bnd (jw a0) fun r2=>bif (!r2)then some false else bif decide ((20000:Int)<(jn.2.2.1.length:Int))then some false else bnd (og ap dc) fun r3=>bnd (og a0 jn.2.1) fun r4=>bnd (qfy jn.2.2.1) fun r5=>bif (!r3.2.1)then some false else bif (!r4.2.1)then some false else bnd (qim r3.2.2 r4.2.2) fun r6=>bif (!r6)then some false else bnd (jm r4.1 jn.1) fun r7=>bif (!r7)then some false else bnd (zb ap a0 r5) fun r8=>bif (!r8)then some false else bnd (qew r5 r3.1 r4.1) fun r9=>bif r9 then bnd (qf1 ap a0 r5) fun r10=>some (decide (r10<0))else some false
def mn{R:Type}(f2:(List ByteArray))(a3 cc f1 k2:Int)(p5:qL1)(bl:Int)(av:(List af))(bo bs:Int)(a1:(List ae))(l1:Bool)(ih:Int)(nx:(Bool×Int)→Option R)(dn:Bool→Option R)(rt:(Bool×(List ae))→Option R):Option R:=bif decide (ih<(a1.length:Int))then bif (!l1)then aq (ix ih a1.length)<|aq (ix ih a1.length)<|bif decide ((a1.getD ih.toNat ae.z).1=k2)then aq (ix ih a1.length)<|aq (ix ih a1.length)<|bnd (jm (a1.getD ih.toNat ae.z).2.1 p5) fun r3=>aq (d8 .i64 (ih+1))<|nx (r3,(ih+1))else aq (d8 .i64 (ih+1))<|nx (false,(ih+1))else dn l1 else dn l1
def zd(f2:(List ByteArray))(a3 cc f1 k2:Int)(p5:qL1)(bl:Int)(av:(List af))(bo bs:Int)(a1:(List ae))(s0:(Bool×Int)):Option (Bool⊕(Bool×(List ae))):=bp (fun a=>mn f2 a3 cc f1 k2 p5 bl av bo bs a1 a.1 a.2 (fun a' =>some (.next a')) (fun e=>some (.done e)) (fun r=>some (.ret r))) s0
def qqh:Shp:=⟨[q3k,qx1,jfo,j0e,jqa,jlc,j0h,j05,(14, .d true .bool),j06],[qc5,qx0]⟩
def qqg:Shp:=⟨[q3k,qx1,jfo,j0e,jqa,jlc,j0h,j05,(14, .d true .bool)],[qc5,qx0]⟩
def wy{R:Type}(f2:(List ByteArray))(a3 cc f1 k2 bl:Int)(av:(List af))(bo bs:Int)(a1:(List ae))(dn:(List ae)→Option R)(rt:(Bool×(List ae))→Option R):Option R:=aq (ix cc a1.length)<|aq (ix cc a1.length)<|bnd (gg (bl,av,bo,bs,()) (a1.getD cc.toNat ae.z).2.1 f1) fun r2=>bnd (zd f2 a3 cc f1 k2 r2.2 bl av bo bs a1 ((!decide (r2.1=0)),0)) fun oe4=>lk oe4 (fun e4=>bif (!e4)then aq (ix cc a1.length)<|aq (ix cc a1.length)<|aq (room (0+(a1.getD cc.toNat ae.z).2.2.1.length) 8)<|aq (room (([]++(a1.getD cc.toNat ae.z).2.2.1).length+1) 8)<|aq (room (a1.length+1) 56)<|dn (a1++[(k2,r2.2,(([]++(a1.getD cc.toNat ae.z).2.2.1)++[f1]),())])else dn a1) (fun r=>rt r)
def rk(f2:(List ByteArray))(a3 cc f1 k2 bl:Int)(av:(List af))(bo bs:Int)(a1:(List ae)):Option ((List ae)⊕(Bool×(List ae))):=wy f2 a3 cc f1 k2 bl av bo bs a1 (fun e=>some (.inl e)) (fun r=>some (.inr r))
def qqn:Shp:=⟨[q3k,qx1,jfo,j0e,jqa,jlc,j0h],[qc5,qx0]⟩
def qqm:Shp:=⟨[q3k,qx1,jfo,j0e,jqa,jlc],[qc5,qx0]⟩
def gh{R:Type}(f2:(List ByteArray))(a3 cc bl:Int)(av:(List af))(bo bs f1:Int)(a1:(List ae))(nx:(Int×(List ae))→Option R)(dn:(List ae)→Option R)(rt:(Bool×(List ae))→Option R):Option R:=bif decide (f1<(av.length:Int))then bif decide ((a1.length:Int)≤a3)then aq (ix cc a1.length)<|aq (ix cc a1.length)<|aq (ix f1 av.length)<|aq (ix f1 av.length)<|bif (!(ByteArray.toList (av.getD f1.toNat af.z).1==ByteArray.toList ⟨#[]⟩))then bif decide ((f2.length:Int)≤(a1.getD cc.toNat ae.z).1)then aq (d8 .i64 (f1+1))<|nx ((f1+1),a1)else aq (ix (a1.getD cc.toNat ae.z).1 f2.length)<|aq (ix (a1.getD cc.toNat ae.z).1 f2.length)<|aq (ix f1 av.length)<|aq (ix f1 av.length)<|bif (!(ByteArray.toList (f2.getD (Int.toNat (a1.getD cc.toNat ae.z).1) ⟨#[]⟩)==ByteArray.toList (av.getD f1.toNat af.z).1))then aq (d8 .i64 (f1+1))<|nx ((f1+1),a1)else aq (d8 .i64 ((a1.getD cc.toNat ae.z).1+1))<|bnd (rk f2 a3 cc f1 ((a1.getD cc.toNat ae.z).1+1) bl av bo bs a1) fun oe5=>lk oe5 (fun e5=>aq (d8 .i64 (f1+1))<|nx ((f1+1),e5)) (fun r=>rt r)else bnd (rk f2 a3 cc f1 (a1.getD cc.toNat ae.z).1 bl av bo bs a1) fun oe6=>lk oe6 (fun e6=>aq (d8 .i64 (f1+1))<|nx ((f1+1),e6)) (fun r=>rt r)else dn a1 else dn a1
def rj(f2:(List ByteArray))(a3 cc bl:Int)(av:(List af))(bo bs:Int)(s0:(Int×(List ae))):Option ((List ae)⊕(Bool×(List ae))):=bp (fun a=>gh f2 a3 cc bl av bo bs a.1 a.2 (fun a' =>some (.next a')) (fun e=>some (.done e)) (fun r=>some (.ret r))) s0
def qqj:Shp:=⟨[q3k,qx1,jfo,j0e,jqa,jlc],[qc5,qx0]⟩
def qqi:Shp:=⟨[q3k,qx1,jfo,j0e,jqa],[qc5,qx0]⟩
def jj{R:Type}(f2:(List ByteArray))(a3 bl:Int)(av:(List af))(bo bs cc:Int)(a1:(List ae))(nx:(Int×(List ae))→Option R)(dn:(List ae)→Option R)(rt:(Bool×(List ae))→Option R):Option R:=bif decide (cc<(a1.length:Int))then bif decide (cc<a3)then bnd (rj f2 a3 cc bl av bo bs (0,a1)) fun oe7=>lk oe7 (fun e7=>aq (d8 .i64 (cc+1))<|nx ((cc+1),e7)) (fun r=>rt r)else dn a1 else dn a1
def qfz(f2:(List ByteArray))(a3 bl:Int)(av:(List af))(bo bs:Int)(s0:(Int×(List ae))):Option ((List ae)⊕(Bool×(List ae))):=bp (fun a=>jj f2 a3 bl av bo bs a.1 a.2 (fun a' =>some (.next a')) (fun e=>some (.done e)) (fun r=>some (.ret r))) s0
def qql:Shp:=⟨[q3k,qx1,jfo,j0e,jqa],[qc5,qx0]⟩
def qqk:Shp:=⟨[qx1,(8, .own 0)],[qx0]⟩
def wm(aa:a7)(f2:(List ByteArray))(a3:Int):Option (Bool×(List ae)):=bnd (qds aa aa.2.2.1) fun r1=>bnd (qfz f2 a3 aa.1 aa.2.1 aa.2.2.1 aa.2.2.2.1 (0,[(0,r1,[],())])) fun oe8=>lk oe8 (fun e8=>some (decide (a3<(e8.length:Int)),e8)) (fun r=>some r)
def qdk{R:Type}(dd:qL2)(b5:qL1)(bk:Int)(nx:Int→Option R)(dn:Unit→Option R)(rt:Bool→Option R):Option R:=bif decide (bk<(dd.length:Int))then aq (ix bk dd.length)<|aq (ix bk dd.length)<|bnd (jm (dd.getD bk.toNat []) b5) fun r1=>bif r1 then rt true else aq (d8 .i64 (bk+1))<|nx (bk+1)else dn ()
def qxn(dd:qL2)(b5:qL1)(s0:Int):Option (Unit⊕Bool):=bp (fun a=>qdk dd b5 a (fun a' =>some (.next a')) (fun e=>some (.done e)) (fun r=>some (.ret r))) s0
def q8l:Shp:=⟨[(0, .d false qT2),jjc,jjh],[]⟩
def q8k:Shp:=⟨[],[]⟩
def qhg(dd:qL2)(b5:qL1):Option Bool:=bnd (qxn dd b5 0) fun oe2=>lk oe2 (fun e2=>some false) (fun r=>some r)
def tv{R:Type}(a3:Int)(c5:qL2)(bl:Int)(av:(List af))(bo bs cc:Int)(a1:qL2)(nx:(Int×qL2)→Option R)(dn:qL2→Option R)(rt:(Bool×qL2×qL2)→Option R):Option R:=bif decide (cc<(c5.length:Int))then aq (ix cc c5.length)<|aq (ix cc c5.length)<|bnd (qhg a1 (c5.getD cc.toNat [])) fun r1=>bif (!r1)then aq (ix cc c5.length)<|aq (ix cc c5.length)<|aq (room (a1.length+1) 24)<|aq (d8 .i64 (cc+1))<|nx ((cc+1),(a1++[(c5.getD cc.toNat [])]))else aq (d8 .i64 (cc+1))<|nx ((cc+1),a1)else dn a1
def qj9(a3:Int)(c5:qL2)(bl:Int)(av:(List af))(bo bs:Int)(s0:(Int×qL2)):Option (qL2⊕(Bool×qL2×qL2)):=bp (fun a=>tv a3 c5 bl av bo bs a.1 a.2 (fun a' =>some (.next a')) (fun e=>some (.done e)) (fun r=>some (.ret r))) s0
def qv7:Shp:=⟨[(1, .own 0),qx1,j0d,jz6,jqa],[qe6,qc5,qe6]⟩
def qv6:Shp:=⟨[qx1,j0d,jz6],[qe6,qc5,qe6]⟩
def tw{R:Type}(a3 ef:Int)(k0:qL2)(bl:Int)(av:(List af))(bo bs k4:Int)(a1:qL2)(nx:(Int×qL2)→Option R)(dn:qL2→Option R)(rt:(Bool×qL2×qL2)→Option R):Option R:=bif decide (k4<(av.length:Int))then aq (ix ef a1.length)<|aq (ix ef a1.length)<|bnd (gg (bl,av,bo,bs,()) (a1.getD ef.toNat []) k4) fun r3=>bif decide (r3.1=0)then bnd (qhg a1 r3.2) fun r4=>bif (!r4)then aq (room (a1.length+1) 24)<|aq (d8 .i64 (k4+1))<|nx ((k4+1),(a1++[r3.2]))else aq (d8 .i64 (k4+1))<|nx ((k4+1),a1)else aq (d8 .i64 (k4+1))<|nx ((k4+1),a1)else dn a1
def qka(a3 ef:Int)(k0:qL2)(bl:Int)(av:(List af))(bo bs:Int)(s0:(Int×qL2)):Option (qL2⊕(Bool×qL2×qL2)):=bp (fun a=>tw a3 ef k0 bl av bo bs a.1 a.2 (fun a' =>some (.next a')) (fun e=>some (.done e)) (fun r=>some (.ret r))) s0
def qv9:Shp:=⟨[qx1,j0d,jz6,jlc,j0h],[qe6,qc5,qe6]⟩
def qv8:Shp:=⟨[qx1,j0d,jz6,jlc],[qe6,qc5,qe6]⟩
def o7{R:Type}(a3:Int)(k0:qL2)(bl:Int)(av:(List af))(bo bs ef:Int)(a1:qL2)(nx:(Int×qL2)→Option R)(dn:qL2→Option R)(rt:(Bool×qL2×qL2)→Option R):Option R:=bif decide (ef<(a1.length:Int))then bif decide ((a1.length:Int)≤a3)then bnd (qka a3 ef k0 bl av bo bs (0,a1)) fun oe5=>lk oe5 (fun e5=>aq (d8 .i64 (ef+1))<|nx ((ef+1),e5)) (fun r=>rt r)else dn a1 else dn a1
def qkb(a3:Int)(k0:qL2)(bl:Int)(av:(List af))(bo bs:Int)(s0:(Int×qL2)):Option (qL2⊕(Bool×qL2×qL2)):=bp (fun a=>o7 a3 k0 bl av bo bs a.1 a.2 (fun a' =>some (.next a')) (fun e=>some (.done e)) (fun r=>some (.ret r))) s0
def qwb:Shp:=⟨[qx1,j0d,jz6,jlc],[qe6,qc5,qe6]⟩
def qwa:Shp:=⟨[qx1,(8, .nl false (.own 1))],[qe6,qe6]⟩
def ve(aa:a7)(a3:Int)(c5:qL2):Option (Bool×qL2×qL2):=bnd (qj9 a3 c5 aa.1 aa.2.1 aa.2.2.1 aa.2.2.2.1 (0,[])) fun oe2=>lk oe2 (fun e2=>bnd (qkb a3 c5 aa.1 aa.2.1 aa.2.2.1 aa.2.2.2.1 (0,e2)) fun oe6=>lk oe6 (fun e6=>some (decide (a3<(e6.length:Int)),c5,e6)) (fun r=>some r)) (fun r=>some r)
def we{R:Type}(bw:Int)(g1:qL1)(q5:(List ByteArray))(h3:(List ae))(bd:Int)(a9:(List af))(be bf a4:Int)(a2:(List af))(a5 a6 h8:Int)(cv:qL2)(nx:(Int×qL2)→Option R)(dn:qL2→Option R)(rt:(Bool×Bool)→Option R):Option R:=bif decide (h8<(h3.length:Int))then aq (ix h8 h3.length)<|aq (ix h8 h3.length)<|bif decide ((h3.getD h8.toNat ae.z).1=(q5.length:Int))then aq (ix h8 h3.length)<|aq (ix h8 h3.length)<|aq (room (cv.length+1) 24)<|aq (d8 .i64 (h8+1))<|nx ((h8+1),(cv++[(h3.getD h8.toNat ae.z).2.1]))else aq (d8 .i64 (h8+1))<|nx ((h8+1),cv)else dn cv
def qms(bw:Int)(g1:qL1)(q5:(List ByteArray))(h3:(List ae))(bd:Int)(a9:(List af))(be bf a4:Int)(a2:(List af))(a5 a6:Int)(s0:(Int×qL2)):Option (qL2⊕(Bool×Bool)):=bp (fun a=>we bw g1 q5 h3 bd a9 be bf a4 a2 a5 a6 a.1 a.2 (fun a' =>some (.next a')) (fun e=>some (.done e)) (fun r=>some (.ret r))) s0
def qy2:Shp:=⟨[jw5,jw2,jw3,jld,(11, .nl false (.d true (.slice .str))),jw8,(15, .nl false (.own 2)),j07],[qc5,qc5,qe6]⟩
def qy1:Shp:=⟨[jw5,jw2,jw3,jld,(15, .nl false (.own 2))],[qc5,qc5,qe6]⟩
def wg{R:Type}(g1:qL1)(cv h0 h1:qL2)(ki bd:Int)(a9:(List af))(be bf a4:Int)(a2:(List af))(a5 a6 mx:Int)(b2:(List ab))(nx:(Int×(List ab))→Option R)(dn:(List ab)→Option R)(rt:(Bool×Bool)→Option R):Option R:=bif decide (mx<(h1.length:Int))then aq (ix ki h0.length)<|aq (ix ki h0.length)<|aq (ix mx h1.length)<|aq (ix mx h1.length)<|aq (room (b2.length+1) 48)<|aq (d8 .i64 (mx+1))<|nx ((mx+1),(b2++[((h0.getD ki.toNat []),(h1.getD mx.toNat []),())]))else dn b2
def qmt(g1:qL1)(cv h0 h1:qL2)(ki bd:Int)(a9:(List af))(be bf a4:Int)(a2:(List af))(a5 a6:Int)(s0:(Int×(List ab))):Option ((List ab)⊕(Bool×Bool)):=bp (fun a=>wg g1 cv h0 h1 ki bd a9 be bf a4 a2 a5 a6 a.1 a.2 (fun a' =>some (.next a')) (fun e=>some (.done e)) (fun r=>some (.ret r))) s0
def qy4:Shp:=⟨[jw2,jw3,jld,jej,j0t,j0u,j0l,j0w,(23, .d true qT0)],[qc5,qc5,qzk]⟩
def qy3:Shp:=⟨[jw2,jw3,jld,jej,j0t,j0u,j0l,j0w],[qc5,qc5,qzk]⟩
def wh{R:Type}(g1:qL1)(cv h0 h1:qL2)(bd:Int)(a9:(List af))(be bf a4:Int)(a2:(List af))(a5 a6 ki:Int)(b2:(List ab))(nx:(Int×(List ab))→Option R)(dn:(List ab)→Option R)(rt:(Bool×Bool)→Option R):Option R:=bif decide (ki<(h0.length:Int))then bnd (qmt g1 cv h0 h1 ki bd a9 be bf a4 a2 a5 a6 (0,b2)) fun oe6=>lk oe6 (fun e6=>aq (d8 .i64 (ki+1))<|nx ((ki+1),e6)) (fun r=>rt r)else dn b2
def qet(g1:qL1)(cv h0 h1:qL2)(bd:Int)(a9:(List af))(be bf a4:Int)(a2:(List af))(a5 a6:Int)(s0:(Int×(List ab))):Option ((List ab)⊕(Bool×Bool)):=bp (fun a=>wh g1 cv h0 h1 bd a9 be bf a4 a2 a5 a6 a.1 a.2 (fun a' =>some (.next a')) (fun e=>some (.done e)) (fun r=>some (.ret r))) s0
def qy6:Shp:=⟨[jw2,jw3,jld,jej,j0t,j0u,j0l,j0w],[qc5,qc5,qzk]⟩
def qy5:Shp:=⟨[jw2,jw3,jld,jej,j0l],[qc5,qc5,qzk]⟩
def wi{R:Type}(g1:qL1)(cv:qL2)(b2:(List ab))(bd:Int)(a9:(List af))(be bf a4:Int)(a2:(List af))(a5 a6 h9:Int)(lo:(List ab))(nx:(Int×(List ab))→Option R)(dn:(List ab)→Option R)(rt:(Bool×Bool)→Option R):Option R:=bif decide (h9<(b2.length:Int))then aq (ix h9 b2.length)<|aq (ix h9 b2.length)<|bnd (sg (bd,a9,be,bf,()) (a4,a2,a5,a6,()) b2 (b2.getD h9.toNat ab.z)) fun r8=>bif r8 then aq (ix h9 b2.length)<|aq (ix h9 b2.length)<|aq (room (lo.length+1) 48)<|aq (d8 .i64 (h9+1))<|nx ((h9+1),(lo++[(b2.getD h9.toNat ab.z)]))else aq (d8 .i64 (h9+1))<|nx ((h9+1),lo)else dn lo
def qmu(g1:qL1)(cv:qL2)(b2:(List ab))(bd:Int)(a9:(List af))(be bf a4:Int)(a2:(List af))(a5 a6:Int)(s0:(Int×(List ab))):Option ((List ab)⊕(Bool×Bool)):=bp (fun a=>wi g1 cv b2 bd a9 be bf a4 a2 a5 a6 a.1 a.2 (fun a' =>some (.next a')) (fun e=>some (.done e)) (fun r=>some (.ret r))) s0
def qy8:Shp:=⟨[jw2,jw3,jld,jej,q84,(24, .nl false (.own 2)),(25, .d true qT0)],[qc5,qc5,qzk]⟩
def qy7:Shp:=⟨[jw2,jw3,jld,jej,q84,(24, .nl false (.own 2))],[qc5,qc5,qzk]⟩
def wj{R:Type}(g1:qL1)(cv:qL2)(bd:Int)(a9:(List af))(be bf a4:Int)(a2:(List af))(a5 a6:Int)(b2:(List ab))(nx dn:(List ab)→Option R)(rt:(Bool×Bool)→Option R):Option R:=bnd (qmu g1 cv b2 bd a9 be bf a4 a2 a5 a6 (0,[])) fun oe9=>lk oe9 (fun e9=>bif decide ((e9.length:Int)=(b2.length:Int))then dn b2 else nx e9) (fun r=>rt r)
def qeu(g1:qL1)(cv:qL2)(bd:Int)(a9:(List af))(be bf a4:Int)(a2:(List af))(a5 a6:Int)(s0:(List ab)):Option ((List ab)⊕(Bool×Bool)):=bp (fun a=>wj g1 cv bd a9 be bf a4 a2 a5 a6 a (fun a' =>some (.next a')) (fun e=>some (.done e)) (fun r=>some (.ret r))) s0
def qza:Shp:=⟨[jw2,jw3,jld,jej,q84],[qc5,qc5]⟩
def qy9:Shp:=⟨[jld,jej,q84],[]⟩
def wl{R:Type}(g1:qL1)(cv:qL2)(b2:(List ab))(mv:Int)(nx:Int→Option R)(dn:Unit→Option R)(rt:(Bool×Bool)→Option R):Option R:=bif decide (mv<(cv.length:Int))then aq (ix mv cv.length)<|aq (ix mv cv.length)<|bnd (qew b2 g1 (cv.getD mv.toNat [])) fun r11=>bif r11 then rt (true,false)else aq (d8 .i64 (mv+1))<|nx (mv+1)else dn ()
def qev(g1:qL1)(cv:qL2)(b2:(List ab))(s0:Int):Option (Unit⊕(Bool×Bool)):=bp (fun a=>wl g1 cv b2 a (fun a' =>some (.next a')) (fun e=>some (.done e)) (fun r=>some (.ret r))) s0
def qzc:Shp:=⟨[jld,jej,q84,j09],[]⟩
def qzb:Shp:=⟨[],[]⟩
def lg(ap a0:a7)(dc:qL1)(bw:Int):Option (Bool×Bool):=bnd (og ap dc) fun r1=>bnd (wm a0 r1.2.2 bw) fun r2=>bif r2.1 then some (false,true)else bnd (qms bw r1.1 r1.2.2 r2.2 ap.1 ap.2.1 ap.2.2.1 ap.2.2.2.1 a0.1 a0.2.1 a0.2.2.1 a0.2.2.2.1 (0,[])) fun oe3=>lk oe3 (fun e3=>bnd (ve ap bw [r1.1]) fun r4=>aq (decide (r4.2.1.length=1))<|bnd (ve a0 bw e3) fun r5=>aq (decide (r5.2.1.length=e3.length))<|bif r4.1 then some (false,true)else bif r5.1 then some (false,true)else aq (d8 .i64 ((r4.2.2.length:Int)*(r5.2.2.length:Int)))<|bif decide ((20000:Int)<((r4.2.2.length:Int)*(r5.2.2.length:Int)))then some (false,true)else bnd (qet r1.1 r5.2.1 r4.2.2 r5.2.2 ap.1 ap.2.1 ap.2.2.1 ap.2.2.2.1 a0.1 a0.2.1 a0.2.2.1 a0.2.2.2.1 (0,[])) fun oe7=>lk oe7 (fun e7=>bnd (qeu r1.1 r5.2.1 ap.1 ap.2.1 ap.2.2.1 ap.2.2.2.1 a0.1 a0.2.1 a0.2.2.1 a0.2.2.2.1 e7) fun oe10=>lk oe10 (fun e10=>bnd (qev r1.1 r5.2.1 e10 0) fun oe12=>lk oe12 (fun e12=>some (false,false)) (fun r=>some r)) (fun r=>some r)) (fun r=>some r)) (fun r=>some r)
def jb{R:Type}(dc:qL1)(bw l0:Int)(lp:Bool)(bd:Int)(a9:(List af))(be bf a4:Int)(a2:(List af))(a5 a6:Int)(os o0:qL1)(nf:(List ab))(dn:Unit→Option R)(rt:Bool→Option R):Option R:=bnd (yd (bd,a9,be,bf,()) (a4,a2,a5,a6,()) dc bw) fun r6=>bif (!decide (r6=0))then bif lp then rt (decide (l0=r6))else rt false else bif decide (l0=0)then bnd (qr (bd,a9,be,bf,()) (a4,a2,a5,a6,()) dc (os,o0,nf,())) fun r7=>bif r7 then bif decide ((1000:Int)<(nf.length:Int))then rt true else bnd (qfw (bd,a9,be,bf,()) (a4,a2,a5,a6,()) dc (os,o0,nf,())) fun r8=>rt r8 else rt false else bnd (lg (bd,a9,be,bf,()) (a4,a2,a5,a6,()) dc bw) fun r9=>bif lp then bif decide (l0=10)then bif (!r9.1)then rt true else bif r9.2 then rt true else bif decide (l0=13)then rt r9.2 else rt false else bif decide (l0=13)then rt r9.2 else rt false else rt false
def dj(dc:qL1)(bw l0:Int)(lp:Bool)(bd:Int)(a9:(List af))(be bf a4:Int)(a2:(List af))(a5 a6:Int)(os o0:qL1)(nf:(List ab)):Option (Unit⊕Bool):=jb dc bw l0 lp bd a9 be bf a4 a2 a5 a6 os o0 nf (fun e=>some (.inl e)) (fun r=>some (.inr r))
def qkm:Shp:=⟨[(2, .d true qT1),jw5,jw2,jw3,j03,jlc,(11, .d true .bool)],[qm5,qm5,qnn]⟩
def qkl:Shp:=⟨[],[]⟩
def qw{R:Type}(dc:qL1)(bw bd:Int)(a9:(List af))(be bf a4:Int)(a2:(List af))(a5 a6:Int)(dn:Unit→Option R)(rt:Bool→Option R):Option R:=bnd (ep (bd,a9,be,bf,()) (a4,a2,a5,a6,()) dc bw) fun r5=>bif decide ((r5.1.1.length:Int)=0)then bif decide ((r5.1.2.1.length:Int)=0)then bnd (dj dc bw r5.2 (decide ((r5.1.2.2.1.length:Int)=0)) bd a9 be bf a4 a2 a5 a6 r5.1.1 r5.1.2.1 r5.1.2.2.1) fun oe10=>lk oe10 (fun e10=>dn ()) (fun r=>rt r)else bnd (dj dc bw r5.2 false bd a9 be bf a4 a2 a5 a6 r5.1.1 r5.1.2.1 r5.1.2.2.1) fun oe11=>lk oe11 (fun e11=>dn ()) (fun r=>rt r)else bnd (dj dc bw r5.2 false bd a9 be bf a4 a2 a5 a6 r5.1.1 r5.1.2.1 r5.1.2.2.1) fun oe12=>lk oe12 (fun e12=>dn ()) (fun r=>rt r)
def jt(dc:qL1)(bw bd:Int)(a9:(List af))(be bf a4:Int)(a2:(List af))(a5 a6:Int):Option (Unit⊕Bool):=qw dc bw bd a9 be bf a4 a2 a5 a6 (fun e=>some (.inl e)) (fun r=>some (.inr r))
def qko:Shp:=⟨[(2, .d true qT1),jw5,jw2,jw3],[qm5,qm5]⟩
def qkn:Shp:=⟨[],[]⟩
def wu(ap a0:a7)(dc:qL1)(bw:Int):Option Bool:=bnd (qk9) fun r1=>bif (!r1)then some false else bnd (qbx ap) fun r2=>bif r2 then some true else bnd (qbx a0) fun r3=>bif r3 then some true else bnd (qie dc) fun r4=>bif r4 then some true else bif decide ((25:Int)<bw)then bif decide (bw≤2000)then some true else bnd (jt dc bw ap.1 ap.2.1 ap.2.2.1 ap.2.2.2.1 a0.1 a0.2.1 a0.2.2.1 a0.2.2.2.1) fun oe13=>lk oe13 (fun e13=>none) (fun r=>some r)else bnd (jt dc bw ap.1 ap.2.1 ap.2.2.1 ap.2.2.2.1 a0.1 a0.2.1 a0.2.2.1 a0.2.2.2.1) fun oe14=>lk oe14 (fun e14=>none) (fun r=>some r)
end Go.Proofs.YtdhfhpdadbopkaaGreat
