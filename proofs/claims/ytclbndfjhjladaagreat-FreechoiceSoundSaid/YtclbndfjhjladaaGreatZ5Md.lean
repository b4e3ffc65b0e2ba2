/-
  What the functions compute, as plain functions of Lean. Made by program (mg3.py) out of the translation.
-/
import Derived.Test.YtclbndfjhjladaaGreatZ5KE
set_option linter.all false
set_option maxRecDepth 100000
namespace Go.Proofs.YtclbndfjhjladaaGreat
open Go.K Go.M
abbrev qL1:Type:=List Int
abbrev qL2:Type:=List (List Int)
abbrev qT0:Ty:=.int .i64
abbrev qT1:Ty:=.slice qT0
abbrev qT2:Ty:=.slice qT1
abbrev ae:Type:=ByteArray×qL1×qL1×Unit
abbrev ae.z:ae:=(⟨#[]⟩,[],[],())
def ae.ty:Ty:= .struct (.cons .str (.cons qT1 (.cons qT1 .nil)))
abbrev bp:Type:=Int×(List ae)×Int×Int×Unit
abbrev bp.z:bp:=(0,[],0,0,())
def bp.ty:Ty:= .struct (.cons qT0 (.cons (.slice ae.ty) (.cons qT0 (.cons qT0 .nil))))
abbrev ag:Type:=qL1×qL1×Unit
abbrev ag.z:ag:=([],[],())
def ag.ty:Ty:= .struct (.cons qT1 (.cons qT1 .nil))
abbrev db:Type:=qL2×qL1×Int×Int×Unit
abbrev db.z:db:=([],[],0,0,())
def db.ty:Ty:= .struct (.cons qT2 (.cons qT1 (.cons qT0 (.cons qT0 .nil))))
abbrev ar:Type:=Int×Int×Int×Unit
abbrev ar.z:ar:=(0,0,0,())
def ar.ty:Ty:= .struct (.cons qT0 (.cons qT0 (.cons qT0 .nil)))
abbrev dm:Type:=qL2×(List ar)×Bool×Unit
abbrev dm.z:dm:=([],[],false,())
def dm.ty:Ty:= .struct (.cons qT2 (.cons (.slice ar.ty) (.cons .bool .nil)))
abbrev qc2:Hs:=.cs 24 4 1 (.cons (.d true qT0) (.cons (.d false (.slice ae.ty)) (.cons (.d true qT0) (.cons (.d true qT0) .nil))))
abbrev qex:Hs:=.cs 45 3 1 (.cons (.d true qT2) (.cons (.d true (.slice ar.ty)) (.cons (.d true .bool) .nil)))
abbrev qez:Hs:=.arr 48 (.fz true) [3] qT1
abbrev qg1:Hs:=.arr 3 (.fz true) [0] qT0
abbrev qhy:Hs:=.cs 24 4 1 (.cons (.d true qT0) (.cons (.d true (.slice ae.ty)) (.cons (.d true qT0) (.cons (.d true qT0) .nil))))
abbrev qi1:Nat×Sh:=(0, .d true .bool)
abbrev qla:Hs:=.arr 4 (.fz true) [0] .bool
abbrev qot:Hs:=.cs 45 3 1 (.cons (.own 3) (.cons (.own 4) (.cons (.d true .bool) .nil)))
abbrev qpr:Hs:=.cs 103 2 1 (.cons (.d true qT0) (.cons (.own 1) .nil))
abbrev qq1:Hs:=.cs 114 4 1 (.cons (.d true qT2) (.cons (.d true qT1) (.cons (.d true qT0) (.cons (.d true qT0) .nil))))
abbrev qru:Hs:=.cs 135 2 1 (.cons (.own 2) (.cons (.own 3) .nil))
abbrev qrv:Hs:=.cs 114 4 1 (.cons (.own 2) (.cons (.own 3) (.cons (.d true qT0) (.cons (.d true qT0) .nil))))
abbrev qrw:Hs:=.cs 135 2 1 (.cons (.own 1) (.cons (.own 2) .nil))
abbrev qr8:Hs:=.cs 114 4 1 (.cons (.own 1) (.cons (.own 2) (.cons (.d true qT0) (.cons (.d true qT0) .nil))))
abbrev qti:Hs:=.cs 64 3 1 (.cons (.d true .str) (.cons (.d false qT1) (.cons (.d false qT1) .nil)))
abbrev qt6:Hs:=.cs 45 3 1 (.cons (.d false qT2) (.cons (.d false (.slice ar.ty)) (.cons (.d true .bool) .nil)))
abbrev qxg:Nat×Sh:=(1, .d true qT0)
abbrev qxm:Hs:=.cs 25 1 3 (.cons (.fn 57 (.cons (.ptr 1) (.cons (.ptr 2) .nil))) (.cons (.fn 59 (.cons (.ptr 3) (.cons (.ptr 2) .nil))) (.cons (.fn 60 (.cons (.ptr 4) (.cons (.ptr 2) .nil))) .nil)))
abbrev qxn:Nat×Sh:=(1, .ptr 0)
abbrev qxv:Hs:=.arr 121 (.fz true) [0] (.int .u32)
abbrev qxy:Hs:=.arr 0 (.fz true) [] qT0
abbrev qy2:Hs:=.arr 53 (.fz true) [0,0,0] ar.ty
abbrev q0u:Nat×Sh:=(7, .d true qT0)
abbrev q1q:Hs:=.cs 24 4 1 (.cons (.d true qT0) (.cons (.own 3) (.cons (.d true qT0) (.cons (.d true qT0) .nil))))
abbrev q1z:Hs:=.cs 135 2 1 (.cons (.own 4) (.cons (.own 5) .nil))
abbrev q3v:Hs:=.arr 48 .own [3] qT1
abbrev q4b:Nat×Sh:=(10, .d true qT0)
abbrev q4p:Nat×Sh:=(8, .d true qT0)
abbrev q5m:Nat×Sh:=(0, .d true qT0)
abbrev q70:Hs:=.cs 135 2 1 (.cons (.d true qT2) (.cons (.d true qT2) .nil))
abbrev q74:Hs:=.arr 69 .own [3,3] ag.ty
abbrev q75:Nat×Sh:=(3, .nl false (.d true (.slice (.int .u32))))
abbrev q8g:Nat×Sh:=(4, .nl false (.d true (.slice (.int .u32))))
abbrev jdj:Nat×Sh:=(3, .ptr 0)
abbrev jdr:Hs:=.cs 103 2 1 (.cons (.d true qT0) (.cons (.own 2) .nil))
abbrev jds:Nat×Sh:=(0, .ptr 0)
abbrev jel:Nat×Sh:=(9, .d true qT0)
abbrev jfa:Nat×Sh:=(2, .d true qT0)
abbrev jgp:Nat×Sh:=(4, .nl false (.own 1))
abbrev jh9:Nat×Sh:=(4, .ptr 0)
abbrev jjg:Nat×Sh:=(6, .d true qT0)
abbrev jl7:Hs:=.cs 103 2 1 (.cons (.d true qT0) (.cons (.own 4) .nil))
abbrev jmy:Nat×Sh:=(13, .d true qT0)
abbrev jnu:Hs:=.cs 50 1 1 (.cons (.own 3) .nil)
abbrev jnv:Nat×Sh:=(1, .d true qT1)
abbrev jon:Nat×Sh:=(3, .d true qT0)
abbrev jrt:Nat×Sh:=(16, .d true qT0)
abbrev jru:Nat×Sh:=(17, .d true qT0)
abbrev jrv:Hs:=.arr 64 (.fz true) [0,3,3] ae.ty
abbrev jrw:Hs:=.cs 42 1 1 (.cons (.d true qT2) .nil)
abbrev jrx:Nat×Sh:=(5, .d true qT0)
abbrev jry:Nat×Sh:=(18, .nl false (.d true (.slice (.int .u32))))
abbrev jr2:Nat×Sh:=(0, .d false qT1)
abbrev jtr:Nat×Sh:=(1, .d false qT1)
abbrev jup:Nat×Sh:=(9, .d true (.int .u64))
abbrev juq:Nat×Sh:=(2, .d true qT1)
abbrev juu:Nat×Sh:=(15, .d false (.slice ae.ty))
abbrev juz:Nat×Sh:=(0, .d false qT2)
abbrev ju4:Nat×Sh:=(18, .d true qT0)
abbrev jx2:Nat×Sh:=(19, .d true qT0)
abbrev jx5:Nat×Sh:=(9, .d true (.int .u32))
abbrev j17:Nat×Sh:=(8, .nl false (.own 2))
abbrev j2j:Nat×Sh:=(0, .own 0)
abbrev j2p:Nat×Sh:=(5, .ptr 1)
abbrev j2q:Hs:=.cs 135 2 1 (.cons (.own 2) (.cons (.own 1) .nil))
abbrev j2r:Hs:=.cs 135 2 1 (.cons (.own 3) (.cons (.own 4) .nil))
abbrev j2s:Nat×Sh:=(2, .d true .bool)
abbrev j2t:Nat×Sh:=(2, .ptr 0)
abbrev j2u:Nat×Sh:=(16, .d false (.slice ae.ty))
abbrev j2v:Nat×Sh:=(17, .d false (.slice ae.ty))
abbrev j2w:Nat×Sh:=(29, .d false (.slice ae.ty))
abbrev j2x:Nat×Sh:=(20, .d true qT0)
abbrev j2y:Nat×Sh:=(27, .d true qT0)
abbrev j23:Nat×Sh:=(42, .d true qT0)
abbrev j7w:Nat×Sh:=(8, .d false (.slice ae.ty))
abbrev j71:Nat×Sh:=(0, .nl false (.own 0))
abbrev j72:Nat×Sh:=(10, .d true .bool)
abbrev j73:Nat×Sh:=(7, .ptr 1)
abbrev j74:Nat×Sh:=(3, .d true .bool)
abbrev j75:Nat×Sh:=(6, .ptr 1)
abbrev j76:Nat×Sh:=(8, .ptr 2)
abbrev j77:Nat×Sh:=(9, .own 2)
abbrev j78:Nat×Sh:=(11, .d true qT0)
abbrev j79:Nat×Sh:=(12, .d true qT0)
abbrev j8a:Nat×Sh:=(15, .d true qT0)
abbrev j8b:Nat×Sh:=(54, .d true qT0)
abbrev j8c:Nat×Sh:=(6, .d false qT1)
abbrev j8d:Nat×Sh:=(68, .d true qT0)
abbrev j8p:Nat×Sh:=(69, .d true qT0)
abbrev j8q:Hs:=.cs 3 1 1 (.cons (.d true qT0) .nil)
abbrev j8r:Nat×Sh:=(9, .d true qT1)
abbrev j8s:Nat×Sh:=(14, .d true .bool)
abbrev j8w:Nat×Sh:=(3, .ptr 1)
abbrev j8y:Nat×Sh:=(5, .own 1)
abbrev j8z:Nat×Sh:=(4, .nl false (.own 0))
abbrev j80:Nat×Sh:=(9, .nl false (.own 3))
abbrev j81:Nat×Sh:=(21, .d false (.slice ae.ty))
abbrev j82:Nat×Sh:=(14, .d true qT0)
abbrev j83:Nat×Sh:=(23, .d true qT0)
abbrev j84:Nat×Sh:=(28, .d true qT0)
abbrev j85:Nat×Sh:=(30, .d true qT0)
abbrev j86:Nat×Sh:=(31, .d true qT0)
abbrev j87:Nat×Sh:=(32, .d true qT0)
abbrev j88:Nat×Sh:=(9, .d false qT2)
abbrev j89:Nat×Sh:=(13, .d true (.slice .bool))
abbrev j9a:Nat×Sh:=(8, .ptr 1)
abbrev j9b:Nat×Sh:=(1, .d true .bool)
abbrev j9c:Nat×Sh:=(22, .d true qT0)
abbrev j9d:Nat×Sh:=(26, .d true qT0)
abbrev j9e:Nat×Sh:=(33, .d true qT0)
abbrev j9f:Nat×Sh:=(41, .d true qT0)
abbrev j9g:Nat×Sh:=(43, .d true qT0)
abbrev j9h:Nat×Sh:=(53, .d true qT0)
abbrev j9i:Nat×Sh:=(55, .d true qT0)
abbrev j9j:Nat×Sh:=(7, .own 1)
abbrev j9k:Nat×Sh:=(0, .d true qT2)
abbrev j9l:Nat×Sh:=(3, .d true qT1)
abbrev j9m:Nat×Sh:=(4, .d true qT0)
abbrev j9n:Nat×Sh:=(4, .d true qT1)
abbrev j9o:Nat×Sh:=(12, .ptr 1)
abbrev j9p:Nat×Sh:=(8, .own 1)
def qdk(q2:ByteArray)(q8 q7:qL1):Option (ae×qL1×qL1):=some ((q2,q8,q7,()),[],[])
def qdm(hg:Int):Option Bool:=bif decide ((65:Int)≤hg)then bif decide (hg≤90)then some true else bif decide ((97:Int)≤hg)then some (decide (hg≤122))else some false else bif decide ((97:Int)≤hg)then some (decide (hg≤122))else some false
def qq7(hg:Int):Option Bool:=bnd (qdm hg) fun r1=>bif r1 then some true else bif decide ((48:Int)≤hg)then bif decide (hg≤57)then some true else bif decide (hg=95)then some true else bif decide (hg=45)then some true else some (decide (hg=46))else bif decide (hg=95)then some true else bif decide (hg=45)then some true else some (decide (hg=46))
def t9{R:Type}(ad:ByteArray)(et cb:Int)(nx:Int→Option R)(dn:Unit→Option R)(rt:Bool→Option R):Option R:=bif decide (cb<et)then ao (ix cb (ByteArray.size ad))<|bnd (qq7 (((ByteArray.data ad).getD cb.toNat 0).toNat:Int)) fun r2=>bif (!r2)then rt false else ao (c8 .i64 (cb+1))<|nx (cb+1)else dn ()
def qr9(ad:ByteArray)(et s0:Int):Option (Unit⊕Bool):=a8 (fun a=>t9 ad et a (fun a' =>some (.next a')) (fun e=>some (.done e)) (fun r=>some (.ret r))) s0
def q6j:Shp:=⟨[(0, .d true .str),jx2,j2x],[]⟩
def q6i:Shp:=⟨[],[]⟩
def qhp(ad:ByteArray):Option Bool:=bif decide ((ByteArray.size ad:Int)<1)then some false else bif decide ((40:Int)<(ByteArray.size ad:Int))then some false else ao (ix 0 (ByteArray.size ad))<|bnd (qdm (((ByteArray.data ad).getD 0 0).toNat:Int)) fun r1=>bif (!r1)then some false else bnd (qr9 ad (ByteArray.size ad:Int) 0) fun oe3=>lk oe3 (fun e3=>some true) (fun r=>some r)
def mi{R:Type}(gy b5:qL1)(a2 hz:Int)(ef:(List ae))(h4 h5 dt:Int)(nx:Int→Option R)(dn:Unit→Option R)(rt:Bool→Option R):Option R:=bif decide (dt<a2)then ao (ix dt b5.length)<|ao (ix dt b5.length)<|bif decide ((b5.getD dt.toNat 0)<0)then rt false else bif decide (hz≤(b5.getD dt.toNat 0))then rt false else bif decide ((0:Int)<dt)then ao (c8 .i64 (dt-1))<|ao (ix (dt-1) gy.length)<|ao (ix (dt-1) gy.length)<|bif decide ((b5.getD dt.toNat 0)≤(gy.getD (dt-1).toNat 0))then rt false else ao (c8 .i64 (dt+1))<|nx (dt+1)else ao (c8 .i64 (dt+1))<|nx (dt+1)else dn ()
def qp5(gy b5:qL1)(a2 hz:Int)(ef:(List ae))(h4 h5 s0:Int):Option (Unit⊕Bool):=a8 (fun a=>mi gy b5 a2 hz ef h4 h5 a (fun a' =>some (.next a')) (fun e=>some (.done e)) (fun r=>some (.ret r))) s0
def q20:Shp:=⟨[jtr,j2t,(7, .d false qT1),q4p,jel],[qc2]⟩
def q2z:Shp:=⟨[],[]⟩
def kj(aa:bp)(gy:qL1):Option Bool:=bnd (qp5 gy gy (gy.length:Int) aa.1 aa.2.1 aa.2.2.1 aa.2.2.2.1 0) fun oe1=>lk oe1 (fun e1=>some true) (fun r=>some r)
def zt{R:Type}(cb:(List ae))(ej ap:Int)(ab:(List ae))(a0 av e0:Int)(nx:Int→Option R)(dn:Unit→Option R)(rt:Bool→Option R):Option R:=bif decide (e0<ej)then ao (ix e0 cb.length)<|ao (ix e0 cb.length)<|bif (!(ByteArray.toList (cb.getD e0.toNat ae.z).1==ByteArray.toList ⟨#[]⟩))then bnd (qhp (cb.getD e0.toNat ae.z).1) fun r1=>bif (!r1)then rt false else bnd (kj (ap,ab,a0,av,()) (cb.getD e0.toNat ae.z).2.1) fun r2=>bif (!r2)then rt false else bnd (kj (ap,ab,a0,av,()) (cb.getD e0.toNat ae.z).2.2.1) fun r3=>bif (!r3)then rt false else ao (c8 .i64 (e0+1))<|nx (e0+1)else bnd (kj (ap,ab,a0,av,()) (cb.getD e0.toNat ae.z).2.1) fun r4=>bif (!r4)then rt false else bnd (kj (ap,ab,a0,av,()) (cb.getD e0.toNat ae.z).2.2.1) fun r5=>bif (!r5)then rt false else ao (c8 .i64 (e0+1))<|nx (e0+1)else dn ()
def qsf(cb:(List ae))(ej ap:Int)(ab:(List ae))(a0 av s0:Int):Option (Unit⊕Bool):=a8 (fun a=>zt cb ej ap ab a0 av a (fun a' =>some (.next a')) (fun e=>some (.done e)) (fun r=>some (.ret r))) s0
def q6t:Shp:=⟨[qxn,(20, .d false (.slice ae.ty)),(21, .d true qT0),j9c],[qc2]⟩
def q6s:Shp:=⟨[qxn],[qc2]⟩
def g9(aa:bp):Option Bool:=bif decide (aa.1<1)then some false else bif decide ((40:Int)<aa.1)then some false else bif decide ((60:Int)<(aa.2.1.length:Int))then some false else bnd (qsf aa.2.1 (aa.2.1.length:Int) aa.1 aa.2.1 aa.2.2.1 aa.2.2.2.1 0) fun oe6=>lk oe6 (fun e6=>bnd (kj aa [aa.2.2.1]) fun r7=>bif r7 then bnd (kj aa [aa.2.2.2.1]) fun r8=>some r8 else some false) (fun r=>some r)
def ja{R:Type}(cb gd ej:Int)(ex:qL1)(nx:(Int×qL1)→Option R)(dn:qL1→Option R)(rt:(Int×qL1)→Option R):Option R:=bif decide (ej<cb)then ao (ix ej ex.length)<|ao (ix ej ex.length)<|ao (c8 .i64 (ej+1))<|nx ((ej+1),(ex.set ej.toNat ej))else dn ex
def xx(cb gd:Int)(s0:(Int×qL1)):Option (qL1⊕(Int×qL1)):=a8 (fun a=>ja cb gd a.1 a.2 (fun a' =>some (.next a')) (fun e=>some (.done e)) (fun r=>some (.ret r))) s0
def qia:Shp:=⟨[jdj,j2x,(21, .d true qT0)],[qpr,qg1]⟩
def qh9:Shp:=⟨[jdj],[qpr,qg1]⟩
def ir(aa:bp):Option (Int×qL1):=ao (c8 .i64 (aa.1+(aa.2.1.length:Int)))<|ao (qoo (aa.1+(aa.2.1.length:Int)) (aa.1+(aa.2.1.length:Int)) 8)<|bnd (xx ((List.replicate (aa.1+(aa.2.1.length:Int)).toNat (0:Int)).length:Int) aa.1 (0,(List.replicate (aa.1+(aa.2.1.length:Int)).toNat (0:Int)))) fun oe1=>lk oe1 (fun e1=>some (aa.1,e1)) (fun r=>some r)
def gp{R:Type}(kn hd:Int)(ep:qL1)(nx dn:(Int×qL1)→Option R)(rt:(Int×Int×qL1)→Option R):Option R:=ao (ix hd ep.length)<|ao (ix hd ep.length)<|bif (!decide ((ep.getD hd.toNat 0)=hd))then ao (ix hd ep.length)<|ao (ix hd ep.length)<|ao (ix (ep.getD hd.toNat 0) ep.length)<|ao (ix (ep.getD hd.toNat 0) ep.length)<|ao (ix hd ep.length)<|ao (ix hd ep.length)<|ao (ix hd (ep.set hd.toNat (ep.getD (ep.getD hd.toNat 0).toNat 0)).length)<|ao (ix hd (ep.set hd.toNat (ep.getD (ep.getD hd.toNat 0).toNat 0)).length)<|nx (((ep.set hd.toNat (ep.getD (ep.getD hd.toNat 0).toNat 0)).getD hd.toNat 0),(ep.set hd.toNat (ep.getD (ep.getD hd.toNat 0).toNat 0)))else dn (hd,ep)
def u9(kn:Int)(s0:(Int×qL1)):Option ((Int×qL1)⊕(Int×Int×qL1)):=a8 (fun a=>gp kn a.1 a.2 (fun a' =>some (.next a')) (fun e=>some (.done e)) (fun r=>some (.ret r))) s0
def qga:Shp:=⟨[jds,qxg],[qpr,qg1]⟩
def qf9:Shp:=⟨[qxg],[qpr,qg1]⟩
def b9(hd kn:Int)(ep:qL1):Option (Int×Int×qL1):=bnd (u9 kn (hd,ep)) fun oe1=>lk oe1 (fun e1=>some (e1.1,kn,e1.2)) (fun r=>some r)
def cm(ku o0 kn:Int)(ep:qL1):Option (Int×qL1):=ao (c8 .i64 (kn+o0))<|bnd (b9 ku kn ep) fun r1=>ao (decide (r1.2.2.length=ep.length))<|ao (decide (kn=r1.2.1))<|bnd (b9 (kn+o0) r1.2.1 r1.2.2) fun r2=>ao (decide (r2.2.2.length=r1.2.2.length))<|ao (ix (max r1.1 r2.1) r2.2.2.length)<|ao (ix (max r1.1 r2.1) r2.2.2.length)<|some (r2.2.1,(r2.2.2.set (max r1.1 r2.1).toNat (min r1.1 r2.1)))
def dg{R:Type}(n2:Int)(b3:(List ae))(a6 et:Int)(hr:qL1)(cc ap:Int)(ab:(List ae))(a0 av fl gd:Int)(ex:qL1)(nx:(Int×Int×qL1)→Option R)(dn:(Int×qL1)→Option R)(rt:(List ag)→Option R):Option R:=bif decide (fl<cc)then ao (ix fl hr.length)<|ao (ix fl hr.length)<|bnd (cm (hr.getD fl.toNat 0) n2 gd ex) fun r2=>ao (decide (r2.2.length=ex.length))<|ao (c8 .i64 (fl+1))<|nx ((fl+1),r2.1,r2.2)else dn (gd,ex)
def qbi(n2:Int)(b3:(List ae))(a6 et:Int)(hr:qL1)(cc ap:Int)(ab:(List ae))(a0 av:Int)(s0:(Int×Int×qL1)):Option ((Int×qL1)⊕(List ag)):=a8 (fun a=>dg n2 b3 a6 et hr cc ap ab a0 av a.1 a.2.1 a.2.2 (fun a' =>some (.next a')) (fun e=>some (.done e)) (fun r=>some (.ret r))) s0
def qlq:Shp:=⟨[qxn,j8w,j9m,j2v,ju4,jx2,(25, .d false qT1),j9d,j2y],[qc2,jdr,qg1]⟩
def qlp:Shp:=⟨[qxn,j8w,j2v,ju4,jx2],[qc2,jdr,qg1]⟩
def kc{R:Type}(b3:(List ae))(a6 ap:Int)(ab:(List ae))(a0 av et gd:Int)(ex:qL1)(nx:(Int×Int×qL1)→Option R)(dn:(Int×qL1)→Option R)(rt:(List ag)→Option R):Option R:=bif decide (et<a6)then ao (ix et b3.length)<|ao (ix et b3.length)<|bnd (qbi et b3 a6 et (b3.getD et.toNat ae.z).2.1 ((b3.getD et.toNat ae.z).2.1.length:Int) ap ab a0 av (0,gd,ex)) fun oe3=>lk oe3 (fun e3=>ao (c8 .i64 (et+1))<|nx ((et+1),e3.1,e3.2)) (fun r=>rt r)else dn (gd,ex)
def su(b3:(List ae))(a6 ap:Int)(ab:(List ae))(a0 av:Int)(s0:(Int×Int×qL1)):Option ((Int×qL1)⊕(List ag)):=a8 (fun a=>kc b3 a6 ap ab a0 av a.1 a.2.1 a.2.2 (fun a' =>some (.next a')) (fun e=>some (.done e)) (fun r=>some (.ret r))) s0
def qls:Shp:=⟨[qxn,j8w,j2v,ju4,jx2],[qc2,jdr,qg1]⟩
def qlr:Shp:=⟨[qxn,j8w],[qc2,jdr,qg1]⟩
def kd{R:Type}(f1 c4 bb f2 ap:Int)(ab:(List ae))(a0 av gd:Int)(g5:(List (Int×Int)))(b2:(List ag))(ex:qL1)(dn rt:(List ag)→Option R):Option R:=bif decide (f1<ap)then ao (ix c4 b2.length)<|ao (ix c4 b2.length)<|ao (ix c4 b2.length)<|ao (room ((b2.getD c4.toNat ag.z).1.length+1) 8)<|ao (decide ((b2.length:Nat)=(b2.set c4.toNat (((b2.getD c4.toNat ag.z).1++[f1]),(b2.getD c4.toNat ag.z).2.1,())).length))<|ao (ix c4 (b2.set c4.toNat (((b2.getD c4.toNat ag.z).1++[f1]),(b2.getD c4.toNat ag.z).2.1,())).length)<|ao (decide ((c4.toNat:Nat)=c4.toNat))<|ao (decide ((c4.toNat:Nat)=c4.toNat))<|dn (b2.set c4.toNat (((b2.getD c4.toNat ag.z).1++[f1]),(b2.getD c4.toNat ag.z).2.1,()))else ao (ix c4 b2.length)<|ao (ix c4 b2.length)<|ao (c8 .i64 (f1-ap))<|ao (ix c4 b2.length)<|ao (room ((b2.getD c4.toNat ag.z).2.1.length+1) 8)<|ao (decide ((b2.length:Nat)=(b2.set c4.toNat ((b2.getD c4.toNat ag.z).1,((b2.getD c4.toNat ag.z).2.1++[(f1-ap)]),())).length))<|ao (ix c4 (b2.set c4.toNat ((b2.getD c4.toNat ag.z).1,((b2.getD c4.toNat ag.z).2.1++[(f1-ap)]),())).length)<|ao (decide ((c4.toNat:Nat)=c4.toNat))<|ao (decide ((c4.toNat:Nat)=c4.toNat))<|dn (b2.set c4.toNat ((b2.getD c4.toNat ag.z).1,((b2.getD c4.toNat ag.z).2.1++[(f1-ap)]),()))
def ls(f1 c4 bb f2 ap:Int)(ab:(List ae))(a0 av gd:Int)(g5:(List (Int×Int)))(b2:(List ag))(ex:qL1):Option ((List ag)⊕(List ag)):=kd f1 c4 bb f2 ap ab a0 av gd g5 b2 ex (fun e=>some (.inl e)) (fun r=>some (.inr r))
def qlw:Shp:=⟨[qxn,j8w,(8, .mp 2),j80,q4b,j79,j23,j9g],[qc2,jl7, .mp qT0 qT0,q74,qg1]⟩
def qlv:Shp:=⟨[qxn,j8w,(8, .mp 2),j80,j23,j9g],[qc2,jl7, .mp qT0 qT0,q74,qg1]⟩
def gq{R:Type}(bb ap:Int)(ab:(List ae))(a0 av f2 gd:Int)(g5:(List (Int×Int)))(b2:(List ag))(ex:qL1)(nx:(Int×Int×(List (Int×Int))×(List ag)×qL1)→Option R)(dn rt:(List ag)→Option R):Option R:=bif decide (f2<bb)then bnd (b9 f2 gd ex) fun r5=>ao (decide (r5.2.2.length=ex.length))<|bif (!(qbq qT0 r5.1 g5).isSome)then ao (room (b2.length+1) 48)<|bnd (ls f2 (b2.length:Int) bb f2 ap ab a0 av r5.2.1 (qtn qT0 r5.1 (b2.length:Int) g5) (b2++[([],[],())]) r5.2.2) fun oe6=>lk oe6 (fun e6=>ao (c8 .i64 (f2+1))<|nx ((f2+1),r5.2.1,(qtn qT0 r5.1 (b2.length:Int) g5),e6,r5.2.2)) (fun r=>rt r)else bnd (ls f2 ((qbq qT0 r5.1 g5).getD 0) bb f2 ap ab a0 av r5.2.1 g5 b2 r5.2.2) fun oe7=>lk oe7 (fun e7=>ao (c8 .i64 (f2+1))<|nx ((f2+1),r5.2.1,g5,e7,r5.2.2)) (fun r=>rt r)else dn b2
def sy(bb ap:Int)(ab:(List ae))(a0 av:Int)(s0:(Int×Int×(List (Int×Int))×(List ag)×qL1)):Option ((List ag)⊕(List ag)):=a8 (fun a=>gq bb ap ab a0 av a.1 a.2.1 a.2.2.1 a.2.2.2.1 a.2.2.2.2 (fun a' =>some (.next a')) (fun e=>some (.done e)) (fun r=>some (.ret r))) s0
def qlu:Shp:=⟨[qxn,j8w,(8, .mp 2),j80,j23,j9g],[qc2,jl7, .mp qT0 qT0,q74,qg1]⟩
def qlt:Shp:=⟨[(9, .nl false (.own 0))],[q74]⟩
def dp(aa:bp):Option (List ag):=bnd (ir aa) fun r1=>bnd (su aa.2.1 (aa.2.1.length:Int) aa.1 aa.2.1 aa.2.2.1 aa.2.2.2.1 (0,r1.1,r1.2)) fun oe4=>lk oe4 (fun e4=>bnd (sy (e4.2.length:Int) aa.1 aa.2.1 aa.2.2.1 aa.2.2.2.1 (0,e4.1,[],[],e4.2)) fun oe8=>lk oe8 (fun e8=>some e8) (fun r=>some r)) (fun r=>some r)
def qen(aa:bp):Option (Int×(List ag)):=bnd (g9 aa) fun r1=>bif (!r1)then some (1,[])else bnd (dp aa) fun r2=>some (0,r2)
def jx{R:Type}(ad:qL1)(j0 b5 a2:Int)(nx:Int→Option R)(dn:Unit→Option R)(rt:Int→Option R):Option R:=bif decide (a2<b5)then ao (ix a2 ad.length)<|ao (ix a2 ad.length)<|bif decide (j0=(ad.getD a2.toNat 0))then rt a2 else ao (c8 .i64 (a2+1))<|nx (a2+1)else dn ()
def qap(ad:qL1)(j0 b5 s0:Int):Option (Unit⊕Int):=a8 (fun a=>jx ad j0 b5 a (fun a' =>some (.next a')) (fun e=>some (.done e)) (fun r=>some (.ret r))) s0
def qkx:Shp:=⟨[jr2,qxg,q0u,q4p],[]⟩
def qkw:Shp:=⟨[],[]⟩
def ue(ad:qL1)(j0:Int):Option Int:=bnd (qap ad j0 (ad.length:Int) 0) fun oe1=>lk oe1 (fun e1=>some (-1)) (fun r=>some r)
def bj(ad:qL1)(j0:Int):Option Bool:=bnd (ue ad j0) fun r1=>some (decide ((0:Int)≤r1))
def xa(lv:Int)(hb:(List Bool)):Option Bool:=ao (ix 0 1)<|ao (ix lv hb.length)<|ao (ix lv hb.length)<|some (hb.getD lv.toNat false)
def d3{R:Type}(ad:qL1)(f_1c0:(List Bool))(b5 a2:Int)(nx:Int→Option R)(dn:Unit→Option R)(rt:Int→Option R):Option R:=bif decide (a2<b5)then ao (ix a2 ad.length)<|ao (ix a2 ad.length)<|bnd (xa (ad.getD a2.toNat 0) f_1c0) fun r1=>bif r1 then rt a2 else ao (c8 .i64 (a2+1))<|nx (a2+1)else dn ()
def oq(ad:qL1)(f_1c0:(List Bool))(b5 s0:Int):Option (Unit⊕Int):=a8 (fun a=>d3 ad f_1c0 b5 a (fun a' =>some (.next a')) (fun e=>some (.done e)) (fun r=>some (.ret r))) s0
def qa0:Shp:=⟨[jr2,(1, .fn 130 (.cons (.rp false (.slice .bool)) .nil)),q0u,q4p],[]⟩
def qaz:Shp:=⟨[],[]⟩
def j5(ad:qL1)(f_1c0:(List Bool)):Option Int:=bnd (oq ad f_1c0 (ad.length:Int) 0) fun oe2=>lk oe2 (fun e2=>some (-1)) (fun r=>some r)
def c7(ad:qL1)(f_1c0:(List Bool)):Option Bool:=bnd (j5 ad f_1c0) fun r1=>some (decide ((0:Int)≤r1))
def uy{R:Type}(f5 fd:Bool)(g7:(List ae))(hu cp:Int)(ip:qL1)(p5 bf:Int)(a5:(List ae))(bk bl:Int)(cl:(List Bool))(mb:Int)(ec:(List Bool))(nx:(Int×(List Bool))→Option R)(dn:(List Bool)→Option R)(rt:((List Bool)×(List Bool))→Option R):Option R:=bif decide (mb<p5)then ao (ix mb ip.length)<|ao (ix mb ip.length)<|ao (ix (ip.getD mb.toNat 0) ec.length)<|ao (ix (ip.getD mb.toNat 0) ec.length)<|ao (c8 .i64 (mb+1))<|nx ((mb+1),(ec.set (ip.getD mb.toNat 0).toNat true))else dn ec
def qec(f5 fd:Bool)(g7:(List ae))(hu cp:Int)(ip:qL1)(p5 bf:Int)(a5:(List ae))(bk bl:Int)(cl:(List Bool))(s0:(Int×(List Bool))):Option ((List Bool)⊕((List Bool)×(List Bool))):=a8 (fun a=>uy f5 fd g7 hu cp ip p5 bf a5 bk bl cl a.1 a.2 (fun a' =>some (.next a')) (fun e=>some (.done e)) (fun r=>some (.ret r))) s0
def qzk:Shp:=⟨[j2s,jdj,j9a,j77,j72,j2w,j85,j86,(56, .d false qT1),(57, .d true qT0),(58, .d true qT0)],[qc2,jnu,qla,qla]⟩
def qzj:Shp:=⟨[j2s,jdj,j9a,j77,j72,j2w,j85,j86],[qc2,jnu,qla,qla]⟩
def gb{R:Type}(f5:Bool)(g7:(List ae))(hu bf:Int)(a5:(List ae))(bk bl:Int)(fd:Bool)(cp:Int)(cl ec:(List Bool))(nx:(Bool×Int×(List Bool)×(List Bool))→Option R)(dn:(Bool×(List Bool)×(List Bool))→Option R)(rt:((List Bool)×(List Bool))→Option R):Option R:=bif decide (cp<hu)then ao (ix cp g7.length)<|ao (ix cp g7.length)<|bif f5 then ao (ix cp cl.length)<|ao (ix cp cl.length)<|bif (cl.getD cp.toNat false)then ao (c8 .i64 (cp+1))<|nx (fd,(cp+1),cl,ec)else bnd (c7 (g7.getD cp.toNat ae.z).2.2.1 ec) fun r1=>bif (!r1)then ao (c8 .i64 (cp+1))<|nx (fd,(cp+1),cl,ec)else ao (ix cp cl.length)<|ao (ix cp cl.length)<|bnd (qec f5 true g7 hu cp (g7.getD cp.toNat ae.z).2.1 ((g7.getD cp.toNat ae.z).2.1.length:Int) bf a5 bk bl (cl.set cp.toNat true) (0,ec)) fun oe2=>lk oe2 (fun e2=>ao (c8 .i64 (cp+1))<|nx (true,(cp+1),(cl.set cp.toNat true),e2)) (fun r=>rt r)else ao (ix cp cl.length)<|ao (ix cp cl.length)<|bif (cl.getD cp.toNat false)then ao (c8 .i64 (cp+1))<|nx (fd,(cp+1),cl,ec)else bnd (c7 (g7.getD cp.toNat ae.z).2.1 ec) fun r3=>bif (!r3)then ao (c8 .i64 (cp+1))<|nx (fd,(cp+1),cl,ec)else ao (ix cp cl.length)<|ao (ix cp cl.length)<|bnd (qec f5 true g7 hu cp (g7.getD cp.toNat ae.z).2.2.1 ((g7.getD cp.toNat ae.z).2.2.1.length:Int) bf a5 bk bl (cl.set cp.toNat true) (0,ec)) fun oe4=>lk oe4 (fun e4=>ao (c8 .i64 (cp+1))<|nx (true,(cp+1),(cl.set cp.toNat true),e4)) (fun r=>rt r)else dn (fd,cl,ec)
def qed(f5:Bool)(g7:(List ae))(hu bf:Int)(a5:(List ae))(bk bl:Int)(s0:(Bool×Int×(List Bool)×(List Bool))):Option ((Bool×(List Bool)×(List Bool))⊕((List Bool)×(List Bool))):=a8 (fun a=>gb f5 g7 hu bf a5 bk bl a.1 a.2.1 a.2.2.1 a.2.2.2 (fun a' =>some (.next a')) (fun e=>some (.done e)) (fun r=>some (.ret r))) s0
def qzm:Shp:=⟨[j2s,jdj,j9a,j77,j72,j2w,j85,j86],[qc2,jnu,qla,qla]⟩
def qzl:Shp:=⟨[j2s,jdj,j9a,j77,j72],[qc2,jnu,qla,qla]⟩
def qb5{R:Type}(f5:Bool)(bf:Int)(a5:(List ae))(bk bl:Int)(fd:Bool)(cl ec:(List Bool))(nx:(Bool×(List Bool)×(List Bool))→Option R)(dn rt:((List Bool)×(List Bool))→Option R):Option R:=bif fd then bnd (qed f5 a5 (a5.length:Int) bf a5 bk bl (false,0,cl,ec)) fun oe5=>lk oe5 (fun e5=>nx (e5.1,e5.2.1,e5.2.2)) (fun r=>rt r)else dn (cl,ec)
def qnr(f5:Bool)(bf:Int)(a5:(List ae))(bk bl:Int)(s0:(Bool×(List Bool)×(List Bool))):Option (((List Bool)×(List Bool))⊕((List Bool)×(List Bool))):=a8 (fun a=>qb5 f5 bf a5 bk bl a.1 a.2.1 a.2.2 (fun a' =>some (.next a')) (fun e=>some (.done e)) (fun r=>some (.ret r))) s0
def qzo:Shp:=⟨[j2s,jdj,j9a,j77,j72],[qc2,jnu,qla,qla]⟩
def qzn:Shp:=⟨[(8, .ptr 0),(9, .own 1)],[.cs 50 1 1 (.cons (.own 2) .nil),qla,qla]⟩
def nc(aa:bp)(lp:Int)(f5:Bool):Option ((List Bool)×(List Bool)):=ao (qoo aa.1 aa.1 1)<|ao (qoo (aa.2.1.length:Int) (aa.2.1.length:Int) 1)<|ao (ix lp (List.replicate aa.1.toNat (false:Bool)).length)<|ao (ix lp (List.replicate aa.1.toNat (false:Bool)).length)<|bnd (qnr f5 aa.1 aa.2.1 aa.2.2.1 aa.2.2.2.1 (true,(List.replicate (aa.2.1.length:Int).toNat (false:Bool)),((List.replicate aa.1.toNat (false:Bool)).set lp.toNat true))) fun oe6=>lk oe6 (fun e6=>some (e6.2,e6.1)) (fun r=>some r)
def ii{R:Type}(ad:(List Bool))(j0:Bool)(b5 a2:Int)(nx:Int→Option R)(dn:Unit→Option R)(rt:Int→Option R):Option R:=bif decide (a2<b5)then ao (ix a2 ad.length)<|ao (ix a2 ad.length)<|bif (j0==(ad.getD a2.toNat false))then rt a2 else ao (c8 .i64 (a2+1))<|nx (a2+1)else dn ()
def wm(ad:(List Bool))(j0:Bool)(b5 s0:Int):Option (Unit⊕Int):=a8 (fun a=>ii ad j0 b5 a (fun a' =>some (.next a')) (fun e=>some (.done e)) (fun r=>some (.ret r))) s0
def qhc:Shp:=⟨[(0, .d false (.slice .bool)),j9b,q0u,q4p],[]⟩
def qhb:Shp:=⟨[],[]⟩
def qp(ad:(List Bool))(j0:Bool):Option Int:=bnd (wm ad j0 (ad.length:Int) 0) fun oe1=>lk oe1 (fun e1=>some (-1)) (fun r=>some r)
def bn(ad:(List Bool))(j0:Bool):Option Bool:=bnd (qp ad j0) fun r1=>some (decide ((0:Int)≤r1))
def tf{R:Type}(ej:(List ae))(e0 ap:Int)(ab:(List ae))(a0 av eu:Int)(nx:Int→Option R)(dn:Unit→Option R)(rt:Bool→Option R):Option R:=bif decide (eu<e0)then ao (ix eu ej.length)<|ao (ix eu ej.length)<|bnd (bj (ej.getD eu.toNat ae.z).2.2.1 a0) fun r2=>bif r2 then rt false else bnd (bj (ej.getD eu.toNat ae.z).2.1 av) fun r3=>bif r3 then rt false else ao (c8 .i64 (eu+1))<|nx (eu+1)else dn ()
def qj5(ej:(List ae))(e0 ap:Int)(ab:(List ae))(a0 av s0:Int):Option (Unit⊕Bool):=a8 (fun a=>tf ej e0 ap ab a0 av a (fun a' =>some (.next a')) (fun e=>some (.done e)) (fun r=>some (.ret r))) s0
def qv6:Shp:=⟨[qxn,j81,j9c,j83],[qc2]⟩
def qv5:Shp:=⟨[qxn],[qc2]⟩
def th{R:Type}(ch:(List Bool))(dk ap:Int)(ab:(List ae))(a0 av bb:Int)(nx:Int→Option R)(dn:Unit→Option R)(rt:Bool→Option R):Option R:=bif decide (bb<dk)then ao (ix bb ch.length)<|ao (ix bb ch.length)<|bif (ch.getD bb.toNat false)then bnd (nc (ap,ab,a0,av,()) av (ch.getD bb.toNat false)) fun r5=>bnd (bn r5.1 false) fun r6=>bif r6 then rt false else bnd (bn r5.2 false) fun r7=>bif r7 then rt false else ao (c8 .i64 (bb+1))<|nx (bb+1)else bnd (nc (ap,ab,a0,av,()) a0 (ch.getD bb.toNat false)) fun r8=>bnd (bn r8.1 false) fun r9=>bif r9 then rt false else bnd (bn r8.2 false) fun r10=>bif r10 then rt false else ao (c8 .i64 (bb+1))<|nx (bb+1)else dn ()
def qj6(ch:(List Bool))(dk ap:Int)(ab:(List ae))(a0 av s0:Int):Option (Unit⊕Bool):=a8 (fun a=>th ch dk ap ab a0 av a (fun a' =>some (.next a')) (fun e=>some (.done e)) (fun r=>some (.ret r))) s0
def qv8:Shp:=⟨[qxn,(40, .d true (.slice .bool)),j9f,j23],[qc2]⟩
def qv7:Shp:=⟨[],[]⟩
def ll(aa:bp):Option Bool:=bnd (g9 aa) fun r1=>bif (!r1)then some false else bif decide (aa.2.2.1=aa.2.2.2.1)then some false else bnd (qj5 aa.2.1 (aa.2.1.length:Int) aa.1 aa.2.1 aa.2.2.1 aa.2.2.2.1 0) fun oe4=>lk oe4 (fun e4=>bnd (qj6 [false,true] 2 aa.1 aa.2.1 aa.2.2.1 aa.2.2.2.1 0) fun oe11=>lk oe11 (fun e11=>some true) (fun r=>some r)) (fun r=>some r)
def qad(ad:qL1):Option qL1:=bif decide ((ad.length:Int)=0)then some []else ao (room (0+ad.length) 8)<|some ([]++ad)
def kl(ad:qL1):Option qL1:=ao (room (0+ad.length) 8)<|some ([]++ad)
def b8(ad:qL1):Option qL1:=kl ad
def nr{R:Type}(cc:(List ae))(fl ap:Int)(ab:(List ae))(a0 av cb:Int)(ej:(List ae))(e0 eu ps pv pw en:Int)(nf:(List ae))(nx:(Int×(List ae))→Option R)(dn:(List ae)→Option R)(rt:(bp×Int)→Option R):Option R:=bif decide (en<fl)then ao (ix en cc.length)<|ao (ix en cc.length)<|bnd (b8 (cc.getD en.toNat ae.z).2.1) fun r3=>bnd (b8 (cc.getD en.toNat ae.z).2.2.1) fun r4=>ao (room (nf.length+1) 64)<|ao (c8 .i64 (en+1))<|nx ((en+1),(nf++[((cc.getD en.toNat ae.z).1,r3,r4,())]))else dn nf
def qf3(cc:(List ae))(fl ap:Int)(ab:(List ae))(a0 av cb:Int)(ej:(List ae))(e0 eu ps pv pw:Int)(s0:(Int×(List ae))):Option ((List ae)⊕(bp×Int)):=a8 (fun a=>nr cc fl ap ab a0 av cb ej e0 eu ps pv pw a.1 a.2 (fun a' =>some (.next a')) (fun e=>some (.done e)) (fun r=>some (.ret r))) s0
def qrl:Shp:=⟨[qxn,(2, .ptr 1),(4, .ptr 2),(26, .d false (.slice ae.ty)),j2y,j84],[qc2,qhy,q1q,jrv]⟩
def qrk:Shp:=⟨[qxn,(2, .ptr 1),(4, .ptr 2)],[qc2,qhy,q1q,jrv]⟩
def k8(aa:bp):Option (bp×Int):=bnd (g9 aa) fun r1=>bif (!r1)then some ((0,[],0,0,()),1)else bnd (ll aa) fun r2=>bif (!r2)then some ((0,[],0,0,()),19)else bif decide ((60:Int)≤(aa.2.1.length:Int))then some ((0,[],0,0,()),5)else bnd (qf3 aa.2.1 (aa.2.1.length:Int) aa.1 aa.2.1 aa.2.2.1 aa.2.2.2.1 0 [] 0 0 aa.1 aa.2.2.1 aa.2.2.2.1 (0,[])) fun oe5=>lk oe5 (fun e5=>ao (room (e5.length+1) 64)<|some ((aa.1,(e5++[(⟨#[]⟩,[aa.2.2.2.1],[aa.2.2.1],())]),aa.2.2.1,aa.2.2.2.1,()),0)) (fun r=>some r)
def ns(lv:Int)(hb:ae):Option Bool:=ao (ix 0 1)<|bnd (bj hb.2.1 lv) fun r1=>some r1
def ey{R:Type}(ad:qL1)(f_1c0:ae)(b5 a2:Int)(nx:Int→Option R)(dn:Unit→Option R)(rt:Int→Option R):Option R:=bif decide (a2<b5)then ao (ix a2 ad.length)<|ao (ix a2 ad.length)<|bnd (ns (ad.getD a2.toNat 0) f_1c0) fun r1=>bif r1 then rt a2 else ao (c8 .i64 (a2+1))<|nx (a2+1)else dn ()
def pq(ad:qL1)(f_1c0:ae)(b5 s0:Int):Option (Unit⊕Int):=a8 (fun a=>ey ad f_1c0 b5 a (fun a' =>some (.next a')) (fun e=>some (.done e)) (fun r=>some (.ret r))) s0
def qcj:Shp:=⟨[jr2,(1, .fn 86 (.cons (.rp false ae.ty) .nil)),q0u,q4p],[]⟩
def qci:Shp:=⟨[],[]⟩
def ks(ad:qL1)(f_1c0:ae):Option Int:=bnd (pq ad f_1c0 (ad.length:Int) 0) fun oe2=>lk oe2 (fun e2=>some (-1)) (fun r=>some r)
def eo(ad:qL1)(f_1c0:ae):Option Bool:=bnd (ks ad f_1c0) fun r1=>some (decide ((0:Int)≤r1))
def gh{R:Type}(lc l1:qL1)(hn gj:Int)(nx:Int→Option R)(dn:Unit→Option R)(rt:Bool→Option R):Option R:=bif decide (gj<hn)then ao (ix gj lc.length)<|ao (ix gj lc.length)<|ao (ix gj l1.length)<|ao (ix gj l1.length)<|bif (!decide ((lc.getD gj.toNat 0)=(l1.getD gj.toNat 0)))then rt false else ao (c8 .i64 (gj+1))<|nx (gj+1)else dn ()
def qan(lc l1:qL1)(hn s0:Int):Option (Unit⊕Bool):=a8 (fun a=>gh lc l1 hn a (fun a' =>some (.next a')) (fun e=>some (.done e)) (fun r=>some (.ret r))) s0
def qkv:Shp:=⟨[jr2,jtr,j79,jmy],[]⟩
def qku:Shp:=⟨[],[]⟩
def gg(lc l1:qL1):Option Bool:=bif (!decide ((lc.length:Int)=(l1.length:Int)))then some false else bnd (qan lc l1 (lc.length:Int) 0) fun oe1=>lk oe1 (fun e1=>some true) (fun r=>some r)
def jk{R:Type}(a2:(List ae))(dt ez:Int)(a6:(List ae))(et ap:Int)(ab:(List ae))(a0 av:Int)(q5:ByteArray)(pa q6:qL1)(cb:Int)(nx:Int→Option R)(dn:Unit→Option R)(rt:Bool→Option R):Option R:=bif decide (cb<et)then ao (ix cb a6.length)<|ao (ix cb a6.length)<|bnd (eo pa (a6.getD cb.toNat ae.z)) fun r1=>bif r1 then bnd (gg pa (a6.getD cb.toNat ae.z).2.1) fun r2=>bif (!r2)then rt false else ao (c8 .i64 (cb+1))<|nx (cb+1)else ao (c8 .i64 (cb+1))<|nx (cb+1)else dn ()
def qes(a2:(List ae))(dt ez:Int)(a6:(List ae))(et ap:Int)(ab:(List ae))(a0 av:Int)(q5:ByteArray)(pa q6:qL1)(s0:Int):Option (Unit⊕Bool):=a8 (fun a=>jk a2 dt ez a6 et ap ab a0 av q5 pa q6 a (fun a' =>some (.next a')) (fun e=>some (.done e)) (fun r=>some (.ret r))) s0
def qpm:Shp:=⟨[qxn,(4, .ptr 1),j7w,jel,q4b,(18, .d false (.slice ae.ty)),jx2,j2x],[qc2,qti]⟩
def qpl:Shp:=⟨[qxn,j7w,jel,q4b],[qc2]⟩
def jl{R:Type}(a2:(List ae))(dt ap:Int)(ab:(List ae))(a0 av ez:Int)(nx:Int→Option R)(dn:Unit→Option R)(rt:Bool→Option R):Option R:=bif decide (ez<dt)then ao (ix ez a2.length)<|ao (ix ez a2.length)<|ao (cut 0 ez ab.length)<|bnd (qes a2 dt ez (ab.take ez.toNat) ((ab.take ez.toNat).length:Int) ap ab a0 av (a2.getD ez.toNat ae.z).1 (a2.getD ez.toNat ae.z).2.1 (a2.getD ez.toNat ae.z).2.2.1 0) fun oe3=>lk oe3 (fun e3=>ao (c8 .i64 (ez+1))<|nx (ez+1)) (fun r=>rt r)else dn ()
def qet(a2:(List ae))(dt ap:Int)(ab:(List ae))(a0 av s0:Int):Option (Unit⊕Bool):=a8 (fun a=>jl a2 dt ap ab a0 av a (fun a' =>some (.next a')) (fun e=>some (.done e)) (fun r=>some (.ret r))) s0
def qpo:Shp:=⟨[qxn,j7w,jel,q4b],[qc2]⟩
def qpn:Shp:=⟨[],[]⟩
def gu(aa:bp):Option Bool:=bnd (qet aa.2.1 (aa.2.1.length:Int) aa.1 aa.2.1 aa.2.2.1 aa.2.2.2.1 0) fun oe4=>lk oe4 (fun e4=>some true) (fun r=>some r)
def nt(m1:Int):Option qL1:=bif decide (m1<0)then none else ao (c8 .i64 ((0:Int)-0))<|ao (c8 .i64 (m1-((0:Int)-0)))<|bif decide ((0:Int)<(m1-((0:Int)-0)))then ao (cut 0 0 0)<|ao (decide (0<(m1-((0:Int)-0))))<|ao (room (m1-((0:Int)-0)).toNat 8)<|ao (cut 0 0 (List.replicate (m1-((0:Int)-0)).toNat (0:Int)).length)<|some (((List.replicate (m1-((0:Int)-0)).toNat (0:Int)).drop 0).take (0-0))else some []
def fo{R:Type}(hl dt:qL2)(ez m2 g2:Int)(nx:(Int×Int)→Option R)(dn:Int→Option R)(rt:qL1→Option R):Option R:=bif decide (g2<ez)then ao (ix g2 dt.length)<|ao (ix g2 dt.length)<|ao (c8 .i64 (m2+((dt.getD g2.toNat []).length:Int)))<|bif decide ((m2+((dt.getD g2.toNat []).length:Int))<0)then none else ao (c8 .i64 (g2+1))<|nx ((m2+((dt.getD g2.toNat []).length:Int)),(g2+1))else dn m2
def yc(hl dt:qL2)(ez:Int)(s0:(Int×Int)):Option (Int⊕qL1):=a8 (fun a=>fo hl dt ez a.1 a.2 (fun a' =>some (.next a')) (fun e=>some (.done e)) (fun r=>some (.ret r))) s0
def qiu:Shp:=⟨[juz,jon,j88,q4b,j78],[]⟩
def qit:Shp:=⟨[juz,jon],[]⟩
def fp{R:Type}(hr:qL2)(cc fl:Int)(k0:qL1)(nx:(Int×qL1)→Option R)(dn rt:qL1→Option R):Option R:=bif decide (fl<cc)then ao (ix fl hr.length)<|ao (ix fl hr.length)<|ao (room (k0.length+(hr.getD fl.toNat []).length) 8)<|ao (c8 .i64 (fl+1))<|nx ((fl+1),(k0++(hr.getD fl.toNat [])))else dn k0
def yd(hr:qL2)(cc:Int)(s0:(Int×qL1)):Option (qL1⊕qL1):=a8 (fun a=>fp hr cc a.1 a.2 (fun a' =>some (.next a')) (fun e=>some (.done e)) (fun r=>some (.ret r))) s0
def qiw:Shp:=⟨[(6, .own 0),(25, .d false qT2),j9d,j2y],[qg1]⟩
def qiv:Shp:=⟨[(6, .own 0)],[qg1]⟩
def lx(hl:qL2):Option qL1:=bnd (yc hl hl (hl.length:Int) (0,0)) fun oe1=>lk oe1 (fun e1=>bnd (nt e1) fun r2=>bnd (yd hl (hl.length:Int) (0,r2)) fun oe3=>lk oe3 (fun e3=>some e3) (fun r=>some r)) (fun r=>some r)
def da{R:Type}(n2:Int)(a4:(List ae))(b3 a6:Int)(en:qL1)(g7 hu gd:Int)(ex:qL1)(nx:(Int×Int×qL1)→Option R)(dn:(Int×qL1)→Option R)(rt:Bool→Option R):Option R:=bif decide (hu<g7)then ao (ix hu en.length)<|ao (ix hu en.length)<|bnd (cm (en.getD hu.toNat 0) n2 gd ex) fun r3=>ao (decide (r3.2.length=ex.length))<|ao (c8 .i64 (hu+1))<|nx ((hu+1),r3.1,r3.2)else dn (gd,ex)
def y9(n2:Int)(a4:(List ae))(b3 a6:Int)(en:qL1)(g7:Int)(s0:(Int×Int×qL1)):Option ((Int×qL1)⊕Bool):=a8 (fun a=>da n2 a4 b3 a6 en g7 a.1 a.2.1 a.2.2 (fun a' =>some (.next a')) (fun e=>some (.done e)) (fun r=>some (.ret r))) s0
def qji:Shp:=⟨[jdj,j9m,j2u,jru,ju4,(28, .d true qT1),(29, .d true qT0),j85],[qpr,qg1]⟩
def qjh:Shp:=⟨[jdj,j2u,jru,ju4],[qpr,qg1]⟩
def jt{R:Type}(a4:(List ae))(b3 a6 gd:Int)(ex:qL1)(nx:(Int×Int×qL1)→Option R)(dn:(Int×qL1)→Option R)(rt:Bool→Option R):Option R:=bif decide (a6<b3)then ao (ix a6 a4.length)<|ao (ix a6 a4.length)<|bnd (lx [(a4.getD a6.toNat ae.z).2.1,(a4.getD a6.toNat ae.z).2.2.1]) fun r2=>bnd (y9 a6 a4 b3 a6 r2 (r2.length:Int) (0,gd,ex)) fun oe4=>lk oe4 (fun e4=>ao (c8 .i64 (a6+1))<|nx ((a6+1),e4.1,e4.2)) (fun r=>rt r)else dn (gd,ex)
def kf(a4:(List ae))(b3:Int)(s0:(Int×Int×qL1)):Option ((Int×qL1)⊕Bool):=a8 (fun a=>jt a4 b3 a.1 a.2.1 a.2.2 (fun a' =>some (.next a')) (fun e=>some (.done e)) (fun r=>some (.ret r))) s0
def qjk:Shp:=⟨[jdj,j2u,jru,ju4],[qpr,qg1]⟩
def qjj:Shp:=⟨[jdj],[qpr,qg1]⟩
def f6{R:Type}(j3 l2 gd:Int)(ex:qL1)(nx:(Int×Int×qL1)→Option R)(dn:Unit→Option R)(rt:Bool→Option R):Option R:=bif decide (l2<j3)then bnd (b9 l2 gd ex) fun r6=>ao (decide (r6.2.2.length=ex.length))<|bnd (b9 0 r6.2.1 r6.2.2) fun r7=>ao (decide (r7.2.2.length=r6.2.2.length))<|bif (!decide (r6.1=r7.1))then rt false else ao (c8 .i64 (l2+1))<|nx ((l2+1),r7.2.1,r7.2.2)else dn ()
def p9(j3:Int)(s0:(Int×Int×qL1)):Option (Unit⊕Bool):=a8 (fun a=>f6 j3 a.1 a.2.1 a.2.2 (fun a' =>some (.next a')) (fun e=>some (.done e)) (fun r=>some (.ret r))) s0
def qjm:Shp:=⟨[jdj,(44, .d true qT0),(45, .d true qT0)],[qpr,qg1]⟩
def qjl:Shp:=⟨[],[]⟩
def mq(aa:bp):Option Bool:=bif decide ((aa.2.1.length:Int)=0)then some false else bnd (ir aa) fun r1=>bnd (kf aa.2.1 (aa.2.1.length:Int) (0,r1.1,r1.2)) fun oe5=>lk oe5 (fun e5=>bnd (p9 (e5.2.length:Int) (0,e5.1,e5.2)) fun oe8=>lk oe8 (fun e8=>some true) (fun r=>some r)) (fun r=>some r)
def qfy(aa:bp):Option Bool:=bif decide ((20:Int)<aa.1)then some true else some (decide ((20:Int)<(aa.2.1.length:Int)))
def xu(os:ae)(hb:Int):Option Int:=bnd (bj os.2.1 hb) fun r1=>bnd (bj os.2.2.1 hb) fun r2=>bif r2 then bif (!r1)then some 1 else bif r1 then bif (!r2)then some (-1)else some 0 else some 0 else bif r1 then bif (!r2)then some (-1)else some 0 else some 0
def qc7{R:Type}(f3:qL1)(b5 a2 ob qs:Int)(nx:(Int×Int)→Option R)(dn rt:Int→Option R):Option R:=bif (!decide (qs=0))then ao (!decide (qs=0))<|nx (qs,(Int.tmod ob qs))else dn ob
def qtc(f3:qL1)(b5 a2:Int)(s0:(Int×Int)):Option (Int⊕Int):=a8 (fun a=>qc7 f3 b5 a2 a.1 a.2 (fun a' =>some (.next a')) (fun e=>some (.done e)) (fun r=>some (.ret r))) s0
def jet:Shp:=⟨[jon,jrx,j8c,q0u,q4p],[]⟩
def jes:Shp:=⟨[jon,j8c,q0u,q4p],[]⟩
def qc8{R:Type}(f3:qL1)(b5 ob a2:Int)(nx:(Int×Int)→Option R)(dn rt:Int→Option R):Option R:=bif decide (a2<b5)then ao (ix a2 f3.length)<|ao (ix a2 f3.length)<|bif decide ((f3.getD a2.toNat 0)<0)then ao (c8 .i64 (0-(f3.getD a2.toNat 0)))<|bnd (qtc f3 b5 a2 (ob,(0-(f3.getD a2.toNat 0)))) fun oe1=>lk oe1 (fun e1=>ao (c8 .i64 (a2+1))<|nx (e1,(a2+1))) (fun r=>rt r)else bnd (qtc f3 b5 a2 (ob,(f3.getD a2.toNat 0))) fun oe2=>lk oe2 (fun e2=>ao (c8 .i64 (a2+1))<|nx (e2,(a2+1))) (fun r=>rt r)else dn ob
def q45(f3:qL1)(b5:Int)(s0:(Int×Int)):Option (Int⊕Int):=a8 (fun a=>qc8 f3 b5 a.1 a.2 (fun a' =>some (.next a')) (fun e=>some (.done e)) (fun r=>some (.ret r))) s0
def jev:Shp:=⟨[jon,j8c,q0u,q4p],[]⟩
def jeu:Shp:=⟨[jon],[]⟩
def qo9(hy:qL1):Option Int:=bnd (q45 hy (hy.length:Int) (0,0)) fun oe3=>lk oe3 (fun e3=>some e3) (fun r=>some r)
def yv{R:Type}(f3:qL1)(b5 op a2:Int)(nx:(Int×Int)→Option R)(dn rt:Int→Option R):Option R:=bif decide (a2<b5)then ao (ix a2 f3.length)<|ao (ix a2 f3.length)<|bif (!decide ((f3.getD a2.toNat 0)=0))then ao (decide (0≤a2))<|ao (c8 .i64 (a2+1))<|nx ((yi .or .u64 op (qos .u64 1 a2)),(a2+1))else ao (c8 .i64 (a2+1))<|nx (op,(a2+1))else dn op
def q01(f3:qL1)(b5:Int)(s0:(Int×Int)):Option (Int⊕Int):=a8 (fun a=>yv f3 b5 a.1 a.2 (fun a' =>some (.next a')) (fun e=>some (.done e)) (fun r=>some (.ret r))) s0
def jbu:Shp:=⟨[(3, .d true (.int .u64)),j8c,q0u,q4p],[]⟩
def jbt:Shp:=⟨[(3, .d true (.int .u64))],[]⟩
def nv(hy:qL1):Option Int:=bnd (q01 hy (hy.length:Int) (0,0)) fun oe1=>lk oe1 (fun e1=>some e1) (fun r=>some r)
def uj{R:Type}(b0 be:qL1)(g6 hs:Int)(gr a3:qL2)(ho:Int)(nx:Int→Option R)(dn:Unit→Option R)(rt:(qL2×qL2)→Option R):Option R:=bif decide (ho<hs)then ao (ix ho gr.length)<|ao (ix ho gr.length)<|bnd (nv (gr.getD ho.toNat [])) fun r4=>bif decide ((yi .andNot .u64 r4 g6)=0)then rt (a3,gr)else ao (c8 .i64 (ho+1))<|nx (ho+1)else dn ()
def qmy(b0 be:qL1)(g6 hs:Int)(gr a3:qL2)(s0:Int):Option (Unit⊕(qL2×qL2)):=a8 (fun a=>uj b0 be g6 hs gr a3 a (fun a' =>some (.next a')) (fun e=>some (.done e)) (fun r=>some (.ret r))) s0
def qya:Shp:=⟨[jds,jnv,juq,jup,(53, .own 1),j8b,j9i],[j2q,qez,qez]⟩
def qx9:Shp:=⟨[jds,jnv,juq,jup],[qrw,qez,qez]⟩
def nw{R:Type}(b0 be:qL1)(g6:Int)(es:qL2)(mx:Int)(a3 bo:qL2)(fs:Int)(g3 g4:qL2)(nx:(Int×qL2×qL2)→Option R)(dn rt:(qL2×qL2)→Option R):Option R:=bif decide (fs<mx)then ao (ix fs es.length)<|ao (ix fs es.length)<|bnd (nv (es.getD fs.toNat [])) fun r6=>bif (!decide ((yi .andNot .u64 g6 r6)=0))then ao (ix fs a3.length)<|ao (ix fs a3.length)<|ao (room (g3.length+1) 24)<|ao (room (g4.length+1) 24)<|ao (c8 .i64 (fs+1))<|nx ((fs+1),(g3++[(a3.getD fs.toNat [])]),(g4++[(es.getD fs.toNat [])]))else ao (c8 .i64 (fs+1))<|nx ((fs+1),g3,g4)else dn (g3,g4)
def qmz(b0 be:qL1)(g6:Int)(es:qL2)(mx:Int)(a3 bo:qL2)(s0:(Int×qL2×qL2)):Option ((qL2×qL2)⊕(qL2×qL2)):=a8 (fun a=>nw b0 be g6 es mx a3 bo a.1 a.2.1 a.2.2 (fun a' =>some (.next a')) (fun e=>some (.done e)) (fun r=>some (.ret r))) s0
def qyc:Shp:=⟨[jds,jnv,juq,jup,j9o,(69, .d true qT2),(70, .d true qT0),(71, .d true qT0)],[q70,qru,qez,qez]⟩
def qyb:Shp:=⟨[jds,jnv,juq,j9o],[q70,qru,qez,qez]⟩
def qcv(b0 be:qL1)(a3 bo:qL2):Option (qL2×qL2):=bnd (b8 b0) fun r1=>ao (room (r1.length+be.length) 8)<|bnd (qo9 (r1++be)) fun r2=>bif decide ((1:Int)<r2)then none else bnd (nv be) fun r3=>bnd (qmy b0 be r3 (bo.length:Int) bo a3 0) fun oe5=>lk oe5 (fun e5=>bnd (qmz b0 be r3 bo (bo.length:Int) a3 bo (0,[],[])) fun oe7=>lk oe7 (fun e7=>ao (room (e7.1.length+1) 24)<|ao (room (e7.2.length+1) 24)<|some ((e7.1++[b0]),(e7.2++[be]))) (fun r=>some r)) (fun r=>some r)
def qhg{R:Type}(mk:Int)(kt:qL1)(n6:Int)(m0:qL1)(c2 a4:Int)(b2:qL1)(nx:(Int×qL1)→Option R)(dn rt:qL1→Option R):Option R:=bif decide (a4<c2)then ao (ix a4 kt.length)<|ao (ix a4 kt.length)<|ao (c8 .i64 (mk*(kt.getD a4.toNat 0)))<|ao (ix a4 m0.length)<|ao (ix a4 m0.length)<|ao (c8 .i64 (n6*(m0.getD a4.toNat 0)))<|ao (c8 .i64 ((mk*(kt.getD a4.toNat 0))+(n6*(m0.getD a4.toNat 0))))<|ao (ix a4 b2.length)<|ao (ix a4 b2.length)<|ao (c8 .i64 (a4+1))<|nx ((a4+1),(b2.set a4.toNat ((mk*(kt.getD a4.toNat 0))+(n6*(m0.getD a4.toNat 0)))))else dn b2
def q5d(mk:Int)(kt:qL1)(n6:Int)(m0:qL1)(c2:Int)(s0:(Int×qL1)):Option (qL1⊕qL1):=a8 (fun a=>qhg mk kt n6 m0 c2 a.1 a.2 (fun a' =>some (.next a')) (fun e=>some (.done e)) (fun r=>some (.ret r))) s0
def je0:Shp:=⟨[q5m,jtr,jfa,(3, .d false qT1),(9, .own 0),j8a,jrt],[qg1]⟩
def jez:Shp:=⟨[(9, .own 0)],[qg1]⟩
def qf2(mk:Int)(kt:qL1)(n6:Int)(m0:qL1):Option qL1:=ao (qoo (kt.length:Int) (kt.length:Int) 8)<|bnd (q5d mk kt n6 m0 (kt.length:Int) (0,(List.replicate (kt.length:Int).toNat (0:Int)))) fun oe1=>lk oe1 (fun e1=>some e1) (fun r=>some r)
def s6{R:Type}(lr eu:Int)(be:qL1)(a3 bo:qL2)(ht:Int)(b0:qL1)(nx:(Int×qL1)→Option R)(dn:qL1→Option R)(rt:(qL2×qL2×qL1×qL1)→Option R):Option R:=bif decide (ht<eu)then ao (ix ht b0.length)<|ao (ix ht b0.length)<|ao (!decide (lr=0))<|ao (c8 .i64 (Int.tdiv (b0.getD ht.toNat 0) lr))<|ao (ix ht b0.length)<|ao (ix ht b0.length)<|ao (c8 .i64 (ht+1))<|nx ((ht+1),(b0.set ht.toNat (Int.tdiv (b0.getD ht.toNat 0) lr)))else dn b0
def qjc(lr eu:Int)(be:qL1)(a3 bo:qL2)(s0:(Int×qL1)):Option (qL1⊕(qL2×qL2×qL1×qL1)):=a8 (fun a=>s6 lr eu be a3 bo a.1 a.2 (fun a' =>some (.next a')) (fun e=>some (.done e)) (fun r=>some (.ret r))) s0
def qut:Shp:=⟨[jds,(1, .own 1),(2, .own 2),jjg,j83,(24, .d true qT0)],[j2r,qg1,qg1,qez,qez]⟩
def qus:Shp:=⟨[jds,(1, .own 1),(2, .own 2),jjg],[j2r,qg1,qg1,qez,qez]⟩
def s7{R:Type}(b0:qL1)(lr p4:Int)(a3 bo:qL2)(kr:Int)(be k4:qL1)(nx:(Int×qL1×qL1)→Option R)(dn:(qL1×qL1)→Option R)(rt:(qL2×qL2×qL1×qL1)→Option R):Option R:=bif decide (kr<p4)then ao (ix kr be.length)<|ao (ix kr be.length)<|ao (!decide (lr=0))<|ao (c8 .i64 (Int.tdiv (be.getD kr.toNat 0) lr))<|ao (ix kr be.length)<|ao (ix kr be.length)<|ao (c8 .i64 (kr+1))<|nx ((kr+1),(be.set kr.toNat (Int.tdiv (be.getD kr.toNat 0) lr)),[])else dn (be,[])
def qjd(b0:qL1)(lr p4:Int)(a3 bo:qL2)(s0:(Int×qL1×qL1)):Option ((qL1×qL1)⊕(qL2×qL2×qL1×qL1)):=a8 (fun a=>s7 b0 lr p4 a3 bo a.1 a.2.1 a.2.2 (fun a' =>some (.next a')) (fun e=>some (.done e)) (fun r=>some (.ret r))) s0
def quv:Shp:=⟨[jds,jnv,(2, .own 1),jjg,(36, .d true qT0),(37, .d true qT0)],[qru,qg1,qez,qez,qxy]⟩
def quu:Shp:=⟨[jds,jnv,(2, .own 1)],[qru,qg1,qez,qez,qxy]⟩
def js{R:Type}(b0 be:qL1)(g6 hs:Int)(gr a3:qL2)(ho:Int)(k3 k4:qL1)(nx:(Int×qL1×qL1)→Option R)(dn:(qL1×qL1)→Option R)(rt:(qL2×qL2×qL1×qL1)→Option R):Option R:=bif decide (ho<hs)then ao (ix ho gr.length)<|ao (ix ho gr.length)<|bnd (nv (gr.getD ho.toNat [])) fun r6=>bif decide ((yi .andNot .u64 r6 g6)=0)then rt (a3,gr,[],[])else ao (c8 .i64 (ho+1))<|nx ((ho+1),[],[])else dn ([],[])
def qje(b0 be:qL1)(g6 hs:Int)(gr a3:qL2)(s0:(Int×qL1×qL1)):Option ((qL1×qL1)⊕(qL2×qL2×qL1×qL1)):=a8 (fun a=>js b0 be g6 hs gr a3 a.1 a.2.1 a.2.2 (fun a' =>some (.next a')) (fun e=>some (.done e)) (fun r=>some (.ret r))) s0
def qux:Shp:=⟨[jds,jnv,juq,jup,(53, .own 1),j8b,j9i],[j2q,qez,qez,qxy,qxy]⟩
def quw:Shp:=⟨[jds,jnv,juq,jup],[qrw,qez,qez,qxy,qxy]⟩
def mm{R:Type}(b0 be:qL1)(g6:Int)(es:qL2)(mx:Int)(a3 bo:qL2)(fs:Int)(g3 g4:qL2)(k4:qL1)(nx:(Int×qL2×qL2×qL1)→Option R)(dn:(qL2×qL2×qL1)→Option R)(rt:(qL2×qL2×qL1×qL1)→Option R):Option R:=bif decide (fs<mx)then ao (ix fs es.length)<|ao (ix fs es.length)<|bnd (nv (es.getD fs.toNat [])) fun r8=>bif (!decide ((yi .andNot .u64 g6 r8)=0))then ao (ix fs a3.length)<|ao (ix fs a3.length)<|ao (room (g3.length+1) 24)<|ao (room (g4.length+1) 24)<|ao (c8 .i64 (fs+1))<|nx ((fs+1),(g3++[(a3.getD fs.toNat [])]),(g4++[(es.getD fs.toNat [])]),[])else ao (c8 .i64 (fs+1))<|nx ((fs+1),g3,g4,[])else dn (g3,g4,[])
def qjf(b0 be:qL1)(g6:Int)(es:qL2)(mx:Int)(a3 bo:qL2)(s0:(Int×qL2×qL2×qL1)):Option ((qL2×qL2×qL1)⊕(qL2×qL2×qL1×qL1)):=a8 (fun a=>mm b0 be g6 es mx a3 bo a.1 a.2.1 a.2.2.1 a.2.2.2 (fun a' =>some (.next a')) (fun e=>some (.done e)) (fun r=>some (.ret r))) s0
def quz:Shp:=⟨[jds,jnv,juq,jup,j9o,(69, .d true qT2),(70, .d true qT0),(71, .d true qT0)],[q70,qru,qez,qez,qxy]⟩
def quy:Shp:=⟨[jds,jnv,juq,j9o],[q70,qru,qez,qez,qxy]⟩
def yz{R:Type}(b0 be:qL1)(a3 bo:qL2)(k3 k4:qL1)(dn rt:(qL2×qL2×qL1×qL1)→Option R):Option R:=bnd (nv be) fun r5=>bnd (qje b0 be r5 (bo.length:Int) bo a3 (0,[],[])) fun oe7=>lk oe7 (fun e7=>bnd (qjf b0 be r5 bo (bo.length:Int) a3 bo (0,[],[],[])) fun oe9=>lk oe9 (fun e9=>ao (room (e9.1.length+1) 24)<|ao (room (e9.2.1.length+1) 24)<|dn ((e9.1++[b0]),(e9.2.1++[be]),[],[])) (fun r=>rt r)) (fun r=>rt r)
def ui(b0 be:qL1)(a3 bo:qL2)(k3 k4:qL1):Option ((qL2×qL2×qL1×qL1)⊕(qL2×qL2×qL1×qL1)):=yz b0 be a3 bo k3 k4 (fun e=>some (.inl e)) (fun r=>some (.inr r))
def qu1:Shp:=⟨[jds,jnv,juq],[qrw,qez,qez,qxy,qxy]⟩
def qu0:Shp:=⟨[],[qrw,qez,qez,qxy,qxy]⟩
def yx(b0 be:qL1)(a3 bo:qL2):Option (qL2×qL2×qL1×qL1):=bnd (b8 b0) fun r1=>ao (room (r1.length+be.length) 8)<|bnd (qo9 (r1++be)) fun r2=>bif decide ((1:Int)<r2)then bnd (qjc r2 (b0.length:Int) be a3 bo (0,b0)) fun oe3=>lk oe3 (fun e3=>bnd (qjd e3 r2 (be.length:Int) a3 bo (0,be,[])) fun oe4=>lk oe4 (fun e4=>bnd (ui e3 e4.1 a3 bo [] []) fun oe10=>lk oe10 (fun e10=>some (e10.1,e10.2.1,[],[])) (fun r=>some r)) (fun r=>some r)) (fun r=>some r)else bnd (ui b0 be a3 bo [] []) fun oe11=>lk oe11 (fun e11=>some (e11.1,e11.2.1,[],[])) (fun r=>some r)
def gn{R:Type}(gx b3:Int)(a3 bo:qL2)(a6:Int)(g0 g1:qL2)(nx:(Int×qL2×qL2)→Option R)(dn:(qL2×qL2)→Option R)(rt:(Bool×qL2×qL2)→Option R):Option R:=bif decide (a6<b3)then ao (ix a6 a3.length)<|ao (ix a6 a3.length)<|ao (ix gx (a3.getD a6.toNat []).length)<|ao (ix gx (a3.getD a6.toNat []).length)<|bif decide (((a3.getD a6.toNat []).getD gx.toNat 0)=0)then ao (ix a6 a3.length)<|ao (ix a6 a3.length)<|ao (ix a6 bo.length)<|ao (ix a6 bo.length)<|bnd (qcv (a3.getD a6.toNat []) (bo.getD a6.toNat []) g0 g1) fun r1=>ao (c8 .i64 (a6+1))<|nx ((a6+1),r1.1,r1.2)else ao (c8 .i64 (a6+1))<|nx ((a6+1),g0,g1)else dn (g0,g1)
def qbd(gx b3:Int)(a3 bo:qL2)(s0:(Int×qL2×qL2)):Option ((qL2×qL2)⊕(Bool×qL2×qL2)):=a8 (fun a=>gn gx b3 a3 bo a.1 a.2.1 a.2.2 (fun a' =>some (.next a')) (fun e=>some (.done e)) (fun r=>some (.ret r))) s0
def qlg:Shp:=⟨[jds,qxg,j2p,jru,ju4],[qru,q1z,qez,qez,qez,qez]⟩
def qlf:Shp:=⟨[jds,qxg,j2p],[qru,q1z,qez,qez,qez,qez]⟩
def eh{R:Type}(gx hf gr hs ct:Int)(a3 bo:qL2)(bs:Int)(g0 g1:qL2)(nx:(Int×qL2×qL2)→Option R)(dn:(qL2×qL2)→Option R)(rt:(Bool×qL2×qL2)→Option R):Option R:=bif decide (bs<ct)then ao (ix hf a3.length)<|ao (ix hf a3.length)<|ao (ix gx (a3.getD hf.toNat []).length)<|ao (ix gx (a3.getD hf.toNat []).length)<|ao (ix bs a3.length)<|ao (ix bs a3.length)<|ao (ix gx (a3.getD bs.toNat []).length)<|ao (ix gx (a3.getD bs.toNat []).length)<|bif decide (((a3.getD hf.toNat []).getD gx.toNat 0)≤0)then ao (c8 .i64 (bs+1))<|nx ((bs+1),g0,g1)else bif decide ((0:Int)≤((a3.getD bs.toNat []).getD gx.toNat 0))then ao (c8 .i64 (bs+1))<|nx ((bs+1),g0,g1)else ao (c8 .i64 (0-((a3.getD bs.toNat []).getD gx.toNat 0)))<|ao (ix hf a3.length)<|ao (ix hf a3.length)<|ao (ix bs a3.length)<|ao (ix bs a3.length)<|bnd (qf2 (0-((a3.getD bs.toNat []).getD gx.toNat 0)) (a3.getD hf.toNat []) ((a3.getD hf.toNat []).getD gx.toNat 0) (a3.getD bs.toNat [])) fun r3=>ao (c8 .i64 (0-((a3.getD bs.toNat []).getD gx.toNat 0)))<|ao (ix hf bo.length)<|ao (ix hf bo.length)<|ao (ix bs bo.length)<|ao (ix bs bo.length)<|bnd (qf2 (0-((a3.getD bs.toNat []).getD gx.toNat 0)) (bo.getD hf.toNat []) ((a3.getD hf.toNat []).getD gx.toNat 0) (bo.getD bs.toNat [])) fun r4=>bnd (yx r3 r4 g0 g1) fun r5=>bif decide ((40000:Int)<(r5.2.1.length:Int))then rt (false,a3,bo)else ao (c8 .i64 (bs+1))<|nx ((bs+1),r5.1,r5.2.1)else dn (g0,g1)
def qbe(gx hf gr hs ct:Int)(a3 bo:qL2)(s0:(Int×qL2×qL2)):Option ((qL2×qL2)⊕(Bool×qL2×qL2)):=a8 (fun a=>eh gx hf gr hs ct a3 bo a.1 a.2.1 a.2.2 (fun a' =>some (.next a')) (fun e=>some (.done e)) (fun r=>some (.ret r))) s0
def qli:Shp:=⟨[jds,qxg,j2p,q0u,j9h,j8b,(61, .d true qT0),(62, .d true qT0)],[qru,q1z,qez,qez,qez,qez]⟩
def qlh:Shp:=⟨[jds,qxg,j2p,j9h,j8b],[qru,q1z,qez,qez,qez,qez]⟩
def kb{R:Type}(gx gr:Int)(a3 bo:qL2)(hs:Int)(g0 g1:qL2)(nx:(Int×qL2×qL2)→Option R)(dn:(qL2×qL2)→Option R)(rt:(Bool×qL2×qL2)→Option R):Option R:=bif decide (hs<gr)then bnd (qbe gx hs gr hs (a3.length:Int) a3 bo (0,g0,g1)) fun oe6=>lk oe6 (fun e6=>ao (c8 .i64 (hs+1))<|nx ((hs+1),e6.1,e6.2)) (fun r=>rt r)else dn (g0,g1)
def qbf(gx gr:Int)(a3 bo:qL2)(s0:(Int×qL2×qL2)):Option ((qL2×qL2)⊕(Bool×qL2×qL2)):=a8 (fun a=>kb gx gr a3 bo a.1 a.2.1 a.2.2 (fun a' =>some (.next a')) (fun e=>some (.done e)) (fun r=>some (.ret r))) s0
def qlk:Shp:=⟨[jds,qxg,j2p,j9h,j8b],[qru,q1z,qez,qez,qez,qez]⟩
def qlj:Shp:=⟨[jds,j2p],[qru,q1z,qez,qez,qez,qez]⟩
def nq(gx:Int)(a3 bo:qL2):Option (Bool×qL2×qL2):=bnd (qbd gx (a3.length:Int) a3 bo (0,[],[])) fun oe2=>lk oe2 (fun e2=>bnd (qbf gx (a3.length:Int) a3 bo (0,e2.1,e2.2)) fun oe7=>lk oe7 (fun e7=>some (true,e7.1,e7.2)) (fun r=>some r)) (fun r=>some r)
def kz(mk:qL2):Option qL2:=jnk mk
def qfz(q9:Int):Option Bool:=some (decide ((1048576:Int)<q9))
def d4{R:Type}(ad:qL1)(b5 a2:Int)(nx:Int→Option R)(dn:Unit→Option R)(rt:Int→Option R):Option R:=bif decide (a2<b5)then ao (ix a2 ad.length)<|ao (ix a2 ad.length)<|bnd (qfz (ad.getD a2.toNat 0)) fun r1=>bif r1 then rt a2 else ao (c8 .i64 (a2+1))<|nx (a2+1)else dn ()
def ou(ad:qL1)(b5 s0:Int):Option (Unit⊕Int):=a8 (fun a=>d4 ad b5 a (fun a' =>some (.next a')) (fun e=>some (.done e)) (fun r=>some (.ret r))) s0
def qa3:Shp:=⟨[jr2,(1, .fn 133 .nil),q0u,q4p],[]⟩
def qa2:Shp:=⟨[],[]⟩
def j6(ad:qL1):Option Int:=bnd (ou ad (ad.length:Int) 0) fun oe2=>lk oe2 (fun e2=>some (-1)) (fun r=>some r)
def dz(ad:qL1):Option Bool:=bnd (j6 ad) fun r1=>some (decide ((0:Int)≤r1))
def wu{R:Type}(dw j1:qL2)(c2 a4:Int)(k2 jc:qL2)(nx:(Int×qL2×qL2)→Option R)(dn:(qL2×qL2)→Option R)(rt:(qL2×Int)→Option R):Option R:=bif decide (a4<c2)then ao (ix a4 j1.length)<|ao (ix a4 j1.length)<|ao (qoo (dw.length:Int) (dw.length:Int) 8)<|ao (ix a4 (List.replicate (dw.length:Int).toNat (0:Int)).length)<|ao (ix a4 (List.replicate (dw.length:Int).toNat (0:Int)).length)<|bnd (b8 (j1.getD a4.toNat [])) fun r1=>ao (room (k2.length+1) 24)<|ao (room (jc.length+1) 24)<|ao (c8 .i64 (a4+1))<|nx ((a4+1),(k2++[r1]),(jc++[((List.replicate (dw.length:Int).toNat (0:Int)).set a4.toNat 1)]))else dn (k2,jc)
def qpb(dw j1:qL2)(c2:Int)(s0:(Int×qL2×qL2)):Option ((qL2×qL2)⊕(qL2×Int)):=a8 (fun a=>wu dw j1 c2 a.1 a.2.1 a.2.2 (fun a' =>some (.next a')) (fun e=>some (.done e)) (fun r=>some (.ret r))) s0
def q12:Shp:=⟨[juz,jh9,(14, .d false qT2),j8a,jrt],[qrw,qez,qez]⟩
def q11:Shp:=⟨[juz,jh9],[qrw,qez,qez]⟩
def wv{R:Type}(ho ip:Int)(k2 jc:qL2)(nx:(Int×qL2×qL2)→Option R)(dn:(qL2×qL2)→Option R)(rt:(qL2×Int)→Option R):Option R:=bif decide (ip<ho)then bnd (nq ip k2 jc) fun r3=>bif (!r3.1)then rt ([],5)else ao (c8 .i64 (ip+1))<|nx ((ip+1),r3.2.1,r3.2.2)else dn (k2,jc)
def qpc(ho:Int)(s0:(Int×qL2×qL2)):Option ((qL2×qL2)⊕(qL2×Int)):=a8 (fun a=>wv ho a.1 a.2.1 a.2.2 (fun a' =>some (.next a')) (fun e=>some (.done e)) (fun r=>some (.ret r))) s0
def q14:Shp:=⟨[jh9,j9i,(56, .d true qT0)],[qrw,qez,qez]⟩
def q13:Shp:=⟨[jh9],[qrw,qez,qez]⟩
def wx{R:Type}(b2 lo:qL2)(hp nb:Int)(nx:Int→Option R)(dn:Unit→Option R)(rt:(qL2×Int)→Option R):Option R:=bif decide (nb<hp)then ao (ix nb lo.length)<|ao (ix nb lo.length)<|bnd (dz (lo.getD nb.toNat [])) fun r6=>bif r6 then rt ([],6)else ao (c8 .i64 (nb+1))<|nx (nb+1)else dn ()
def qpd(b2 lo:qL2)(hp s0:Int):Option (Unit⊕(qL2×Int)):=a8 (fun a=>wx b2 lo hp a (fun a' =>some (.next a')) (fun e=>some (.done e)) (fun r=>some (.ret r))) s0
def q16:Shp:=⟨[(9, .d true qT2),(73, .d true qT2),(74, .d true qT0),(75, .d true qT0)],[]⟩
def q15:Shp:=⟨[(9, .d true qT2)],[]⟩
def qd7{R:Type}(k2 jc:qL2)(dn:Unit→Option R)(rt:(qL2×Int)→Option R):Option R:=bnd (kz jc) fun r5=>ao (decide (r5.length=jc.length))<|bif decide ((1000:Int)<(r5.length:Int))then rt ([],5)else bnd (qpd r5 r5 (r5.length:Int) 0) fun oe7=>lk oe7 (fun e7=>rt (r5,0)) (fun r=>rt r)
def tz(k2 jc:qL2):Option (Unit⊕(qL2×Int)):=qd7 k2 jc (fun e=>some (.inl e)) (fun r=>some (.inr r))
def q18:Shp:=⟨[jh9],[.cs 135 2 1 (.cons (.d true qT2) (.cons (.own 1) .nil)),qez]⟩
def q17:Shp:=⟨[],[]⟩
def yw(dw:qL2):Option (qL2×Int):=bnd (qpb dw dw (dw.length:Int) (0,[],[])) fun oe2=>lk oe2 (fun e2=>bif decide ((0:Int)<(dw.length:Int))then ao (ix 0 dw.length)<|ao (ix 0 dw.length)<|bnd (qpc ((dw.getD 0 []).length:Int) (0,e2.1,e2.2)) fun oe4=>lk oe4 (fun e4=>bnd (tz e4.1 e4.2) fun oe8=>lk oe8 (fun e8=>none) (fun r=>some r)) (fun r=>some r)else bnd (tz e2.1 e2.2) fun oe9=>lk oe9 (fun e9=>none) (fun r=>some r)) (fun r=>some r)
def yq{R:Type}(b4 c2 a4:Int)(ej:(List ae))(e0 ap:Int)(ab:(List ae))(a0 av:Int)(d0:qL2)(eu:Int)(o1:qL1)(nx:(Int×qL1)→Option R)(dn:qL1→Option R)(rt:(qL2×Int)→Option R):Option R:=bif decide (eu<e0)then ao (ix eu ej.length)<|ao (ix eu ej.length)<|bnd (xu (ej.getD eu.toNat ae.z) b4) fun r3=>ao (room (o1.length+1) 8)<|ao (c8 .i64 (eu+1))<|nx ((eu+1),(o1++[r3]))else dn o1
def qrx(b4 c2 a4:Int)(ej:(List ae))(e0 ap:Int)(ab:(List ae))(a0 av:Int)(d0:qL2)(s0:(Int×qL1)):Option (qL1⊕(qL2×Int)):=a8 (fun a=>yq b4 c2 a4 ej e0 ap ab a0 av d0 a.1 a.2 (fun a' =>some (.next a')) (fun e=>some (.done e)) (fun r=>some (.ret r))) s0
def q41:Shp:=⟨[qxn,jgp,jrx,(6, .own 2),j8a,jrt,j81,j9c,j83],[qc2,qez,qg1]⟩
def q40:Shp:=⟨[qxn,jgp,(6, .own 2),j8a,jrt],[qc2,qez,qg1]⟩
def yr{R:Type}(c2 ap:Int)(ab:(List ae))(a0 av a4:Int)(d0:qL2)(nx:(Int×qL2)→Option R)(dn:qL2→Option R)(rt:(qL2×Int)→Option R):Option R:=bif decide (a4<c2)then bnd (qrx a4 c2 a4 ab (ab.length:Int) ap ab a0 av d0 (0,[])) fun oe4=>lk oe4 (fun e4=>ao (room (d0.length+1) 24)<|ao (c8 .i64 (a4+1))<|nx ((a4+1),(d0++[e4]))) (fun r=>rt r)else dn d0
def qh1(c2 ap:Int)(ab:(List ae))(a0 av:Int)(s0:(Int×qL2)):Option (qL2⊕(qL2×Int)):=a8 (fun a=>yr c2 ap ab a0 av a.1 a.2 (fun a' =>some (.next a')) (fun e=>some (.done e)) (fun r=>some (.ret r))) s0
def q43:Shp:=⟨[qxn,jgp,j8a,jrt],[qc2,qez]⟩
def q42:Shp:=⟨[j8z],[qez]⟩
def qhe(aa:bp):Option (qL2×Int):=bnd (g9 aa) fun r1=>bif (!r1)then some ([],1)else bnd (qfy aa) fun r2=>bif r2 then some ([],5)else bnd (qh1 aa.1 aa.1 aa.2.1 aa.2.2.1 aa.2.2.2.1 (0,[])) fun oe5=>lk oe5 (fun e5=>bnd (yw e5) fun r6=>some (r6.1,r6.2)) (fun r=>some r)
def nm{R:Type}(c2:(List ae))(a4 b3 eu ap:Int)(ab:(List ae))(a0 av:Int)(d0:qL2)(p1:ByteArray)(p2 p3:qL1)(ht:Int)(o2:qL1)(nx:(Int×qL1)→Option R)(dn:qL1→Option R)(rt:(qL2×Int)→Option R):Option R:=bif decide (ht<eu)then bnd (xu (p1,p2,p3,()) ht) fun r3=>ao (room (o2.length+1) 8)<|ao (c8 .i64 (ht+1))<|nx ((ht+1),(o2++[r3]))else dn o2
def qfw(c2:(List ae))(a4 b3 eu ap:Int)(ab:(List ae))(a0 av:Int)(d0:qL2)(p1:ByteArray)(p2 p3:qL1)(s0:(Int×qL1)):Option (qL1⊕(qL2×Int)):=a8 (fun a=>nm c2 a4 b3 eu ap ab a0 av d0 p1 p2 p3 a.1 a.2 (fun a' =>some (.next a')) (fun e=>some (.done e)) (fun r=>some (.ret r))) s0
def qrg:Shp:=⟨[qxn,jgp,(6, .ptr 2),(7, .own 3),juu,jrt,jru,j83,(24, .d true qT0)],[qc2,qez,qti,qg1]⟩
def qrf:Shp:=⟨[qxn,jgp,(7, .own 2),juu,jrt,jru],[qc2,qez,qg1]⟩
def np{R:Type}(c2:(List ae))(a4 ap:Int)(ab:(List ae))(a0 av b3:Int)(d0:qL2)(nx:(Int×qL2)→Option R)(dn:qL2→Option R)(rt:(qL2×Int)→Option R):Option R:=bif decide (b3<a4)then ao (ix b3 c2.length)<|ao (ix b3 c2.length)<|bnd (qfw c2 a4 b3 ap ap ab a0 av d0 (c2.getD b3.toNat ae.z).1 (c2.getD b3.toNat ae.z).2.1 (c2.getD b3.toNat ae.z).2.2.1 (0,[])) fun oe4=>lk oe4 (fun e4=>ao (room (d0.length+1) 24)<|ao (c8 .i64 (b3+1))<|nx ((b3+1),(d0++[e4]))) (fun r=>rt r)else dn d0
def xf(c2:(List ae))(a4 ap:Int)(ab:(List ae))(a0 av:Int)(s0:(Int×qL2)):Option (qL2⊕(qL2×Int)):=a8 (fun a=>np c2 a4 ap ab a0 av a.1 a.2 (fun a' =>some (.next a')) (fun e=>some (.done e)) (fun r=>some (.ret r))) s0
def qri:Shp:=⟨[qxn,jgp,juu,jrt,jru],[qc2,qez]⟩
def qrh:Shp:=⟨[j8z],[qez]⟩
def uh(aa:bp):Option (qL2×Int):=bnd (g9 aa) fun r1=>bif (!r1)then some ([],1)else bnd (qfy aa) fun r2=>bif r2 then some ([],5)else bnd (xf aa.2.1 (aa.2.1.length:Int) aa.1 aa.2.1 aa.2.2.1 aa.2.2.2.1 (0,[])) fun oe5=>lk oe5 (fun e5=>bnd (yw e5) fun r6=>some (r6.1,r6.2)) (fun r=>some r)
def qe{R:Type}(b4 h0 j2:Int)(j3:(List ae))(l2 ap:Int)(ab:(List ae))(a0 av b1:Int)(a1:qL2)(nx:(Int×qL2)→Option R)(dn:qL2→Option R)(rt:(Int×qL2)→Option R):Option R:=bif decide (b1<l2)then ao (ix b1 j3.length)<|ao (ix b1 j3.length)<|bnd (bj (j3.getD b1.toNat ae.z).2.2.1 b4) fun r2=>bif r2 then ao (ix b4 a1.length)<|ao (ix b4 a1.length)<|ao (ix b1 (a1.getD b4.toNat []).length)<|ao (ix b1 (a1.getD b4.toNat []).length)<|ao (c8 .i64 (((a1.getD b4.toNat []).getD b1.toNat 0)+1))<|ao (ix b1 (a1.getD b4.toNat []).length)<|ao (ix b1 (a1.getD b4.toNat []).length)<|bnd (bj (j3.getD b1.toNat ae.z).2.1 b4) fun r3=>bif r3 then ao (ix b4 (a1.set b4.toNat ((a1.getD b4.toNat []).set b1.toNat (((a1.getD b4.toNat []).getD b1.toNat 0)+1))).length)<|ao (ix b4 (a1.set b4.toNat ((a1.getD b4.toNat []).set b1.toNat (((a1.getD b4.toNat []).getD b1.toNat 0)+1))).length)<|ao (ix b1 ((a1.set b4.toNat ((a1.getD b4.toNat []).set b1.toNat (((a1.getD b4.toNat []).getD b1.toNat 0)+1))).getD b4.toNat []).length)<|ao (ix b1 ((a1.set b4.toNat ((a1.getD b4.toNat []).set b1.toNat (((a1.getD b4.toNat []).getD b1.toNat 0)+1))).getD b4.toNat []).length)<|ao (c8 .i64 ((((a1.set b4.toNat ((a1.getD b4.toNat []).set b1.toNat (((a1.getD b4.toNat []).getD b1.toNat 0)+1))).getD b4.toNat []).getD b1.toNat 0)-1))<|ao (ix b1 ((a1.set b4.toNat ((a1.getD b4.toNat []).set b1.toNat (((a1.getD b4.toNat []).getD b1.toNat 0)+1))).getD b4.toNat []).length)<|ao (ix b1 ((a1.set b4.toNat ((a1.getD b4.toNat []).set b1.toNat (((a1.getD b4.toNat []).getD b1.toNat 0)+1))).getD b4.toNat []).length)<|ao (c8 .i64 (b1+1))<|nx ((b1+1),((a1.set b4.toNat ((a1.getD b4.toNat []).set b1.toNat (((a1.getD b4.toNat []).getD b1.toNat 0)+1))).set b4.toNat (((a1.set b4.toNat ((a1.getD b4.toNat []).set b1.toNat (((a1.getD b4.toNat []).getD b1.toNat 0)+1))).getD b4.toNat []).set b1.toNat ((((a1.set b4.toNat ((a1.getD b4.toNat []).set b1.toNat (((a1.getD b4.toNat []).getD b1.toNat 0)+1))).getD b4.toNat []).getD b1.toNat 0)-1))))else ao (c8 .i64 (b1+1))<|nx ((b1+1),(a1.set b4.toNat ((a1.getD b4.toNat []).set b1.toNat (((a1.getD b4.toNat []).getD b1.toNat 0)+1))))else bnd (bj (j3.getD b1.toNat ae.z).2.1 b4) fun r4=>bif r4 then ao (ix b4 a1.length)<|ao (ix b4 a1.length)<|ao (ix b1 (a1.getD b4.toNat []).length)<|ao (ix b1 (a1.getD b4.toNat []).length)<|ao (c8 .i64 (((a1.getD b4.toNat []).getD b1.toNat 0)-1))<|ao (ix b1 (a1.getD b4.toNat []).length)<|ao (ix b1 (a1.getD b4.toNat []).length)<|ao (c8 .i64 (b1+1))<|nx ((b1+1),(a1.set b4.toNat ((a1.getD b4.toNat []).set b1.toNat (((a1.getD b4.toNat []).getD b1.toNat 0)-1))))else ao (c8 .i64 (b1+1))<|nx ((b1+1),a1)else dn a1
def qhr(b4 h0 j2:Int)(j3:(List ae))(l2 ap:Int)(ab:(List ae))(a0 av:Int)(s0:(Int×qL2)):Option (qL2⊕(Int×qL2)):=a8 (fun a=>qe b4 h0 j2 j3 l2 ap ab a0 av a.1 a.2 (fun a' =>some (.next a')) (fun e=>some (.done e)) (fun r=>some (.ret r))) s0
def qtp:Shp:=⟨[qxn,(4, .own 1),jrx,j87,j9e,(44, .d false (.slice ae.ty)),(45, .d true qT0),(46, .d true qT0)],[qc2,q3v]⟩
def qto:Shp:=⟨[qxn,(4, .own 1),j87,j9e],[qc2,q3v]⟩
def qf{R:Type}(h0 ap:Int)(ab:(List ae))(a0 av j2:Int)(a1:qL2)(nx:(Int×qL2)→Option R)(dn:qL2→Option R)(rt:(Int×qL2)→Option R):Option R:=bif decide (j2<h0)then ao (qoo (ab.length:Int) (ab.length:Int) 8)<|ao (ix j2 a1.length)<|ao (ix j2 a1.length)<|bnd (qhr j2 h0 j2 ab (ab.length:Int) ap ab a0 av (0,(a1.set j2.toNat (List.replicate (ab.length:Int).toNat (0:Int))))) fun oe5=>lk oe5 (fun e5=>ao (c8 .i64 (j2+1))<|nx ((j2+1),e5)) (fun r=>rt r)else dn a1
def qhs(h0 ap:Int)(ab:(List ae))(a0 av:Int)(s0:(Int×qL2)):Option (qL2⊕(Int×qL2)):=a8 (fun a=>qf h0 ap ab a0 av a.1 a.2 (fun a' =>some (.next a')) (fun e=>some (.done e)) (fun r=>some (.ret r))) s0
def qtr:Shp:=⟨[qxn,(4, .own 1),j87,j9e],[qc2,q3v]⟩
def qtq:Shp:=⟨[(4, .own 0)],[q3v]⟩
def wz(aa:bp):Option (Int×qL2):=bnd (g9 aa) fun r1=>bif (!r1)then some (1,[])else bif decide ((aa.2.1.length:Int)=0)then some (5,[])else bif decide ((20:Int)<(aa.2.1.length:Int))then some (5,[])else bif decide ((20:Int)<aa.1)then some (5,[])else ao (qoo aa.1 aa.1 24)<|bnd (qhs ((List.replicate aa.1.toNat ([]:qL1)).length:Int) aa.1 aa.2.1 aa.2.2.1 aa.2.2.2.1 (0,(List.replicate aa.1.toNat ([]:qL1)))) fun oe6=>lk oe6 (fun e6=>some (0,e6)) (fun r=>some r)
def us(aa:Int):Option Bool:=bif decide (aa<(-1048576))then some true else some (decide ((1048576:Int)<aa))
def ci{R:Type}(ad:qL1)(b5 a2:Int)(nx:Int→Option R)(dn:Unit→Option R)(rt:Int→Option R):Option R:=bif decide (a2<b5)then ao (ix a2 ad.length)<|ao (ix a2 ad.length)<|bnd (us (ad.getD a2.toNat 0)) fun r1=>bif r1 then rt a2 else ao (c8 .i64 (a2+1))<|nx (a2+1)else dn ()
def oy(ad:qL1)(b5 s0:Int):Option (Unit⊕Int):=a8 (fun a=>ci ad b5 a (fun a' =>some (.next a')) (fun e=>some (.done e)) (fun r=>some (.ret r))) s0
def qa9:Shp:=⟨[jr2,(1, .fn 162 .nil),q0u,q4p],[]⟩
def qa8:Shp:=⟨[],[]⟩
def j8(ad:qL1):Option Int:=bnd (oy ad (ad.length:Int) 0) fun oe2=>lk oe2 (fun e2=>some (-1)) (fun r=>some r)
def ie(ad:qL1):Option Bool:=bnd (j8 ad) fun r1=>some (decide ((0:Int)≤r1))
def zh(hy:qL1):Option Bool:=bnd (ie hy) fun r1=>some (!r1)
def zg(k5:qL1)(hb:qL2):Option Bool:=ao (ix 0 1)<|ao (ix 0 hb.length)<|ao (ix 0 hb.length)<|bif (!decide ((k5.length:Int)=((hb.getD 0 []).length:Int)))then some true else bnd (zh k5) fun r1=>some (!r1)
def cg{R:Type}(ad f_1c0:qL2)(b5 a2:Int)(nx:Int→Option R)(dn:Unit→Option R)(rt:Int→Option R):Option R:=bif decide (a2<b5)then ao (ix a2 ad.length)<|ao (ix a2 ad.length)<|bnd (zg (ad.getD a2.toNat []) f_1c0) fun r1=>bif r1 then rt a2 else ao (c8 .i64 (a2+1))<|nx (a2+1)else dn ()
def ow(ad f_1c0:qL2)(b5 s0:Int):Option (Unit⊕Int):=a8 (fun a=>cg ad f_1c0 b5 a (fun a' =>some (.next a')) (fun e=>some (.done e)) (fun r=>some (.ret r))) s0
def qa6:Shp:=⟨[juz,(1, .fn 134 (.cons (.rp false qT2) .nil)),q0u,q4p],[]⟩
def qa5:Shp:=⟨[],[]⟩
def j7(ad f_1c0:qL2):Option Int:=bnd (ow ad f_1c0 (ad.length:Int) 0) fun oe2=>lk oe2 (fun e2=>some (-1)) (fun r=>some r)
def ic(ad f_1c0:qL2):Option Bool:=bnd (j7 ad f_1c0) fun r1=>some (decide ((0:Int)≤r1))
def qfa(hh:qL2):Option Bool:=bif decide ((hh.length:Int)<1)then some false else bif decide ((20:Int)<(hh.length:Int))then some false else ao (ix 0 hh.length)<|ao (ix 0 hh.length)<|bif decide (((hh.getD 0 []).length:Int)<1)then some false else ao (ix 0 hh.length)<|ao (ix 0 hh.length)<|bif decide ((20:Int)<((hh.getD 0 []).length:Int))then some false else bnd (ic hh hh) fun r1=>some (!r1)
def ql7(aa:Int):Option Int:=ao (c8 .i64 (0-aa))<|some (max aa (0-aa))
def wy{R:Type}(hi:Int)(dt:qL2)(ez g2:Int)(c2:qL1)(a4 o3 b3:Int)(nx:(Int×Int)→Option R)(dn:Int→Option R)(rt:Bool→Option R):Option R:=bif decide (b3<a4)then ao (ix b3 c2.length)<|ao (ix b3 c2.length)<|bnd (ql7 (c2.getD b3.toNat 0)) fun r1=>ao (c8 .i64 (o3+r1))<|ao (c8 .i64 (b3+1))<|nx ((o3+r1),(b3+1))else dn o3
def qp0(hi:Int)(dt:qL2)(ez g2:Int)(c2:qL1)(a4:Int)(s0:(Int×Int)):Option (Int⊕Bool):=a8 (fun a=>wy hi dt ez g2 c2 a4 a.1 a.2 (fun a' =>some (.next a')) (fun e=>some (.done e)) (fun r=>some (.ret r))) s0
def q2v:Shp:=⟨[jon,jjg,j88,q4b,j78,(15, .d false qT1),jrt,jru],[]⟩
def q2u:Shp:=⟨[jon,jjg,j88,q4b,j78],[]⟩
def rc{R:Type}(dt:qL2)(ez hi g2:Int)(nx:(Int×Int)→Option R)(dn:Unit→Option R)(rt:Bool→Option R):Option R:=bif decide (g2<ez)then ao (ix g2 dt.length)<|ao (ix g2 dt.length)<|bnd (qp0 hi dt ez g2 (dt.getD g2.toNat []) ((dt.getD g2.toNat []).length:Int) (0,0)) fun oe2=>lk oe2 (fun e2=>ao (c8 .i64 (hi*(max e2 1)))<|bif decide ((1073741824:Int)<(hi*(max e2 1)))then rt false else ao (c8 .i64 (g2+1))<|nx ((hi*(max e2 1)),(g2+1))) (fun r=>rt r)else dn ()
def qp1(dt:qL2)(ez:Int)(s0:(Int×Int)):Option (Unit⊕Bool):=a8 (fun a=>rc dt ez a.1 a.2 (fun a' =>some (.next a')) (fun e=>some (.done e)) (fun r=>some (.ret r))) s0
def q2x:Shp:=⟨[jon,j88,q4b,j78],[]⟩
def q2w:Shp:=⟨[],[]⟩
def qfb(hh:qL2):Option Bool:=bnd (qp1 hh (hh.length:Int) (1,0)) fun oe3=>lk oe3 (fun e3=>some true) (fun r=>some r)
def je{R:Type}(gw i2:Int)(hq:Nat)(nn:Int)(i0:Nat)(p0 fl en dk kp k1:Int)(bo:qL1)(bb:Int)(cc:qL2)(nx:(Int×qL2)→Option R)(dn:qL2→Option R)(rt:(Int×Int×qL2×qL1)→Option R):Option R:=bif decide (bb<dk)then ao (ix bb (cc.getD i0 []).length)<|ao (ix bb (cc.getD i0 []).length)<|ao (ix bb (cc.getD hq []).length)<|ao (ix bb (cc.getD hq []).length)<|ao (!decide (kp=0))<|ao (ix bb (cc.getD i0 []).length)<|ao (ix bb (cc.getD i0 []).length)<|nx ((IntKind.wrap .i64 (bb+1)),(cc.set i0 ((cc.getD i0 []).set bb.toNat (IntKind.wrap .i64 (Int.tdiv (IntKind.wrap .i64 ((IntKind.wrap .i64 (nn*((cc.getD i0 []).getD bb.toNat 0)))-(IntKind.wrap .i64 (p0*((cc.getD hq []).getD bb.toNat 0))))) kp)))))else dn cc
def x6(gw i2:Int)(hq:Nat)(nn:Int)(i0:Nat)(p0 fl en dk kp k1:Int)(bo:qL1)(s0:(Int×qL2)):Option (qL2⊕(Int×Int×qL2×qL1)):=a8 (fun a=>je gw i2 hq nn i0 p0 fl en dk kp k1 bo a.1 a.2 (fun a' =>some (.next a')) (fun e=>some (.done e)) (fun r=>some (.ret r))) s0
def qil:Shp:=⟨[jds,qxg,jfa,(6, .kid 1 0),q0u,(9, .kid 1 0),q4b,(26, .own 1),j2y,j84,j9f,j23],[qr8,q3v,qg1]⟩
def qik:Shp:=⟨[jds,qxg,jfa,(6, .kid 1 0),q0u,(26, .own 1),j2y,j84],[qr8,q3v,qg1]⟩
def fm{R:Type}(gw i2:Int)(hq:Nat)(nn fl kp k1:Int)(bo:qL1)(en:Int)(cc:qL2)(nx:(Int×qL2)→Option R)(dn:qL2→Option R)(rt:(Int×Int×qL2×qL1)→Option R):Option R:=bif decide (en<fl)then ao (ix en cc.length)<|ao (ix en cc.length)<|bif decide (en=gw)then nx ((IntKind.wrap .i64 (en+1)),cc)else ao (ix i2 (cc.getD en.toNat []).length)<|ao (ix i2 (cc.getD en.toNat []).length)<|bnd (x6 gw i2 hq nn en.toNat ((cc.getD en.toNat []).getD i2.toNat 0) fl en ((cc.getD en.toNat []).length:Int) kp k1 bo (0,cc)) fun oe1=>lk oe1 (fun e1=>nx ((IntKind.wrap .i64 (en+1)),e1)) (fun r=>rt r)else dn cc
def x7(gw i2:Int)(hq:Nat)(nn fl kp k1:Int)(bo:qL1)(s0:(Int×qL2)):Option (qL2⊕(Int×Int×qL2×qL1)):=a8 (fun a=>fm gw i2 hq nn fl kp k1 bo a.1 a.2 (fun a' =>some (.next a')) (fun e=>some (.done e)) (fun r=>some (.ret r))) s0
def qin:Shp:=⟨[jds,qxg,jfa,(6, .kid 1 0),q0u,(26, .own 1),j2y,j84],[qr8,q3v,qg1]⟩
def qim:Shp:=⟨[jds,q0u],[qr8,q3v,qg1]⟩
def iv(gw i2 kp k1:Int)(a3:qL2)(bo:qL1):Option (Int×Int×qL2×qL1):=ao (ix gw a3.length)<|ao (ix gw a3.length)<|ao (ix i2 (a3.getD gw.toNat []).length)<|ao (ix i2 (a3.getD gw.toNat []).length)<|bnd (x7 gw i2 gw.toNat ((a3.getD gw.toNat []).getD i2.toNat 0) (a3.length:Int) kp k1 bo (0,a3)) fun oe2=>lk oe2 (fun e2=>some (((a3.getD gw.toNat []).getD i2.toNat 0),k1,e2,bo)) (fun r=>some r)
def ut{R:Type}(ea:Int)(hn:qL2)(gj:Int)(ch:qL2)(dk:qL1)(bb f2 ih ik:Int)(eg:qL1)(j1:Int)(c5:qL2)(nx:(Int×qL2)→Option R)(dn:qL2→Option R)(rt:db→Option R):Option R:=bif decide (j1<gj)then ao (ix j1 hn.length)<|ao (ix j1 hn.length)<|bnd (b8 (hn.getD j1.toNat [])) fun r1=>ao (room (c5.length+1) 24)<|nx ((IntKind.wrap .i64 (j1+1)),(c5++[r1]))else dn c5
def qnk(ea:Int)(hn:qL2)(gj:Int)(ch:qL2)(dk:qL1)(bb f2 ih ik:Int)(eg:qL1)(s0:(Int×qL2)):Option (qL2⊕db):=a8 (fun a=>ut ea hn gj ch dk bb f2 ih ik eg a.1 a.2 (fun a' =>some (.next a')) (fun e=>some (.done e)) (fun r=>some (.ret r))) s0
def qy6:Shp:=⟨[qxg,jh9,j2p,(12, .d false qT2),jmy,j82],[qq1,qrv,q3v,qg1]⟩
def qy5:Shp:=⟨[qxg,jh9,j2p],[qq1,qrv,q3v,qg1]⟩
def oh{R:Type}(ea i8 q1:Int)(ch:qL2)(dk:qL1)(bb f2 ih ik:Int)(c5:qL2)(eg:qL1)(kx:Int)(nx dn:Int→Option R)(rt:db→Option R):Option R:=bif decide (kx<(c5.length:Int))then ao (ix kx c5.length)<|ao (ix kx c5.length)<|ao (ix i8 (c5.getD kx.toNat []).length)<|ao (ix i8 (c5.getD kx.toNat []).length)<|bif decide (((c5.getD kx.toNat []).getD i8.toNat 0)=0)then nx (IntKind.wrap .i64 (kx+1))else dn kx else dn kx
def qnl(ea i8 q1:Int)(ch:qL2)(dk:qL1)(bb f2 ih ik:Int)(c5:qL2)(eg:qL1)(s0:Int):Option (Int⊕db):=a8 (fun a=>oh ea i8 q1 ch dk bb f2 ih ik c5 eg a (fun a' =>some (.next a')) (fun e=>some (.done e)) (fun r=>some (.ret r))) s0
def qy8:Shp:=⟨[qxg,jh9,j2p,q4p,jel,q4b],[qq1,qrv,q3v,qg1]⟩
def qy7:Shp:=⟨[qxg,jh9,j2p,q4p,jel,q4b],[qq1,qrv,q3v,qg1]⟩
def f8{R:Type}(ea:Int)(ch:qL2)(dk:qL1)(bb f2 i8 ih ik:Int)(c5:qL2)(eg:qL1)(nx:(Int×Int×Int×qL2×qL1)→Option R)(dn:(Int×Int×qL2×qL1)→Option R)(rt:db→Option R):Option R:=bif decide (i8<ea)then bif decide ((eg.length:Int)<(c5.length:Int))then bnd (qnl ea i8 (eg.length:Int) ch dk bb f2 ih ik c5 eg (eg.length:Int)) fun oe3=>lk oe3 (fun e3=>bif decide (e3=(c5.length:Int))then nx ((IntKind.wrap .i64 (i8+1)),ih,ik,c5,eg)else bif (!decide (e3=(eg.length:Int)))then ao (ix (eg.length:Int) c5.length)<|ao (ix (eg.length:Int) c5.length)<|ao (ix e3 c5.length)<|ao (ix e3 c5.length)<|ao (ix e3 c5.length)<|ao (ix (eg.length:Int) c5.length)<|ao (ix e3 c5.length)<|ao (decide ((c5.length:Nat)=c5.length))<|ao (ix (eg.length:Int) c5.length)<|ao (decide (((eg.length:Int).toNat:Nat)=(eg.length:Int).toNat))<|ao (decide ((e3.toNat:Nat)=e3.toNat))<|bnd (iv (eg.length:Int) i8 ih (IntKind.wrap .i64 (ik+1)) ((c5.set e3.toNat (c5.getD (eg.length:Int).toNat [])).set (eg.length:Int).toNat (c5.getD e3.toNat [])) eg) fun r4=>ao (decide (r4.2.2.1.length=((c5.set e3.toNat (c5.getD (eg.length:Int).toNat [])).set (eg.length:Int).toNat (c5.getD e3.toNat [])).length))<|ao (decide (r4.2.2.2.length=eg.length))<|ao (room (r4.2.2.2.length+1) 8)<|nx ((IntKind.wrap .i64 (i8+1)),r4.1,r4.2.1,r4.2.2.1,(r4.2.2.2++[i8]))else bnd (iv (eg.length:Int) i8 ih ik c5 eg) fun r5=>ao (decide (r5.2.2.1.length=c5.length))<|ao (decide (r5.2.2.2.length=eg.length))<|ao (room (r5.2.2.2.length+1) 8)<|nx ((IntKind.wrap .i64 (i8+1)),r5.1,r5.2.1,r5.2.2.1,(r5.2.2.2++[i8]))) (fun r=>rt r)else dn (ih,ik,c5,eg)else dn (ih,ik,c5,eg)
def qnm(ea:Int)(ch:qL2)(dk:qL1)(bb f2:Int)(s0:(Int×Int×Int×qL2×qL1)):Option ((Int×Int×qL2×qL1)⊕db):=a8 (fun a=>f8 ea ch dk bb f2 a.1 a.2.1 a.2.2.1 a.2.2.2.1 a.2.2.2.2 (fun a' =>some (.next a')) (fun e=>some (.done e)) (fun r=>some (.ret r))) s0
def qza:Shp:=⟨[qxg,jh9,j2p,q4p],[qq1,qrv,q3v,qg1]⟩
def qy9:Shp:=⟨[jh9,j2p],[qq1,qrv,q3v,qg1]⟩
def qcx(hh:qL2)(ea:Int):Option db:=bnd (qnk ea hh (hh.length:Int) [] [] 0 0 1 0 [] (0,[])) fun oe2=>lk oe2 (fun e2=>bnd (qnm ea [] [] 0 0 (0,1,0,e2,[])) fun oe6=>lk oe6 (fun e6=>some (e6.2.2.1,e6.2.2.2,e6.1,e6.2.1,())) (fun r=>some r)) (fun r=>some r)
def x5(hh:qL2):Option (Int×Int):=bnd (qfa hh) fun r1=>bif (!r1)then some (0,1)else bnd (qfb hh) fun r2=>bif (!r2)then some (0,6)else ao (ix 0 hh.length)<|ao (ix 0 hh.length)<|bnd (qcx hh ((hh.getD 0 []).length:Int)) fun r3=>some ((r3.2.1.length:Int),0)
def mr(k5:qL1)(hb:Int):Option Bool:=ao (ix 0 1)<|bif decide (hb<(k5.length:Int))then ao (ix 0 1)<|ao (ix hb k5.length)<|ao (ix hb k5.length)<|some (decide ((0:Int)<(k5.getD hb.toNat 0)))else some false
def fa{R:Type}(ad:qL2)(f_1c0 b5 a2:Int)(nx:Int→Option R)(dn:Unit→Option R)(rt:Int→Option R):Option R:=bif decide (a2<b5)then ao (ix a2 ad.length)<|ao (ix a2 ad.length)<|bnd (mr (ad.getD a2.toNat []) f_1c0) fun r1=>bif r1 then rt a2 else ao (c8 .i64 (a2+1))<|nx (a2+1)else dn ()
def pu(ad:qL2)(f_1c0 b5 s0:Int):Option (Unit⊕Int):=a8 (fun a=>fa ad f_1c0 b5 a (fun a' =>some (.next a')) (fun e=>some (.done e)) (fun r=>some (.ret r))) s0
def qcm:Shp:=⟨[juz,(1, .fn 99 (.cons (.rp false qT0) .nil)),q0u,q4p],[]⟩
def qcl:Shp:=⟨[],[]⟩
def kw(ad:qL2)(f_1c0:Int):Option Int:=bnd (pu ad f_1c0 (ad.length:Int) 0) fun oe2=>lk oe2 (fun e2=>some (-1)) (fun r=>some r)
def er(ad:qL2)(f_1c0:Int):Option Bool:=bnd (kw ad f_1c0) fun r1=>some (decide ((0:Int)≤r1))
def iq{R:Type}(l0:qL2)(f3 b5:Int)(nx:Int→Option R)(dn:Unit→Option R)(rt:Bool→Option R):Option R:=bif decide (b5<f3)then bnd (er l0 b5) fun r1=>bif (!r1)then rt false else ao (c8 .i64 (b5+1))<|nx (b5+1)else dn ()
def qdf(l0:qL2)(f3 s0:Int):Option (Unit⊕Bool):=a8 (fun a=>iq l0 f3 a (fun a' =>some (.next a')) (fun e=>some (.done e)) (fun r=>some (.ret r))) s0
def qol:Shp:=⟨[juz,jjg,q0u],[]⟩
def qok:Shp:=⟨[],[]⟩
def fx(l0:qL2)(m1:Int):Option Bool:=bnd (qdf l0 m1 0) fun oe2=>lk oe2 (fun e2=>some true) (fun r=>some r)
def ny(lv:qL2)(hb:bp):Option Bool:=ao (ix 0 1)<|ao (ix 0 1)<|bnd (fx lv hb.1) fun r1=>some r1
def ld(f_0c0:qL2)(f_0c1:bp):Option Bool:=bnd (ny f_0c0 f_0c1) fun r1=>some (!r1)
def n4(lv:qL2)(hb:bp):Option Bool:=ao (ix 0 1)<|ao (ix 0 1)<|bnd (fx lv (hb.2.1.length:Int)) fun r1=>some r1
def lg(f_0c0:qL2)(f_0c1:bp):Option Bool:=bnd (n4 f_0c0 f_0c1) fun r1=>some (!r1)
def n5(lv:Int)(hb:bp):Option Bool:=ao (ix 0 1)<|ao (ix 0 1)<|bnd (dp hb) fun r1=>ao (c8 .i64 ((r1.length:Int)-1))<|some (decide (lv=((r1.length:Int)-1)))
def lh(f_0c0:Int)(f_0c1:bp):Option Bool:=bnd (n5 f_0c0 f_0c1) fun r1=>some (!r1)
def cw(s_00c0:qL2)(s_00c10:Int)(s_00c11:(List ae))(s_00c12 s_00c13:Int)(s_01c0:qL2)(s_02c0:Int):Option (Int×qL2×Int×(List ae)×Int×Int×qL2×Int):=ao (ix 0 3)<|bnd (ld s_00c0 (s_00c10,s_00c11,s_00c12,s_00c13,())) fun r1=>bif r1 then some (0,s_00c0,s_00c10,s_00c11,s_00c12,s_00c13,s_01c0,s_02c0)else ao (c8 .i64 (1:Int))<|ao (ix 1 3)<|bnd (lg s_01c0 (s_00c10,s_00c11,s_00c12,s_00c13,())) fun r2=>bif r2 then some (1,s_00c0,s_00c10,s_00c11,s_00c12,s_00c13,s_01c0,s_02c0)else ao (c8 .i64 (2:Int))<|ao (ix 2 3)<|bnd (lh s_02c0 (s_00c10,s_00c11,s_00c12,s_00c13,())) fun r3=>bif r3 then some (2,s_00c0,s_00c10,s_00c11,s_00c12,s_00c13,s_01c0,s_02c0)else ao (c8 .i64 (3:Int))<|some ((-1),s_00c0,s_00c10,s_00c11,s_00c12,s_00c13,s_01c0,s_02c0)
def bq(s_00c0:qL2)(s_00c10:Int)(s_00c11:(List ae))(s_00c12 s_00c13:Int)(s_01c0:qL2)(s_02c0:Int):Option (Bool×qL2×Int×(List ae)×Int×Int×qL2×Int):=bnd (cw s_00c0 s_00c10 s_00c11 s_00c12 s_00c13 s_01c0 s_02c0) fun r1=>some (decide ((0:Int)≤r1.1),r1.2.1,r1.2.2.1,r1.2.2.2.1,r1.2.2.2.2.1,r1.2.2.2.2.2.1,r1.2.2.2.2.2.2.1,r1.2.2.2.2.2.2.2)
def fg(aa:bp):Option (Bool×Int):=bnd (g9 aa) fun r1=>bif (!r1)then some (false,1)else bnd (gu aa) fun r2=>bif (!r2)then some (false,19)else bnd (mq aa) fun r3=>bif (!r3)then some (false,0)else bnd (qhe aa) fun r4=>bif (!decide (r4.2=0))then some (false,r4.2)else bnd (uh aa) fun r5=>bif (!decide (r5.2=0))then some (false,r5.2)else bnd (wz aa) fun r6=>bif (!decide (r6.1=0))then some (false,r6.1)else bnd (x5 r6.2) fun r7=>bif (!decide (r7.2=0))then some (false,r7.2)else bnd (bq r4.1 aa.1 aa.2.1 aa.2.2.1 aa.2.2.2.1 r5.1 r7.1) fun r8=>some ((!r8.1),0)
def xc{R:Type}(f3:qL1)(b5 op a2:Int)(nx:(Int×Int)→Option R)(dn rt:Int→Option R):Option R:=bif decide (a2<b5)then ao (ix a2 f3.length)<|ao (ix a2 f3.length)<|ao (decide (0≤(f3.getD a2.toNat 0)))<|ao (c8 .i64 (a2+1))<|nx ((yi .or .u32 op (qos .u32 1 (f3.getD a2.toNat 0))),(a2+1))else dn op
def qqt(f3:qL1)(b5:Int)(s0:(Int×Int)):Option (Int⊕Int):=a8 (fun a=>xc f3 b5 a.1 a.2 (fun a' =>some (.next a')) (fun e=>some (.done e)) (fun r=>some (.ret r))) s0
def q3p:Shp:=⟨[(3, .d true (.int .u32)),j8c,q0u,q4p],[]⟩
def q3o:Shp:=⟨[(3, .d true (.int .u32))],[]⟩
def qab(hy:qL1):Option Int:=bnd (qqt hy (hy.length:Int) (0,0)) fun oe1=>lk oe1 (fun e1=>some e1) (fun r=>some r)
def tm{R:Type}(c2:(List ae))(a4 ap:Int)(ab:(List ae))(a0 av b3:Int)(hc a1:qL1)(nx:(Int×qL1×qL1)→Option R)(dn:(qL1×qL1)→Option R)(rt:qL1→Option R):Option R:=bif decide (b3<a4)then ao (ix b3 c2.length)<|ao (ix b3 c2.length)<|bnd (qab (c2.getD b3.toNat ae.z).2.1) fun r1=>bnd (qab (c2.getD b3.toNat ae.z).2.2.1) fun r2=>ao (room (hc.length+1) 4)<|ao (room (a1.length+1) 4)<|ao (c8 .i64 (b3+1))<|nx ((b3+1),(hc++[r1]),(a1++[r2]))else dn (hc,a1)
def qki(c2:(List ae))(a4 ap:Int)(ab:(List ae))(a0 av:Int)(s0:(Int×qL1×qL1)):Option ((qL1×qL1)⊕qL1):=a8 (fun a=>tm c2 a4 ap ab a0 av a.1 a.2.1 a.2.2 (fun a' =>some (.next a')) (fun e=>some (.done e)) (fun r=>some (.ret r))) s0
def qw1:Shp:=⟨[qxn,(3, .nl false (.own 1)),(4, .nl false (.own 2)),juu,jrt,jru],[qc2,qxv,qxv]⟩
def qw0:Shp:=⟨[qxn,(3, .nl false (.own 1)),(4, .nl false (.own 2))],[qc2,qxv,qxv]⟩
def jv{R:Type}(hc a1:qL1)(gs b1 ap:Int)(ab:(List ae))(a0 av:Int)(f0:qL1)(io:Int)(eq:(List Bool))(nx:(Int×(List Bool))→Option R)(dn:(List Bool)→Option R)(rt:qL1→Option R):Option R:=bif decide (io<b1)then ao (decide (0≤io))<|bif (!decide ((yi .and .u32 gs (qos .u32 1 io))=0))then ao (ix (yi .andNot .u32 gs (qos .u32 1 io)) eq.length)<|ao (ix (yi .andNot .u32 gs (qos .u32 1 io)) eq.length)<|bif (eq.getD (yi .andNot .u32 gs (qos .u32 1 io)).toNat false)then ao (ix gs eq.length)<|ao (ix gs eq.length)<|ao (c8 .i64 (io+1))<|nx ((io+1),(eq.set gs.toNat true))else ao (c8 .i64 (io+1))<|nx ((io+1),eq)else ao (c8 .i64 (io+1))<|nx ((io+1),eq)else dn eq
def qkj(hc a1:qL1)(gs b1 ap:Int)(ab:(List ae))(a0 av:Int)(f0:qL1)(s0:(Int×(List Bool))):Option ((List Bool)⊕qL1):=a8 (fun a=>jv hc a1 gs b1 ap ab a0 av f0 a.1 a.2 (fun a' =>some (.next a')) (fun e=>some (.done e)) (fun r=>some (.ret r))) s0
def qw3:Shp:=⟨[qxn,q75,q8g,j9j,j17,jx5,(46, .d true qT0),(47, .d true qT0)],[qc2,qla,qxv]⟩
def qw2:Shp:=⟨[qxn,q75,q8g,j9j,j17,jx5],[qc2,qla,qxv]⟩
def tn{R:Type}(hc a1:qL1)(gs lo ap:Int)(ab:(List ae))(a0 av:Int)(eq:(List Bool))(f0:qL1)(q0:Bool)(hp:Int)(nx:(Bool×Int)→Option R)(dn:Bool→Option R)(rt:qL1→Option R):Option R:=bif decide (hp<lo)then bif q0 then ao (ix hp a1.length)<|ao (ix hp a1.length)<|bif decide ((yi .and .u32 (a1.getD hp.toNat 0) gs)=0)then ao (c8 .i64 (hp+1))<|nx (true,(hp+1))else ao (ix hp hc.length)<|ao (ix hp hc.length)<|ao (c8 .i64 (hp+1))<|nx ((!decide ((yi .and .u32 (hc.getD hp.toNat 0) gs)=0)),(hp+1))else ao (c8 .i64 (hp+1))<|nx (false,(hp+1))else dn q0
def qkk(hc a1:qL1)(gs lo ap:Int)(ab:(List ae))(a0 av:Int)(eq:(List Bool))(f0:qL1)(s0:(Bool×Int)):Option (Bool⊕qL1):=a8 (fun a=>tn hc a1 gs lo ap ab a0 av eq f0 a.1 a.2 (fun a' =>some (.next a')) (fun e=>some (.done e)) (fun r=>some (.ret r))) s0
def qw5:Shp:=⟨[qxn,q75,q8g,j9j,j17,jx5,(12, .d true .bool),(73, .d true qT0),(74, .d true qT0)],[qc2,qla,qxv]⟩
def qw4:Shp:=⟨[qxn,q75,q8g,j9j,j17,jx5,(12, .d true .bool)],[qc2,qla,qxv]⟩
def jw{R:Type}(hc a1:qL1)(ap:Int)(ab:(List ae))(a0 av gs:Int)(eq:(List Bool))(f0:qL1)(nx:(Int×(List Bool)×qL1)→Option R)(dn rt:qL1→Option R):Option R:=ao (decide (0≤ap))<|bif decide (gs<(qos .u32 1 ap))then bnd (qkj hc a1 gs ap ap ab a0 av f0 (0,eq)) fun oe4=>lk oe4 (fun e4=>ao (ix gs e4.length)<|ao (ix gs e4.length)<|bif (e4.getD gs.toNat false)then nx ((IntKind.wrap .u32 (gs+1)),e4,f0)else bnd (qkk hc a1 gs (hc.length:Int) ap ab a0 av e4 f0 (true,0)) fun oe5=>lk oe5 (fun e5=>bif e5 then ao (ix gs e4.length)<|ao (ix gs e4.length)<|ao (room (f0.length+1) 4)<|nx ((IntKind.wrap .u32 (gs+1)),(e4.set gs.toNat true),(f0++[gs]))else nx ((IntKind.wrap .u32 (gs+1)),e4,f0)) (fun r=>rt r)) (fun r=>rt r)else dn f0
def qca(hc a1:qL1)(ap:Int)(ab:(List ae))(a0 av:Int)(s0:(Int×(List Bool)×qL1)):Option (qL1⊕qL1):=a8 (fun a=>jw hc a1 ap ab a0 av a.1 a.2.1 a.2.2 (fun a' =>some (.next a')) (fun e=>some (.done e)) (fun r=>some (.ret r))) s0
def qw7:Shp:=⟨[qxn,q75,q8g,j9j,j17,jx5],[qc2,qla,qxv]⟩
def qw6:Shp:=⟨[(8, .nl false (.own 0))],[qxv]⟩
def qac(aa:bp):Option qL1:=bnd (qki aa.2.1 (aa.2.1.length:Int) aa.1 aa.2.1 aa.2.2.1 aa.2.2.2.1 (0,[],[])) fun oe3=>lk oe3 (fun e3=>ao (decide (0≤aa.1))<|ao (qoo (qos .i64 1 aa.1) (qos .i64 1 aa.1) 1)<|bnd (qca e3.1 e3.2 aa.1 aa.2.1 aa.2.2.1 aa.2.2.2.1 (1,(List.replicate (qos .i64 1 aa.1).toNat (false:Bool)),[])) fun oe6=>lk oe6 (fun e6=>some e6) (fun r=>some r)) (fun r=>some r)
def ky(mk:qL2):Option qL2:=jnk mk
def my{R:Type}(q4:Int)(a6:qL1)(et cb hr ap:Int)(ab:(List ae))(a0 av:Int)(a1:qL2)(cc:Int)(qx:qL1)(nx:(Int×qL1)→Option R)(dn:qL1→Option R)(rt:(Int×qL2)→Option R):Option R:=bif decide (cc<hr)then ao (decide (0≤cc))<|bif decide ((yi .and .u32 (jrb .u32 q4 cc) 1)=1)then ao (room (qx.length+1) 8)<|ao (c8 .i64 (cc+1))<|nx ((cc+1),(qx++[cc]))else ao (c8 .i64 (cc+1))<|nx ((cc+1),qx)else dn qx
def qkf(q4:Int)(a6:qL1)(et cb hr ap:Int)(ab:(List ae))(a0 av:Int)(a1:qL2)(s0:(Int×qL1)):Option (qL1⊕(Int×qL2)):=a8 (fun a=>my q4 a6 et cb hr ap ab a0 av a1 a.1 a.2 (fun a' =>some (.next a')) (fun e=>some (.done e)) (fun r=>some (.ret r))) s0
def qww:Shp:=⟨[qxn,jgp,(6, .d true (.int .u32)),(7, .nl false (.own 2)),jry,jx2,j2x,(25, .d true qT0),j9d],[qc2,qez,qg1]⟩
def qwv:Shp:=⟨[qxn,jgp,(7, .nl false (.own 2)),jry,jx2,j2x],[qc2,qez,qg1]⟩
def tl{R:Type}(a6:qL1)(et ap:Int)(ab:(List ae))(a0 av cb:Int)(a1:qL2)(nx:(Int×qL2)→Option R)(dn:qL2→Option R)(rt:(Int×qL2)→Option R):Option R:=bif decide (cb<et)then ao (ix cb a6.length)<|ao (ix cb a6.length)<|bnd (qkf (a6.getD cb.toNat 0) a6 et cb ap ap ab a0 av a1 (0,[])) fun oe3=>lk oe3 (fun e3=>ao (room (a1.length+1) 24)<|ao (c8 .i64 (cb+1))<|nx ((cb+1),(a1++[e3]))) (fun r=>rt r)else dn a1
def qkg(a6:qL1)(et ap:Int)(ab:(List ae))(a0 av:Int)(s0:(Int×qL2)):Option (qL2⊕(Int×qL2)):=a8 (fun a=>tl a6 et ap ab a0 av a.1 a.2 (fun a' =>some (.next a')) (fun e=>some (.done e)) (fun r=>some (.ret r))) s0
def qwy:Shp:=⟨[qxn,jgp,jry,jx2,j2x],[qc2,qez]⟩
def qwx:Shp:=⟨[j8z],[qez]⟩
def qaa(aa:bp):Option (Int×qL2):=bnd (g9 aa) fun r1=>bif (!r1)then some (1,[])else bif decide ((16:Int)<aa.1)then some (13,[])else bnd (qac aa) fun r2=>bnd (qkg r2 (r2.length:Int) aa.1 aa.2.1 aa.2.2.1 aa.2.2.2.1 (0,[])) fun oe4=>lk oe4 (fun e4=>bnd (ky e4) fun r5=>ao (decide (r5.length=e4.length))<|some (0,r5)) (fun r=>some r)
def xg(ad:qL1)(hb:bp):Option Bool:=ao (ix 0 1)<|bnd (bj ad hb.2.2.1) fun r1=>some (!r1)
def ew{R:Type}(ad:qL2)(f_1c0:bp)(b5 a2:Int)(nx:Int→Option R)(dn:Unit→Option R)(rt:Int→Option R):Option R:=bif decide (a2<b5)then ao (ix a2 ad.length)<|ao (ix a2 ad.length)<|bnd (xg (ad.getD a2.toNat []) f_1c0) fun r1=>bif r1 then rt a2 else ao (c8 .i64 (a2+1))<|nx (a2+1)else dn ()
def po(ad:qL2)(f_1c0:bp)(b5 s0:Int):Option (Unit⊕Int):=a8 (fun a=>ew ad f_1c0 b5 a (fun a' =>some (.next a')) (fun e=>some (.done e)) (fun r=>some (.ret r))) s0
def qcg:Shp:=⟨[juz,(1, .fn 66 (.cons (.rp false bp.ty) .nil)),q0u,q4p],[]⟩
def qcf:Shp:=⟨[],[]⟩
def kq(ad:qL2)(f_1c0:bp):Option Int:=bnd (po ad f_1c0 (ad.length:Int) 0) fun oe2=>lk oe2 (fun e2=>some (-1)) (fun r=>some r)
def em(ad:qL2)(f_1c0:bp):Option Bool:=bnd (kq ad f_1c0) fun r1=>some (decide ((0:Int)≤r1))
def k9(aa:bp):Option (Bool×Int):=bnd (k8 aa) fun r1=>bif (!decide (r1.2=0))then some (false,r1.2)else bnd (gu aa) fun r2=>bif (!r2)then some (false,19)else bnd (fg r1.1) fun r3=>bif (!decide (r3.2=0))then some (false,r3.2)else bif (!r3.1)then some (false,r3.2)else bnd (qaa r1.1) fun r4=>bif (!decide (r4.1=0))then some (false,r4.1)else bnd (em r4.2 aa) fun r5=>some ((!r5),0)
def qr1(aa:bp):Option (Bool×Int):=bnd (g9 aa) fun r1=>bif (!r1)then some (false,1)else bnd (gu aa) fun r2=>some (r2,0)
def qpt:Option Bool:=bnd (qdk ⟨#[97]⟩ [0] [1]) fun r1=>bnd (qdk ⟨#[98]⟩ [0] [2]) fun r2=>bnd (qdk ⟨#[99]⟩ [1] [3]) fun r3=>bnd (qdk ⟨#[100]⟩ [2] [3]) fun r4=>bnd (qdk ⟨#[97]⟩ [0] [1,2]) fun r5=>bnd (qdk ⟨#[98]⟩ [1] [3]) fun r6=>bnd (qdk ⟨#[99]⟩ [2] [3]) fun r7=>bnd (qen (4,[r1.1,r2.1,r3.1,r4.1],0,3,())) fun r8=>bnd (k9 (4,[r1.1,r2.1,r3.1,r4.1],0,3,())) fun r9=>bnd (k9 (4,[r5.1,r6.1,r7.1],0,3,())) fun r10=>bnd (qr1 (4,[r5.1,r6.1,r7.1],0,3,())) fun r11=>bif decide (r8.1=0)then bif decide ((r8.2.length:Int)=4)then ao (ix 0 r8.2.length)<|ao (ix 0 r8.2.length)<|bnd (gg (r8.2.getD 0 ag.z).2.1 [0,1]) fun r12=>bif r12 then bif decide (r9.2=0)then bif r9.1 then bif decide (r10.2=0)then bif (!r10.1)then bif decide (r11.2=0)then some r11.1 else some false else some false else some false else some false else some false else some false else some false else some false
def qcw(os:ae):Option Bool:=bif decide ((60:Int)<(os.2.1.length:Int))then some true else bif decide ((60:Int)<(os.2.2.1.length:Int))then some true else some (decide ((100:Int)<(ByteArray.size os.1:Int)))
def cj{R:Type}(ad:(List ae))(b5 a2:Int)(nx:Int→Option R)(dn:Unit→Option R)(rt:Int→Option R):Option R:=bif decide (a2<b5)then ao (ix a2 ad.length)<|ao (ix a2 ad.length)<|bnd (qcw (ad.getD a2.toNat ae.z)) fun r1=>bif r1 then rt a2 else ao (c8 .i64 (a2+1))<|nx (a2+1)else dn ()
def h8(ad:(List ae))(b5 s0:Int):Option (Unit⊕Int):=a8 (fun a=>cj ad b5 a (fun a' =>some (.next a')) (fun e=>some (.done e)) (fun r=>some (.ret r))) s0
def qn:Shp:=⟨[(0, .d false (.slice ae.ty)),(1, .fn 40 .nil),q0u,q4p],[]⟩
def qm:Shp:=⟨[],[]⟩
def dx(ad:(List ae)):Option Int:=bnd (h8 ad (ad.length:Int) 0) fun oe2=>lk oe2 (fun e2=>some (-1)) (fun r=>some r)
def ba(ad:(List ae)):Option Bool:=bnd (dx ad) fun r1=>some (decide ((0:Int)≤r1))
def qhm(aa:bp):Option Bool:=bif decide ((12:Int)<aa.1)then bif decide (aa.1≤40)then some true else bif decide ((12:Int)<(aa.2.1.length:Int))then bif decide ((aa.2.1.length:Int)<60)then some true else bif decide ((80:Int)<(aa.2.1.length:Int))then some true else bnd (ba aa.2.1) fun r1=>some r1 else bif decide ((80:Int)<(aa.2.1.length:Int))then some true else bnd (ba aa.2.1) fun r2=>some r2 else bif decide ((12:Int)<(aa.2.1.length:Int))then bif decide ((aa.2.1.length:Int)<60)then some true else bif decide ((80:Int)<(aa.2.1.length:Int))then some true else bnd (ba aa.2.1) fun r3=>some r3 else bif decide ((80:Int)<(aa.2.1.length:Int))then some true else bnd (ba aa.2.1) fun r4=>some r4
def zz(hg:Int):Option Bool:=bif decide ((97:Int)≤hg)then bif decide (hg≤122)then some true else bif decide ((65:Int)≤hg)then some (decide (hg≤90))else some false else bif decide ((65:Int)≤hg)then some (decide (hg≤90))else some false
def rg{R:Type}(ad:ByteArray)(eb:Int)(nx:Int→Option R)(dn:Unit→Option R)(rt:Bool→Option R):Option R:=bif decide (eb<(ByteArray.size ad:Int))then ao (ix eb (ByteArray.size ad))<|bnd (zz (((ByteArray.data ad).getD eb.toNat 0).toNat:Int)) fun r2=>bif (!r2)then bif decide ((48:Int)≤(((ByteArray.data ad).getD eb.toNat 0).toNat:Int))then bif (!(decide ((((ByteArray.data ad).getD eb.toNat 0).toNat:Int)≤57)))then bif (!decide ((((ByteArray.data ad).getD eb.toNat 0).toNat:Int)=95))then bif (!decide ((((ByteArray.data ad).getD eb.toNat 0).toNat:Int)=45))then bif (!decide ((((ByteArray.data ad).getD eb.toNat 0).toNat:Int)=46))then rt false else ao (c8 .i64 (eb+1))<|nx (eb+1)else ao (c8 .i64 (eb+1))<|nx (eb+1)else ao (c8 .i64 (eb+1))<|nx (eb+1)else ao (c8 .i64 (eb+1))<|nx (eb+1)else bif (!decide ((((ByteArray.data ad).getD eb.toNat 0).toNat:Int)=95))then bif (!decide ((((ByteArray.data ad).getD eb.toNat 0).toNat:Int)=45))then bif (!decide ((((ByteArray.data ad).getD eb.toNat 0).toNat:Int)=46))then rt false else ao (c8 .i64 (eb+1))<|nx (eb+1)else ao (c8 .i64 (eb+1))<|nx (eb+1)else ao (c8 .i64 (eb+1))<|nx (eb+1)else ao (c8 .i64 (eb+1))<|nx (eb+1)else dn ()
def qqb(ad:ByteArray)(s0:Int):Option (Unit⊕Bool):=a8 (fun a=>rg ad a (fun a' =>some (.next a')) (fun e=>some (.done e)) (fun r=>some (.ret r))) s0
def q27:Shp:=⟨[(0, .d true .str),jon],[]⟩
def q26:Shp:=⟨[],[]⟩
def qfd(ad:ByteArray):Option Bool:=bif decide ((ByteArray.size ad:Int)<1)then some false else bif decide ((40:Int)<(ByteArray.size ad:Int))then some false else ao (ix 0 (ByteArray.size ad))<|bnd (zz (((ByteArray.data ad).getD 0 0).toNat:Int)) fun r1=>bif (!r1)then some false else bnd (qqb ad 1) fun oe3=>lk oe3 (fun e3=>some true) (fun r=>some r)
def mj{R:Type}(aa:Int)(gy:qL1)(b6:Int)(nx:Int→Option R)(dn:Unit→Option R)(rt:Bool→Option R):Option R:=bif decide (b6<(gy.length:Int))then ao (ix b6 gy.length)<|ao (ix b6 gy.length)<|bif decide ((gy.getD b6.toNat 0)<0)then rt false else ao (ix b6 gy.length)<|ao (ix b6 gy.length)<|bif decide (aa≤(gy.getD b6.toNat 0))then rt false else bif decide ((0:Int)<b6)then ao (c8 .i64 (b6-1))<|ao (ix (b6-1) gy.length)<|ao (ix (b6-1) gy.length)<|ao (ix b6 gy.length)<|ao (ix b6 gy.length)<|bif decide ((gy.getD b6.toNat 0)≤(gy.getD (b6-1).toNat 0))then rt false else ao (c8 .i64 (b6+1))<|nx (b6+1)else ao (c8 .i64 (b6+1))<|nx (b6+1)else dn ()
def qqk(aa:Int)(gy:qL1)(s0:Int):Option (Unit⊕Bool):=a8 (fun a=>mj aa gy a (fun a' =>some (.next a')) (fun e=>some (.done e)) (fun r=>some (.ret r))) s0
def q3d:Shp:=⟨[q5m,jtr,jrx],[]⟩
def q3c:Shp:=⟨[],[]⟩
def qh(aa:Int)(gy:qL1):Option Bool:=bnd (qqk aa gy 0) fun oe1=>lk oe1 (fun e1=>some true) (fun r=>some r)
def z6{R:Type}(ap:Int)(ab:(List ae))(a0 av eb:Int)(nx:Int→Option R)(dn:Unit→Option R)(rt:Bool→Option R):Option R:=bif decide (eb<(ab.length:Int))then ao (ix eb ab.length)<|ao (ix eb ab.length)<|bif (!(ByteArray.toList (ab.getD eb.toNat ae.z).1==ByteArray.toList ⟨#[]⟩))then bnd (qfd (ab.getD eb.toNat ae.z).1) fun r1=>bif (!r1)then rt false else bnd (qh ap (ab.getD eb.toNat ae.z).2.1) fun r2=>bif (!r2)then rt false else bnd (qh ap (ab.getD eb.toNat ae.z).2.2.1) fun r3=>bif (!r3)then rt false else ao (c8 .i64 (eb+1))<|nx (eb+1)else bnd (qh ap (ab.getD eb.toNat ae.z).2.1) fun r4=>bif (!r4)then rt false else bnd (qh ap (ab.getD eb.toNat ae.z).2.2.1) fun r5=>bif (!r5)then rt false else ao (c8 .i64 (eb+1))<|nx (eb+1)else dn ()
def qso(ap:Int)(ab:(List ae))(a0 av s0:Int):Option (Unit⊕Bool):=a8 (fun a=>z6 ap ab a0 av a (fun a' =>some (.next a')) (fun e=>some (.done e)) (fun r=>some (.ret r))) s0
def q69:Shp:=⟨[qxn,jon],[qc2]⟩
def q68:Shp:=⟨[],[]⟩
def qdo(aa:bp):Option Bool:=bif decide (aa.1<1)then some false else bif decide ((40:Int)<aa.1)then some false else bif decide ((60:Int)<(aa.2.1.length:Int))then some false else bif decide (aa.2.2.1<0)then some false else bif decide (aa.1≤aa.2.2.1)then some false else bif decide (aa.2.2.2.1<0)then some false else bif decide (aa.1≤aa.2.2.2.1)then some false else bnd (qso aa.1 aa.2.1 aa.2.2.1 aa.2.2.2.1 0) fun oe6=>lk oe6 (fun e6=>some true) (fun r=>some r)
def qfe{R:Type}(hy:qL1)(py b6:Int)(nx:Int→Option R)(dn:Unit→Option R)(rt:Bool→Option R):Option R:=bif decide (b6<(hy.length:Int))then ao (ix b6 hy.length)<|ao (ix b6 hy.length)<|bif decide ((hy.getD b6.toNat 0)=py)then rt true else ao (c8 .i64 (b6+1))<|nx (b6+1)else dn ()
def q1e(hy:qL1)(py s0:Int):Option (Unit⊕Bool):=a8 (fun a=>qfe hy py a (fun a' =>some (.next a')) (fun e=>some (.done e)) (fun r=>some (.ret r))) s0
def jc3:Shp:=⟨[jr2,qxg,jrx],[]⟩
def jc2:Shp:=⟨[],[]⟩
def ss(hy:qL1)(py:Int):Option Bool:=bnd (q1e hy py 0) fun oe1=>lk oe1 (fun e1=>some false) (fun r=>some r)
def ub{R:Type}(he ha hz:Int)(ef:(List ae))(h4 h5 lt:Int)(gt:qL1)(nx:(Int×qL1)→Option R)(dn rt:qL1→Option R):Option R:=ao (ix ha ef.length)<|ao (ix ha ef.length)<|bif decide (lt<((ef.getD ha.toNat ae.z).2.2.1.length:Int))then ao (ix ha ef.length)<|ao (ix ha ef.length)<|ao (ix lt (ef.getD ha.toNat ae.z).2.2.1.length)<|ao (ix lt (ef.getD ha.toNat ae.z).2.2.1.length)<|bnd (ss gt ((ef.getD ha.toNat ae.z).2.2.1.getD lt.toNat 0)) fun r2=>bif (!r2)then ao (ix ha ef.length)<|ao (ix ha ef.length)<|ao (ix lt (ef.getD ha.toNat ae.z).2.2.1.length)<|ao (ix lt (ef.getD ha.toNat ae.z).2.2.1.length)<|ao (room (gt.length+1) 8)<|ao (c8 .i64 (lt+1))<|nx ((lt+1),(gt++[((ef.getD ha.toNat ae.z).2.2.1.getD lt.toNat 0)]))else ao (c8 .i64 (lt+1))<|nx ((lt+1),gt)else dn gt
def qir(he ha hz:Int)(ef:(List ae))(h4 h5:Int)(s0:(Int×qL1)):Option (qL1⊕qL1):=a8 (fun a=>ub he ha hz ef h4 h5 a.1 a.2 (fun a' =>some (.next a')) (fun e=>some (.done e)) (fun r=>some (.ret r))) s0
def q7c:Shp:=⟨[j2t,j8y,jjg,q0u,q4p],[qc2,qg1]⟩
def q7b:Shp:=⟨[j2t,j8y,jjg,q0u],[qc2,qg1]⟩
def uc{R:Type}(he hz:Int)(ef:(List ae))(h4 h5 ha:Int)(gt:qL1)(nx:(Int×qL1)→Option R)(dn rt:qL1→Option R):Option R:=bif decide (ha<(ef.length:Int))then ao (ix ha ef.length)<|ao (ix ha ef.length)<|ao (ix he gt.length)<|ao (ix he gt.length)<|bnd (ss (ef.getD ha.toNat ae.z).2.1 (gt.getD he.toNat 0)) fun r1=>bif (!r1)then ao (c8 .i64 (ha+1))<|nx ((ha+1),gt)else bnd (qir he ha hz ef h4 h5 (0,gt)) fun oe3=>lk oe3 (fun e3=>ao (c8 .i64 (ha+1))<|nx ((ha+1),e3)) (fun r=>rt r)else dn gt
def qis(he hz:Int)(ef:(List ae))(h4 h5:Int)(s0:(Int×qL1)):Option (qL1⊕qL1):=a8 (fun a=>uc he hz ef h4 h5 a.1 a.2 (fun a' =>some (.next a')) (fun e=>some (.done e)) (fun r=>some (.ret r))) s0
def q7e:Shp:=⟨[j2t,j8y,jjg,q0u],[qc2,qg1]⟩
def q7d:Shp:=⟨[j2t,j8y,jjg],[qc2,qg1]⟩
def z7{R:Type}(hz:Int)(ef:(List ae))(h4 h5 he:Int)(gt:qL1)(nx:(Int×qL1)→Option R)(dn rt:qL1→Option R):Option R:=bif decide (he<(gt.length:Int))then bnd (qis he hz ef h4 h5 (0,gt)) fun oe4=>lk oe4 (fun e4=>ao (c8 .i64 (he+1))<|nx ((he+1),e4)) (fun r=>rt r)else dn gt
def qst(hz:Int)(ef:(List ae))(h4 h5:Int)(s0:(Int×qL1)):Option (qL1⊕qL1):=a8 (fun a=>z7 hz ef h4 h5 a.1 a.2 (fun a' =>some (.next a')) (fun e=>some (.done e)) (fun r=>some (.ret r))) s0
def q7g:Shp:=⟨[j2t,j8y,jjg],[qc2,qg1]⟩
def q7f:Shp:=⟨[(5, .own 0)],[qg1]⟩
def qdp(aa:bp)(lp:Int):Option qL1:=bnd (qst aa.1 aa.2.1 aa.2.2.1 aa.2.2.2.1 (0,[lp])) fun oe5=>lk oe5 (fun e5=>some e5) (fun r=>some r)
def u3{R:Type}(ap:Int)(ab:(List ae))(a0 av cb:Int)(ej:(List ae))(e0 eu pl pm pr ml:Int)(nd:(List ae))(nx:(Int×(List ae))→Option R)(dn:(List ae)→Option R)(rt:bp→Option R):Option R:=bif decide (ml<(ab.length:Int))then ao (ix ml ab.length)<|ao (ix ml ab.length)<|ao (room (0+(ab.getD ml.toNat ae.z).2.2.1.length) 8)<|ao (room (0+(ab.getD ml.toNat ae.z).2.1.length) 8)<|ao (room (nd.length+1) 64)<|ao (c8 .i64 (ml+1))<|nx ((ml+1),(nd++[((ab.getD ml.toNat ae.z).1,([]++(ab.getD ml.toNat ae.z).2.2.1),([]++(ab.getD ml.toNat ae.z).2.1),())]))else dn nd
def qnv(ap:Int)(ab:(List ae))(a0 av cb:Int)(ej:(List ae))(e0 eu pl pm pr:Int)(s0:(Int×(List ae))):Option ((List ae)⊕bp):=a8 (fun a=>u3 ap ab a0 av cb ej e0 eu pl pm pr a.1 a.2 (fun a' =>some (.next a')) (fun e=>some (.done e)) (fun r=>some (.ret r))) s0
def qzx:Shp:=⟨[qxn,(2, .ptr 1),(3, .ptr 2),j9m],[qc2,qhy,q1q,jrv]⟩
def qzw:Shp:=⟨[j2t,j8w],[qhy, .cs 24 4 1 (.cons (.d true qT0) (.cons (.own 2) (.cons (.d true qT0) (.cons (.d true qT0) .nil)))),jrv]⟩
def qcy(aa:bp):Option bp:=bnd (qnv aa.1 aa.2.1 aa.2.2.1 aa.2.2.2.1 0 [] 0 0 aa.1 aa.2.2.2.1 aa.2.2.1 (0,[])) fun oe1=>lk oe1 (fun e1=>some (aa.1,e1,aa.2.2.2.1,aa.2.2.1,())) (fun r=>some r)
def qcz{R:Type}(h1 ki:qL1)(b6:Int)(nx:Int→Option R)(dn:Unit→Option R)(rt:Bool→Option R):Option R:=bif decide (b6<(h1.length:Int))then ao (ix b6 h1.length)<|ao (ix b6 h1.length)<|bnd (ss ki (h1.getD b6.toNat 0)) fun r1=>bif r1 then rt true else ao (c8 .i64 (b6+1))<|nx (b6+1)else dn ()
def qwl(h1 ki:qL1)(s0:Int):Option (Unit⊕Bool):=a8 (fun a=>qcz h1 ki a (fun a' =>some (.next a')) (fun e=>some (.done e)) (fun r=>some (.ret r))) s0
def q8s:Shp:=⟨[jr2,jtr,jrx],[]⟩
def q8r:Shp:=⟨[],[]⟩
def qgo(h1 ki:qL1):Option Bool:=bnd (qwl h1 ki 0) fun oe2=>lk oe2 (fun e2=>some false) (fun r=>some r)
def mw{R:Type}(h2 i1:qL1)(ap:Int)(ab:(List ae))(a0 av b6:Int)(nx:Int→Option R)(dn:Unit→Option R)(rt:Bool→Option R):Option R:=bif decide (b6<ap)then bnd (ss h2 b6) fun r5=>bif (!r5)then rt false else bnd (ss i1 b6) fun r6=>bif (!r6)then rt false else ao (c8 .i64 (b6+1))<|nx (b6+1)else dn ()
def qka(h2 i1:qL1)(ap:Int)(ab:(List ae))(a0 av s0:Int):Option (Unit⊕Bool):=a8 (fun a=>mw h2 i1 ap ab a0 av a (fun a' =>some (.next a')) (fun e=>some (.done e)) (fun r=>some (.ret r))) s0
def qwf:Shp:=⟨[qxn,j9l,j9n,jrx],[qc2]⟩
def qwe:Shp:=⟨[qxn,j9l,j9n],[qc2]⟩
def tj{R:Type}(h2 i1:qL1)(ap:Int)(ab:(List ae))(a0 av he:Int)(nx:Int→Option R)(dn:Unit→Option R)(rt:Bool→Option R):Option R:=bif decide (he<(ab.length:Int))then ao (ix he ab.length)<|ao (ix he ab.length)<|bnd (ss (ab.getD he.toNat ae.z).2.2.1 a0) fun r8=>bif r8 then rt false else bnd (ss (ab.getD he.toNat ae.z).2.1 av) fun r9=>bif r9 then rt false else bnd (qgo (ab.getD he.toNat ae.z).2.1 h2) fun r10=>bif (!r10)then rt false else bnd (qgo (ab.getD he.toNat ae.z).2.2.1 i1) fun r11=>bif (!r11)then rt false else ao (c8 .i64 (he+1))<|nx (he+1)else dn ()
def qkb(h2 i1:qL1)(ap:Int)(ab:(List ae))(a0 av s0:Int):Option (Unit⊕Bool):=a8 (fun a=>tj h2 i1 ap ab a0 av a (fun a' =>some (.next a')) (fun e=>some (.done e)) (fun r=>some (.ret r))) s0
def qwh:Shp:=⟨[qxn,j9l,j9n,jjg],[qc2]⟩
def qwg:Shp:=⟨[],[]⟩
def ua(aa:bp):Option Bool:=bnd (qdo aa) fun r1=>bif (!r1)then some false else bif decide (aa.2.2.1=aa.2.2.2.1)then some false else bnd (qdp aa aa.2.2.1) fun r2=>bnd (qcy aa) fun r3=>bnd (qdp r3 aa.2.2.2.1) fun r4=>bnd (qka r2 r4 aa.1 aa.2.1 aa.2.2.1 aa.2.2.2.1 0) fun oe7=>lk oe7 (fun e7=>bnd (qkb r2 r4 aa.1 aa.2.1 aa.2.2.1 aa.2.2.2.1 0) fun oe12=>lk oe12 (fun e12=>some true) (fun r=>some r)) (fun r=>some r)
def qb7(aa:bp)(ku:Int):Option qL1:=ao (qoo aa.1 aa.1 8)<|ao (ix ku (List.replicate aa.1.toNat (0:Int)).length)<|ao (ix ku (List.replicate aa.1.toNat (0:Int)).length)<|some ((List.replicate aa.1.toNat (0:Int)).set ku.toNat 1)
def uz{R:Type}(fi:qL1)(b6:Int)(nx:Int→Option R)(dn:Unit→Option R)(rt:Bool→Option R):Option R:=bif decide (b6<(fi.length:Int))then ao (ix b6 fi.length)<|ao (ix b6 fi.length)<|bif decide ((fi.getD b6.toNat 0)<0)then rt false else ao (ix b6 fi.length)<|ao (ix b6 fi.length)<|bif decide ((100:Int)<(fi.getD b6.toNat 0))then rt false else ao (c8 .i64 (b6+1))<|nx (b6+1)else dn ()
def qnt(fi:qL1)(s0:Int):Option (Unit⊕Bool):=a8 (fun a=>uz fi a (fun a' =>some (.next a')) (fun e=>some (.done e)) (fun r=>some (.ret r))) s0
def qzv:Shp:=⟨[jtr,jrx],[]⟩
def qzu:Shp:=⟨[],[]⟩
def wh(aa:bp)(fi:qL1):Option Bool:=bif (!decide ((fi.length:Int)=aa.1))then some false else bnd (qnt fi 0) fun oe1=>lk oe1 (fun e1=>some true) (fun r=>some r)
def z5{R:Type}(fi:qL1)(hm bf:Int)(a5:(List ae))(bk bl hf:Int)(nx:Int→Option R)(dn:Unit→Option R)(rt:Bool→Option R):Option R:=ao (ix hm a5.length)<|ao (ix hm a5.length)<|bif decide (hf<((a5.getD hm.toNat ae.z).2.1.length:Int))then ao (ix hm a5.length)<|ao (ix hm a5.length)<|ao (ix hf (a5.getD hm.toNat ae.z).2.1.length)<|ao (ix hf (a5.getD hm.toNat ae.z).2.1.length)<|ao (ix ((a5.getD hm.toNat ae.z).2.1.getD hf.toNat 0) fi.length)<|ao (ix ((a5.getD hm.toNat ae.z).2.1.getD hf.toNat 0) fi.length)<|bif decide ((fi.getD ((a5.getD hm.toNat ae.z).2.1.getD hf.toNat 0).toNat 0)<1)then rt false else ao (c8 .i64 (hf+1))<|nx (hf+1)else dn ()
def q1c(fi:qL1)(hm bf:Int)(a5:(List ae))(bk bl s0:Int):Option (Unit⊕Bool):=a8 (fun a=>z5 fi hm bf a5 bk bl a (fun a' =>some (.next a')) (fun e=>some (.done e)) (fun r=>some (.ret r))) s0
def jc0:Shp:=⟨[jtr,jfa,jdj,q0u],[qc2]⟩
def jcz:Shp:=⟨[],[]⟩
def qq9(aa:bp)(fi:qL1)(hm:Int):Option Bool:=bnd (q1c fi hm aa.1 aa.2.1 aa.2.2.1 aa.2.2.2.1 0) fun oe1=>lk oe1 (fun e1=>some true) (fun r=>some r)
def z8{R:Type}(bf:Int)(a5:(List ae))(bk bl:Int)(n3:ByteArray)(hv hw:qL1)(f1:Int)(ga:qL1)(nx:(Int×qL1)→Option R)(dn:qL1→Option R)(rt:(Bool×qL1)→Option R):Option R:=bif decide (f1<(hv.length:Int))then ao (ix f1 hv.length)<|ao (ix f1 hv.length)<|ao (ix (hv.getD f1.toNat 0) ga.length)<|ao (ix (hv.getD f1.toNat 0) ga.length)<|ao (c8 .i64 ((ga.getD (hv.getD f1.toNat 0).toNat 0)-1))<|ao (ix (hv.getD f1.toNat 0) ga.length)<|ao (ix (hv.getD f1.toNat 0) ga.length)<|ao (c8 .i64 (f1+1))<|nx ((f1+1),(ga.set (hv.getD f1.toNat 0).toNat ((ga.getD (hv.getD f1.toNat 0).toNat 0)-1)))else dn ga
def qsv(bf:Int)(a5:(List ae))(bk bl:Int)(n3:ByteArray)(hv hw:qL1)(s0:(Int×qL1)):Option (qL1⊕(Bool×qL1)):=a8 (fun a=>z8 bf a5 bk bl n3 hv hw a.1 a.2 (fun a' =>some (.next a')) (fun e=>some (.done e)) (fun r=>some (.ret r))) s0
def q7j:Shp:=⟨[jdj,j9p,(9, .ptr 2),q4b],[qc2,qg1,qti]⟩
def q7i:Shp:=⟨[jdj,j9p,(9, .ptr 2)],[qc2,qg1,qti]⟩
def z9{R:Type}(bf:Int)(a5:(List ae))(bk bl:Int)(n3:ByteArray)(hv hw:qL1)(h9:Int)(ga:qL1)(nx:(Int×qL1)→Option R)(dn:qL1→Option R)(rt:(Bool×qL1)→Option R):Option R:=bif decide (h9<(hw.length:Int))then ao (ix h9 hw.length)<|ao (ix h9 hw.length)<|ao (ix (hw.getD h9.toNat 0) ga.length)<|ao (ix (hw.getD h9.toNat 0) ga.length)<|ao (c8 .i64 ((ga.getD (hw.getD h9.toNat 0).toNat 0)+1))<|ao (ix (hw.getD h9.toNat 0) ga.length)<|ao (ix (hw.getD h9.toNat 0) ga.length)<|ao (c8 .i64 (h9+1))<|nx ((h9+1),(ga.set (hw.getD h9.toNat 0).toNat ((ga.getD (hw.getD h9.toNat 0).toNat 0)+1)))else dn ga
def qsw(bf:Int)(a5:(List ae))(bk bl:Int)(n3:ByteArray)(hv hw:qL1)(s0:(Int×qL1)):Option (qL1⊕(Bool×qL1)):=a8 (fun a=>z9 bf a5 bk bl n3 hv hw a.1 a.2 (fun a' =>some (.next a')) (fun e=>some (.done e)) (fun r=>some (.ret r))) s0
def q7l:Shp:=⟨[jdj,j9p,(9, .ptr 2),j78],[qc2,qg1,qti]⟩
def q7k:Shp:=⟨[jdj,j9p],[qc2,qg1]⟩
def qhv(aa:bp)(fi:qL1)(hm:Int):Option (Bool×qL1):=ao (room (0+fi.length) 8)<|ao (ix hm aa.2.1.length)<|ao (ix hm aa.2.1.length)<|bnd (qsv aa.1 aa.2.1 aa.2.2.1 aa.2.2.2.1 (aa.2.1.getD hm.toNat ae.z).1 (aa.2.1.getD hm.toNat ae.z).2.1 (aa.2.1.getD hm.toNat ae.z).2.2.1 (0,([]++fi))) fun oe1=>lk oe1 (fun e1=>bnd (qsw aa.1 aa.2.1 aa.2.2.1 aa.2.2.2.1 (aa.2.1.getD hm.toNat ae.z).1 (aa.2.1.getD hm.toNat ae.z).2.1 (aa.2.1.getD hm.toNat ae.z).2.2.1 (0,e1)) fun oe2=>lk oe2 (fun e2=>bnd (wh aa e2) fun r3=>some (r3,e2)) (fun r=>some r)) (fun r=>some r)
def jo{R:Type}(h1 ki:qL1)(b6:Int)(nx:Int→Option R)(dn:Unit→Option R)(rt:Bool→Option R):Option R:=bif decide (b6<(h1.length:Int))then ao (ix b6 h1.length)<|ao (ix b6 h1.length)<|ao (ix b6 ki.length)<|ao (ix b6 ki.length)<|bif (!decide ((h1.getD b6.toNat 0)=(ki.getD b6.toNat 0)))then rt false else ao (c8 .i64 (b6+1))<|nx (b6+1)else dn ()
def qev(h1 ki:qL1)(s0:Int):Option (Unit⊕Bool):=a8 (fun a=>jo h1 ki a (fun a' =>some (.next a')) (fun e=>some (.done e)) (fun r=>some (.ret r))) s0
def qqo:Shp:=⟨[jr2,jtr,jrx],[]⟩
def qqn:Shp:=⟨[],[]⟩
def tk(h1 ki:qL1):Option Bool:=bif (!decide ((h1.length:Int)=(ki.length:Int)))then some false else bnd (qev h1 ki 0) fun oe1=>lk oe1 (fun e1=>some true) (fun r=>some r)
def qc0{R:Type}(fi:qL1)(h6:qL2)(jn:(List ar))(le:Bool)(b6:Int)(nx:Int→Option R)(dn:Unit→Option R)(rt:Int→Option R):Option R:=bif decide (b6<(h6.length:Int))then ao (ix b6 h6.length)<|ao (ix b6 h6.length)<|bnd (tk (h6.getD b6.toNat []) fi) fun r1=>bif r1 then rt b6 else ao (c8 .i64 (b6+1))<|nx (b6+1)else dn ()
def qwn(fi:qL1)(h6:qL2)(jn:(List ar))(le:Bool)(s0:Int):Option (Unit⊕Int):=a8 (fun a=>qc0 fi h6 jn le a (fun a' =>some (.next a')) (fun e=>some (.done e)) (fun r=>some (.ret r))) s0
def q8v:Shp:=⟨[jtr,j2t,jrx],[qt6]⟩
def q8u:Shp:=⟨[],[]⟩
def qme(ad:dm)(fi:qL1):Option Int:=bnd (qwn fi ad.1 ad.2.1 ad.2.2.1 0) fun oe2=>lk oe2 (fun e2=>some (-1)) (fun r=>some r)
def ek{R:Type}(bd dc c1 bf:Int)(a5:(List ae))(bk bl:Int)(c3:qL2)(ct:(List ar))(bs cy:Bool)(dd:qL2)(cv:(List ar))(dn:Int→Option R)(rt:(dm×Int)→Option R):Option R:=ao (c8 .i64 (c1+1))<|dn (c1+1)
def bi(bd dc c1 bf:Int)(a5:(List ae))(bk bl:Int)(c3:qL2)(ct:(List ar))(bs cy:Bool)(dd:qL2)(cv:(List ar)):Option (Int⊕(dm×Int)):=ek bd dc c1 bf a5 bk bl c3 ct bs cy dd cv (fun e=>some (.inl e)) (fun r=>some (.inr r))
def qz6:Shp:=⟨[jfa,jdj,j75,j76,jel,q4b],[qc2,qex,qot,qez,qy2]⟩
def qz5:Shp:=⟨[jfa,jdj,j75,j76,jel,q4b],[qc2,qex,qot,qez,qy2]⟩
def gc{R:Type}(bd dc c1:Int)(qj:qL1)(mv:Int)(ev:Bool)(bf:Int)(a5:(List ae))(bk bl:Int)(c3:qL2)(ct:(List ar))(bs cy:Bool)(dd:qL2)(cv:(List ar))(dn:(Int×qL2)→Option R)(rt:(dm×Int)→Option R):Option R:=bif ev then ao (room (dd.length+1) 24)<|dn ((dd.length:Int),(dd++[qj]))else dn (mv,dd)
def c9(bd dc c1:Int)(qj:qL1)(mv:Int)(ev:Bool)(bf:Int)(a5:(List ae))(bk bl:Int)(c3:qL2)(ct:(List ar))(bs cy:Bool)(dd:qL2)(cv:(List ar)):Option ((Int×qL2)⊕(dm×Int)):=gc bd dc c1 qj mv ev bf a5 bk bl c3 ct bs cy dd cv (fun e=>some (.inl e)) (fun r=>some (.inr r))
def qz8:Shp:=⟨[jfa,jdj,j75,j76,jel,q4b,(11, .d true qT1),jmy,(85, .d true .bool)],[qc2,qex,qot,qez,qy2]⟩
def qz7:Shp:=⟨[jfa,jdj,j75,j76,jel,q4b,jmy],[qc2,qex,qot,qez,qy2]⟩
def i7{R:Type}(bd dc c1 mv bf:Int)(a5:(List ae))(bk bl:Int)(c3:qL2)(ct:(List ar))(bs cy:Bool)(dd:qL2)(cv:(List ar))(dn:(List ar)→Option R)(rt:(dm×Int)→Option R):Option R:=bif decide ((cv.length:Int)=20000)then rt (([],[],false,()),13)else ao (room (cv.length+1) 24)<|dn (cv++[(dc,mv,c1,())])
def dh(bd dc c1 mv bf:Int)(a5:(List ae))(bk bl:Int)(c3:qL2)(ct:(List ar))(bs cy:Bool)(dd:qL2)(cv:(List ar)):Option ((List ar)⊕(dm×Int)):=i7 bd dc c1 mv bf a5 bk bl c3 ct bs cy dd cv (fun e=>some (.inl e)) (fun r=>some (.inr r))
def q0a:Shp:=⟨[jfa,jdj,j75,j76,jel,q4b,jmy],[qc2,qex,qot,qez,qy2]⟩
def qz9:Shp:=⟨[jfa,jdj,j75,j76,jel,q4b],[qc2,qex,qot,qez,qy2]⟩
def cx{R:Type}(bd dc bf:Int)(a5:(List ae))(bk bl:Int)(c3:qL2)(ct:(List ar))(bs:Bool)(c1:Int)(cy:Bool)(dd:qL2)(cv:(List ar))(nx:(Int×Bool×qL2×(List ar))→Option R)(dn:(Bool×qL2×(List ar))→Option R)(rt:(dm×Int)→Option R):Option R:=bif decide (c1<(a5.length:Int))then ao (ix dc dd.length)<|ao (ix dc dd.length)<|bnd (qq9 (bf,a5,bk,bl,()) (dd.getD dc.toNat []) c1) fun r3=>bif (!r3)then bnd (bi bd dc c1 bf a5 bk bl c3 ct bs cy dd cv) fun oe4=>lk oe4 (fun e4=>nx (e4,cy,dd,cv)) (fun r=>rt r)else ao (ix dc dd.length)<|ao (ix dc dd.length)<|bnd (qhv (bf,a5,bk,bl,()) (dd.getD dc.toNat []) c1) fun r5=>bif r5.1 then bnd (qme (dd,cv,cy,()) r5.2) fun r6=>bif r5.1 then bif decide (r6<0)then bnd (c9 bd dc c1 r5.2 r6 (decide ((dd.length:Int)<bd)) bf a5 bk bl c3 ct bs cy dd cv) fun oe7=>lk oe7 (fun e7=>bif decide (e7.1<0)then bnd (bi bd dc c1 bf a5 bk bl c3 ct bs false e7.2 cv) fun oe8=>lk oe8 (fun e8=>nx (e8,false,e7.2,cv)) (fun r=>rt r)else bnd (dh bd dc c1 e7.1 bf a5 bk bl c3 ct bs cy e7.2 cv) fun oe9=>lk oe9 (fun e9=>bnd (bi bd dc c1 bf a5 bk bl c3 ct bs cy e7.2 e9) fun oe10=>lk oe10 (fun e10=>nx (e10,cy,e7.2,e9)) (fun r=>rt r)) (fun r=>rt r)) (fun r=>rt r)else bnd (c9 bd dc c1 r5.2 r6 false bf a5 bk bl c3 ct bs cy dd cv) fun oe11=>lk oe11 (fun e11=>bif decide (e11.1<0)then bnd (bi bd dc c1 bf a5 bk bl c3 ct bs false e11.2 cv) fun oe12=>lk oe12 (fun e12=>nx (e12,false,e11.2,cv)) (fun r=>rt r)else bnd (dh bd dc c1 e11.1 bf a5 bk bl c3 ct bs cy e11.2 cv) fun oe13=>lk oe13 (fun e13=>bnd (bi bd dc c1 bf a5 bk bl c3 ct bs cy e11.2 e13) fun oe14=>lk oe14 (fun e14=>nx (e14,cy,e11.2,e13)) (fun r=>rt r)) (fun r=>rt r)) (fun r=>rt r)else bnd (c9 bd dc c1 r5.2 r6 false bf a5 bk bl c3 ct bs cy dd cv) fun oe15=>lk oe15 (fun e15=>bif decide (e15.1<0)then bnd (bi bd dc c1 bf a5 bk bl c3 ct bs false e15.2 cv) fun oe16=>lk oe16 (fun e16=>nx (e16,false,e15.2,cv)) (fun r=>rt r)else bnd (dh bd dc c1 e15.1 bf a5 bk bl c3 ct bs cy e15.2 cv) fun oe17=>lk oe17 (fun e17=>bnd (bi bd dc c1 bf a5 bk bl c3 ct bs cy e15.2 e17) fun oe18=>lk oe18 (fun e18=>nx (e18,cy,e15.2,e17)) (fun r=>rt r)) (fun r=>rt r)) (fun r=>rt r)else bif r5.1 then bif decide (((-1):Int)<0)then bnd (c9 bd dc c1 r5.2 (-1) (decide ((dd.length:Int)<bd)) bf a5 bk bl c3 ct bs cy dd cv) fun oe19=>lk oe19 (fun e19=>bif decide (e19.1<0)then bnd (bi bd dc c1 bf a5 bk bl c3 ct bs false e19.2 cv) fun oe20=>lk oe20 (fun e20=>nx (e20,false,e19.2,cv)) (fun r=>rt r)else bnd (dh bd dc c1 e19.1 bf a5 bk bl c3 ct bs cy e19.2 cv) fun oe21=>lk oe21 (fun e21=>bnd (bi bd dc c1 bf a5 bk bl c3 ct bs cy e19.2 e21) fun oe22=>lk oe22 (fun e22=>nx (e22,cy,e19.2,e21)) (fun r=>rt r)) (fun r=>rt r)) (fun r=>rt r)else bnd (c9 bd dc c1 r5.2 (-1) false bf a5 bk bl c3 ct bs cy dd cv) fun oe23=>lk oe23 (fun e23=>bif decide (e23.1<0)then bnd (bi bd dc c1 bf a5 bk bl c3 ct bs false e23.2 cv) fun oe24=>lk oe24 (fun e24=>nx (e24,false,e23.2,cv)) (fun r=>rt r)else bnd (dh bd dc c1 e23.1 bf a5 bk bl c3 ct bs cy e23.2 cv) fun oe25=>lk oe25 (fun e25=>bnd (bi bd dc c1 bf a5 bk bl c3 ct bs cy e23.2 e25) fun oe26=>lk oe26 (fun e26=>nx (e26,cy,e23.2,e25)) (fun r=>rt r)) (fun r=>rt r)) (fun r=>rt r)else bnd (c9 bd dc c1 r5.2 (-1) false bf a5 bk bl c3 ct bs cy dd cv) fun oe27=>lk oe27 (fun e27=>bif decide (e27.1<0)then bnd (bi bd dc c1 bf a5 bk bl c3 ct bs false e27.2 cv) fun oe28=>lk oe28 (fun e28=>nx (e28,false,e27.2,cv)) (fun r=>rt r)else bnd (dh bd dc c1 e27.1 bf a5 bk bl c3 ct bs cy e27.2 cv) fun oe29=>lk oe29 (fun e29=>bnd (bi bd dc c1 bf a5 bk bl c3 ct bs cy e27.2 e29) fun oe30=>lk oe30 (fun e30=>nx (e30,cy,e27.2,e29)) (fun r=>rt r)) (fun r=>rt r)) (fun r=>rt r)else dn (cy,dd,cv)
def qnz(bd dc bf:Int)(a5:(List ae))(bk bl:Int)(c3:qL2)(ct:(List ar))(bs:Bool)(s0:(Int×Bool×qL2×(List ar))):Option ((Bool×qL2×(List ar))⊕(dm×Int)):=a8 (fun a=>cx bd dc bf a5 bk bl c3 ct bs a.1 a.2.1 a.2.2.1 a.2.2.2 (fun a' =>some (.next a')) (fun e=>some (.done e)) (fun r=>some (.ret r))) s0
def qz2:Shp:=⟨[jfa,jdj,j75,j76,jel,q4b],[qc2,qex,qot,qez,qy2]⟩
def qz1:Shp:=⟨[jfa,jdj,j75,j76,jel],[qc2,qex,qot,qez,qy2]⟩
def i6{R:Type}(bd bf:Int)(a5:(List ae))(bk bl:Int)(c3:qL2)(ct:(List ar))(bs:Bool)(dc:Int)(cy:Bool)(dd:qL2)(cv:(List ar))(nx:(Int×Bool×qL2×(List ar))→Option R)(dn:(Bool×qL2×(List ar))→Option R)(rt:(dm×Int)→Option R):Option R:=bif decide (dc<(dd.length:Int))then bnd (qnz bd dc bf a5 bk bl c3 ct bs (0,cy,dd,cv)) fun oe31=>lk oe31 (fun e31=>ao (c8 .i64 (dc+1))<|nx ((dc+1),e31.1,e31.2.1,e31.2.2)) (fun r=>rt r)else dn (cy,dd,cv)
def qeg(bd bf:Int)(a5:(List ae))(bk bl:Int)(c3:qL2)(ct:(List ar))(bs:Bool)(s0:(Int×Bool×qL2×(List ar))):Option ((Bool×qL2×(List ar))⊕(dm×Int)):=a8 (fun a=>i6 bd bf a5 bk bl c3 ct bs a.1 a.2.1 a.2.2.1 a.2.2.2 (fun a' =>some (.next a')) (fun e=>some (.done e)) (fun r=>some (.ret r))) s0
def qz4:Shp:=⟨[jfa,jdj,j75,j76,jel],[qc2,qex,qot,qez,qy2]⟩
def qz3:Shp:=⟨[(6, .ptr 0),j9a],[qex, .cs 45 3 1 (.cons (.own 2) (.cons (.own 3) (.cons (.d true .bool) .nil))),qez,qy2]⟩
def wi(aa:bp)(fi:qL1)(bd:Int):Option (dm×Int):=bnd (qdo aa) fun r1=>bif (!r1)then some (([],[],false,()),1)else bnd (wh aa fi) fun r2=>bif (!r2)then some (([],[],false,()),1)else bif decide (bd<1)then some (([],[],false,()),2)else bif decide ((2000:Int)<bd)then some (([],[],false,()),2)else ao (room (0+fi.length) 8)<|bnd (qeg bd aa.1 aa.2.1 aa.2.2.1 aa.2.2.2.1 [] [] false (0,true,[([]++fi)],[])) fun oe32=>lk oe32 (fun e32=>some ((e32.2.1,e32.2.2,e32.1,()),0)) (fun r=>some r)
def uk{R:Type}(cp:Int)(ch:qL2)(dk:(List ar))(bb:Bool)(ei:qL2)(hj:(List ar))(hk:Bool)(h0:Int)(ca:qL1)(nx:(Int×qL1)→Option R)(dn:qL1→Option R)(rt:(dm×Bool×Bool)→Option R):Option R:=bif decide (h0<cp)then ao (ix h0 ca.length)<|ao (ix h0 ca.length)<|ao (c8 .i64 (h0+1))<|nx ((h0+1),(ca.set h0.toNat (-1)))else dn ca
def qm6(cp:Int)(ch:qL2)(dk:(List ar))(bb:Bool)(ei:qL2)(hj:(List ar))(hk:Bool)(s0:(Int×qL1)):Option (qL1⊕(dm×Bool×Bool)):=a8 (fun a=>uk cp ch dk bb ei hj hk a.1 a.2 (fun a' =>some (.next a')) (fun e=>some (.done e)) (fun r=>some (.ret r))) s0
def qym:Shp:=⟨[jh9,j73,j77,j86,j87],[qex,qex,qg1]⟩
def qyl:Shp:=⟨[jh9,j73,j77],[qex,qex,qg1]⟩
def ul{R:Type}(ch:(List ar))(dk:Int)(v_40' :qL2)(v_41' :(List ar))(v_42' :Bool)(ei:qL2)(hj:(List ar))(hk:Bool)(bb:Int)(ca:qL1)(nx:(Int×qL1)→Option R)(dn:qL1→Option R)(rt:(dm×Bool×Bool)→Option R):Option R:=bif decide (bb<dk)then ao (ix bb ch.length)<|ao (ix bb ch.length)<|bif decide ((ch.getD bb.toNat ar.z).1<(ch.getD bb.toNat ar.z).2.1)then ao (ix (ch.getD bb.toNat ar.z).2.1 ca.length)<|ao (ix (ch.getD bb.toNat ar.z).2.1 ca.length)<|bif decide ((ca.getD (Int.toNat (ch.getD bb.toNat ar.z).2.1) 0)<0)then ao (ix (ch.getD bb.toNat ar.z).2.1 ca.length)<|ao (ix (ch.getD bb.toNat ar.z).2.1 ca.length)<|ao (c8 .i64 (bb+1))<|nx ((bb+1),(ca.set (Int.toNat (ch.getD bb.toNat ar.z).2.1) (ch.getD bb.toNat ar.z).1))else ao (c8 .i64 (bb+1))<|nx ((bb+1),ca)else ao (c8 .i64 (bb+1))<|nx ((bb+1),ca)else dn ca
def qm7(ch:(List ar))(dk:Int)(v_40' :qL2)(v_41' :(List ar))(v_42' :Bool)(ei:qL2)(hj:(List ar))(hk:Bool)(s0:(Int×qL1)):Option (qL1⊕(dm×Bool×Bool)):=a8 (fun a=>ul ch dk v_40' v_41' v_42' ei hj hk a.1 a.2 (fun a' =>some (.next a')) (fun e=>some (.done e)) (fun r=>some (.ret r))) s0
def qyo:Shp:=⟨[jh9,j73,j77,(40, .d true (.slice ar.ty)),j9f,j23],[qex,qex,qg1]⟩
def qyn:Shp:=⟨[jh9,j73,j77],[qex,qex,qg1]⟩
def um{R:Type}(ca:qL1)(hx h3 ka es p7:Int)(ch:qL2)(dk:(List ar))(bb:Bool)(ei:qL2)(hj:(List ar))(hk oo:Bool)(ke:Int)(nx:(Bool×Int)→Option R)(dn:Bool→Option R)(rt:(dm×Bool×Bool)→Option R):Option R:=bif decide (ke<p7)then ao (ix hx ei.length)<|ao (ix hx ei.length)<|ao (ix ke (ei.getD hx.toNat []).length)<|ao (ix ke (ei.getD hx.toNat []).length)<|ao (ix h3 ei.length)<|ao (ix h3 ei.length)<|ao (ix ke (ei.getD h3.toNat []).length)<|ao (ix ke (ei.getD h3.toNat []).length)<|bif decide (((ei.getD hx.toNat []).getD ke.toNat 0)<((ei.getD h3.toNat []).getD ke.toNat 0))then ao (c8 .i64 (ke+1))<|nx (true,(ke+1))else ao (c8 .i64 (ke+1))<|nx (oo,(ke+1))else dn oo
def qm8(ca:qL1)(hx h3 ka es p7:Int)(ch:qL2)(dk:(List ar))(bb:Bool)(ei:qL2)(hj:(List ar))(hk:Bool)(s0:(Bool×Int)):Option (Bool⊕(dm×Bool×Bool)):=a8 (fun a=>um ca hx h3 ka es p7 ch dk bb ei hj hk a.1 a.2 (fun a' =>some (.next a')) (fun e=>some (.done e)) (fun r=>some (.ret r))) s0
def qyq:Shp:=⟨[jh9,j73,j8r,jmy,j82,(15, .d true .bool),j8d,j8p,(87, .d true qT0),(88, .d true qT0)],[qex,qex]⟩
def qyp:Shp:=⟨[jh9,j73,j8r,jmy,j82,(15, .d true .bool),j8d,j8p],[qex,qex]⟩
def od{R:Type}(ca:qL1)(hx ka es:Int)(ch:qL2)(dk:(List ar))(bb:Bool)(ei:qL2)(hj:(List ar))(hk:Bool)(h3:Int)(nx:Int→Option R)(dn:Unit→Option R)(rt:(dm×Bool×Bool)→Option R):Option R:=bif decide ((0:Int)≤h3)then ao (ix hx ei.length)<|ao (ix hx ei.length)<|bnd (qm8 ca hx h3 ka es ((ei.getD hx.toNat []).length:Int) ch dk bb ei hj hk (false,0)) fun oe4=>lk oe4 (fun e4=>bif (!e4)then rt ((ei,hj,hk,()),false,true)else ao (ix h3 ca.length)<|ao (ix h3 ca.length)<|nx (ca.getD h3.toNat 0)) (fun r=>rt r)else dn ()
def qm9(ca:qL1)(hx ka es:Int)(ch:qL2)(dk:(List ar))(bb:Bool)(ei:qL2)(hj:(List ar))(hk:Bool)(s0:Int):Option (Unit⊕(dm×Bool×Bool)):=a8 (fun a=>od ca hx ka es ch dk bb ei hj hk a (fun a' =>some (.next a')) (fun e=>some (.done e)) (fun r=>some (.ret r))) s0
def qys:Shp:=⟨[jh9,j73,j8r,jmy,j82,j8d,j8p],[qex,qex]⟩
def qyr:Shp:=⟨[jh9,j73,j8r,j8d,j8p],[qex,qex]⟩
def uo{R:Type}(ca:qL1)(ka:Int)(ch:qL2)(dk:(List ar))(bb:Bool)(ei:qL2)(hj:(List ar))(hk:Bool)(es:Int)(nx:Int→Option R)(dn:Unit→Option R)(rt:(dm×Bool×Bool)→Option R):Option R:=bif decide (es<ka)then ao (ix es ca.length)<|ao (ix es ca.length)<|bnd (qm9 ca es ka es ch dk bb ei hj hk (ca.getD es.toNat 0)) fun oe5=>lk oe5 (fun e5=>ao (c8 .i64 (es+1))<|nx (es+1)) (fun r=>rt r)else dn ()
def qna(ca:qL1)(ka:Int)(ch:qL2)(dk:(List ar))(bb:Bool)(ei:qL2)(hj:(List ar))(hk:Bool)(s0:Int):Option (Unit⊕(dm×Bool×Bool)):=a8 (fun a=>uo ca ka ch dk bb ei hj hk a (fun a' =>some (.next a')) (fun e=>some (.done e)) (fun r=>some (.ret r))) s0
def qyu:Shp:=⟨[jh9,j73,j8r,j8d,j8p],[qex,qex]⟩
def qyt:Shp:=⟨[jh9,j73],[qex,qex]⟩
def wd(aa:bp)(fi:qL1):Option (dm×Bool×Bool):=bnd (wi aa fi 400) fun r1=>bif (!decide (r1.2=0))then some (r1.1,false,false)else ao (qoo (r1.1.1.length:Int) (r1.1.1.length:Int) 8)<|bnd (qm6 ((List.replicate (r1.1.1.length:Int).toNat (0:Int)).length:Int) [] [] false r1.1.1 r1.1.2.1 r1.1.2.2.1 (0,(List.replicate (r1.1.1.length:Int).toNat (0:Int)))) fun oe2=>lk oe2 (fun e2=>bnd (qm7 r1.1.2.1 (r1.1.2.1.length:Int) [] [] false r1.1.1 r1.1.2.1 r1.1.2.2.1 (0,e2)) fun oe3=>lk oe3 (fun e3=>bnd (qna e3 (r1.1.1.length:Int) [] [] false r1.1.1 r1.1.2.1 r1.1.2.2.1 0) fun oe6=>lk oe6 (fun e6=>some (r1.1,r1.1.2.2.1,false)) (fun r=>some r)) (fun r=>some r)) (fun r=>some r)
def wj(ad:(List Bool)):Option (List Bool):=bif decide ((ad.length:Int)=0)then some []else ao (room (0+ad.length) 1)<|some ([]++ad)
def jg(ad:(List Bool)):Option (List Bool):=ao (room (0+ad.length) 1)<|some ([]++ad)
def gz(ad:(List Bool)):Option (List Bool):=jg ad
def uq{R:Type}(hn gj:Int)(a4:(List ar))(b3:Int)(h6:qL2)(jn:(List ar))(le:Bool)(a6:Int)(ft:(List Bool))(nx:(Int×(List Bool))→Option R)(dn rt:(List Bool)→Option R):Option R:=bif decide (a6<b3)then ao (ix a6 a4.length)<|ao (ix a6 a4.length)<|ao (ix (a4.getD a6.toNat ar.z).1 ft.length)<|ao (ix (a4.getD a6.toNat ar.z).1 ft.length)<|bif (ft.getD (Int.toNat (a4.getD a6.toNat ar.z).1) false)then ao (ix (a4.getD a6.toNat ar.z).1 ft.length)<|ao (ix (a4.getD a6.toNat ar.z).1 ft.length)<|ao (c8 .i64 (a6+1))<|nx ((a6+1),(ft.set (Int.toNat (a4.getD a6.toNat ar.z).1) true))else ao (ix (a4.getD a6.toNat ar.z).2.1 ft.length)<|ao (ix (a4.getD a6.toNat ar.z).2.1 ft.length)<|ao (ix (a4.getD a6.toNat ar.z).1 ft.length)<|ao (ix (a4.getD a6.toNat ar.z).1 ft.length)<|ao (c8 .i64 (a6+1))<|nx ((a6+1),(ft.set (Int.toNat (a4.getD a6.toNat ar.z).1) (ft.getD (Int.toNat (a4.getD a6.toNat ar.z).2.1) false)))else dn ft
def qnd(hn gj:Int)(a4:(List ar))(b3:Int)(h6:qL2)(jn:(List ar))(le:Bool)(s0:(Int×(List Bool))):Option ((List Bool)⊕(List Bool)):=a8 (fun a=>uq hn gj a4 b3 h6 jn le a.1 a.2 (fun a' =>some (.next a')) (fun e=>some (.done e)) (fun r=>some (.ret r))) s0
def qyy:Shp:=⟨[j2t,j8y,j79,jmy,(16, .d false (.slice ar.ty)),jru,ju4],[qt6,qla]⟩
def qyx:Shp:=⟨[j2t,j8y,j79,jmy],[qt6,qla]⟩
def ur{R:Type}(hn:Int)(h6:qL2)(jn:(List ar))(le:Bool)(gj:Int)(ft:(List Bool))(nx:(Int×(List Bool))→Option R)(dn rt:(List Bool)→Option R):Option R:=bif decide (gj<hn)then bnd (qnd hn gj jn (jn.length:Int) h6 jn le (0,ft)) fun oe2=>lk oe2 (fun e2=>ao (c8 .i64 (gj+1))<|nx ((gj+1),e2)) (fun r=>rt r)else dn ft
def qne(hn:Int)(h6:qL2)(jn:(List ar))(le:Bool)(s0:(Int×(List Bool))):Option ((List Bool)⊕(List Bool)):=a8 (fun a=>ur hn h6 jn le a.1 a.2 (fun a' =>some (.next a')) (fun e=>some (.done e)) (fun r=>some (.ret r))) s0
def qy0:Shp:=⟨[j2t,j8y,j79,jmy],[qt6,qla]⟩
def qyz:Shp:=⟨[(5, .own 0)],[qla]⟩
def we(ad:dm)(q3:(List Bool)):Option (List Bool):=bnd (gz q3) fun r1=>bnd (qne (ad.1.length:Int) ad.1 ad.2.1 ad.2.2.1 (0,r1)) fun oe3=>lk oe3 (fun e3=>some e3) (fun r=>some r)
def jb{R:Type}(fr:Bool)(ms:qL1)(md:qL2)(p6 ap:Int)(ab:(List ae))(a0 av:Int)(nz:qL2)(n0:(List ar))(n1 h7:Bool)(ev:Int)(f4:(List Bool))(nx:(Bool×Int×(List Bool))→Option R)(dn:(Bool×(List Bool))→Option R)(rt:Bool→Option R):Option R:=bif decide (ev<p6)then ao (ix ev md.length)<|ao (ix ev md.length)<|bnd (gg (md.getD ev.toNat []) ms) fun r10=>ao (ix ev f4.length)<|ao (ix ev f4.length)<|bif h7 then ao (ix av (md.getD ev.toNat []).length)<|ao (ix av (md.getD ev.toNat []).length)<|bif decide (((md.getD ev.toNat []).getD av.toNat 0)=0)then ao (c8 .i64 (ev+1))<|nx (true,(ev+1),(f4.set ev.toNat r10))else ao (ix ev (f4.set ev.toNat r10).length)<|ao (ix ev (f4.set ev.toNat r10).length)<|ao (c8 .i64 (ev+1))<|nx (((f4.set ev.toNat r10).getD ev.toNat false),(ev+1),(f4.set ev.toNat r10))else ao (c8 .i64 (ev+1))<|nx (false,(ev+1),(f4.set ev.toNat r10))else dn (h7,f4)
def n9(fr:Bool)(ms:qL1)(md:qL2)(p6 ap:Int)(ab:(List ae))(a0 av:Int)(nz:qL2)(n0:(List ar))(n1:Bool)(s0:(Bool×Int×(List Bool))):Option ((Bool×(List Bool))⊕Bool):=a8 (fun a=>jb fr ms md p6 ap ab a0 av nz n0 n1 a.1 a.2.1 a.2.2 (fun a' =>some (.next a')) (fun e=>some (.done e)) (fun r=>some (.ret r))) s0
def qie:Shp:=⟨[qxn,j74,(9, .ptr 1),(12, .d true qT1),(13, .own 2),j8s,(83, .d true qT2),(84, .d true qT0),(85, .d true qT0)],[qhy,qex,qla]⟩
def qid:Shp:=⟨[qxn,j74,(9, .ptr 1),(13, .own 2),j8s],[qhy,qex,qla]⟩
def jd{R:Type}(fr:Bool)(f4:(List Bool))(h7:Bool)(lf:(List ar))(o4:Int)(nz:qL2)(n0:(List ar))(n1:Bool)(kk:Int)(kv:(List Bool))(nx:(Int×(List Bool))→Option R)(dn:(List Bool)→Option R)(rt:Bool→Option R):Option R:=bif decide (kk<o4)then ao (ix kk lf.length)<|ao (ix kk lf.length)<|ao (ix (lf.getD kk.toNat ar.z).2.2.1 kv.length)<|ao (ix (lf.getD kk.toNat ar.z).2.2.1 kv.length)<|ao (c8 .i64 (kk+1))<|nx ((kk+1),(kv.set (Int.toNat (lf.getD kk.toNat ar.z).2.2.1) true))else dn kv
def oa(fr:Bool)(f4:(List Bool))(h7:Bool)(lf:(List ar))(o4:Int)(nz:qL2)(n0:(List ar))(n1:Bool)(s0:(Int×(List Bool))):Option ((List Bool)⊕Bool):=a8 (fun a=>jd fr f4 h7 lf o4 nz n0 n1 a.1 a.2 (fun a' =>some (.next a')) (fun e=>some (.done e)) (fun r=>some (.ret r))) s0
def qig:Shp:=⟨[j74,(9, .ptr 0),j89,j8s,(17, .own 1),(117, .d true (.slice ar.ty)),(118, .d true qT0),(119, .d true qT0)],[qex,qla]⟩
def qif:Shp:=⟨[j74,(9, .ptr 0),j89,j8s,(17, .own 1)],[qex,qla]⟩
def m9{R:Type}(fr:Bool)(ap:Int)(ab:(List ae))(a0 av:Int)(dn:Unit→Option R)(rt:Bool→Option R):Option R:=bnd (qb7 (ap,ab,a0,av,()) a0) fun r7=>bnd (wd (ap,ab,a0,av,()) r7) fun r8=>bif r8.2.2 then rt (!fr)else bif (!r8.2.1)then rt true else bnd (qb7 (ap,ab,a0,av,()) av) fun r9=>ao (qoo (r8.1.1.length:Int) (r8.1.1.length:Int) 1)<|bnd (n9 fr r9 r8.1.1 (r8.1.1.length:Int) ap ab a0 av r8.1.1 r8.1.2.1 r8.1.2.2.1 (true,0,(List.replicate (r8.1.1.length:Int).toNat (false:Bool)))) fun oe11=>lk oe11 (fun e11=>ao (qoo (ab.length:Int) (ab.length:Int) 1)<|bnd (oa fr e11.2 e11.1 r8.1.2.1 (r8.1.2.1.length:Int) r8.1.1 r8.1.2.1 r8.1.2.2.1 (0,(List.replicate (ab.length:Int).toNat (false:Bool)))) fun oe12=>lk oe12 (fun e12=>bif e11.1 then bnd (we r8.1 e11.2) fun r13=>bnd (bn r13 false) fun r14=>bif (!r14)then bnd (bn e12 false) fun r15=>rt (fr==(!r15))else rt (fr==false)else rt (fr==false)) (fun r=>rt r)) (fun r=>rt r)
def f7(fr:Bool)(ap:Int)(ab:(List ae))(a0 av:Int):Option (Unit⊕Bool):=m9 fr ap ab a0 av (fun e=>some (.inl e)) (fun r=>some (.inr r))
def qii:Shp:=⟨[qxn,j74],[qhy]⟩
def qih:Shp:=⟨[],[]⟩
def s5(aa:bp):Option Bool:=bnd (qpt) fun r1=>bif (!r1)then some false else bnd (qhm aa) fun r2=>bif r2 then some true else bnd (ua aa) fun r3=>bif (!r3)then some true else bnd (k9 aa) fun r4=>bif (!decide (r4.2=0))then some (!r4.1)else bnd (k8 aa) fun r5=>bif r4.1 then bif decide (r5.2=0)then bnd (fg r5.1) fun r6=>bif (!decide (r6.2=0))then some false else bif (!r6.1)then some false else bnd (f7 r4.1 aa.1 aa.2.1 aa.2.2.1 aa.2.2.2.1) fun oe16=>lk oe16 (fun e16=>none) (fun r=>some r)else bnd (f7 r4.1 aa.1 aa.2.1 aa.2.2.1 aa.2.2.2.1) fun oe17=>lk oe17 (fun e17=>none) (fun r=>some r)else bnd (f7 r4.1 aa.1 aa.2.1 aa.2.2.1 aa.2.2.2.1) fun oe18=>lk oe18 (fun e18=>none) (fun r=>some r)
end Go.Proofs.YtclbndfjhjladaaGreat
