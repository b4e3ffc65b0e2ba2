/-
  What the functions compute, as plain functions of Lean. Made by program (mg3.py) out of the translation.
-/
import Derived.Test.YtemahcdcacmgdaaGreatDoorZ3KE
import Derived.Test.YtemahcdcacmgdaaGreatDoorZ3Ky
set_option linter.all false
set_option maxRecDepth 100000
namespace Go.Proofs.YtemahcdcacmgdaaGreatDoor
open Go.K Go.M
abbrev qL1:Type:=List Int
abbrev qL2:Type:=List (List Int)
abbrev qT0:Ty:=.int .i64
abbrev qT1:Ty:=.slice qT0
abbrev qT2:Ty:=.slice qT1
noncomputable section
abbrev ah:Type:=ByteArray×qL1×qL1×Unit
abbrev ah.z:ah:=(⟨#[]⟩,[],[],())
def ah.ty:Ty:= .struct (.cons .str (.cons qT1 (.cons qT1 .nil)))
abbrev b8:Type:=Int×(List ah)×Int×Int×Unit
abbrev b8.z:b8:=(0,[],0,0,())
def b8.ty:Ty:= .struct (.cons qT0 (.cons (.slice ah.ty) (.cons qT0 (.cons qT0 .nil))))
abbrev ae:Type:=qL1×qL1×Int×Int×Int×Int×Bool×Bool×Unit
abbrev ae.z:ae:=([],[],0,0,0,0,false,false,())
def ae.ty:Ty:= .struct (.cons qT1 (.cons qT1 (.cons qT0 (.cons qT0 (.cons qT0 (.cons qT0 (.cons .bool (.cons .bool .nil))))))))
abbrev dr:Type:=(List ae)×qL2×Unit
abbrev dr.z:dr:=([],[],())
def dr.ty:Ty:= .struct (.cons (.slice ae.ty) (.cons qT2 .nil))
abbrev ar:Type:=Int×Int×Int×Unit
abbrev ar.z:ar:=(0,0,0,())
def ar.ty:Ty:= .struct (.cons qT0 (.cons qT0 (.cons qT0 .nil)))
abbrev l0:Type:=qL2×(List ar)×Bool×Unit
abbrev l0.z:l0:=([],[],false,())
def l0.ty:Ty:= .struct (.cons qT2 (.cons (.slice ar.ty) (.cons .bool .nil)))
abbrev ig:Type:=b8×l0×qL1×(List (List ar))×Unit
abbrev ig.z:ig:=(b8.z,l0.z,[],[],())
def ig.ty:Ty:= .struct (.cons b8.ty (.cons l0.ty (.cons qT1 (.cons (.slice (.slice ar.ty)) .nil))))
abbrev qez:Type:=Int×Int×qL1×qL1×qL2×(List ar)×qL2×qL2×Unit
abbrev qez.z:qez:=(0,0,[],[],[],[],[],[],())
def qez.ty:Ty:= .struct (.cons qT0 (.cons qT0 (.cons qT1 (.cons qT1 (.cons qT2 (.cons (.slice ar.ty) (.cons qT2 (.cons qT2 .nil))))))))
abbrev qde:Type:=qL2×qL1×Int×Int×Unit
abbrev qde.z:qde:=([],[],0,0,())
def qde.ty:Ty:= .struct (.cons qT2 (.cons qT1 (.cons qT0 (.cons qT0 .nil))))
abbrev jve:Type:=qL1×qL1×Unit
abbrev jve.z:jve:=([],[],())
def jve.ty:Ty:= .struct (.cons qT1 (.cons qT1 .nil))
abbrev l7:Type:=Tre ((Int×ByteArray×Unit)×Unit)
abbrev l7.z:l7:=⟨((0,⟨#[]⟩,()),(())),[]⟩
def l7.ty:Ty:= .tree (.cons qT0 (.cons .str .nil)) .nil
abbrev c8:Type:=qL1×qL1×l7×Unit
abbrev c8.z:c8:=([],[],l7.z,())
def c8.ty:Ty:= .struct (.cons qT1 (.cons qT1 (.cons l7.ty .nil)))
abbrev uz:Type:=b8×(List c8)×Bool×Unit
abbrev uz.z:uz:=(b8.z,[],false,())
def uz.ty:Ty:= .struct (.cons b8.ty (.cons (.slice c8.ty) (.cons .bool .nil)))
abbrev az:Type:=Int×Int×Bool×Unit
abbrev az.z:az:=(0,0,false,())
def az.ty:Ty:= .struct (.cons qT0 (.cons qT0 (.cons .bool .nil)))
abbrev ag:Type:=Int×Int×Unit
abbrev ag.z:ag:=(0,0,())
def ag.ty:Ty:= .struct (.cons qT0 (.cons qT0 .nil))
abbrev af:Type:=Bool×Int×Int×Unit
abbrev af.z:af:=(false,0,0,())
def af.ty:Ty:= .struct (.cons .bool (.cons qT0 (.cons qT0 .nil)))
abbrev qaz:Hs:=.cs 24 4 1 (.cons (.d true qT0) (.cons (.d false (.slice ah.ty)) (.cons (.d true qT0) (.cons (.d true qT0) .nil))))
abbrev qa0:Hs:=.arr 25 (.fz true) [3] qT1
abbrev qea:Hs:=.cs 177 3 1 (.cons (.dm false qT0 (.slice ag.ty)) (.cons (.d true qT0) (.cons (.d true qT0) .nil)))
abbrev qfw:Hs:=.cs 31 3 1 (.cons (.d true qT2) (.cons (.d true (.slice ar.ty)) (.cons (.d true .bool) .nil)))
abbrev qgb:Hs:=.arr 3 (.fz true) [0] qT0
abbrev qip:Hs:=.cs 138 9 1 (.cons (.d true qT0) (.cons (.d true (.slice ah.ty)) (.cons (.d true qT0) (.cons (.d true qT0) (.cons (.d true qT2) (.cons (.d true (.slice ar.ty)) (.cons (.d true .bool) (.cons (.d true qT1) (.cons (.own 1) .nil)))))))))
abbrev qkf:Hs:=.cs 24 4 1 (.cons (.d true qT0) (.cons (.d true (.slice ah.ty)) (.cons (.d true qT0) (.cons (.d true qT0) .nil))))
abbrev qml:Hs:=.cs 38 8 1 (.cons (.d true qT0) (.cons (.d true qT0) (.cons (.d true qT1) (.cons (.d true qT1) (.cons (.d true qT2) (.cons (.d true (.slice ar.ty)) (.cons (.d true qT2) (.cons (.d true qT2) .nil))))))))
abbrev qm4:Hs:=.cs 82 8 1 (.cons (.d true qT1) (.cons (.own 7) (.cons (.d true qT0) (.cons (.d true qT0) (.cons (.d true qT0) (.cons (.d true qT0) (.cons (.d true .bool) (.cons (.d true .bool) .nil))))))))
abbrev qp4:Hs:=.arr 82 (.fz true) [3,3,0,0,0,0,0,0] ae.ty
abbrev qqp:Nat×Sh:=(0, .d true .bool)
abbrev qro:Hs:=.cs 192 2 1 (.cons (.own 2) (.cons (.own 3) .nil))
abbrev qtr:Hs:=.cs 192 2 1 (.cons (.own 1) (.cons (.own 2) .nil))
abbrev qtu:Hs:=.arr 219 (.fz true) [0,0,0] af.ty
abbrev qt8:Nat×Sh:=(10, .fn 137 (.cons (.ptr 2) (.cons (.ptr 1) (.cons (.ptr 3) .nil))))
abbrev qua:Hs:=.cs 82 8 1 (.cons (.d true qT1) (.cons (.d true qT1) (.cons (.d true qT0) (.cons (.d true qT0) (.cons (.d true qT0) (.cons (.d true qT0) (.cons (.d true .bool) (.cons (.d true .bool) .nil))))))))
abbrev qvj:Nat×Sh:=(1, .d true qT0)
abbrev qvr:Hs:=.arr 4 (.fz true) [0] .bool
abbrev qww:Hs:=.cs 47 3 1 (.cons (.d true .str) (.cons (.d false qT1) (.cons (.d false qT1) .nil)))
abbrev qw8:Hs:=.cs 80 2 1 (.cons (.d true (.slice ae.ty)) (.cons (.d true qT2) .nil))
abbrev q0i:Hs:=.arr 0 (.fz true) [] qT0
abbrev q0j:Hs:=.cs 192 2 1 (.cons (.own 4) (.cons (.own 5) .nil))
abbrev q1r:Nat×Sh:=(0, .d true qT0)
abbrev q4v:Hs:=.arr 73 (.fz true) [0,0,0] ar.ty
abbrev q4x:Nat×Sh:=(3, .ptr 0)
abbrev q6n:Nat×Sh:=(1, .d true qT1)
abbrev q63:Nat×Sh:=(28, .dm false qT0 (.slice ag.ty))
abbrev jas:Hs:=.cs 3 1 1 (.cons (.d true qT0) .nil)
abbrev jby:Hs:=.cs 192 2 1 (.cons (.d true qT2) (.cons (.d true qT2) .nil))
abbrev jcm:Nat×Sh:=(8, .d true qT0)
abbrev jed:Nat×Sh:=(1, .fn 171 (.cons (.rp false (.slice az.ty)) .nil))
abbrev jg5:Nat×Sh:=(1, .fn 173 (.cons (.rp false (.slice az.ty)) .nil))
abbrev jg6:Hs:=.cs 31 3 1 (.cons (.own 2) (.cons (.own 3) (.cons (.d true .bool) .nil)))
abbrev jg7:Hs:=.cs 31 3 1 (.cons (.own 4) (.cons (.own 5) (.cons (.d true .bool) .nil)))
abbrev jg8:Nat×Sh:=(1, .d false (.slice az.ty))
abbrev ji2:Nat×Sh:=(2, .d true .bool)
abbrev jke:Nat×Sh:=(7, .d true qT0)
abbrev jkf:Nat×Sh:=(0, .ptr 0)
abbrev jkg:Hs:=.cs 80 2 1 (.cons (.own 8) (.cons (.own 9) .nil))
abbrev jk4:Nat×Sh:=(1, .d false qT1)
abbrev jlx:Nat×Sh:=(2, .d true qT0)
abbrev jms:Nat×Sh:=(2, .ptr 0)
abbrev jnu:Nat×Sh:=(13, .d true qT0)
abbrev jow:Hs:=.cs 144 1 1 (.cons (.own 3) .nil)
abbrev jpp:Hs:=.cs 31 3 1 (.cons (.d true qT2) (.cons (.own 2) (.cons (.d true .bool) .nil)))
abbrev jp8:Nat×Sh:=(56, .d false (.slice ah.ty))
abbrev jp9:Nat×Sh:=(0, .d false qT1)
abbrev jra:Hs:=.cs 80 2 1 (.cons (.own 6) (.cons (.own 7) .nil))
abbrev jre:Nat×Sh:=(12, .d true qT0)
abbrev jrf:Nat×Sh:=(24, .d true qT0)
abbrev jrk:Nat×Sh:=(9, .d true (.int .u64))
abbrev jtu:Hs:=.arr 29 .own [73] (.slice ar.ty)
abbrev jvb:Nat×Sh:=(7, .d true .bool)
abbrev jvd:Nat×Sh:=(2, .d true qT1)
abbrev jwd:Nat×Sh:=(3, .d true qT0)
abbrev jxk:Hs:=.cs 75 1 1 (.cons (.ptr 5) .nil)
abbrev jxr:Nat×Sh:=(0, .own 0)
abbrev jxt:Nat×Sh:=(11, .d true qT0)
abbrev jxx:Nat×Sh:=(15, .d true qT0)
abbrev jx5:Nat×Sh:=(16, .d true qT0)
abbrev jzy:Nat×Sh:=(25, .d true qT0)
abbrev j2w:Nat×Sh:=(5, .ptr 1)
abbrev j3g:Hs:=.cs 69 1 1 (.cons (.mp 6) .nil)
abbrev j3o:Hs:=.mp .str qT0
abbrev j3v:Nat×Sh:=(10, .d true qT0)
abbrev j3w:Nat×Sh:=(31, .d true qT0)
abbrev j3x:Nat×Sh:=(76, .d true qT0)
abbrev j3y:Nat×Sh:=(77, .d true qT0)
abbrev j3z:Nat×Sh:=(0, .rp false dr.ty)
abbrev j30:Nat×Sh:=(8, .ptr 1)
abbrev j33:Hs:=.cs 192 2 1 (.cons (.own 2) (.cons (.own 1) .nil))
abbrev j36:Hs:=.cs 192 2 1 (.cons (.own 3) (.cons (.own 4) .nil))
abbrev j37:Hs:=.cs 80 2 1 (.cons (.own 1) (.cons (.own 2) .nil))
abbrev j6m:Hs:=.cs 80 2 1 (.cons (.own 4) (.cons (.own 5) .nil))
abbrev j6p:Nat×Sh:=(8, .d true .bool)
abbrev j6q:Nat×Sh:=(29, .d false (.slice ah.ty))
abbrev j6r:Hs:=.cs 75 1 1 (.cons (.ptr 4) .nil)
abbrev j6s:Nat×Sh:=(57, .d true qT0)
abbrev j6t:Nat×Sh:=(58, .d true qT0)
abbrev j6u:Hs:=.cs 69 1 1 (.cons (.mp 5) .nil)
abbrev j6v:Nat×Sh:=(10, .d true .bool)
abbrev j6w:Nat×Sh:=(32, .d true qT0)
abbrev j6x:Nat×Sh:=(36, .d true qT0)
abbrev j6y:Nat×Sh:=(54, .d true qT0)
abbrev j6z:Hs:=.mp qT0 .bool
abbrev j60:Nat×Sh:=(35, .d false (.slice ag.ty))
abbrev j61:Hs:=.mp .str .bool
abbrev j64:Nat×Sh:=(9, .d true qT0)
abbrev j67:Nat×Sh:=(1, .ptr 0)
abbrev j7h:Nat×Sh:=(7, .own 1)
abbrev j7i:Nat×Sh:=(51, .dm true qT0 .bool)
abbrev j7j:Nat×Sh:=(4, .nl false (.own 1))
abbrev j7m:Nat×Sh:=(21, .d false (.slice ah.ty))
abbrev j7n:Hs:=.arr 5 (.fz true) [0] (.int .u8)
abbrev j7q:Hs:=.cs 75 1 1 (.cons (.ptr 3) .nil)
abbrev j7s:Nat×Sh:=(0, .d true .str)
abbrev j7t:Nat×Sh:=(19, .d true qT0)
abbrev j7u:Nat×Sh:=(22, .d true qT0)
abbrev j7v:Nat×Sh:=(23, .d true qT0)
abbrev j7w:Nat×Sh:=(37, .d true qT0)
abbrev j7x:Nat×Sh:=(4, .ptr 0)
abbrev j7y:Nat×Sh:=(41, .d true qT0)
abbrev j7z:Nat×Sh:=(53, .d true qT0)
abbrev j70:Nat×Sh:=(6, .d false qT1)
abbrev j71:Nat×Sh:=(7, .mp 1)
abbrev j72:Hs:=.cs 69 1 1 (.cons (.mp 2) .nil)
abbrev j73:Nat×Sh:=(0, .d true l0.ty)
abbrev j74:Nat×Sh:=(5, .d true qT0)
abbrev j75:Nat×Sh:=(7, .ptr 0)
abbrev j76:Nat×Sh:=(39, .d false qT2)
abbrev j77:Nat×Sh:=(0, .d false qT2)
abbrev j78:Nat×Sh:=(14, .d true qT0)
abbrev j79:Nat×Sh:=(26, .d true qT0)
abbrev j8a:Nat×Sh:=(27, .d true qT0)
abbrev j8b:Nat×Sh:=(30, .d true qT0)
abbrev j8c:Nat×Sh:=(40, .d true qT0)
abbrev j8d:Nat×Sh:=(55, .d true qT0)
abbrev j8e:Nat×Sh:=(6, .own 2)
abbrev j8f:Nat×Sh:=(9, .own 2)
abbrev j8g:Nat×Sh:=(6, .d true qT0)
abbrev j8h:Nat×Sh:=(12, .ptr 1)
abbrev j8i:Nat×Sh:=(18, .ptr 4)
abbrev j8j:Nat×Sh:=(3, .ptr 1)
abbrev j8k:Nat×Sh:=(8, .ptr 0)
abbrev j8l:Nat×Sh:=(9, .own 0)
abbrev j8m:Nat×Sh:=(9, .ptr 1)
def qec(hu:Int):Option Bool:=bif decide ((65:Int)≤hu)then bif decide (hu≤90)then some true else bif decide ((97:Int)≤hu)then some (decide (hu≤122))else some false else bif decide ((97:Int)≤hu)then some (decide (hu≤122))else some false
def qti(hu:Int):Option Bool:=bnd (qec hu) fun r1=>bif r1 then some true else bif decide ((48:Int)≤hu)then bif decide (hu≤57)then some true else bif decide (hu=95)then some true else bif decide (hu=45)then some true else some (decide (hu=46))else bif decide (hu=95)then some true else bif decide (hu=45)then some true else some (decide (hu=46))
def tk{R:Type}(ab:ByteArray)(m0 f1:Int)(nx:Int→Option R)(dn:Unit→Option R)(rt:Bool→Option R):Option R:=bif decide (f1<m0)then ak (ix f1 (ByteArray.size ab))<|bnd (qti (((ByteArray.data ab).getD f1.toNat 0).toNat:Int)) fun r2=>bif (!r2)then rt false else ak (di .i64 (f1+1))<|nx (f1+1)else dn ()
def quu(ab:ByteArray)(m0 s0:Int):Option (Unit⊕Bool):=bt (fun a=>tk ab m0 a (fun a' =>some (.next a')) (fun e=>some (.done e)) (fun r=>some (.ret r))) s0
def q87:Shp:=⟨[j7s,j7t,(20, .d true qT0)],[]⟩
def q86:Shp:=⟨[],[]⟩
def qi6(ab:ByteArray):Option Bool:=bif decide ((ByteArray.size ab:Int)<1)then some false else bif decide ((40:Int)<(ByteArray.size ab:Int))then some false else ak (ix 0 (ByteArray.size ab))<|bnd (qec (((ByteArray.data ab).getD 0 0).toNat:Int)) fun r1=>bif (!r1)then some false else bnd (quu ab (ByteArray.size ab:Int) 0) fun oe3=>lk oe3 (fun e3=>some true) (fun r=>some r)
def lx{R:Type}(k5 cl:qL1)(ad b4:Int)(b5:(List ah))(b6 cb f3:Int)(nx:Int→Option R)(dn:Unit→Option R)(rt:Bool→Option R):Option R:=bif decide (f3<ad)then ak (ix f3 cl.length)<|ak (ix f3 cl.length)<|bif decide ((cl.getD f3.toNat 0)<0)then rt false else bif decide (b4≤(cl.getD f3.toNat 0))then rt false else bif decide ((0:Int)<f3)then ak (di .i64 (f3-1))<|ak (ix (f3-1) k5.length)<|ak (ix (f3-1) k5.length)<|bif decide ((cl.getD f3.toNat 0)≤(k5.getD (f3-1).toNat 0))then rt false else ak (di .i64 (f3+1))<|nx (f3+1)else ak (di .i64 (f3+1))<|nx (f3+1)else dn ()
def qr5(k5 cl:qL1)(ad b4:Int)(b5:(List ah))(b6 cb s0:Int):Option (Unit⊕Bool):=bt (fun a=>lx k5 cl ad b4 b5 b6 cb a (fun a' =>some (.next a')) (fun e=>some (.done e)) (fun r=>some (.ret r))) s0
def q5q:Shp:=⟨[jk4,jms,(7, .d false qT1),jcm,j64],[qaz]⟩
def q5p:Shp:=⟨[],[]⟩
def jr(aa:b8)(k5:qL1):Option Bool:=bnd (qr5 k5 k5 (k5.length:Int) aa.1 aa.2.1 aa.2.2.1 aa.2.2.2.1 0) fun oe1=>lk oe1 (fun e1=>some true) (fun r=>some r)
def zt{R:Type}(f1:(List ah))(ef f4:Int)(fr:(List ah))(fs ft d4:Int)(nx:Int→Option R)(dn:Unit→Option R)(rt:Bool→Option R):Option R:=bif decide (d4<ef)then ak (ix d4 f1.length)<|ak (ix d4 f1.length)<|bif (!(ByteArray.toList (f1.getD d4.toNat ah.z).1==ByteArray.toList ⟨#[]⟩))then bnd (qi6 (f1.getD d4.toNat ah.z).1) fun r1=>bif (!r1)then rt false else bnd (jr (f4,fr,fs,ft,()) (f1.getD d4.toNat ah.z).2.1) fun r2=>bif (!r2)then rt false else bnd (jr (f4,fr,fs,ft,()) (f1.getD d4.toNat ah.z).2.2.1) fun r3=>bif (!r3)then rt false else ak (di .i64 (d4+1))<|nx (d4+1)else bnd (jr (f4,fr,fs,ft,()) (f1.getD d4.toNat ah.z).2.1) fun r4=>bif (!r4)then rt false else bnd (jr (f4,fr,fs,ft,()) (f1.getD d4.toNat ah.z).2.2.1) fun r5=>bif (!r5)then rt false else ak (di .i64 (d4+1))<|nx (d4+1)else dn ()
def qu2(f1:(List ah))(ef f4:Int)(fr:(List ah))(fs ft s0:Int):Option (Unit⊕Bool):=bt (fun a=>zt f1 ef f4 fr fs ft a (fun a' =>some (.next a')) (fun e=>some (.done e)) (fun r=>some (.ret r))) s0
def q9o:Shp:=⟨[j67,(20, .d false (.slice ah.ty)),(21, .d true qT0),j7u],[qaz]⟩
def q9n:Shp:=⟨[j67],[qaz]⟩
def pz(aa:b8):Option Bool:=bif decide (aa.1<1)then some false else bif decide ((40:Int)<aa.1)then some false else bif decide ((60:Int)<(aa.2.1.length:Int))then some false else bnd (qu2 aa.2.1 (aa.2.1.length:Int) aa.1 aa.2.1 aa.2.2.1 aa.2.2.2.1 0) fun oe6=>lk oe6 (fun e6=>bnd (jr aa [aa.2.2.1]) fun r7=>bif r7 then bnd (jr aa [aa.2.2.2.1]) fun r8=>some r8 else some false) (fun r=>some r)
def i6{R:Type}(ab:qL1)(h0 cl ad:Int)(nx:Int→Option R)(dn:Unit→Option R)(rt:Int→Option R):Option R:=bif decide (ad<cl)then ak (ix ad ab.length)<|ak (ix ad ab.length)<|bif decide (h0=(ab.getD ad.toNat 0))then rt ad else ak (di .i64 (ad+1))<|nx (ad+1)else dn ()
def qar(ab:qL1)(h0 cl s0:Int):Option (Unit⊕Int):=bt (fun a=>i6 ab h0 cl a (fun a' =>some (.next a')) (fun e=>some (.done e)) (fun r=>some (.ret r))) s0
def ql6:Shp:=⟨[jp9,qvj,jke,jcm],[]⟩
def ql5:Shp:=⟨[],[]⟩
def tu(ab:qL1)(h0:Int):Option Int:=bnd (qar ab h0 (ab.length:Int) 0) fun oe1=>lk oe1 (fun e1=>some (-1)) (fun r=>some r)
def c6(ab:qL1)(h0:Int):Option Bool:=bnd (tu ab h0) fun r1=>some (decide ((0:Int)≤r1))
def qpd(ke:Int)(dl:(List Bool)):Option Bool:=ak (ix 0 1)<|ak (ix ke dl.length)<|ak (ix ke dl.length)<|some (dl.getD ke.toNat false)
def oc{R:Type}(ab:qL1)(f_1c0:(List Bool))(cl ad:Int)(nx:Int→Option R)(dn:Unit→Option R)(rt:Int→Option R):Option R:=bif decide (ad<cl)then ak (ix ad ab.length)<|ak (ix ad ab.length)<|bnd (qpd (ab.getD ad.toNat 0) f_1c0) fun r1=>bif r1 then rt ad else ak (di .i64 (ad+1))<|nx (ad+1)else dn ()
def qc1(ab:qL1)(f_1c0:(List Bool))(cl s0:Int):Option (Unit⊕Int):=bt (fun a=>oc ab f_1c0 cl a (fun a' =>some (.next a')) (fun e=>some (.done e)) (fun r=>some (.ret r))) s0
def qbh:Shp:=⟨[jp9,(1, .fn 163 (.cons (.rp false (.slice .bool)) .nil)),jke,jcm],[]⟩
def qbg:Shp:=⟨[],[]⟩
def rk(ab:qL1)(f_1c0:(List Bool)):Option Int:=bnd (qc1 ab f_1c0 (ab.length:Int) 0) fun oe2=>lk oe2 (fun e2=>some (-1)) (fun r=>some r)
def gp(ab:qL1)(f_1c0:(List Bool)):Option Bool:=bnd (rk ab f_1c0) fun r1=>some (decide ((0:Int)≤r1))
def qlj{R:Type}(f2 eq:Bool)(g7:(List ah))(be a5:Int)(ep:qL1)(hb bs:Int)(bl:(List ah))(b0 b1:Int)(cv:(List Bool))(ei:Int)(d5:(List Bool))(nx:(Int×(List Bool))→Option R)(dn:(List Bool)→Option R)(rt:((List Bool)×(List Bool))→Option R):Option R:=bif decide (ei<hb)then ak (ix ei ep.length)<|ak (ix ei ep.length)<|ak (ix (ep.getD ei.toNat 0) d5.length)<|ak (ix (ep.getD ei.toNat 0) d5.length)<|ak (di .i64 (ei+1))<|nx ((ei+1),(d5.set (ep.getD ei.toNat 0).toNat true))else dn d5
def qpb(f2 eq:Bool)(g7:(List ah))(be a5:Int)(ep:qL1)(hb bs:Int)(bl:(List ah))(b0 b1:Int)(cv:(List Bool))(s0:(Int×(List Bool))):Option ((List Bool)⊕((List Bool)×(List Bool))):=bt (fun a=>qlj f2 eq g7 be a5 ep hb bs bl b0 b1 cv a.1 a.2 (fun a' =>some (.next a')) (fun e=>some (.done e)) (fun r=>some (.ret r))) s0
def q2d:Shp:=⟨[ji2,q4x,j30,j8f,j6v,j6q,j8b,j3w,(56, .d false qT1),j6s,j6t],[qaz,jow,qvr,qvr]⟩
def q2c:Shp:=⟨[ji2,q4x,j30,j8f,j6v,j6q,j8b,j3w],[qaz,jow,qvr,qvr]⟩
def qlk{R:Type}(f2:Bool)(g7:(List ah))(be bs:Int)(bl:(List ah))(b0 b1:Int)(eq:Bool)(a5:Int)(cv d5:(List Bool))(nx:(Bool×Int×(List Bool)×(List Bool))→Option R)(dn:(Bool×(List Bool)×(List Bool))→Option R)(rt:((List Bool)×(List Bool))→Option R):Option R:=bif decide (a5<be)then ak (ix a5 g7.length)<|ak (ix a5 g7.length)<|bif f2 then ak (ix a5 cv.length)<|ak (ix a5 cv.length)<|bif (cv.getD a5.toNat false)then ak (di .i64 (a5+1))<|nx (eq,(a5+1),cv,d5)else bnd (gp (g7.getD a5.toNat ah.z).2.2.1 d5) fun r1=>bif (!r1)then ak (di .i64 (a5+1))<|nx (eq,(a5+1),cv,d5)else ak (ix a5 cv.length)<|ak (ix a5 cv.length)<|bnd (qpb f2 true g7 be a5 (g7.getD a5.toNat ah.z).2.1 ((g7.getD a5.toNat ah.z).2.1.length:Int) bs bl b0 b1 (cv.set a5.toNat true) (0,d5)) fun oe2=>lk oe2 (fun e2=>ak (di .i64 (a5+1))<|nx (true,(a5+1),(cv.set a5.toNat true),e2)) (fun r=>rt r)else ak (ix a5 cv.length)<|ak (ix a5 cv.length)<|bif (cv.getD a5.toNat false)then ak (di .i64 (a5+1))<|nx (eq,(a5+1),cv,d5)else bnd (gp (g7.getD a5.toNat ah.z).2.1 d5) fun r3=>bif (!r3)then ak (di .i64 (a5+1))<|nx (eq,(a5+1),cv,d5)else ak (ix a5 cv.length)<|ak (ix a5 cv.length)<|bnd (qpb f2 true g7 be a5 (g7.getD a5.toNat ah.z).2.2.1 ((g7.getD a5.toNat ah.z).2.2.1.length:Int) bs bl b0 b1 (cv.set a5.toNat true) (0,d5)) fun oe4=>lk oe4 (fun e4=>ak (di .i64 (a5+1))<|nx (true,(a5+1),(cv.set a5.toNat true),e4)) (fun r=>rt r)else dn (eq,cv,d5)
def q5s(f2:Bool)(g7:(List ah))(be bs:Int)(bl:(List ah))(b0 b1:Int)(s0:(Bool×Int×(List Bool)×(List Bool))):Option ((Bool×(List Bool)×(List Bool))⊕((List Bool)×(List Bool))):=bt (fun a=>qlk f2 g7 be bs bl b0 b1 a.1 a.2.1 a.2.2.1 a.2.2.2 (fun a' =>some (.next a')) (fun e=>some (.done e)) (fun r=>some (.ret r))) s0
def q2f:Shp:=⟨[ji2,q4x,j30,j8f,j6v,j6q,j8b,j3w],[qaz,jow,qvr,qvr]⟩
def q2e:Shp:=⟨[ji2,q4x,j30,j8f,j6v],[qaz,jow,qvr,qvr]⟩
def qll{R:Type}(f2:Bool)(bs:Int)(bl:(List ah))(b0 b1:Int)(eq:Bool)(cv d5:(List Bool))(nx:(Bool×(List Bool)×(List Bool))→Option R)(dn rt:((List Bool)×(List Bool))→Option R):Option R:=bif eq then bnd (q5s f2 bl (bl.length:Int) bs bl b0 b1 (false,0,cv,d5)) fun oe5=>lk oe5 (fun e5=>nx (e5.1,e5.2.1,e5.2.2)) (fun r=>rt r)else dn (cv,d5)
def q5t(f2:Bool)(bs:Int)(bl:(List ah))(b0 b1:Int)(s0:(Bool×(List Bool)×(List Bool))):Option (((List Bool)×(List Bool))⊕((List Bool)×(List Bool))):=bt (fun a=>qll f2 bs bl b0 b1 a.1 a.2.1 a.2.2 (fun a' =>some (.next a')) (fun e=>some (.done e)) (fun r=>some (.ret r))) s0
def q2h:Shp:=⟨[ji2,q4x,j30,j8f,j6v],[qaz,jow,qvr,qvr]⟩
def q2g:Shp:=⟨[j8k,(9, .own 1)],[.cs 144 1 1 (.cons (.own 2) .nil),qvr,qvr]⟩
def qjv(aa:b8)(gl:Int)(f2:Bool):Option ((List Bool)×(List Bool)):=ak (qv2 aa.1 aa.1 1)<|ak (qv2 (aa.2.1.length:Int) (aa.2.1.length:Int) 1)<|ak (ix gl (List.replicate aa.1.toNat (false:Bool)).length)<|ak (ix gl (List.replicate aa.1.toNat (false:Bool)).length)<|bnd (q5t f2 aa.1 aa.2.1 aa.2.2.1 aa.2.2.2.1 (true,(List.replicate (aa.2.1.length:Int).toNat (false:Bool)),((List.replicate aa.1.toNat (false:Bool)).set gl.toNat true))) fun oe6=>lk oe6 (fun e6=>some (e6.2,e6.1)) (fun r=>some r)
def uq{R:Type}(ab:(List Bool))(h0:Bool)(cl ad:Int)(nx:Int→Option R)(dn:Unit→Option R)(rt:Int→Option R):Option R:=bif decide (ad<cl)then ak (ix ad ab.length)<|ak (ix ad ab.length)<|bif (h0==(ab.getD ad.toNat false))then rt ad else ak (di .i64 (ad+1))<|nx (ad+1)else dn ()
def qj8(ab:(List Bool))(h0:Bool)(cl s0:Int):Option (Unit⊕Int):=bt (fun a=>uq ab h0 cl a (fun a' =>some (.next a')) (fun e=>some (.done e)) (fun r=>some (.ret r))) s0
def qih:Shp:=⟨[(0, .d false (.slice .bool)),(1, .d true .bool),jke,jcm],[]⟩
def qig:Shp:=⟨[],[]⟩
def qaq(ab:(List Bool))(h0:Bool):Option Int:=bnd (qj8 ab h0 (ab.length:Int) 0) fun oe1=>lk oe1 (fun e1=>some (-1)) (fun r=>some r)
def er(ab:(List Bool))(h0:Bool):Option Bool:=bnd (qaq ab h0) fun r1=>some (decide ((0:Int)≤r1))
def qi9{R:Type}(ef:(List ah))(d4 f4:Int)(fr:(List ah))(fs ft eu:Int)(nx:Int→Option R)(dn:Unit→Option R)(rt:Bool→Option R):Option R:=bif decide (eu<d4)then ak (ix eu ef.length)<|ak (ix eu ef.length)<|bnd (c6 (ef.getD eu.toNat ah.z).2.2.1 fs) fun r2=>bif r2 then rt false else bnd (c6 (ef.getD eu.toNat ah.z).2.1 ft) fun r3=>bif r3 then rt false else ak (di .i64 (eu+1))<|nx (eu+1)else dn ()
def q13(ef:(List ah))(d4 f4:Int)(fr:(List ah))(fs ft s0:Int):Option (Unit⊕Bool):=bt (fun a=>qi9 ef d4 f4 fr fs ft a (fun a' =>some (.next a')) (fun e=>some (.done e)) (fun r=>some (.ret r))) s0
def qzk:Shp:=⟨[j67,j7m,j7u,j7v],[qaz]⟩
def qzj:Shp:=⟨[j67],[qaz]⟩
def qja{R:Type}(g9:(List Bool))(ha f4:Int)(fr:(List ah))(fs ft ih:Int)(nx:Int→Option R)(dn:Unit→Option R)(rt:Bool→Option R):Option R:=bif decide (ih<ha)then ak (ix ih g9.length)<|ak (ix ih g9.length)<|bif (g9.getD ih.toNat false)then bnd (qjv (f4,fr,fs,ft,()) ft (g9.getD ih.toNat false)) fun r5=>bnd (er r5.1 false) fun r6=>bif r6 then rt false else bnd (er r5.2 false) fun r7=>bif r7 then rt false else ak (di .i64 (ih+1))<|nx (ih+1)else bnd (qjv (f4,fr,fs,ft,()) fs (g9.getD ih.toNat false)) fun r8=>bnd (er r8.1 false) fun r9=>bif r9 then rt false else bnd (er r8.2 false) fun r10=>bif r10 then rt false else ak (di .i64 (ih+1))<|nx (ih+1)else dn ()
def q14(g9:(List Bool))(ha f4:Int)(fr:(List ah))(fs ft s0:Int):Option (Unit⊕Bool):=bt (fun a=>qja g9 ha f4 fr fs ft a (fun a' =>some (.next a')) (fun e=>some (.done e)) (fun r=>some (.ret r))) s0
def qzm:Shp:=⟨[j67,(40, .d true (.slice .bool)),j7y,(42, .d true qT0)],[qaz]⟩
def qzl:Shp:=⟨[],[]⟩
def qr1(aa:b8):Option Bool:=bnd (pz aa) fun r1=>bif (!r1)then some false else bif decide (aa.2.2.1=aa.2.2.2.1)then some false else bnd (q13 aa.2.1 (aa.2.1.length:Int) aa.1 aa.2.1 aa.2.2.1 aa.2.2.2.1 0) fun oe4=>lk oe4 (fun e4=>bnd (q14 [false,true] 2 aa.1 aa.2.1 aa.2.2.1 aa.2.2.2.1 0) fun oe11=>lk oe11 (fun e11=>some true) (fun r=>some r)) (fun r=>some r)
def q2b(aa:b8)(dl:Int):Option (Int×qL1):=bnd (pz aa) fun r1=>bif (!r1)then some (1,[])else ak (qv2 aa.1 aa.1 8)<|ak (ix dl (List.replicate aa.1.toNat (0:Int)).length)<|ak (ix dl (List.replicate aa.1.toNat (0:Int)).length)<|some (0,((List.replicate aa.1.toNat (0:Int)).set dl.toNat 1))
def qju(aa:b8):Option (Int×qL1):=bnd (q2b aa aa.2.2.1) fun r1=>some (r1.1,r1.2)
def qz0(aa:b8)(jc:Bool)(c5:Int):Option (Int×qL1):=bnd (pz aa) fun r1=>bif (!r1)then some (1,[])else bif jc then bnd (qr1 aa) fun r2=>bif (!r2)then some (19,[])else bif decide (c5<1)then some (2,[])else bif decide ((500:Int)<c5)then some (2,[])else bnd (qju aa) fun r3=>some (r3.1,r3.2)else bif decide (c5<1)then some (2,[])else bif decide ((500:Int)<c5)then some (2,[])else bnd (qju aa) fun r4=>some (r4.1,r4.2)
def qfc(nf:Int):Option Bool:=bif decide (nf<0)then some true else some (decide ((100:Int)<nf))
def ec{R:Type}(ab:qL1)(cl ad:Int)(nx:Int→Option R)(dn:Unit→Option R)(rt:Int→Option R):Option R:=bif decide (ad<cl)then ak (ix ad ab.length)<|ak (ix ad ab.length)<|bnd (qfc (ab.getD ad.toNat 0)) fun r1=>bif r1 then rt ad else ak (di .i64 (ad+1))<|nx (ad+1)else dn ()
def o9(ab:qL1)(cl s0:Int):Option (Unit⊕Int):=bt (fun a=>ec ab cl a (fun a' =>some (.next a')) (fun e=>some (.done e)) (fun r=>some (.ret r))) s0
def qa5:Shp:=⟨[jp9,(1, .fn 134 .nil),jke,jcm],[]⟩
def qa4:Shp:=⟨[],[]⟩
def jf(ab:qL1):Option Int:=bnd (o9 ab (ab.length:Int) 0) fun oe2=>lk oe2 (fun e2=>some (-1)) (fun r=>some r)
def d8(ab:qL1):Option Bool:=bnd (jf ab) fun r1=>some (decide ((0:Int)≤r1))
def nk(aa:b8)(a0:qL1):Option Bool:=bnd (pz aa) fun r1=>bif r1 then bif decide ((a0.length:Int)=aa.1)then bnd (d8 a0) fun r2=>some (!r2)else some false else some false
def qfb(ke:Int)(dl:qL1):Option Bool:=ak (ix 0 1)<|ak (ix ke dl.length)<|ak (ix ke dl.length)<|some (decide ((dl.getD ke.toNat 0)=0))
def ed{R:Type}(ab f_1c0:qL1)(cl ad:Int)(nx:Int→Option R)(dn:Unit→Option R)(rt:Int→Option R):Option R:=bif decide (ad<cl)then ak (ix ad ab.length)<|ak (ix ad ab.length)<|bnd (qfb (ab.getD ad.toNat 0) f_1c0) fun r1=>bif r1 then rt ad else ak (di .i64 (ad+1))<|nx (ad+1)else dn ()
def pd(ab f_1c0:qL1)(cl s0:Int):Option (Unit⊕Int):=bt (fun a=>ed ab f_1c0 cl a (fun a' =>some (.next a')) (fun e=>some (.done e)) (fun r=>some (.ret r))) s0
def qa8:Shp:=⟨[jp9,(1, .fn 135 (.cons (.rp false qT1) .nil)),jke,jcm],[]⟩
def qa7:Shp:=⟨[],[]⟩
def jg(ab f_1c0:qL1):Option Int:=bnd (pd ab f_1c0 (ab.length:Int) 0) fun oe2=>lk oe2 (fun e2=>some (-1)) (fun r=>some r)
def gn(ab f_1c0:qL1):Option Bool:=bnd (jg ab f_1c0) fun r1=>some (decide ((0:Int)≤r1))
def vm(c1:ah)(a0:qL1):Option Bool:=bnd (gn c1.2.1 a0) fun r1=>some (!r1)
def o5{R:Type}(a0:qL1)(dt:(List ah))(ej a4:Int)(ev:qL1)(nx:(Int×qL1)→Option R)(dn:qL1→Option R)(rt:(Int×qL1)→Option R):Option R:=bif decide (a4<ej)then ak (ix a4 dt.length)<|ak (ix a4 dt.length)<|bnd (vm (dt.getD a4.toNat ah.z) a0) fun r2=>bif r2 then ak (room (ev.length+1) 8)<|ak (di .i64 (a4+1))<|nx ((a4+1),(ev++[a4]))else ak (di .i64 (a4+1))<|nx ((a4+1),ev)else dn ev
def qo6(a0:qL1)(dt:(List ah))(ej:Int)(s0:(Int×qL1)):Option (qL1⊕(Int×qL1)):=bt (fun a=>o5 a0 dt ej a.1 a.2 (fun a' =>some (.next a')) (fun e=>some (.done e)) (fun r=>some (.ret r))) s0
def q12:Shp:=⟨[jk4,(6, .nl false (.own 0)),(14, .d false (.slice ah.ty)),jxx,jx5],[qgb]⟩
def q11:Shp:=⟨[(6, .nl false (.own 0))],[qgb]⟩
def fc(aa:b8)(a0:qL1):Option (Int×qL1):=bnd (nk aa a0) fun r1=>bif (!r1)then some (1,[])else bnd (qo6 a0 aa.2.1 (aa.2.1.length:Int) (0,[])) fun oe3=>lk oe3 (fun e3=>some (0,e3)) (fun r=>some r)
def qaa(ab:qL1):Option qL1:=bif decide ((ab.length:Int)=0)then some []else ak (room (0+ab.length) 8)<|some ([]++ab)
def ju(ab:qL1):Option qL1:=ak (room (0+ab.length) 8)<|some ([]++ab)
def bk(ab:qL1):Option qL1:=ju ab
def rx(l2:qL1):Option ByteArray:=js9 l2
def qf0(bf:ae)(oe:Int)(dl:(List (ByteArray×Int))):Option (Int×(List (ByteArray×Int))×(List ae)×qL2):=bnd (rx bf.2.1) fun r1=>bif (!(dx .str r1 dl).isSome)then ak (ix 0 1)<|bif decide ((0:Int)=oe)then some (13,dl,[],[])else bnd (rx bf.2.1) fun r2=>ak (room 1 24)<|bif decide ((20000:Int)<0)then some (13,(qeb .str r2 (0:Int) dl),[],[bf.2.1])else ak (room 1 88)<|some (0,(qeb .str r2 (0:Int) dl),[(bf.1,bf.2.1,bf.2.2.1,bf.2.2.2.1,0,bf.2.2.2.2.2.1,(!(dx .str r1 dl).isSome),bf.2.2.2.2.2.2.2.1,())],[bf.2.1])else bif decide ((20000:Int)<0)then some (13,dl,[],[])else ak (room 1 88)<|some (0,dl,[(bf.1,bf.2.1,bf.2.2.1,bf.2.2.2.1,((dx .str r1 dl).getD 0),bf.2.2.2.2.2.1,(!(dx .str r1 dl).isSome),bf.2.2.2.2.2.2.2.1,())],[])
def qe3(ke:Int)(dl:qL1):Option Bool:=ak (ix 0 1)<|ak (ix ke dl.length)<|ak (ix ke dl.length)<|some (decide ((dl.getD ke.toNat 0)=0))
def ek{R:Type}(ab f_1c0:qL1)(cl ad:Int)(nx:Int→Option R)(dn:Unit→Option R)(rt:Int→Option R):Option R:=bif decide (ad<cl)then ak (ix ad ab.length)<|ak (ix ad ab.length)<|bnd (qe3 (ab.getD ad.toNat 0) f_1c0) fun r1=>bif r1 then rt ad else ak (di .i64 (ad+1))<|nx (ad+1)else dn ()
def pi(ab f_1c0:qL1)(cl s0:Int):Option (Unit⊕Int):=bt (fun a=>ek ab f_1c0 cl a (fun a' =>some (.next a')) (fun e=>some (.done e)) (fun r=>some (.ret r))) s0
def qbo:Shp:=⟨[jp9,(1, .fn 183 (.cons (.rp false qT1) .nil)),jke,jcm],[]⟩
def qbn:Shp:=⟨[],[]⟩
def ji(ab f_1c0:qL1):Option Int:=bnd (pi ab f_1c0 (ab.length:Int) 0) fun oe2=>lk oe2 (fun e2=>some (-1)) (fun r=>some r)
def gq(ab f_1c0:qL1):Option Bool:=bnd (ji ab f_1c0) fun r1=>some (decide ((0:Int)≤r1))
def qdi(c1:ah)(a0:qL1):Option Bool:=bnd (gq c1.2.1 a0) fun r1=>some (!r1)
def qgp(bf n4:Int):Option Int:=bif decide (bf=(-1))then some bf else ak (di .i64 (bf+n4))<|some (bf+n4)
def ky{R:Type}(bf:qL1)(l3 l1:Int)(nx:(Int×Int)→Option R)(dn rt:Int→Option R):Option R:=bif decide (l1<(bf.length:Int))then ak (ix l1 bf.length)<|ak (ix l1 bf.length)<|ak (di .i64 (l1+1))<|nx ((max l3 (bf.getD l1.toNat 0)),(l1+1))else dn l3
def qep(bf:qL1)(s0:(Int×Int)):Option (Int⊕Int):=bt (fun a=>ky bf a.1 a.2 (fun a' =>some (.next a')) (fun e=>some (.done e)) (fun r=>some (.ret r))) s0
def qqj:Shp:=⟨[jp9,jwd,(4, .d true qT0)],[]⟩
def qqi:Shp:=⟨[jwd],[]⟩
def kl(bf:qL1):Option Int:=bif decide ((bf.length:Int)<1)then none else ak (ix 0 bf.length)<|ak (ix 0 bf.length)<|bnd (qep bf ((bf.getD 0 0),1)) fun oe1=>lk oe1 (fun e1=>some e1) (fun r=>some r)
def qdj{R:Type}(dt:qL1)(ej:Int)(os:ByteArray)(o0 o1:qL1)(a4:Int)(ev:qL1)(nx:(Int×qL1)→Option R)(dn:qL1→Option R)(rt:(Bool×qL1)→Option R):Option R:=bif decide (a4<ej)then ak (ix a4 dt.length)<|ak (ix a4 dt.length)<|ak (ix (dt.getD a4.toNat 0) ev.length)<|ak (ix (dt.getD a4.toNat 0) ev.length)<|bnd (qgp (ev.getD (dt.getD a4.toNat 0).toNat 0) (-1)) fun r2=>ak (ix (dt.getD a4.toNat 0) ev.length)<|ak (ix (dt.getD a4.toNat 0) ev.length)<|ak (di .i64 (a4+1))<|nx ((a4+1),(ev.set (dt.getD a4.toNat 0).toNat r2))else dn ev
def qxk(dt:qL1)(ej:Int)(os:ByteArray)(o0 o1:qL1)(s0:(Int×qL1)):Option (qL1⊕(Bool×qL1)):=bt (fun a=>qdj dt ej os o0 o1 a.1 a.2 (fun a' =>some (.next a')) (fun e=>some (.done e)) (fun r=>some (.ret r))) s0
def ja6:Shp:=⟨[jms,(6, .own 1),(14, .d false qT1),jxx,jx5],[qww,qgb]⟩
def ja5:Shp:=⟨[jms,(6, .own 1)],[qww,qgb]⟩
def qdk{R:Type}(be:qL1)(a5 a9:Int)(ev:qL1)(nx:(Int×qL1)→Option R)(dn:qL1→Option R)(rt:(Bool×qL1)→Option R):Option R:=bif decide (a9<a5)then ak (ix a9 be.length)<|ak (ix a9 be.length)<|ak (ix (be.getD a9.toNat 0) ev.length)<|ak (ix (be.getD a9.toNat 0) ev.length)<|bnd (qgp (ev.getD (be.getD a9.toNat 0).toNat 0) 1) fun r4=>ak (ix (be.getD a9.toNat 0) ev.length)<|ak (ix (be.getD a9.toNat 0) ev.length)<|ak (di .i64 (a9+1))<|nx ((a9+1),(ev.set (be.getD a9.toNat 0).toNat r4))else dn ev
def qxl(be:qL1)(a5:Int)(s0:(Int×qL1)):Option (qL1⊕(Bool×qL1)):=bt (fun a=>qdk be a5 a.1 a.2 (fun a' =>some (.next a')) (fun e=>some (.done e)) (fun r=>some (.ret r))) s0
def ja8:Shp:=⟨[(6, .own 0),(30, .d false qT1),j3w,j6w],[qgb]⟩
def ja7:Shp:=⟨[(6, .own 0)],[qgb]⟩
def qmw(c1:ah)(a0:qL1):Option (Bool×qL1):=bnd (bk a0) fun r1=>bnd (qxk c1.2.1 (c1.2.1.length:Int) c1.1 c1.2.1 c1.2.2.1 (0,r1)) fun oe3=>lk oe3 (fun e3=>bnd (qxl c1.2.2.1 (c1.2.2.1.length:Int) (0,e3)) fun oe5=>lk oe5 (fun e5=>bnd (kl e5) fun r6=>some (decide (r6≤100),e5)) (fun r=>some r)) (fun r=>some r)
def j9{R:Type}(bf k1:qL1)(cl ad:Int)(nx:Int→Option R)(dn:Unit→Option R)(rt:Bool→Option R):Option R:=bif decide (ad<cl)then ak (ix ad k1.length)<|ak (ix ad k1.length)<|bif (!decide ((k1.getD ad.toNat 0)=(-1)))then ak (ix ad bf.length)<|ak (ix ad bf.length)<|bif decide ((bf.getD ad.toNat 0)=(-1))then rt false else ak (ix ad bf.length)<|ak (ix ad bf.length)<|ak (ix ad k1.length)<|ak (ix ad k1.length)<|bif decide ((k1.getD ad.toNat 0)<(bf.getD ad.toNat 0))then rt false else ak (di .i64 (ad+1))<|nx (ad+1)else ak (di .i64 (ad+1))<|nx (ad+1)else dn ()
def quh(bf k1:qL1)(cl s0:Int):Option (Unit⊕Bool):=bt (fun a=>j9 bf k1 cl a (fun a' =>some (.next a')) (fun e=>some (.done e)) (fun r=>some (.ret r))) s0
def q7m:Shp:=⟨[jp9,jk4,jke,jcm],[]⟩
def q7l:Shp:=⟨[],[]⟩
def qdv(bf k1:qL1):Option Bool:=bnd (quh bf k1 (bf.length:Int) 0) fun oe1=>lk oe1 (fun e1=>some true) (fun r=>some r)
def fm{R:Type}(jb ki:qL1)(gw hj:Int)(nx:Int→Option R)(dn:Unit→Option R)(rt:Bool→Option R):Option R:=bif decide (hj<gw)then ak (ix hj jb.length)<|ak (ix hj jb.length)<|ak (ix hj ki.length)<|ak (ix hj ki.length)<|bif (!decide ((jb.getD hj.toNat 0)=(ki.getD hj.toNat 0)))then rt false else ak (di .i64 (hj+1))<|nx (hj+1)else dn ()
def qan(jb ki:qL1)(gw s0:Int):Option (Unit⊕Bool):=bt (fun a=>fm jb ki gw a (fun a' =>some (.next a')) (fun e=>some (.done e)) (fun r=>some (.ret r))) s0
def ql4:Shp:=⟨[jp9,jk4,jre,jnu],[]⟩
def ql3:Shp:=⟨[],[]⟩
def m8(jb ki:qL1):Option Bool:=bif (!decide ((jb.length:Int)=(ki.length:Int)))then some false else bnd (qan jb ki (jb.length:Int) 0) fun oe1=>lk oe1 (fun e1=>some true) (fun r=>some r)
def qdl(bf:ae)(oe:Int)(dl:(List (ByteArray×Int)))(i8:(List ae))(h7:qL2):Option (Int×(List (ByteArray×Int))×(List ae)×qL2):=bnd (rx bf.2.1) fun r1=>bif (!(dx .str r1 dl).isSome)then ak (ix 0 1)<|bif decide ((h7.length:Int)=oe)then some (13,dl,i8,h7)else bnd (rx bf.2.1) fun r2=>ak (room (h7.length+1) 24)<|bif decide ((20000:Int)<(i8.length:Int))then some (13,(qeb .str r2 (h7.length:Int) dl),i8,(h7++[bf.2.1]))else ak (room (i8.length+1) 88)<|some (0,(qeb .str r2 (h7.length:Int) dl),(i8++[(bf.1,bf.2.1,bf.2.2.1,bf.2.2.2.1,(h7.length:Int),bf.2.2.2.2.2.1,(!(dx .str r1 dl).isSome),bf.2.2.2.2.2.2.2.1,())]),(h7++[bf.2.1]))else bif decide ((20000:Int)<(i8.length:Int))then some (13,dl,i8,h7)else ak (room (i8.length+1) 88)<|some (0,dl,(i8++[(bf.1,bf.2.1,bf.2.2.1,bf.2.2.2.1,((dx .str r1 dl).getD 0),bf.2.2.2.2.2.1,(!(dx .str r1 dl).isSome),bf.2.2.2.2.2.2.2.1,())]),h7)
def va{R:Type}(ee fd:Int)(lt:qL1)(ep:(List ah))(hb ei l6 bs:Int)(bl:(List ah))(b0 b1 add_10c2:Int)(kt:qL1)(ku kv kx hv:Int)(k0 jn:Bool)(add_10c0:(List (ByteArray×Int)))(c0:(List ae))(g6:qL2)(f0:Int)(gj:qL1)(nx:(Int×qL1)→Option R)(dn:qL1→Option R)(rt:((Int×(List ae)×qL2)⊕Int)→Option R):Option R:=bif decide (f0<l6)then ak (ix f0 lt.length)<|ak (ix f0 lt.length)<|ak (ix f0 gj.length)<|ak (ix f0 gj.length)<|bif (!decide ((lt.getD f0.toNat 0)=(gj.getD f0.toNat 0)))then ak (ix f0 gj.length)<|ak (ix f0 gj.length)<|ak (di .i64 (f0+1))<|nx ((f0+1),(gj.set f0.toNat (-1)))else ak (di .i64 (f0+1))<|nx ((f0+1),gj)else dn gj
def qxn(ee fd:Int)(lt:qL1)(ep:(List ah))(hb ei l6 bs:Int)(bl:(List ah))(b0 b1 add_10c2:Int)(kt:qL1)(ku kv kx hv:Int)(k0 jn:Bool)(add_10c0:(List (ByteArray×Int)))(c0:(List ae))(g6:qL2)(s0:(Int×qL1)):Option (qL1⊕((Int×(List ae)×qL2)⊕Int)):=bt (fun a=>va ee fd lt ep hb ei l6 bs bl b0 b1 add_10c2 kt ku kv kx hv k0 jn add_10c0 c0 g6 a.1 a.2 (fun a' =>some (.next a')) (fun e=>some (.done e)) (fun r=>some (.ret r))) s0
def jbb:Shp:=⟨[q4x,j30,qt8,jnu,j8i,j7t,(20, .d true qT1),jp8,j6s,j6t,(126, .d true qT0),(127, .d true qT0)],[qaz,jxk,j3g,jas,qm4,jkg,j3o,qgb,qp4,qa0]⟩
def jba:Shp:=⟨[q4x,j30,qt8,jnu,j8i,j7t,jp8,j6s,j6t],[qaz,jxk,j3g,jas,qm4,jkg,j3o,qgb,qp4,qa0]⟩
def j4{R:Type}(ee:Int)(ep:(List ah))(hb ei bs:Int)(bl:(List ah))(b0 b1 add_10c2:Int)(kt:qL1)(ku kv kx:Int)(k0:Bool)(add_10c0:(List (ByteArray×Int)))(c0:(List ae))(g6:qL2)(fd hv:Int)(jn:Bool)(gj:qL1)(nx:(Int×Int×Bool×qL1)→Option R)(dn:(Int×Bool×qL1)→Option R)(rt:((Int×(List ae)×qL2)⊕Int)→Option R):Option R:=bif decide ((0:Int)≤fd)then ak (ix fd c0.length)<|ak (ix fd c0.length)<|bnd (qdv (c0.getD fd.toNat ae.z).2.1 gj) fun r6=>bif (!r6)then ak (ix fd c0.length)<|ak (ix fd c0.length)<|nx ((c0.getD fd.toNat ae.z).2.2.1,hv,jn,gj)else bnd (m8 (c0.getD fd.toNat ae.z).2.1 gj) fun r7=>bif r7 then ak (ix fd c0.length)<|ak (ix fd c0.length)<|nx ((c0.getD fd.toNat ae.z).2.2.1,hv,jn,gj)else bnd (qxn ee fd (c0.getD fd.toNat ae.z).2.1 ep hb ei ((c0.getD fd.toNat ae.z).2.1.length:Int) bs bl b0 b1 add_10c2 kt ku kv kx hv k0 jn add_10c0 c0 g6 (0,gj)) fun oe8=>lk oe8 (fun e8=>bif decide (hv<0)then ak (ix fd c0.length)<|ak (ix fd c0.length)<|nx ((c0.getD fd.toNat ae.z).2.2.1,fd,true,e8)else ak (ix fd c0.length)<|ak (ix fd c0.length)<|nx ((c0.getD fd.toNat ae.z).2.2.1,hv,true,e8)) (fun r=>rt r)else dn (hv,jn,gj)
def qxo(ee:Int)(ep:(List ah))(hb ei bs:Int)(bl:(List ah))(b0 b1 add_10c2:Int)(kt:qL1)(ku kv kx:Int)(k0:Bool)(add_10c0:(List (ByteArray×Int)))(c0:(List ae))(g6:qL2)(s0:(Int×Int×Bool×qL1)):Option ((Int×Bool×qL1)⊕((Int×(List ae)×qL2)⊕Int)):=bt (fun a=>j4 ee ep hb ei bs bl b0 b1 add_10c2 kt ku kv kx k0 add_10c0 c0 g6 a.1 a.2.1 a.2.2.1 a.2.2.2 (fun a' =>some (.next a')) (fun e=>some (.done e)) (fun r=>some (.ret r))) s0
def jbd:Shp:=⟨[q4x,j30,qt8,jnu,j8i,j7t,jp8,j6s,j6t],[qaz,jxk,j3g,jas,qm4,jkg,j3o,qgb,qp4,qa0]⟩
def jbc:Shp:=⟨[q4x,j30,qt8,jnu,j8i,jp8,j6s,j6t],[qaz,jxk,j3g,jas,qm4,jkg,j3o,qgb,qp4,qa0]⟩
def il{R:Type}(ee:Int)(ep:(List ah))(hb bs:Int)(bl:(List ah))(b0 b1 add_10c2 ei:Int)(add_10c0:(List (ByteArray×Int)))(c0:(List ae))(g6:qL2)(nx:(Int×(List (ByteArray×Int))×(List ae)×qL2)→Option R)(dn:((List (ByteArray×Int))×(List ae)×qL2)→Option R)(rt:((Int×(List ae)×qL2)⊕Int)→Option R):Option R:=bif decide (ei<hb)then ak (ix ei ep.length)<|ak (ix ei ep.length)<|ak (ix ee c0.length)<|ak (ix ee c0.length)<|bnd (qdi (ep.getD ei.toNat ah.z) (c0.getD ee.toNat ae.z).2.1) fun r3=>bif (!r3)then ak (di .i64 (ei+1))<|nx ((ei+1),add_10c0,c0,g6)else ak (ix ee c0.length)<|ak (ix ee c0.length)<|bnd (qmw (ep.getD ei.toNat ah.z) (c0.getD ee.toNat ae.z).2.1) fun r4=>bif (!r4.1)then rt (Sum.inr 13)else bnd (bk r4.2) fun r5=>bnd (qxo ee ep hb ei bs bl b0 b1 add_10c2 r4.2 ee ei 0 false add_10c0 c0 g6 (ee,(-1),false,r5)) fun oe9=>lk oe9 (fun e9=>bnd (qdl (r4.2,e9.2.2,ee,ei,0,e9.1,false,e9.2.1,()) add_10c2 add_10c0 c0 g6) fun r10=>bif (!decide (r10.1=0))then rt (Sum.inr r10.1)else ak (di .i64 (ei+1))<|nx ((ei+1),r10.2.1,r10.2.2.1,r10.2.2.2)) (fun r=>rt r)else dn (add_10c0,c0,g6)
def qxp(ee:Int)(ep:(List ah))(hb bs:Int)(bl:(List ah))(b0 b1 add_10c2:Int)(s0:(Int×(List (ByteArray×Int))×(List ae)×qL2)):Option (((List (ByteArray×Int))×(List ae)×qL2)⊕((Int×(List ae)×qL2)⊕Int)):=bt (fun a=>il ee ep hb bs bl b0 b1 add_10c2 a.1 a.2.1 a.2.2.1 a.2.2.2 (fun a' =>some (.next a')) (fun e=>some (.done e)) (fun r=>some (.ret r))) s0
def jbf:Shp:=⟨[q4x,j30,qt8,jnu,jp8,j6s,j6t],[qaz,j6r,j6u,jas,jra,j3o,qp4,qa0]⟩
def jbe:Shp:=⟨[q4x,j30,qt8,jnu],[qaz,j6r,j6u,jas,jra,j3o,qp4,qa0]⟩
def nh{R:Type}(bs:Int)(bl:(List ah))(b0 b1 add_10c2 ee:Int)(add_10c0:(List (ByteArray×Int)))(c0:(List ae))(g6:qL2)(nx:(Int×(List (ByteArray×Int))×(List ae)×qL2)→Option R)(dn:((List ae)×qL2)→Option R)(rt:((Int×(List ae)×qL2)⊕Int)→Option R):Option R:=bif decide (ee<(c0.length:Int))then ak (ix ee c0.length)<|ak (ix ee c0.length)<|bif (!(c0.getD ee.toNat ae.z).2.2.2.2.2.2.1)then ak (di .i64 (ee+1))<|nx ((ee+1),add_10c0,c0,g6)else bnd (qxp ee bl (bl.length:Int) bs bl b0 b1 add_10c2 (0,add_10c0,c0,g6)) fun oe11=>lk oe11 (fun e11=>ak (di .i64 (ee+1))<|nx ((ee+1),e11.1,e11.2.1,e11.2.2)) (fun r=>rt r)else dn (c0,g6)
def qxq(bs:Int)(bl:(List ah))(b0 b1 add_10c2:Int)(s0:(Int×(List (ByteArray×Int))×(List ae)×qL2)):Option (((List ae)×qL2)⊕((Int×(List ae)×qL2)⊕Int)):=bt (fun a=>nh bs bl b0 b1 add_10c2 a.1 a.2.1 a.2.2.1 a.2.2.2 (fun a' =>some (.next a')) (fun e=>some (.done e)) (fun r=>some (.ret r))) s0
def jbh:Shp:=⟨[q4x,j30,qt8,jnu],[qaz,j6r,j6u,jas,jra,j3o,qp4,qa0]⟩
def jbg:Shp:=⟨[j8k],[.cs 75 1 1 (.cons (.ptr 1) .nil), .cs 80 2 1 (.cons (.own 2) (.cons (.own 3) .nil)),qp4,qa0]⟩
def wu(aa:b8)(a0:qL1)(c5:Int):Option ((Int×(List ae)×qL2)⊕Int):=bnd (bk a0) fun r1=>bnd (qf0 (r1,r1,(-1),(-1),0,(-1),false,false,()) c5 []) fun r2=>bif (!decide (r2.1=0))then some (Sum.inr r2.1)else bnd (qxq aa.1 aa.2.1 aa.2.2.1 aa.2.2.2.1 c5 (0,r2.2.1,r2.2.2.1,r2.2.2.2)) fun oe12=>lk oe12 (fun e12=>some (Sum.inl (0,e12.1,e12.2))) (fun r=>some r)
def yv{R:Type}(gy:qL2)(a7 hf:Int)(dt:qL2)(ej mk:Int)(ml:(List ah))(mo ms a4:Int)(nx:Int→Option R)(dn:Unit→Option R)(rt:((Int×(List ae)×qL2)⊕Int)→Option R):Option R:=bif decide (a4<ej)then ak (ix a4 dt.length)<|ak (ix a4 dt.length)<|bnd (fc (mk,ml,mo,ms,()) (dt.getD a4.toNat [])) fun r1=>bif (!decide (r1.1=0))then rt (Sum.inr 1)else ak (di .i64 (a4+1))<|nx (a4+1)else dn ()
def quf(gy:qL2)(a7 hf:Int)(dt:qL2)(ej mk:Int)(ml:(List ah))(mo ms s0:Int):Option (Unit⊕((Int×(List ae)×qL2)⊕Int)):=bt (fun a=>yv gy a7 hf dt ej mk ml mo ms a (fun a' =>some (.next a')) (fun e=>some (.done e)) (fun r=>some (.ret r))) s0
def q7k:Shp:=⟨[(1, .d false qT2),jlx,jwd,j7x,(14, .d false qT2),jxx,jx5],[qaz]⟩
def q7j:Shp:=⟨[(1, .d false qT2),jlx,jwd,j7x],[qaz]⟩
def ma(aa:b8)(gy:qL2)(a7 hf:Int):Option ((Int×(List ae)×qL2)⊕Int):=bnd (quf gy a7 hf gy (gy.length:Int) aa.1 aa.2.1 aa.2.2.1 aa.2.2.2.1 0) fun oe2=>lk oe2 (fun e2=>bif decide (a7<0)then some (Sum.inr 2)else bif decide (aa.1≤a7)then some (Sum.inr 2)else bif decide (hf<1)then some (Sum.inr 2)else bif decide ((1000:Int)<hf)then some (Sum.inr 2)else ak (ix 0 gy.length)<|ak (ix 0 gy.length)<|bnd (wu aa (gy.getD 0 []) hf) fun r3=>jak r3 (fun r4=>some (Sum.inl (r4.1,r4.2.1,r4.2.2))) (fun r5=>some (Sum.inr r5))) (fun r=>some r)
def oh{R:Type}(c1:dr)(gw:qL2)(hj:Int)(f1:qL2)(ef:(List ar))(d4 ka:Bool)(i4:(List ar))(dt:Int)(i3:qL2)(nx:(Int×qL2)→Option R)(dn:qL2→Option R)(rt:l0→Option R):Option R:=bif decide (dt<hj)then ak (ix dt gw.length)<|ak (ix dt gw.length)<|bnd (bk (gw.getD dt.toNat [])) fun r1=>ak (room (i3.length+1) 24)<|ak (di .i64 (dt+1))<|nx ((dt+1),(i3++[r1]))else dn i3
def qgq(c1:dr)(gw:qL2)(hj:Int)(f1:qL2)(ef:(List ar))(d4 ka:Bool)(i4:(List ar))(s0:(Int×qL2)):Option (qL2⊕l0):=bt (fun a=>oh c1 gw hj f1 ef d4 ka i4 a.1 a.2 (fun a' =>some (.next a')) (fun e=>some (.done e)) (fun r=>some (.ret r))) s0
def qtx:Shp:=⟨[j3z,jms,j8j,(12, .d false qT2),jnu,j78],[qfw,jg6,qa0,q4v]⟩
def qtw:Shp:=⟨[j3z,jms,j8j],[qfw,jg6,qa0,q4v]⟩
def oi{R:Type}(c1:dr)(be:(List ae))(a5:Int)(f1:qL2)(ef:(List ar))(d4:Bool)(i3:qL2)(ka:Bool)(a9:Int)(i4:(List ar))(nx:(Int×(List ar))→Option R)(dn:(List ar)→Option R)(rt:l0→Option R):Option R:=bif decide (a9<a5)then ak (ix a9 be.length)<|ak (ix a9 be.length)<|ak (ix 0 1)<|ak (ix (be.getD a9.toNat ae.z).2.2.1 c1.1.length)<|ak (ix (be.getD a9.toNat ae.z).2.2.1 c1.1.length)<|ak (room (i4.length+1) 24)<|ak (di .i64 (a9+1))<|nx ((a9+1),(i4++[((c1.1.getD (Int.toNat (be.getD a9.toNat ae.z).2.2.1) ae.z).2.2.2.2.1,(be.getD a9.toNat ae.z).2.2.2.2.1,(be.getD a9.toNat ae.z).2.2.2.1,())]))else dn i4
def qgr(c1:dr)(be:(List ae))(a5:Int)(f1:qL2)(ef:(List ar))(d4:Bool)(i3:qL2)(ka:Bool)(s0:(Int×(List ar))):Option ((List ar)⊕l0):=bt (fun a=>oi c1 be a5 f1 ef d4 i3 ka a.1 a.2 (fun a' =>some (.next a')) (fun e=>some (.done e)) (fun r=>some (.ret r))) s0
def qtz:Shp:=⟨[j3z,jms,j8j,(30, .d false (.slice ae.ty)),j3w,j6w],[qfw,jpp,q4v]⟩
def qty:Shp:=⟨[jms,j8j],[qfw,jpp,q4v]⟩
def ov(c1:dr):Option l0:=ak (ix 0 1)<|bnd (qgq c1 c1.2.1 (c1.2.1.length:Int) [] [] false true [] (0,[])) fun oe2=>lk oe2 (fun e2=>ak (ix 0 1)<|ak (cut 1 c1.1.length c1.1.length)<|bnd (qgr c1 (c1.1.drop 1) ((c1.1.drop 1).length:Int) [] [] false e2 true (0,[])) fun oe3=>lk oe3 (fun e3=>some (e2,e3,true,())) (fun r=>some r)) (fun r=>some r)
def q3s(aa:b8)(a0:qL1)(c5:Int):Option (l0×Int):=bnd (ma aa [a0] 0 c5) fun r1=>jak r1 (fun r2=>bif (!decide (r2.1=0))then some (([],[],false,()),r2.1)else bnd (ov (r2.2.1,r2.2.2,())) fun r4=>some (r4,0)) (fun r3=>bif (!decide (r3=0))then some (([],[],false,()),r3)else none)
def q4c(aa:b8):Option (Int×qL1):=bnd (q2b aa aa.2.2.2.1) fun r1=>some (r1.1,r1.2)
def qpj{R:Type}(a6:(List ar))(h1 o2:Int)(o3:(List ah))(pa pb:Int)(pk:qL2)(pl:(List ar))(pm:Bool)(pr:qL1)(cc:Int)(ht:(List (List ar)))(nx:(Int×(List (List ar)))→Option R)(dn:(List (List ar))→Option R)(rt:(Int×(List ah)×Int×Int×qL2×(List ar)×Bool×qL1×(List (List ar)))→Option R):Option R:=bif decide (cc<h1)then ak (ix cc a6.length)<|ak (ix cc a6.length)<|ak (ix (a6.getD cc.toNat ar.z).1 ht.length)<|ak (ix (a6.getD cc.toNat ar.z).1 ht.length)<|ak (ix (a6.getD cc.toNat ar.z).1 ht.length)<|ak (room ((ht.getD (Int.toNat (a6.getD cc.toNat ar.z).1) []).length+1) 24)<|ak (decide ((ht.length:Nat)=(ht.set (Int.toNat (a6.getD cc.toNat ar.z).1) ((ht.getD (Int.toNat (a6.getD cc.toNat ar.z).1) [])++[(a6.getD cc.toNat ar.z)])).length))<|ak (ix (a6.getD cc.toNat ar.z).1 (ht.set (Int.toNat (a6.getD cc.toNat ar.z).1) ((ht.getD (Int.toNat (a6.getD cc.toNat ar.z).1) [])++[(a6.getD cc.toNat ar.z)])).length)<|ak (decide (((Int.toNat (a6.getD cc.toNat ar.z).1):Nat)=(Int.toNat (a6.getD cc.toNat ar.z).1)))<|ak (decide (((Int.toNat (a6.getD cc.toNat ar.z).1):Nat)=(Int.toNat (a6.getD cc.toNat ar.z).1)))<|ak (di .i64 (cc+1))<|nx ((cc+1),(ht.set (Int.toNat (a6.getD cc.toNat ar.z).1) ((ht.getD (Int.toNat (a6.getD cc.toNat ar.z).1) [])++[(a6.getD cc.toNat ar.z)])))else dn ht
def q98(a6:(List ar))(h1 o2:Int)(o3:(List ah))(pa pb:Int)(pk:qL2)(pl:(List ar))(pm:Bool)(pr:qL1)(s0:(Int×(List (List ar)))):Option ((List (List ar))⊕(Int×(List ah)×Int×Int×qL2×(List ar)×Bool×qL1×(List (List ar)))):=bt (fun a=>qpj a6 h1 o2 o3 pa pb pk pl pm pr a.1 a.2 (fun a' =>some (.next a')) (fun e=>some (.done e)) (fun r=>some (.ret r))) s0
def q55:Shp:=⟨[j75,(25, .d true (.slice ar.ty)),j79,j8a],[qip,jtu]⟩
def q54:Shp:=⟨[j75],[qip,jtu]⟩
def qzz(aa:b8)(kk:l0):Option (Int×(List ah)×Int×Int×qL2×(List ar)×Bool×qL1×(List (List ar))):=bnd (q4c aa) fun r1=>ak (qv2 (kk.1.length:Int) (kk.1.length:Int) 24)<|bnd (q98 kk.2.1 (kk.2.1.length:Int) aa.1 aa.2.1 aa.2.2.1 aa.2.2.2.1 kk.1 kk.2.1 kk.2.2.1 r1.2 (0,(List.replicate (kk.1.length:Int).toNat ([]:(List ar))))) fun oe2=>lk oe2 (fun e2=>some (aa.1,aa.2.1,aa.2.2.1,aa.2.2.2.1,kk.1,kk.2.1,kk.2.2.1,r1.2,e2)) (fun r=>some r)
def jcc(aa:b8)(jc:Bool)(c5:Int):Option ((Int×Int×(List ah)×Int×Int×qL2×(List ar)×Bool×qL1×(List (List ar)))⊕Int):=bnd (qz0 aa jc c5) fun r1=>bif (!decide (r1.1=0))then some (Sum.inr r1.1)else bnd (q3s aa r1.2 c5) fun r2=>bif (!decide (r2.2=0))then some (Sum.inr r2.2)else bnd (qzz aa r2.1) fun r3=>some (Sum.inl (0,r3.1,r3.2.1,r3.2.2.1,r3.2.2.2.1,r3.2.2.2.2.1,r3.2.2.2.2.2.1,r3.2.2.2.2.2.2.1,r3.2.2.2.2.2.2.2.1,r3.2.2.2.2.2.2.2.2))
def gz{R:Type}(j2 j3:Int)(ab:qL1)(nx:(Int×Int×qL1)→Option R)(dn rt:qL1→Option R):Option R:=bif decide (j2<j3)then ak (ix j3 ab.length)<|ak (ix j3 ab.length)<|ak (ix j2 ab.length)<|ak (ix j2 ab.length)<|ak (ix j2 ab.length)<|ak (ix j3 ab.length)<|ak (ix j2 ab.length)<|ak (decide ((ab.length:Nat)=(ab.set j2.toNat (ab.getD j3.toNat 0)).length))<|ak (ix j3 (ab.set j2.toNat (ab.getD j3.toNat 0)).length)<|ak (di .i64 (j2+1))<|ak (di .i64 (j3-1))<|nx ((j2+1),(j3-1),((ab.set j2.toNat (ab.getD j3.toNat 0)).set j3.toNat (ab.getD j2.toNat 0)))else dn ab
def v7(s0:(Int×Int×qL1)):Option (qL1⊕qL1):=bt (fun a=>gz a.1 a.2.1 a.2.2 (fun a' =>some (.next a')) (fun e=>some (.done e)) (fun r=>some (.ret r))) s0
def qik:Shp:=⟨[jxr,jlx,jwd],[qgb]⟩
def qij:Shp:=⟨[],[qgb]⟩
def jv(ab:qL1):Option qL1:=ak (di .i64 ((ab.length:Int)-1))<|bnd (v7 (0,((ab.length:Int)-1),ab)) fun oe1=>lk oe1 (fun e1=>some e1) (fun r=>some r)
def mc{R:Type}(c1:dr)(gl lo:Int)(a1:qL1)(nx:(Int×qL1)→Option R)(dn rt:qL1→Option R):Option R:=bif (!decide (lo=gl))then ak (ix 0 1)<|ak (ix lo c1.1.length)<|ak (ix lo c1.1.length)<|ak (room (a1.length+1) 8)<|ak (ix 0 1)<|ak (ix lo c1.1.length)<|ak (ix lo c1.1.length)<|nx ((c1.1.getD lo.toNat ae.z).2.2.1,(a1++[(c1.1.getD lo.toNat ae.z).2.2.2.1]))else dn a1
def qko(c1:dr)(gl:Int)(s0:(Int×qL1)):Option (qL1⊕qL1):=bt (fun a=>mc c1 gl a.1 a.2 (fun a' =>some (.next a')) (fun e=>some (.done e)) (fun r=>some (.ret r))) s0
def qxu:Shp:=⟨[j3z,qvj,(7, .nl false (.own 0)),jcm],[qgb]⟩
def qxt:Shp:=⟨[(7, .nl false (.own 0))],[qgb]⟩
def kb(c1:dr)(gl hz:Int):Option qL1:=bnd (qko c1 gl (hz,[])) fun oe1=>lk oe1 (fun e1=>bnd (jv e1) fun r2=>ak (decide (r2.length=e1.length))<|some r2) (fun r=>some r)
def ua{R:Type}(ob:Int)(lr:qL1)(hi dw:Int)(lf hs:qL1)(ik:qL2)(hm:(List ar))(cy ap:qL2)(hy:(List ae))(kn:qL2)(lc ns:qL1)(nw nz n0 n1:Int)(n2 n3:Bool)(gf:Int)(nx dn:Int→Option R)(rt:(Bool×qez×Int)→Option R):Option R:=ak (ix gf lc.length)<|ak (ix gf lc.length)<|ak (ix gf lr.length)<|ak (ix gf lr.length)<|bif decide ((lc.getD gf.toNat 0)=(lr.getD gf.toNat 0))then ak (di .i64 (gf+1))<|nx (gf+1)else dn gf
def qol(ob:Int)(lr:qL1)(hi dw:Int)(lf hs:qL1)(ik:qL2)(hm:(List ar))(cy ap:qL2)(hy:(List ae))(kn:qL2)(lc ns:qL1)(nw nz n0 n1:Int)(n2 n3:Bool)(s0:Int):Option (Int⊕(Bool×qez×Int)):=bt (fun a=>ua ob lr hi dw lf hs ik hm cy ap hy kn lc ns nw nz n0 n1 n2 n3 a (fun a' =>some (.next a')) (fun e=>some (.done e)) (fun r=>some (.ret r))) s0
def q0w:Shp:=⟨[j75,j8m,jxt,(12, .ptr 2),(13, .d true qT1),j78],[qml,qw8,qua]⟩
def q0v:Shp:=⟨[j75,j8m,jxt,(12, .ptr 2),j78],[qml,qw8,qua]⟩
def ou{R:Type}(be:(List ae))(a5 hi dw:Int)(lf hs:qL1)(ik:qL2)(hm:(List ar))(cy ap:qL2)(hy:(List ae))(kn:qL2)(a9:Int)(nx:Int→Option R)(dn:Unit→Option R)(rt:(Bool×qez×Int)→Option R):Option R:=bif decide (a9<a5)then ak (ix a9 be.length)<|ak (ix a9 be.length)<|bif (!(be.getD a9.toNat ae.z).2.2.2.2.2.2.2.1)then ak (di .i64 (a9+1))<|nx (a9+1)else ak (ix (be.getD a9.toNat ae.z).2.2.2.2.2.1 hy.length)<|ak (ix (be.getD a9.toNat ae.z).2.2.2.2.2.1 hy.length)<|bnd (qol a9 (hy.getD (Int.toNat (be.getD a9.toNat ae.z).2.2.2.2.2.1) ae.z).2.1 hi dw lf hs ik hm cy ap hy kn (be.getD a9.toNat ae.z).1 (be.getD a9.toNat ae.z).2.1 (be.getD a9.toNat ae.z).2.2.1 (be.getD a9.toNat ae.z).2.2.2.1 (be.getD a9.toNat ae.z).2.2.2.2.1 (be.getD a9.toNat ae.z).2.2.2.2.2.1 (be.getD a9.toNat ae.z).2.2.2.2.2.2.1 (be.getD a9.toNat ae.z).2.2.2.2.2.2.2.1 0) fun oe4=>lk oe4 (fun e4=>bnd (kb (hy,kn,()) 0 (be.getD a9.toNat ae.z).2.2.2.2.2.1) fun r5=>bnd (kb (hy,kn,()) (be.getD a9.toNat ae.z).2.2.2.2.2.1 a9) fun r6=>rt (false,(6,e4,r5,r6,[],[],[],[],()),0)) (fun r=>rt r)else dn ()
def qom(be:(List ae))(a5 hi dw:Int)(lf hs:qL1)(ik:qL2)(hm:(List ar))(cy ap:qL2)(hy:(List ae))(kn:qL2)(s0:Int):Option (Unit⊕(Bool×qez×Int)):=bt (fun a=>ou be a5 hi dw lf hs ik hm cy ap hy kn a (fun a' =>some (.next a')) (fun e=>some (.done e)) (fun r=>some (.ret r))) s0
def q0y:Shp:=⟨[j75,j8m,(30, .d true (.slice ae.ty)),j3w,j6w],[qml,qw8]⟩
def q0x:Shp:=⟨[j75,j8m],[qml,qw8]⟩
def qdf(aa:b8)(a0:qL1)(c5:Int):Option (Bool×qez×Int):=bnd (ma aa [a0] 0 c5) fun r1=>jak r1 (fun r2=>bif (!decide (r2.1=0))then some (false,(0,0,[],[],[],[],[],[],()),r2.1)else bnd (qom r2.2.1 (r2.2.1.length:Int) 0 0 [] [] [] [] [] [] r2.2.1 r2.2.2 0) fun oe7=>lk oe7 (fun e7=>bnd (ov (r2.2.1,r2.2.2,())) fun r8=>some (true,(5,0,[],[],r8.1,[],[],[],()),0)) (fun r=>some r)) (fun r3=>bif (!decide (r3=0))then some (false,(0,0,[],[],[],[],[],[],()),r3)else none)
def qna(aa:b8):Option Bool:=bif decide ((20:Int)<aa.1)then some true else some (decide ((20:Int)<(aa.2.1.length:Int)))
def qiv(c1:ah)(dl:Int):Option Int:=bnd (c6 c1.2.1 dl) fun r1=>bnd (c6 c1.2.2.1 dl) fun r2=>bif r2 then bif (!r1)then some 1 else bif r1 then bif (!r2)then some (-1)else some 0 else some 0 else bif r1 then bif (!r2)then some (-1)else some 0 else some 0
def qdy{R:Type}(hg:qL1)(cl ad lv nm:Int)(nx:(Int×Int)→Option R)(dn rt:Int→Option R):Option R:=bif (!decide (nm=0))then ak (!decide (nm=0))<|nx (nm,(Int.tmod lv nm))else dn lv
def qvs(hg:qL1)(cl ad:Int)(s0:(Int×Int)):Option (Int⊕Int):=bt (fun a=>qdy hg cl ad a.1 a.2 (fun a' =>some (.next a')) (fun e=>some (.done e)) (fun r=>some (.ret r))) s0
def jh9:Shp:=⟨[jwd,j74,j70,jke,jcm],[]⟩
def jh8:Shp:=⟨[jwd,j70,jke,jcm],[]⟩
def qdz{R:Type}(hg:qL1)(cl lv ad:Int)(nx:(Int×Int)→Option R)(dn rt:Int→Option R):Option R:=bif decide (ad<cl)then ak (ix ad hg.length)<|ak (ix ad hg.length)<|bif decide ((hg.getD ad.toNat 0)<0)then ak (di .i64 (0-(hg.getD ad.toNat 0)))<|bnd (qvs hg cl ad (lv,(0-(hg.getD ad.toNat 0)))) fun oe1=>lk oe1 (fun e1=>ak (di .i64 (ad+1))<|nx (e1,(ad+1))) (fun r=>rt r)else bnd (qvs hg cl ad (lv,(hg.getD ad.toNat 0))) fun oe2=>lk oe2 (fun e2=>ak (di .i64 (ad+1))<|nx (e2,(ad+1))) (fun r=>rt r)else dn lv
def q79(hg:qL1)(cl:Int)(s0:(Int×Int)):Option (Int⊕Int):=bt (fun a=>qdz hg cl a.1 a.2 (fun a' =>some (.next a')) (fun e=>some (.done e)) (fun r=>some (.ret r))) s0
def jib:Shp:=⟨[jwd,j70,jke,jcm],[]⟩
def jia:Shp:=⟨[jwd],[]⟩
def qrg(mb:qL1):Option Int:=bnd (q79 mb (mb.length:Int) (0,0)) fun oe3=>lk oe3 (fun e3=>some e3) (fun r=>some r)
def zc{R:Type}(hg:qL1)(cl l3 ad:Int)(nx:(Int×Int)→Option R)(dn rt:Int→Option R):Option R:=bif decide (ad<cl)then ak (ix ad hg.length)<|ak (ix ad hg.length)<|bif (!decide ((hg.getD ad.toNat 0)=0))then ak (decide (0≤ad))<|ak (di .i64 (ad+1))<|nx ((qw3 .or .u64 l3 (jw7 .u64 1 ad)),(ad+1))else ak (di .i64 (ad+1))<|nx (l3,(ad+1))else dn l3
def q33(hg:qL1)(cl:Int)(s0:(Int×Int)):Option (Int⊕Int):=bt (fun a=>zc hg cl a.1 a.2 (fun a' =>some (.next a')) (fun e=>some (.done e)) (fun r=>some (.ret r))) s0
def jfp:Shp:=⟨[(3, .d true (.int .u64)),j70,jke,jcm],[]⟩
def jfo:Shp:=⟨[(3, .d true (.int .u64))],[]⟩
def ox(mb:qL1):Option Int:=bnd (q33 mb (mb.length:Int) (0,0)) fun oe1=>lk oe1 (fun e1=>some e1) (fun r=>some r)
def uc{R:Type}(bb a3:qL1)(gd g1:Int)(eg av:qL2)(gx:Int)(nx:Int→Option R)(dn:Unit→Option R)(rt:(qL2×qL2)→Option R):Option R:=bif decide (gx<g1)then ak (ix gx eg.length)<|ak (ix gx eg.length)<|bnd (ox (eg.getD gx.toNat [])) fun r4=>bif decide ((qw3 .andNot .u64 r4 gd)=0)then rt (av,eg)else ak (di .i64 (gx+1))<|nx (gx+1)else dn ()
def qow(bb a3:qL1)(gd g1:Int)(eg av:qL2)(s0:Int):Option (Unit⊕(qL2×qL2)):=bt (fun a=>uc bb a3 gd g1 eg av a (fun a' =>some (.next a')) (fun e=>some (.done e)) (fun r=>some (.ret r))) s0
def q1f:Shp:=⟨[jkf,q6n,jvd,jrk,(53, .own 1),j6y,j8d],[j33,qa0,qa0]⟩
def q1e:Shp:=⟨[jkf,q6n,jvd,jrk],[qtr,qa0,qa0]⟩
def oy{R:Type}(bb a3:qL1)(gd:Int)(hl:qL2)(hi:Int)(av bo:qL2)(dw:Int)(gb gc:qL2)(nx:(Int×qL2×qL2)→Option R)(dn rt:(qL2×qL2)→Option R):Option R:=bif decide (dw<hi)then ak (ix dw hl.length)<|ak (ix dw hl.length)<|bnd (ox (hl.getD dw.toNat [])) fun r6=>bif (!decide ((qw3 .andNot .u64 gd r6)=0))then ak (ix dw av.length)<|ak (ix dw av.length)<|ak (room (gb.length+1) 24)<|ak (room (gc.length+1) 24)<|ak (di .i64 (dw+1))<|nx ((dw+1),(gb++[(av.getD dw.toNat [])]),(gc++[(hl.getD dw.toNat [])]))else ak (di .i64 (dw+1))<|nx ((dw+1),gb,gc)else dn (gb,gc)
def qox(bb a3:qL1)(gd:Int)(hl:qL2)(hi:Int)(av bo:qL2)(s0:(Int×qL2×qL2)):Option ((qL2×qL2)⊕(qL2×qL2)):=bt (fun a=>oy bb a3 gd hl hi av bo a.1 a.2.1 a.2.2 (fun a' =>some (.next a')) (fun e=>some (.done e)) (fun r=>some (.ret r))) s0
def q1h:Shp:=⟨[jkf,q6n,jvd,jrk,j8h,(69, .d true qT2),(70, .d true qT0),(71, .d true qT0)],[jby,qro,qa0,qa0]⟩
def q1g:Shp:=⟨[jkf,q6n,jvd,j8h],[jby,qro,qa0,qa0]⟩
def qdm(bb a3:qL1)(av bo:qL2):Option (qL2×qL2):=bnd (bk bb) fun r1=>ak (room (r1.length+a3.length) 8)<|bnd (qrg (r1++a3)) fun r2=>bif decide ((1:Int)<r2)then none else bnd (ox a3) fun r3=>bnd (qow bb a3 r3 (bo.length:Int) bo av 0) fun oe5=>lk oe5 (fun e5=>bnd (qox bb a3 r3 bo (bo.length:Int) av bo (0,[],[])) fun oe7=>lk oe7 (fun e7=>ak (room (e7.1.length+1) 24)<|ak (room (e7.2.length+1) 24)<|some ((e7.1++[bb]),(e7.2++[a3]))) (fun r=>some r)) (fun r=>some r)
def qix{R:Type}(bf:Int)(i0:qL1)(lp:Int)(i1:qL1)(ej a4:Int)(d0:qL1)(nx:(Int×qL1)→Option R)(dn rt:qL1→Option R):Option R:=bif decide (a4<ej)then ak (ix a4 i0.length)<|ak (ix a4 i0.length)<|ak (di .i64 (bf*(i0.getD a4.toNat 0)))<|ak (ix a4 i1.length)<|ak (ix a4 i1.length)<|ak (di .i64 (lp*(i1.getD a4.toNat 0)))<|ak (di .i64 ((bf*(i0.getD a4.toNat 0))+(lp*(i1.getD a4.toNat 0))))<|ak (ix a4 d0.length)<|ak (ix a4 d0.length)<|ak (di .i64 (a4+1))<|nx ((a4+1),(d0.set a4.toNat ((bf*(i0.getD a4.toNat 0))+(lp*(i1.getD a4.toNat 0)))))else dn d0
def q8h(bf:Int)(i0:qL1)(lp:Int)(i1:qL1)(ej:Int)(s0:(Int×qL1)):Option (qL1⊕qL1):=bt (fun a=>qix bf i0 lp i1 ej a.1 a.2 (fun a' =>some (.next a')) (fun e=>some (.done e)) (fun r=>some (.ret r))) s0
def jig:Shp:=⟨[q1r,jk4,jlx,(3, .d false qT1),j8l,jxx,jx5],[qgb]⟩
def jif:Shp:=⟨[j8l],[qgb]⟩
def qgw(bf:Int)(i0:qL1)(lp:Int)(i1:qL1):Option qL1:=ak (qv2 (i0.length:Int) (i0.length:Int) 8)<|bnd (q8h bf i0 lp i1 (i0.length:Int) (0,(List.replicate (i0.length:Int).toNat (0:Int)))) fun oe1=>lk oe1 (fun e1=>some e1) (fun r=>some r)
def sm{R:Type}(j1 eu:Int)(a3:qL1)(av bo:qL2)(eb:Int)(bb:qL1)(nx:(Int×qL1)→Option R)(dn:qL1→Option R)(rt:(qL2×qL2×qL1×qL1)→Option R):Option R:=bif decide (eb<eu)then ak (ix eb bb.length)<|ak (ix eb bb.length)<|ak (!decide (j1=0))<|ak (di .i64 (Int.tdiv (bb.getD eb.toNat 0) j1))<|ak (ix eb bb.length)<|ak (ix eb bb.length)<|ak (di .i64 (eb+1))<|nx ((eb+1),(bb.set eb.toNat (Int.tdiv (bb.getD eb.toNat 0) j1)))else dn bb
def qku(j1 eu:Int)(a3:qL1)(av bo:qL2)(s0:(Int×qL1)):Option (qL1⊕(qL2×qL2×qL1×qL1)):=bt (fun a=>sm j1 eu a3 av bo a.1 a.2 (fun a' =>some (.next a')) (fun e=>some (.done e)) (fun r=>some (.ret r))) s0
def qyc:Shp:=⟨[jkf,(1, .own 1),(2, .own 2),j8g,j7v,jrf],[j36,qgb,qgb,qa0,qa0]⟩
def qyb:Shp:=⟨[jkf,(1, .own 1),(2, .own 2),j8g],[j36,qgb,qgb,qa0,qa0]⟩
def sq{R:Type}(bb:qL1)(j1 dk:Int)(av bo:qL2)(a2:Int)(a3 k4:qL1)(nx:(Int×qL1×qL1)→Option R)(dn:(qL1×qL1)→Option R)(rt:(qL2×qL2×qL1×qL1)→Option R):Option R:=bif decide (a2<dk)then ak (ix a2 a3.length)<|ak (ix a2 a3.length)<|ak (!decide (j1=0))<|ak (di .i64 (Int.tdiv (a3.getD a2.toNat 0) j1))<|ak (ix a2 a3.length)<|ak (ix a2 a3.length)<|ak (di .i64 (a2+1))<|nx ((a2+1),(a3.set a2.toNat (Int.tdiv (a3.getD a2.toNat 0) j1)),[])else dn (a3,[])
def qkv(bb:qL1)(j1 dk:Int)(av bo:qL2)(s0:(Int×qL1×qL1)):Option ((qL1×qL1)⊕(qL2×qL2×qL1×qL1)):=bt (fun a=>sq bb j1 dk av bo a.1 a.2.1 a.2.2 (fun a' =>some (.next a')) (fun e=>some (.done e)) (fun r=>some (.ret r))) s0
def qye:Shp:=⟨[jkf,q6n,(2, .own 1),j8g,j6x,j7w],[qro,qgb,qa0,qa0,q0i]⟩
def qyd:Shp:=⟨[jkf,q6n,(2, .own 1)],[qro,qgb,qa0,qa0,q0i]⟩
def iu{R:Type}(bb a3:qL1)(gd g1:Int)(eg av:qL2)(gx:Int)(k3 k4:qL1)(nx:(Int×qL1×qL1)→Option R)(dn:(qL1×qL1)→Option R)(rt:(qL2×qL2×qL1×qL1)→Option R):Option R:=bif decide (gx<g1)then ak (ix gx eg.length)<|ak (ix gx eg.length)<|bnd (ox (eg.getD gx.toNat [])) fun r6=>bif decide ((qw3 .andNot .u64 r6 gd)=0)then rt (av,eg,[],[])else ak (di .i64 (gx+1))<|nx ((gx+1),[],[])else dn ([],[])
def qkw(bb a3:qL1)(gd g1:Int)(eg av:qL2)(s0:(Int×qL1×qL1)):Option ((qL1×qL1)⊕(qL2×qL2×qL1×qL1)):=bt (fun a=>iu bb a3 gd g1 eg av a.1 a.2.1 a.2.2 (fun a' =>some (.next a')) (fun e=>some (.done e)) (fun r=>some (.ret r))) s0
def qyg:Shp:=⟨[jkf,q6n,jvd,jrk,(53, .own 1),j6y,j8d],[j33,qa0,qa0,q0i,q0i]⟩
def qyf:Shp:=⟨[jkf,q6n,jvd,jrk],[qtr,qa0,qa0,q0i,q0i]⟩
def mf{R:Type}(bb a3:qL1)(gd:Int)(hl:qL2)(hi:Int)(av bo:qL2)(dw:Int)(gb gc:qL2)(k4:qL1)(nx:(Int×qL2×qL2×qL1)→Option R)(dn:(qL2×qL2×qL1)→Option R)(rt:(qL2×qL2×qL1×qL1)→Option R):Option R:=bif decide (dw<hi)then ak (ix dw hl.length)<|ak (ix dw hl.length)<|bnd (ox (hl.getD dw.toNat [])) fun r8=>bif (!decide ((qw3 .andNot .u64 gd r8)=0))then ak (ix dw av.length)<|ak (ix dw av.length)<|ak (room (gb.length+1) 24)<|ak (room (gc.length+1) 24)<|ak (di .i64 (dw+1))<|nx ((dw+1),(gb++[(av.getD dw.toNat [])]),(gc++[(hl.getD dw.toNat [])]),[])else ak (di .i64 (dw+1))<|nx ((dw+1),gb,gc,[])else dn (gb,gc,[])
def qkx(bb a3:qL1)(gd:Int)(hl:qL2)(hi:Int)(av bo:qL2)(s0:(Int×qL2×qL2×qL1)):Option ((qL2×qL2×qL1)⊕(qL2×qL2×qL1×qL1)):=bt (fun a=>mf bb a3 gd hl hi av bo a.1 a.2.1 a.2.2.1 a.2.2.2 (fun a' =>some (.next a')) (fun e=>some (.done e)) (fun r=>some (.ret r))) s0
def qyi:Shp:=⟨[jkf,q6n,jvd,jrk,j8h,(69, .d true qT2),(70, .d true qT0),(71, .d true qT0)],[jby,qro,qa0,qa0,q0i]⟩
def qyh:Shp:=⟨[jkf,q6n,jvd,j8h],[jby,qro,qa0,qa0,q0i]⟩
def ze{R:Type}(bb a3:qL1)(av bo:qL2)(k3 k4:qL1)(dn rt:(qL2×qL2×qL1×qL1)→Option R):Option R:=bnd (ox a3) fun r5=>bnd (qkw bb a3 r5 (bo.length:Int) bo av (0,[],[])) fun oe7=>lk oe7 (fun e7=>bnd (qkx bb a3 r5 bo (bo.length:Int) av bo (0,[],[],[])) fun oe9=>lk oe9 (fun e9=>ak (room (e9.1.length+1) 24)<|ak (room (e9.2.1.length+1) 24)<|dn ((e9.1++[bb]),(e9.2.1++[a3]),[],[])) (fun r=>rt r)) (fun r=>rt r)
def ub(bb a3:qL1)(av bo:qL2)(k3 k4:qL1):Option ((qL2×qL2×qL1×qL1)⊕(qL2×qL2×qL1×qL1)):=ze bb a3 av bo k3 k4 (fun e=>some (.inl e)) (fun r=>some (.inr r))
def qyk:Shp:=⟨[jkf,q6n,jvd],[qtr,qa0,qa0,q0i,q0i]⟩
def qyj:Shp:=⟨[],[qtr,qa0,qa0,q0i,q0i]⟩
def zd(bb a3:qL1)(av bo:qL2):Option (qL2×qL2×qL1×qL1):=bnd (bk bb) fun r1=>ak (room (r1.length+a3.length) 8)<|bnd (qrg (r1++a3)) fun r2=>bif decide ((1:Int)<r2)then bnd (qku r2 (bb.length:Int) a3 av bo (0,bb)) fun oe3=>lk oe3 (fun e3=>bnd (qkv e3 r2 (a3.length:Int) av bo (0,a3,[])) fun oe4=>lk oe4 (fun e4=>bnd (ub e3 e4.1 av bo [] []) fun oe10=>lk oe10 (fun e10=>some (e10.1,e10.2.1,[],[])) (fun r=>some r)) (fun r=>some r)) (fun r=>some r)else bnd (ub bb a3 av bo [] []) fun oe11=>lk oe11 (fun e11=>some (e11.1,e11.2.1,[],[])) (fun r=>some r)
def fw{R:Type}(f6 mx:Int)(av bo:qL2)(g0:Int)(f7 f9:qL2)(nx:(Int×qL2×qL2)→Option R)(dn:(qL2×qL2)→Option R)(rt:(Bool×qL2×qL2)→Option R):Option R:=bif decide (g0<mx)then ak (ix g0 av.length)<|ak (ix g0 av.length)<|ak (ix f6 (av.getD g0.toNat []).length)<|ak (ix f6 (av.getD g0.toNat []).length)<|bif decide (((av.getD g0.toNat []).getD f6.toNat 0)=0)then ak (ix g0 av.length)<|ak (ix g0 av.length)<|ak (ix g0 bo.length)<|ak (ix g0 bo.length)<|bnd (qdm (av.getD g0.toNat []) (bo.getD g0.toNat []) f7 f9) fun r1=>ak (di .i64 (g0+1))<|nx ((g0+1),r1.1,r1.2)else ak (di .i64 (g0+1))<|nx ((g0+1),f7,f9)else dn (f7,f9)
def qbw(f6 mx:Int)(av bo:qL2)(s0:(Int×qL2×qL2)):Option ((qL2×qL2)⊕(Bool×qL2×qL2)):=bt (fun a=>fw f6 mx av bo a.1 a.2.1 a.2.2 (fun a' =>some (.next a')) (fun e=>some (.done e)) (fun r=>some (.ret r))) s0
def qnc:Shp:=⟨[jkf,qvj,j2w,(17, .d true qT0),(18, .d true qT0)],[qro,q0j,qa0,qa0,qa0,qa0]⟩
def qnb:Shp:=⟨[jkf,qvj,j2w],[qro,q0j,qa0,qa0,qa0,qa0]⟩
def em{R:Type}(f6 hw eg g1 hh:Int)(av bo:qL2)(b3:Int)(f7 f9:qL2)(nx:(Int×qL2×qL2)→Option R)(dn:(qL2×qL2)→Option R)(rt:(Bool×qL2×qL2)→Option R):Option R:=bif decide (b3<hh)then ak (ix hw av.length)<|ak (ix hw av.length)<|ak (ix f6 (av.getD hw.toNat []).length)<|ak (ix f6 (av.getD hw.toNat []).length)<|ak (ix b3 av.length)<|ak (ix b3 av.length)<|ak (ix f6 (av.getD b3.toNat []).length)<|ak (ix f6 (av.getD b3.toNat []).length)<|bif decide (((av.getD hw.toNat []).getD f6.toNat 0)≤0)then ak (di .i64 (b3+1))<|nx ((b3+1),f7,f9)else bif decide ((0:Int)≤((av.getD b3.toNat []).getD f6.toNat 0))then ak (di .i64 (b3+1))<|nx ((b3+1),f7,f9)else ak (di .i64 (0-((av.getD b3.toNat []).getD f6.toNat 0)))<|ak (ix hw av.length)<|ak (ix hw av.length)<|ak (ix b3 av.length)<|ak (ix b3 av.length)<|bnd (qgw (0-((av.getD b3.toNat []).getD f6.toNat 0)) (av.getD hw.toNat []) ((av.getD hw.toNat []).getD f6.toNat 0) (av.getD b3.toNat [])) fun r3=>ak (di .i64 (0-((av.getD b3.toNat []).getD f6.toNat 0)))<|ak (ix hw bo.length)<|ak (ix hw bo.length)<|ak (ix b3 bo.length)<|ak (ix b3 bo.length)<|bnd (qgw (0-((av.getD b3.toNat []).getD f6.toNat 0)) (bo.getD hw.toNat []) ((av.getD hw.toNat []).getD f6.toNat 0) (bo.getD b3.toNat [])) fun r4=>bnd (zd r3 r4 f7 f9) fun r5=>bif decide ((40000:Int)<(r5.2.1.length:Int))then rt (false,av,bo)else ak (di .i64 (b3+1))<|nx ((b3+1),r5.1,r5.2.1)else dn (f7,f9)
def qbx(f6 hw eg g1 hh:Int)(av bo:qL2)(s0:(Int×qL2×qL2)):Option ((qL2×qL2)⊕(Bool×qL2×qL2)):=bt (fun a=>em f6 hw eg g1 hh av bo a.1 a.2.1 a.2.2 (fun a' =>some (.next a')) (fun e=>some (.done e)) (fun r=>some (.ret r))) s0
def qne:Shp:=⟨[jkf,qvj,j2w,jke,j7z,j6y,(61, .d true qT0),(62, .d true qT0)],[qro,q0j,qa0,qa0,qa0,qa0]⟩
def qnd:Shp:=⟨[jkf,qvj,j2w,j7z,j6y],[qro,q0j,qa0,qa0,qa0,qa0]⟩
def jq{R:Type}(f6 eg:Int)(av bo:qL2)(g1:Int)(f7 f9:qL2)(nx:(Int×qL2×qL2)→Option R)(dn:(qL2×qL2)→Option R)(rt:(Bool×qL2×qL2)→Option R):Option R:=bif decide (g1<eg)then bnd (qbx f6 g1 eg g1 (av.length:Int) av bo (0,f7,f9)) fun oe6=>lk oe6 (fun e6=>ak (di .i64 (g1+1))<|nx ((g1+1),e6.1,e6.2)) (fun r=>rt r)else dn (f7,f9)
def qby(f6 eg:Int)(av bo:qL2)(s0:(Int×qL2×qL2)):Option ((qL2×qL2)⊕(Bool×qL2×qL2)):=bt (fun a=>jq f6 eg av bo a.1 a.2.1 a.2.2 (fun a' =>some (.next a')) (fun e=>some (.done e)) (fun r=>some (.ret r))) s0
def qng:Shp:=⟨[jkf,qvj,j2w,j7z,j6y],[qro,q0j,qa0,qa0,qa0,qa0]⟩
def qnf:Shp:=⟨[jkf,j2w],[qro,q0j,qa0,qa0,qa0,qa0]⟩
def oj(f6:Int)(av bo:qL2):Option (Bool×qL2×qL2):=bnd (qbw f6 (av.length:Int) av bo (0,[],[])) fun oe2=>lk oe2 (fun e2=>bnd (qby f6 (av.length:Int) av bo (0,e2.1,e2.2)) fun oe7=>lk oe7 (fun e7=>some (true,e7.1,e7.2)) (fun r=>some r)) (fun r=>some r)
def jw(bf:qL2):Option qL2:=jqx bf
def qgt(nf:Int):Option Bool:=some (decide ((1048576:Int)<nf))
def eh{R:Type}(ab:qL1)(cl ad:Int)(nx:Int→Option R)(dn:Unit→Option R)(rt:Int→Option R):Option R:=bif decide (ad<cl)then ak (ix ad ab.length)<|ak (ix ad ab.length)<|bnd (qgt (ab.getD ad.toNat 0)) fun r1=>bif r1 then rt ad else ak (di .i64 (ad+1))<|nx (ad+1)else dn ()
def pf(ab:qL1)(cl s0:Int):Option (Unit⊕Int):=bt (fun a=>eh ab cl a (fun a' =>some (.next a')) (fun e=>some (.done e)) (fun r=>some (.ret r))) s0
def qbb:Shp:=⟨[jp9,(1, .fn 142 .nil),jke,jcm],[]⟩
def qba:Shp:=⟨[],[]⟩
def jh(ab:qL1):Option Int:=bnd (pf ab (ab.length:Int) 0) fun oe2=>lk oe2 (fun e2=>some (-1)) (fun r=>some r)
def d9(ab:qL1):Option Bool:=bnd (jh ab) fun r1=>some (decide ((0:Int)≤r1))
def wi{R:Type}(d3 dt:qL2)(ej a4:Int)(i9 hx:qL2)(nx:(Int×qL2×qL2)→Option R)(dn:(qL2×qL2)→Option R)(rt:(qL2×Int)→Option R):Option R:=bif decide (a4<ej)then ak (ix a4 dt.length)<|ak (ix a4 dt.length)<|ak (qv2 (d3.length:Int) (d3.length:Int) 8)<|ak (ix a4 (List.replicate (d3.length:Int).toNat (0:Int)).length)<|ak (ix a4 (List.replicate (d3.length:Int).toNat (0:Int)).length)<|bnd (bk (dt.getD a4.toNat [])) fun r1=>ak (room (i9.length+1) 24)<|ak (room (hx.length+1) 24)<|ak (di .i64 (a4+1))<|nx ((a4+1),(i9++[r1]),(hx++[((List.replicate (d3.length:Int).toNat (0:Int)).set a4.toNat 1)]))else dn (i9,hx)
def qrj(d3 dt:qL2)(ej:Int)(s0:(Int×qL2×qL2)):Option ((qL2×qL2)⊕(qL2×Int)):=bt (fun a=>wi d3 dt ej a.1 a.2.1 a.2.2 (fun a' =>some (.next a')) (fun e=>some (.done e)) (fun r=>some (.ret r))) s0
def q5a:Shp:=⟨[j77,j7x,(14, .d false qT2),jxx,jx5],[qtr,qa0,qa0]⟩
def q49:Shp:=⟨[j77,j7x],[qtr,qa0,qa0]⟩
def wj{R:Type}(gx ep:Int)(i9 hx:qL2)(nx:(Int×qL2×qL2)→Option R)(dn:(qL2×qL2)→Option R)(rt:(qL2×Int)→Option R):Option R:=bif decide (ep<gx)then bnd (oj ep i9 hx) fun r3=>bif (!r3.1)then rt ([],5)else ak (di .i64 (ep+1))<|nx ((ep+1),r3.2.1,r3.2.2)else dn (i9,hx)
def qrk(gx:Int)(s0:(Int×qL2×qL2)):Option ((qL2×qL2)⊕(qL2×Int)):=bt (fun a=>wj gx a.1 a.2.1 a.2.2 (fun a' =>some (.next a')) (fun e=>some (.done e)) (fun r=>some (.ret r))) s0
def q5c:Shp:=⟨[j7x,j8d,(56, .d true qT0)],[qtr,qa0,qa0]⟩
def q5b:Shp:=⟨[j7x],[qtr,qa0,qa0]⟩
def wl{R:Type}(d0 hs:qL2)(ik hm:Int)(nx:Int→Option R)(dn:Unit→Option R)(rt:(qL2×Int)→Option R):Option R:=bif decide (hm<ik)then ak (ix hm hs.length)<|ak (ix hm hs.length)<|bnd (d9 (hs.getD hm.toNat [])) fun r6=>bif r6 then rt ([],6)else ak (di .i64 (hm+1))<|nx (hm+1)else dn ()
def qrl(d0 hs:qL2)(ik s0:Int):Option (Unit⊕(qL2×Int)):=bt (fun a=>wl d0 hs ik a (fun a' =>some (.next a')) (fun e=>some (.done e)) (fun r=>some (.ret r))) s0
def q5e:Shp:=⟨[(9, .d true qT2),(73, .d true qT2),(74, .d true qT0),(75, .d true qT0)],[]⟩
def q5d:Shp:=⟨[(9, .d true qT2)],[]⟩
def qe5{R:Type}(i9 hx:qL2)(dn:Unit→Option R)(rt:(qL2×Int)→Option R):Option R:=bnd (jw hx) fun r5=>ak (decide (r5.length=hx.length))<|bif decide ((1000:Int)<(r5.length:Int))then rt ([],5)else bnd (qrl r5 r5 (r5.length:Int) 0) fun oe7=>lk oe7 (fun e7=>rt (r5,0)) (fun r=>rt r)
def tj(i9 hx:qL2):Option (Unit⊕(qL2×Int)):=qe5 i9 hx (fun e=>some (.inl e)) (fun r=>some (.inr r))
def q5g:Shp:=⟨[j7x],[.cs 192 2 1 (.cons (.d true qT2) (.cons (.own 1) .nil)),qa0]⟩
def q5f:Shp:=⟨[],[]⟩
def qf3(d3:qL2):Option (qL2×Int):=bnd (qrj d3 d3 (d3.length:Int) (0,[],[])) fun oe2=>lk oe2 (fun e2=>bif decide ((0:Int)<(d3.length:Int))then ak (ix 0 d3.length)<|ak (ix 0 d3.length)<|bnd (qrk ((d3.getD 0 []).length:Int) (0,e2.1,e2.2)) fun oe4=>lk oe4 (fun e4=>bnd (tj e4.1 e4.2) fun oe8=>lk oe8 (fun e8=>none) (fun r=>some r)) (fun r=>some r)else bnd (tj e2.1 e2.2) fun oe9=>lk oe9 (fun e9=>none) (fun r=>some r)) (fun r=>some r)
def y9{R:Type}(oo ej a4:Int)(ef:(List ah))(d4 f4:Int)(fr:(List ah))(fs ft:Int)(g5:qL2)(eu:Int)(l5:qL1)(nx:(Int×qL1)→Option R)(dn:qL1→Option R)(rt:(qL2×Int)→Option R):Option R:=bif decide (eu<d4)then ak (ix eu ef.length)<|ak (ix eu ef.length)<|bnd (qiv (ef.getD eu.toNat ah.z) oo) fun r3=>ak (room (l5.length+1) 8)<|ak (di .i64 (eu+1))<|nx ((eu+1),(l5++[r3]))else dn l5
def qum(oo ej a4:Int)(ef:(List ah))(d4 f4:Int)(fr:(List ah))(fs ft:Int)(g5:qL2)(s0:(Int×qL1)):Option (qL1⊕(qL2×Int)):=bt (fun a=>y9 oo ej a4 ef d4 f4 fr fs ft g5 a.1 a.2 (fun a' =>some (.next a')) (fun e=>some (.done e)) (fun r=>some (.ret r))) s0
def q74:Shp:=⟨[j67,j7j,j74,j8e,jxx,jx5,j7m,j7u,j7v],[qaz,qa0,qgb]⟩
def q73:Shp:=⟨[j67,j7j,j8e,jxx,jx5],[qaz,qa0,qgb]⟩
def za{R:Type}(ej f4:Int)(fr:(List ah))(fs ft a4:Int)(g5:qL2)(nx:(Int×qL2)→Option R)(dn:qL2→Option R)(rt:(qL2×Int)→Option R):Option R:=bif decide (a4<ej)then bnd (qum a4 ej a4 fr (fr.length:Int) f4 fr fs ft g5 (0,[])) fun oe4=>lk oe4 (fun e4=>ak (room (g5.length+1) 24)<|ak (di .i64 (a4+1))<|nx ((a4+1),(g5++[e4]))) (fun r=>rt r)else dn g5
def qjm(ej f4:Int)(fr:(List ah))(fs ft:Int)(s0:(Int×qL2)):Option (qL2⊕(qL2×Int)):=bt (fun a=>za ej f4 fr fs ft a.1 a.2 (fun a' =>some (.next a')) (fun e=>some (.done e)) (fun r=>some (.ret r))) s0
def q76:Shp:=⟨[j67,j7j,jxx,jx5],[qaz,qa0]⟩
def q75:Shp:=⟨[(4, .nl false (.own 0))],[qa0]⟩
def qit(aa:b8):Option (qL2×Int):=bnd (pz aa) fun r1=>bif (!r1)then some ([],1)else bnd (qna aa) fun r2=>bif r2 then some ([],5)else bnd (qjm aa.1 aa.1 aa.2.1 aa.2.2.1 aa.2.2.2.1 (0,[])) fun oe5=>lk oe5 (fun e5=>bnd (qf3 e5) fun r6=>some (r6.1,r6.2)) (fun r=>some r)
def qf6(bf:qL2):Option qL2:=jqx bf
def jl2(c1:l7):Option (ByteArray×Int):=jj1 c1
def qf7{R:Type}(le:qL1)(mv gw:Int)(i1:qL1)(nx:(Int×qL1)→Option R)(dn:qL1→Option R)(rt:ByteArray→Option R):Option R:=bif decide (gw<mv)then ak (ix gw le.length)<|ak (ix gw le.length)<|ak (decide (0≤(8:Int)))<|ak (room (i1.length+2) 1)<|ak (di .i64 (gw+1))<|nx ((gw+1),(i1++[(IntKind.wrap .u8 (le.getD gw.toNat 0)),(IntKind.wrap .u8 (jw9 .i64 (le.getD gw.toNat 0) 8))]))else dn i1
def q4n(le:qL1)(mv:Int)(s0:(Int×qL1)):Option (qL1⊕ByteArray):=bt (fun a=>qf7 le mv a.1 a.2 (fun a' =>some (.next a')) (fun e=>some (.done e)) (fun r=>some (.ret r))) s0
def jgz:Shp:=⟨[(3, .own 0),(10, .d false qT1),jxt,jre],[j7n]⟩
def jgy:Shp:=⟨[(3, .own 0)],[j7n]⟩
def qc9(l2:qL1):Option ByteArray:=ak (di .i64 ((2:Int)*(l2.length:Int)))<|ak (qv2 0 ((2:Int)*(l2.length:Int)) 1)<|bnd (q4n l2 (l2.length:Int) (0,[])) fun oe1=>lk oe1 (fun e1=>some (strOfNums e1)) (fun r=>some r)
def qdo{R:Type}(b2:qL1)(dk:Int)(ps:ByteArray)(pv pw:qL1)(a2:Int)(d0:qL1)(nx:(Int×qL1)→Option R)(dn:qL1→Option R)(rt:(Int×qL1)→Option R):Option R:=bif decide (a2<dk)then ak (ix a2 b2.length)<|ak (ix a2 b2.length)<|ak (ix (b2.getD a2.toNat 0) d0.length)<|ak (ix (b2.getD a2.toNat 0) d0.length)<|ak (di .i64 ((d0.getD (b2.getD a2.toNat 0).toNat 0)-1))<|ak (ix (b2.getD a2.toNat 0) d0.length)<|ak (ix (b2.getD a2.toNat 0) d0.length)<|ak (di .i64 (a2+1))<|nx ((a2+1),(d0.set (b2.getD a2.toNat 0).toNat ((d0.getD (b2.getD a2.toNat 0).toNat 0)-1)))else dn d0
def qzn(b2:qL1)(dk:Int)(ps:ByteArray)(pv pw:qL1)(s0:(Int×qL1)):Option (qL1⊕(Int×qL1)):=bt (fun a=>qdo b2 dk ps pv pw a.1 a.2 (fun a' =>some (.next a')) (fun e=>some (.done e)) (fun r=>some (.ret r))) s0
def jb1:Shp:=⟨[j8k,(9, .own 1),(35, .d false qT1),j6x,j7w],[qww,qgb]⟩
def jb0:Shp:=⟨[j8k,(9, .own 1)],[qww,qgb]⟩
def qdp{R:Type}(h2:qL1)(m1 e0:Int)(d0:qL1)(nx:(Int×qL1)→Option R)(dn:qL1→Option R)(rt:(Int×qL1)→Option R):Option R:=bif decide (e0<m1)then ak (ix e0 h2.length)<|ak (ix e0 h2.length)<|ak (ix (h2.getD e0.toNat 0) d0.length)<|ak (ix (h2.getD e0.toNat 0) d0.length)<|ak (di .i64 ((d0.getD (h2.getD e0.toNat 0).toNat 0)+1))<|ak (ix (h2.getD e0.toNat 0) d0.length)<|ak (ix (h2.getD e0.toNat 0) d0.length)<|ak (di .i64 (e0+1))<|nx ((e0+1),(d0.set (h2.getD e0.toNat 0).toNat ((d0.getD (h2.getD e0.toNat 0).toNat 0)+1)))else dn d0
def qzo(h2:qL1)(m1:Int)(s0:(Int×qL1)):Option (qL1⊕(Int×qL1)):=bt (fun a=>qdp h2 m1 a.1 a.2 (fun a' =>some (.next a')) (fun e=>some (.done e)) (fun r=>some (.ret r))) s0
def jb3:Shp:=⟨[j8l,(49, .d false qT1),(50, .d true qT0),(51, .d true qT0)],[qgb]⟩
def jb2:Shp:=⟨[j8l],[qgb]⟩
def qct(aa:b8)(a0:qL1)(h5:Int):Option (Int×qL1):=bif decide (h5<0)then some (2,[])else bif decide ((aa.2.1.length:Int)≤h5)then some (2,[])else ak (ix h5 aa.2.1.length)<|ak (ix h5 aa.2.1.length)<|bnd (vm (aa.2.1.getD h5.toNat ah.z) a0) fun r1=>bif (!r1)then some (12,[])else bnd (bk a0) fun r2=>bnd (qzn (aa.2.1.getD h5.toNat ah.z).2.1 ((aa.2.1.getD h5.toNat ah.z).2.1.length:Int) (aa.2.1.getD h5.toNat ah.z).1 (aa.2.1.getD h5.toNat ah.z).2.1 (aa.2.1.getD h5.toNat ah.z).2.2.1 (0,r2)) fun oe3=>lk oe3 (fun e3=>bnd (qzo (aa.2.1.getD h5.toNat ah.z).2.2.1 ((aa.2.1.getD h5.toNat ah.z).2.2.1.length:Int) (0,e3)) fun oe4=>lk oe4 (fun e4=>bnd (kl e4) fun r5=>bif decide ((100:Int)<r5)then some (5,[])else some (0,e4)) (fun r=>some r)) (fun r=>some r)
def qcs(aa:b8)(a0:qL1)(h5:Int):Option (Int×qL1):=bnd (nk aa a0) fun r1=>bif (!r1)then some (1,[])else bnd (qct aa a0 h5) fun r2=>some (r2.1,r2.2)
def ii{R:Type}(c5 gt:Int)(b3:qL1)(nb bs:Int)(bl:(List ah))(b0 b1:Int)(hc:qL2)(hh:(List ar))(v_62' :Bool)(g2:Int)(ks:Bool)(hn:(List (ByteArray×Int)))(ex:qL2)(g4:(List ar))(nx:(Int×Bool×(List (ByteArray×Int))×qL2×(List ar))→Option R)(dn:(Bool×(List (ByteArray×Int))×qL2×(List ar))→Option R)(rt:(l0×Int)→Option R):Option R:=bif decide (g2<nb)then ak (ix g2 b3.length)<|ak (ix g2 b3.length)<|ak (ix gt ex.length)<|ak (ix gt ex.length)<|bnd (qcs (bs,bl,b0,b1,()) (ex.getD gt.toNat []) (b3.getD g2.toNat 0)) fun r5=>bif (!decide (r5.1=0))then ak (di .i64 (g2+1))<|nx ((g2+1),false,hn,ex,g4)else bnd (qc9 r5.2) fun r6=>bif (!(dx .str r6 hn).isSome)then bif decide (c5≤(ex.length:Int))then ak (di .i64 (g2+1))<|nx ((g2+1),false,hn,ex,g4)else bnd (qc9 r5.2) fun r7=>ak (room (ex.length+1) 24)<|ak (room (g4.length+1) 24)<|bif decide ((20000:Int)<((g4++[(gt,(ex.length:Int),(b3.getD g2.toNat 0),())]).length:Int))then rt (([],[],false,()),13)else ak (di .i64 (g2+1))<|nx ((g2+1),ks,(qeb .str r7 (ex.length:Int) hn),(ex++[r5.2]),(g4++[(gt,(ex.length:Int),(b3.getD g2.toNat 0),())]))else ak (room (g4.length+1) 24)<|bif decide ((20000:Int)<((g4++[(gt,((dx .str r6 hn).getD 0),(b3.getD g2.toNat 0),())]).length:Int))then rt (([],[],false,()),13)else ak (di .i64 (g2+1))<|nx ((g2+1),ks,hn,ex,(g4++[(gt,((dx .str r6 hn).getD 0),(b3.getD g2.toNat 0),())]))else dn (ks,hn,ex,g4)
def qpk(c5 gt:Int)(b3:qL1)(nb bs:Int)(bl:(List ah))(b0 b1:Int)(hc:qL2)(hh:(List ar))(v_62' :Bool)(s0:(Int×Bool×(List (ByteArray×Int))×qL2×(List ar))):Option ((Bool×(List (ByteArray×Int))×qL2×(List ar))⊕(l0×Int)):=bt (fun a=>ii c5 gt b3 nb bs bl b0 b1 hc hh v_62' a.1 a.2.1 a.2.2.1 a.2.2.2.1 a.2.2.2.2 (fun a' =>some (.next a')) (fun e=>some (.done e)) (fun r=>some (.ret r))) s0
def q2w:Shp:=⟨[jlx,q4x,(6, .ptr 1),(10, .ptr 2),(11, .mp 3),jre,(62, .nl false (.d true qT1)),(63, .d true qT0),(64, .d true qT0)],[qaz,qfw,jg7,j3o,qa0,q4v]⟩
def q2v:Shp:=⟨[jlx,q4x,(6, .ptr 1),(10, .ptr 2),(11, .mp 3),jre],[qaz,qfw,jg7,j3o,qa0,q4v]⟩
def j6{R:Type}(c5 bs:Int)(bl:(List ah))(b0 b1:Int)(hc:qL2)(hh:(List ar))(b3:Bool)(gt:Int)(ks:Bool)(hn:(List (ByteArray×Int)))(ex:qL2)(g4:(List ar))(nx:(Int×Bool×(List (ByteArray×Int))×qL2×(List ar))→Option R)(dn:(Bool×qL2×(List ar))→Option R)(rt:(l0×Int)→Option R):Option R:=bif decide (gt<(ex.length:Int))then ak (ix gt ex.length)<|ak (ix gt ex.length)<|bnd (fc (bs,bl,b0,b1,()) (ex.getD gt.toNat [])) fun r4=>bnd (qpk c5 gt r4.2 (r4.2.length:Int) bs bl b0 b1 hc hh b3 (0,ks,hn,ex,g4)) fun oe8=>lk oe8 (fun e8=>ak (di .i64 (gt+1))<|nx ((gt+1),e8.1,e8.2.1,e8.2.2.1,e8.2.2.2)) (fun r=>rt r)else dn (ks,ex,g4)
def qpl(c5 bs:Int)(bl:(List ah))(b0 b1:Int)(hc:qL2)(hh:(List ar))(b3:Bool)(s0:(Int×Bool×(List (ByteArray×Int))×qL2×(List ar))):Option ((Bool×qL2×(List ar))⊕(l0×Int)):=bt (fun a=>j6 c5 bs bl b0 b1 hc hh b3 a.1 a.2.1 a.2.2.1 a.2.2.2.1 a.2.2.2.2 (fun a' =>some (.next a')) (fun e=>some (.done e)) (fun r=>some (.ret r))) s0
def q2y:Shp:=⟨[jlx,q4x,(6, .ptr 1),(10, .ptr 2),(11, .mp 3),jre],[qaz,qfw,jg7,j3o,qa0,q4v]⟩
def q2x:Shp:=⟨[(6, .ptr 0),(10, .ptr 1)],[qfw,jg6,qa0,q4v]⟩
def qds(aa:b8)(a0:qL1)(c5:Int):Option (l0×Int):=bnd (fc aa a0) fun r1=>bif (!decide (r1.1=0))then some (([],[],false,()),1)else bif decide (c5<1)then some (([],[],false,()),2)else bif decide ((2000:Int)<c5)then some (([],[],false,()),2)else bnd (bk a0) fun r2=>bnd (qc9 a0) fun r3=>bnd (qpl c5 aa.1 aa.2.1 aa.2.2.1 aa.2.2.2.1 [] [] false (0,true,(qeb .str r3 (0:Int) ([]:(List (ByteArray×Int)))),[r2],[])) fun oe9=>lk oe9 (fun e9=>some ((e9.2.1,e9.2.2,e9.1,()),0)) (fun r=>some r)
def ul(c1:Int)(dl:(List az)):Option Int:=ak (ix 0 1)<|ak (ix c1 dl.length)<|ak (ix c1 dl.length)<|some (dl.getD c1.toNat az.z).1
def z7(hp h3:af)(dd:Bool):Option Bool:=bif (!hp.1)then some hp.1 else bif (!h3.1)then some hp.1 else bif (!decide (hp.2.1=h3.2.1))then some (!(decide (hp.2.1<h3.2.1)==dd))else some (decide (hp.2.2.1<h3.2.2.1))
def uh{R:Type}(weight_1c0:(List az))(dd:Bool)(g3 eb a6:Int)(hk:(List (Int×(List ag))))(b2:(List ag))(dk:Int)(ea:(List (Int×(List ag))))(fi fl:Int)(es:Bool)(a2:Int)(a1:(List af))(nx:(Bool×Int×(List af))→Option R)(dn:(Bool×(List af))→Option R)(rt:(List af)→Option R):Option R:=bif decide (a2<dk)then ak (ix a2 b2.length)<|ak (ix a2 b2.length)<|ak (ix (b2.getD a2.toNat ag.z).1 a1.length)<|ak (ix (b2.getD a2.toNat ag.z).1 a1.length)<|bif (!(a1.getD (Int.toNat (b2.getD a2.toNat ag.z).1) af.z).1)then ak (di .i64 (a2+1))<|nx (es,(a2+1),a1)else bnd (ul (b2.getD a2.toNat ag.z).2.1 weight_1c0) fun r1=>ak (di .i64 ((a1.getD (Int.toNat (b2.getD a2.toNat ag.z).1) af.z).2.1+r1))<|ak (di .i64 ((a1.getD (Int.toNat (b2.getD a2.toNat ag.z).1) af.z).2.2.1+1))<|ak (ix g3 a1.length)<|ak (ix g3 a1.length)<|bnd (z7 ((a1.getD (Int.toNat (b2.getD a2.toNat ag.z).1) af.z).1,((a1.getD (Int.toNat (b2.getD a2.toNat ag.z).1) af.z).2.1+r1),((a1.getD (Int.toNat (b2.getD a2.toNat ag.z).1) af.z).2.2.1+1),()) (a1.getD g3.toNat af.z) dd) fun r2=>bif r2 then ak (ix g3 a1.length)<|ak (ix g3 a1.length)<|ak (di .i64 (a2+1))<|nx (true,(a2+1),(a1.set g3.toNat ((a1.getD (Int.toNat (b2.getD a2.toNat ag.z).1) af.z).1,((a1.getD (Int.toNat (b2.getD a2.toNat ag.z).1) af.z).2.1+r1),((a1.getD (Int.toNat (b2.getD a2.toNat ag.z).1) af.z).2.2.1+1),())))else ak (di .i64 (a2+1))<|nx (es,(a2+1),a1)else dn (es,a1)
def qjw(weight_1c0:(List az))(dd:Bool)(g3 eb a6:Int)(hk:(List (Int×(List ag))))(b2:(List ag))(dk:Int)(ea:(List (Int×(List ag))))(fi fl:Int)(s0:(Bool×Int×(List af))):Option ((Bool×(List af))⊕(List af)):=bt (fun a=>uh weight_1c0 dd g3 eb a6 hk b2 dk ea fi fl a.1 a.2.1 a.2.2 (fun a' =>some (.next a')) (fun e=>some (.done e)) (fun r=>some (.ret r))) s0
def qh3:Shp:=⟨[jed,ji2,q4x,j7h,j6p,j64,jrf,jzy,q63,(29, .it),j60,j6x,j7w],[qea,qtu]⟩
def qh2:Shp:=⟨[jed,ji2,q4x,j7h,j6p,jrf,jzy,q63,(29, .it)],[qea,qtu]⟩
def ui{R:Type}(weight_1c0:(List az))(dd:Bool)(eb a6:Int)(hk:(List (Int×(List ag))))(ea:(List (Int×(List ag))))(fi fl:Int)(es:Bool)(a1:(List af))(en:(Int×(List ag)))(nx:(Bool×(List af))→Option R)(rt:(List af)→Option R):Option R:=bnd (qjw weight_1c0 dd en.1 eb a6 hk en.2 (en.2.length:Int) ea fi fl (es,0,a1)) fun oe3=>lk oe3 (fun e3=>nx (e3.1,e3.2)) (fun r=>rt r)
def vn(weight_1c0:(List az))(dd:Bool)(eb a6:Int)(hk:(List (Int×(List ag))))(ea:(List (Int×(List ag))))(fi fl:Int)(l:List (Int×(List ag)))(s0:(Bool×(List af))):Option ((Bool×(List af))⊕(List af)):=qoz (fun a en=>ui weight_1c0 dd eb a6 hk ea fi fl a.1 a.2 en (fun a' =>some (.inl a')) (fun r=>some (.inr r))) l s0
def qh4:Shp:=⟨[jed,ji2,q4x,j7h,j6p,jrf,jzy,q63],[qea,qtu]⟩
def gu{R:Type}(weight_1c0:(List az))(dd:Bool)(eb:Int)(ea:(List (Int×(List ag))))(fi fl a6:Int)(a1:(List af))(nx:(Int×(List af))→Option R)(dn rt:(List af)→Option R):Option R:=bif decide (a6<eb)then q50 (fun l=>vn weight_1c0 dd eb a6 ea ea fi fl l (false,a1)) ea (fun e4=>bif (!e4.1)then dn e4.2 else ak (di .i64 (a6+1))<|nx ((a6+1),e4.2)) (fun r=>rt r)else dn a1
def qh6:Shp:=⟨[jed,ji2,q4x,j7h,jrf,jzy],[qea,qtu]⟩
def qh5:Shp:=⟨[(7, .own 0)],[qtu]⟩
def js(j0:(List (Int×(List ag))))(gr et:Int)(weight_1c0:(List az))(dd:Bool):Option (List af):=ak (qv2 et et 24)<|ak (ix gr (List.replicate et.toNat (af.z:af)).length)<|ak (ix gr (List.replicate et.toNat (af.z:af)).length)<|ak (di .i64 (et+1))<|ndK (fun{Q} a nx dn rt=>gu (R:=Q) weight_1c0 dd (et+1) j0 gr et a.1 a.2 nx dn rt) (0,((List.replicate et.toNat (af.z:af)).set gr.toNat (true,((List.replicate et.toNat (af.z:af)).getD gr.toNat af.z).2.1,((List.replicate et.toNat (af.z:af)).getD gr.toNat af.z).2.2.1,()))) (fun e5=>some e5) (fun r=>some r)
def zz{R:Type}(hz:Int)(a5:(List ag))(a9:Int)(ea:(List (Int×(List ag))))(fi fl h8:Int)(kr:(List (Int×Bool)))(ew:qL1)(nx:(Int×(List (Int×Bool))×qL1)→Option R)(dn:((List (Int×Bool))×qL1)→Option R)(rt:Bool→Option R):Option R:=bif decide (h8<a9)then ak (ix h8 a5.length)<|ak (ix h8 a5.length)<|bif (!((dx qT0 (a5.getD h8.toNat ag.z).1 kr).getD false))then ak (room (ew.length+1) 8)<|ak (di .i64 (h8+1))<|nx ((h8+1),(qeb qT0 (a5.getD h8.toNat ag.z).1 true kr),(ew++[(a5.getD h8.toNat ag.z).1]))else ak (di .i64 (h8+1))<|nx ((h8+1),kr,ew)else dn (kr,ew)
def qp5(hz:Int)(a5:(List ag))(a9:Int)(ea:(List (Int×(List ag))))(fi fl:Int)(s0:(Int×(List (Int×Bool))×qL1)):Option (((List (Int×Bool))×qL1)⊕Bool):=bt (fun a=>zz hz a5 a9 ea fi fl a.1 a.2.1 a.2.2 (fun a' =>some (.next a')) (fun e=>some (.done e)) (fun r=>some (.ret r))) s0
def qn0:Shp:=⟨[jlx,q4x,j71,(8, .own 2),(31, .d false (.slice ag.ty)),j6w,(33, .d true qT0)],[qea,j6z,qgb]⟩
def qnz:Shp:=⟨[jlx,q4x,j71,(8, .own 2)],[qea,j6z,qgb]⟩
def z6{R:Type}(hz:Int)(ea:(List (Int×(List ag))))(fi fl:Int)(kr:(List (Int×Bool)))(ew:qL1)(nx:((List (Int×Bool))×qL1)→Option R)(dn:Unit→Option R)(rt:Bool→Option R):Option R:=bif decide ((0:Int)<(ew.length:Int))then ak (ix 0 ew.length)<|ak (ix 0 ew.length)<|bif decide ((ew.getD 0 0)=hz)then rt true else ak (ix 0 ew.length)<|ak (ix 0 ew.length)<|bnd (qp5 hz (q38 ag.ty (dx qT0 (ew.getD 0 0) ea)) ((q38 ag.ty (dx qT0 (ew.getD 0 0) ea)).length:Int) ea fi fl (0,kr,ew)) fun oe1=>lk oe1 (fun e1=>ak (cut 1 (e1.2.length:Int) e1.2.length)<|nx (e1.1,((e1.2.drop 1).take ((e1.2.length:Int).toNat-1)))) (fun r=>rt r)else dn ()
def qp6(hz:Int)(ea:(List (Int×(List ag))))(fi fl:Int)(s0:((List (Int×Bool))×qL1)):Option (Unit⊕Bool):=bt (fun a=>z6 hz ea fi fl a.1 a.2 (fun a' =>some (.next a')) (fun e=>some (.done e)) (fun r=>some (.ret r))) s0
def qn2:Shp:=⟨[jlx,q4x,j71,(8, .own 2)],[qea,j6z,qgb]⟩
def qn1:Shp:=⟨[],[]⟩
def qfl(j0:(List (Int×(List ag))))(gr et gl hz:Int):Option Bool:=bnd (qp6 hz j0 gr et ((qeb qT0 gl true ([]:(List (Int×Bool)))),[gl])) fun oe2=>lk oe2 (fun e2=>some false) (fun r=>some r)
def qb5{R:Type}(dc:(List az))(a6:(List ag))(h1:Int)(gs:(List (Int×(List ag))))(hd he cc:Int)(i5:(List (Int×Bool)))(ga:qL1)(nx:(Int×(List (Int×Bool))×qL1)→Option R)(dn:((List (Int×Bool))×qL1)→Option R)(rt:Bool→Option R):Option R:=bif decide (cc<h1)then ak (ix cc a6.length)<|ak (ix cc a6.length)<|ak (ix (a6.getD cc.toNat ag.z).2.1 dc.length)<|ak (ix (a6.getD cc.toNat ag.z).2.1 dc.length)<|bif (dc.getD (Int.toNat (a6.getD cc.toNat ag.z).2.1) az.z).2.2.1 then rt true else bif (!((dx qT0 (a6.getD cc.toNat ag.z).1 i5).getD false))then ak (room (ga.length+1) 8)<|ak (di .i64 (cc+1))<|nx ((cc+1),(qeb qT0 (a6.getD cc.toNat ag.z).1 true i5),(ga++[(a6.getD cc.toNat ag.z).1]))else ak (di .i64 (cc+1))<|nx ((cc+1),i5,ga)else dn (i5,ga)
def qsb(dc:(List az))(a6:(List ag))(h1:Int)(gs:(List (Int×(List ag))))(hd he:Int)(s0:(Int×(List (Int×Bool))×qL1)):Option (((List (Int×Bool))×qL1)⊕Bool):=bt (fun a=>qb5 dc a6 h1 gs hd he a.1 a.2.1 a.2.2 (fun a' =>some (.next a')) (fun e=>some (.done e)) (fun r=>some (.ret r))) s0
def qqa:Shp:=⟨[jg8,jms,(5, .mp 1),j8e,(25, .d false (.slice ag.ty)),j79,j8a],[qea,j6z,qgb]⟩
def qp9:Shp:=⟨[jg8,jms,(5, .mp 1),j8e],[qea,j6z,qgb]⟩
def qb6{R:Type}(dc:(List az))(gs:(List (Int×(List ag))))(hd he:Int)(i5:(List (Int×Bool)))(ga:qL1)(nx:((List (Int×Bool))×qL1)→Option R)(dn:(List (Int×Bool))→Option R)(rt:Bool→Option R):Option R:=bif decide ((0:Int)<(ga.length:Int))then ak (ix 0 ga.length)<|ak (ix 0 ga.length)<|bnd (qsb dc (q38 ag.ty (dx qT0 (ga.getD 0 0) gs)) ((q38 ag.ty (dx qT0 (ga.getD 0 0) gs)).length:Int) gs hd he (0,i5,ga)) fun oe1=>lk oe1 (fun e1=>ak (cut 1 (e1.2.length:Int) e1.2.length)<|nx (e1.1,((e1.2.drop 1).take ((e1.2.length:Int).toNat-1)))) (fun r=>rt r)else dn i5
def qsc(dc:(List az))(gs:(List (Int×(List ag))))(hd he:Int)(s0:((List (Int×Bool))×qL1)):Option ((List (Int×Bool))⊕Bool):=bt (fun a=>qb6 dc gs hd he a.1 a.2 (fun a' =>some (.next a')) (fun e=>some (.done e)) (fun r=>some (.ret r))) s0
def qqc:Shp:=⟨[jg8,jms,(5, .mp 1),j8e],[qea,j6z,qgb]⟩
def qqb:Shp:=⟨[jg8,jms,(5, .mp 1)],[qea,j6z]⟩
def qb7{R:Type}(dc:(List az))(g3:Int)(e0:(List (Int×Bool)))(hc:(List ag))(hh:Int)(gs:(List (Int×(List ag))))(hd he b3:Int)(nx:Int→Option R)(dn:Unit→Option R)(rt:Bool→Option R):Option R:=bif decide (b3<hh)then ak (ix b3 hc.length)<|ak (ix b3 hc.length)<|ak (ix (hc.getD b3.toNat ag.z).2.1 dc.length)<|ak (ix (hc.getD b3.toNat ag.z).2.1 dc.length)<|bif decide ((0:Int)<(dc.getD (Int.toNat (hc.getD b3.toNat ag.z).2.1) az.z).2.1)then bnd (qfl gs hd he (hc.getD b3.toNat ag.z).1 g3) fun r3=>bif r3 then rt true else ak (di .i64 (b3+1))<|nx (b3+1)else ak (di .i64 (b3+1))<|nx (b3+1)else dn ()
def qsd(dc:(List az))(g3:Int)(e0:(List (Int×Bool)))(hc:(List ag))(hh:Int)(gs:(List (Int×(List ag))))(hd he s0:Int):Option (Unit⊕Bool):=bt (fun a=>qb7 dc g3 e0 hc hh gs hd he a (fun a' =>some (.next a')) (fun e=>some (.done e)) (fun r=>some (.ret r))) s0
def qqe:Shp:=⟨[jg8,jms,j64,j7i,(52, .it),(60, .d false (.slice ag.ty)),(61, .d true qT0),(62, .d true qT0)],[qea]⟩
def qqd:Shp:=⟨[jg8,jms,j7i,(52, .it)],[qea]⟩
def qb8{R:Type}(dc:(List az))(e0:(List (Int×Bool)))(gs:(List (Int×(List ag))))(hd he:Int)(en:(Int×Bool))(nx:Unit→Option R)(rt:Bool→Option R):Option R:=bnd (qsd dc en.1 e0 (q38 ag.ty (dx qT0 en.1 gs)) ((q38 ag.ty (dx qT0 en.1 gs)).length:Int) gs hd he 0) fun oe4=>lk oe4 (fun e4=>nx ()) (fun r=>rt r)
def qee(dc:(List az))(e0:(List (Int×Bool)))(gs:(List (Int×(List ag))))(hd he:Int)(l:List (Int×Bool))(s0:Unit):Option (Unit⊕Bool):=qoz (fun a en=>qb8 dc e0 gs hd he en (fun a' =>some (.inl a')) (fun r=>some (.inr r))) l s0
def qqf:Shp:=⟨[jg8,jms,j7i],[qea]⟩
def qy(j0:(List (Int×(List ag))))(gr et:Int)(dc:(List az)):Option Bool:=bnd (qsc dc j0 gr et ((qeb qT0 (0:Int) true ([]:(List (Int×Bool)))),[0])) fun oe2=>lk oe2 (fun e2=>q50 (fun l=>qee dc e2 j0 gr et l ()) e2 (fun e5=>some false) (fun r=>some r)) (fun r=>some r)
def um(c1:Int)(dl:(List az)):Option Int:=ak (ix 0 1)<|ak (ix c1 dl.length)<|ak (ix c1 dl.length)<|some (dl.getD c1.toNat az.z).2.1
def uj{R:Type}(weight_1c0:(List az))(dd:Bool)(g3 eb a6:Int)(hk:(List (Int×(List ag))))(b2:(List ag))(dk:Int)(ea:(List (Int×(List ag))))(fi fl:Int)(es:Bool)(a2:Int)(a1:(List af))(nx:(Bool×Int×(List af))→Option R)(dn:(Bool×(List af))→Option R)(rt:(List af)→Option R):Option R:=bif decide (a2<dk)then ak (ix a2 b2.length)<|ak (ix a2 b2.length)<|ak (ix (b2.getD a2.toNat ag.z).1 a1.length)<|ak (ix (b2.getD a2.toNat ag.z).1 a1.length)<|bif (!(a1.getD (Int.toNat (b2.getD a2.toNat ag.z).1) af.z).1)then ak (di .i64 (a2+1))<|nx (es,(a2+1),a1)else bnd (um (b2.getD a2.toNat ag.z).2.1 weight_1c0) fun r1=>ak (di .i64 ((a1.getD (Int.toNat (b2.getD a2.toNat ag.z).1) af.z).2.1+r1))<|ak (di .i64 ((a1.getD (Int.toNat (b2.getD a2.toNat ag.z).1) af.z).2.2.1+1))<|ak (ix g3 a1.length)<|ak (ix g3 a1.length)<|bnd (z7 ((a1.getD (Int.toNat (b2.getD a2.toNat ag.z).1) af.z).1,((a1.getD (Int.toNat (b2.getD a2.toNat ag.z).1) af.z).2.1+r1),((a1.getD (Int.toNat (b2.getD a2.toNat ag.z).1) af.z).2.2.1+1),()) (a1.getD g3.toNat af.z) dd) fun r2=>bif r2 then ak (ix g3 a1.length)<|ak (ix g3 a1.length)<|ak (di .i64 (a2+1))<|nx (true,(a2+1),(a1.set g3.toNat ((a1.getD (Int.toNat (b2.getD a2.toNat ag.z).1) af.z).1,((a1.getD (Int.toNat (b2.getD a2.toNat ag.z).1) af.z).2.1+r1),((a1.getD (Int.toNat (b2.getD a2.toNat ag.z).1) af.z).2.2.1+1),())))else ak (di .i64 (a2+1))<|nx (es,(a2+1),a1)else dn (es,a1)
def qj0(weight_1c0:(List az))(dd:Bool)(g3 eb a6:Int)(hk:(List (Int×(List ag))))(b2:(List ag))(dk:Int)(ea:(List (Int×(List ag))))(fi fl:Int)(s0:(Bool×Int×(List af))):Option ((Bool×(List af))⊕(List af)):=bt (fun a=>uj weight_1c0 dd g3 eb a6 hk b2 dk ea fi fl a.1 a.2.1 a.2.2 (fun a' =>some (.next a')) (fun e=>some (.done e)) (fun r=>some (.ret r))) s0
def qh9:Shp:=⟨[jg5,ji2,q4x,j7h,j6p,j64,jrf,jzy,q63,(29, .it),j60,j6x,j7w],[qea,qtu]⟩
def qh8:Shp:=⟨[jg5,ji2,q4x,j7h,j6p,jrf,jzy,q63,(29, .it)],[qea,qtu]⟩
def uk{R:Type}(weight_1c0:(List az))(dd:Bool)(eb a6:Int)(hk:(List (Int×(List ag))))(ea:(List (Int×(List ag))))(fi fl:Int)(es:Bool)(a1:(List af))(en:(Int×(List ag)))(nx:(Bool×(List af))→Option R)(rt:(List af)→Option R):Option R:=bnd (qj0 weight_1c0 dd en.1 eb a6 hk en.2 (en.2.length:Int) ea fi fl (es,0,a1)) fun oe3=>lk oe3 (fun e3=>nx (e3.1,e3.2)) (fun r=>rt r)
def vp(weight_1c0:(List az))(dd:Bool)(eb a6:Int)(hk:(List (Int×(List ag))))(ea:(List (Int×(List ag))))(fi fl:Int)(l:List (Int×(List ag)))(s0:(Bool×(List af))):Option ((Bool×(List af))⊕(List af)):=qoz (fun a en=>uk weight_1c0 dd eb a6 hk ea fi fl a.1 a.2 en (fun a' =>some (.inl a')) (fun r=>some (.inr r))) l s0
def qia:Shp:=⟨[jg5,ji2,q4x,j7h,j6p,jrf,jzy,q63],[qea,qtu]⟩
def gv{R:Type}(weight_1c0:(List az))(dd:Bool)(eb:Int)(ea:(List (Int×(List ag))))(fi fl a6:Int)(a1:(List af))(nx:(Int×(List af))→Option R)(dn rt:(List af)→Option R):Option R:=bif decide (a6<eb)then q50 (fun l=>vp weight_1c0 dd eb a6 ea ea fi fl l (false,a1)) ea (fun e4=>bif (!e4.1)then dn e4.2 else ak (di .i64 (a6+1))<|nx ((a6+1),e4.2)) (fun r=>rt r)else dn a1
def qic:Shp:=⟨[jg5,ji2,q4x,j7h,jrf,jzy],[qea,qtu]⟩
def qib:Shp:=⟨[(7, .own 0)],[qtu]⟩
def jt(j0:(List (Int×(List ag))))(gr et:Int)(weight_1c0:(List az))(dd:Bool):Option (List af):=ak (qv2 et et 24)<|ak (ix gr (List.replicate et.toNat (af.z:af)).length)<|ak (ix gr (List.replicate et.toNat (af.z:af)).length)<|ak (di .i64 (et+1))<|ndK (fun{Q} a nx dn rt=>gv (R:=Q) weight_1c0 dd (et+1) j0 gr et a.1 a.2 nx dn rt) (0,((List.replicate et.toNat (af.z:af)).set gr.toNat (true,((List.replicate et.toNat (af.z:af)).getD gr.toNat af.z).2.1,((List.replicate et.toNat (af.z:af)).getD gr.toNat af.z).2.2.1,()))) (fun e5=>some e5) (fun r=>some r)
def qf5{R:Type}(hq a6:qL1)(h1 bs:Int)(bl:(List ah))(b0 b1:Int)(nn:qL1)(cc:Int)(nx:(qL1×Int)→Option R)(dn:qL1→Option R)(rt:(qL1×Int×Int)→Option R):Option R:=bif decide (cc<h1)then ak (ix cc a6.length)<|ak (ix cc a6.length)<|bnd (qct (bs,bl,b0,b1,()) nn (a6.getD cc.toNat 0)) fun r3=>bif (!decide (r3.1=0))then rt ([],cc,r3.1)else ak (di .i64 (cc+1))<|nx (r3.2,(cc+1))else dn nn
def q4d(hq a6:qL1)(h1 bs:Int)(bl:(List ah))(b0 b1:Int)(s0:(qL1×Int)):Option (qL1⊕(qL1×Int×Int)):=bt (fun a=>qf5 hq a6 h1 bs bl b0 b1 a.1 a.2 (fun a' =>some (.next a')) (fun e=>some (.done e)) (fun r=>some (.ret r))) s0
def jgk:Shp:=⟨[(2, .d false qT1),q4x,(9, .d true qT1),(25, .d false qT1),j79,j8a],[qaz]⟩
def jgj:Shp:=⟨[(2, .d false qT1),(9, .d true qT1)],[]⟩
def qle(aa:b8)(a0 hq:qL1):Option (qL1×Int×Int):=bnd (nk aa a0) fun r1=>bif (!r1)then some ([],0,1)else bif decide ((1000:Int)<(hq.length:Int))then some ([],0,5)else bnd (bk a0) fun r2=>bnd (q4d hq hq (hq.length:Int) aa.1 aa.2.1 aa.2.2.1 aa.2.2.2.1 (r2,0)) fun oe4=>lk oe4 (fun e4=>some (e4,(hq.length:Int),0)) (fun r=>some r)
def we{R:Type}(a0:qL1)(hq ef:qL2)(d4 bs:Int)(bl:(List ah))(b0 b1 eu:Int)(ho:(List (ByteArray×Bool)))(nx:(Int×(List (ByteArray×Bool)))→Option R)(dn:(List (ByteArray×Bool))→Option R)(rt:Bool→Option R):Option R:=bif decide (eu<d4)then ak (ix eu ef.length)<|ak (ix eu ef.length)<|bnd (fc (bs,bl,b0,b1,()) (ef.getD eu.toNat [])) fun r1=>bif (!decide (r1.1=0))then rt false else bnd (rx (ef.getD eu.toNat [])) fun r2=>ak (di .i64 (eu+1))<|nx ((eu+1),(qeb .str r2 true ho))else dn ho
def qqy(a0:qL1)(hq ef:qL2)(d4 bs:Int)(bl:(List ah))(b0 b1:Int)(s0:(Int×(List (ByteArray×Bool)))):Option ((List (ByteArray×Bool))⊕Bool):=bt (fun a=>we a0 hq ef d4 bs bl b0 b1 a.1 a.2 (fun a' =>some (.next a')) (fun e=>some (.done e)) (fun r=>some (.ret r))) s0
def q41:Shp:=⟨[jk4,(2, .d false qT2),q4x,j71,(21, .d false qT2),j7u,j7v],[qaz,j61]⟩
def q40:Shp:=⟨[jk4,(2, .d false qT2),q4x,j71],[qaz,j61]⟩
def wg{R:Type}(a0 ne:qL1)(h9:qL2)(g9 ha:Int)(e0:qL1)(m2 bs:Int)(bl:(List ah))(b0 b1:Int)(ho:(List (ByteArray×Bool)))(eg:Int)(nx:Int→Option R)(dn:Unit→Option R)(rt:Bool→Option R):Option R:=bif decide (eg<m2)then ak (ix eg e0.length)<|ak (ix eg e0.length)<|bnd (qcs (bs,bl,b0,b1,()) ne (e0.getD eg.toNat 0)) fun r5=>bif (!decide (r5.1=0))then rt false else bnd (rx r5.2) fun r6=>bif (!((dx .str r6 ho).getD false))then rt false else ak (di .i64 (eg+1))<|nx (eg+1)else dn ()
def qqz(a0 ne:qL1)(h9:qL2)(g9 ha:Int)(e0:qL1)(m2 bs:Int)(bl:(List ah))(b0 b1:Int)(ho:(List (ByteArray×Bool)))(s0:Int):Option (Unit⊕Bool):=bt (fun a=>wg a0 ne h9 g9 ha e0 m2 bs bl b0 b1 ho a (fun a' =>some (.next a')) (fun e=>some (.done e)) (fun r=>some (.ret r))) s0
def q43:Shp:=⟨[jk4,q4x,j71,(13, .d false qT1),j76,j8c,j7y,(51, .nl false (.d true qT1)),(52, .d true qT0),j7z],[qaz,j61]⟩
def q42:Shp:=⟨[jk4,q4x,j71,j76,j8c,j7y],[qaz,j61]⟩
def wh{R:Type}(a0:qL1)(h9:qL2)(g9 bs:Int)(bl:(List ah))(b0 b1:Int)(ho:(List (ByteArray×Bool)))(ha:Int)(nx:Int→Option R)(dn:Unit→Option R)(rt:Bool→Option R):Option R:=bif decide (ha<g9)then ak (ix ha h9.length)<|ak (ix ha h9.length)<|bnd (fc (bs,bl,b0,b1,()) (h9.getD ha.toNat [])) fun r4=>bnd (qqz a0 (h9.getD ha.toNat []) h9 g9 ha r4.2 (r4.2.length:Int) bs bl b0 b1 ho 0) fun oe7=>lk oe7 (fun e7=>ak (di .i64 (ha+1))<|nx (ha+1)) (fun r=>rt r)else dn ()
def qq0(a0:qL1)(h9:qL2)(g9 bs:Int)(bl:(List ah))(b0 b1:Int)(ho:(List (ByteArray×Bool)))(s0:Int):Option (Unit⊕Bool):=bt (fun a=>wh a0 h9 g9 bs bl b0 b1 ho a (fun a' =>some (.next a')) (fun e=>some (.done e)) (fun r=>some (.ret r))) s0
def q45:Shp:=⟨[jk4,q4x,j71,j76,j8c,j7y],[qaz,j61]⟩
def q44:Shp:=⟨[jk4,(7, .mp 0)],[j61]⟩
def qfz(aa:b8)(a0:qL1)(hq:qL2):Option Bool:=bnd (qqy a0 hq hq (hq.length:Int) aa.1 aa.2.1 aa.2.2.1 aa.2.2.2.1 (0,[])) fun oe3=>lk oe3 (fun e3=>bnd (qq0 a0 hq (hq.length:Int) aa.1 aa.2.1 aa.2.2.1 aa.2.2.2.1 e3 0) fun oe8=>lk oe8 (fun e8=>bnd (rx a0) fun r9=>some ((dx .str r9 e3).getD false)) (fun r=>some r)) (fun r=>some r)
def jz(aa:b8)(a0:qL1)(h4:qez):Option Bool:=bnd (fc aa a0) fun r1=>bif (!decide (r1.1=0))then some false else bif decide (h4.1=5)then bnd (qfz aa a0 h4.2.2.2.2.1) fun r2=>some r2 else bif (!decide (h4.1=6))then some false else bif decide ((h4.2.2.2.1.length:Int)=0)then some false else bif decide (h4.2.1<0)then some false else bif decide (aa.1≤h4.2.1)then some false else bnd (qle aa a0 h4.2.2.1) fun r3=>bif (!decide (r3.2.2=0))then some false else bnd (qle aa r3.1 h4.2.2.2.1) fun r4=>bif decide (r4.2.2=0)then bnd (qdv r3.1 r4.1) fun r5=>bif r5 then ak (ix h4.2.1 r4.1.length)<|ak (ix h4.2.1 r4.1.length)<|ak (ix h4.2.1 r3.1.length)<|ak (ix h4.2.1 r3.1.length)<|some (decide ((r3.1.getD h4.2.1.toNat 0)<(r4.1.getD h4.2.1.toNat 0)))else some false else some false
def qhy:Option Bool:=some true
def qav(c1:ah):Option Bool:=bif decide ((20:Int)<(c1.2.1.length:Int))then some true else bif decide ((20:Int)<(c1.2.2.1.length:Int))then some true else some (decide ((100:Int)<(ByteArray.size c1.1:Int)))
def ce{R:Type}(ab:(List ah))(cl ad:Int)(nx:Int→Option R)(dn:Unit→Option R)(rt:Int→Option R):Option R:=bif decide (ad<cl)then ak (ix ad ab.length)<|ak (ix ad ab.length)<|bnd (qav (ab.getD ad.toNat ah.z)) fun r1=>bif r1 then rt ad else ak (di .i64 (ad+1))<|nx (ad+1)else dn ()
def gh(ab:(List ah))(cl s0:Int):Option (Unit⊕Int):=bt (fun a=>ce ab cl a (fun a' =>some (.next a')) (fun e=>some (.done e)) (fun r=>some (.ret r))) s0
def q4:Shp:=⟨[(0, .d false (.slice ah.ty)),(1, .fn 20 .nil),jke,jcm],[]⟩
def qz:Shp:=⟨[],[]⟩
def d6(ab:(List ah)):Option Int:=bnd (gh ab (ab.length:Int) 0) fun oe2=>lk oe2 (fun e2=>some (-1)) (fun r=>some r)
def cd(ab:(List ah)):Option Bool:=bnd (d6 ab) fun r1=>some (decide ((0:Int)≤r1))
def qf8(aa:b8):Option Bool:=bif decide (aa.1≤12)then bif decide ((aa.2.1.length:Int)≤14)then bnd (cd aa.2.1) fun r1=>some (!r1)else some false else some false
def qfg(bf:qL1)(dl:b8):Option Bool:=ak (ix 0 1)<|some (!decide ((bf.length:Int)=dl.1))
def fa{R:Type}(ab:qL2)(f_1c0:b8)(cl ad:Int)(nx:Int→Option R)(dn:Unit→Option R)(rt:Int→Option R):Option R:=bif decide (ad<cl)then ak (ix ad ab.length)<|ak (ix ad ab.length)<|bnd (qfg (ab.getD ad.toNat []) f_1c0) fun r1=>bif r1 then rt ad else ak (di .i64 (ad+1))<|nx (ad+1)else dn ()
def rn(ab:qL2)(f_1c0:b8)(cl s0:Int):Option (Unit⊕Int):=bt (fun a=>fa ab f_1c0 cl a (fun a' =>some (.next a')) (fun e=>some (.done e)) (fun r=>some (.ret r))) s0
def qen:Shp:=⟨[j77,(1, .fn 8 (.cons (.rp false b8.ty) .nil)),jke,jcm],[]⟩
def qem:Shp:=⟨[],[]⟩
def kj(ab:qL2)(f_1c0:b8):Option Int:=bnd (rn ab f_1c0 (ab.length:Int) 0) fun oe2=>lk oe2 (fun e2=>some (-1)) (fun r=>some r)
def db(ab:qL2)(f_1c0:b8):Option Bool:=bnd (kj ab f_1c0) fun r1=>some (decide ((0:Int)≤r1))
def th{R:Type}(a7:Int)(be:qL2)(a5 md a9:Int)(nx:(Int×Int)→Option R)(dn:Int→Option R)(rt:(Int×Int)→Option R):Option R:=bif decide (a9<a5)then ak (ix a9 be.length)<|ak (ix a9 be.length)<|ak (ix a7 (be.getD a9.toNat []).length)<|ak (ix a7 (be.getD a9.toNat []).length)<|bif decide (((be.getD a9.toNat []).getD a7.toNat 0)=(-1))then rt ((-1),0)else ak (ix a7 (be.getD a9.toNat []).length)<|ak (ix a7 (be.getD a9.toNat []).length)<|ak (di .i64 (a9+1))<|nx ((max md ((be.getD a9.toNat []).getD a7.toNat 0)),(a9+1))else dn md
def qub(a7:Int)(be:qL2)(a5:Int)(s0:(Int×Int)):Option (Int⊕(Int×Int)):=bt (fun a=>th a7 be a5 a.1 a.2 (fun a' =>some (.next a')) (fun e=>some (.done e)) (fun r=>some (.ret r))) s0
def q7g:Shp:=⟨[jlx,jre,(30, .d true qT2),j3w,j6w],[]⟩
def q7f:Shp:=⟨[jre],[]⟩
def xy(aa:b8)(a0:qL1)(a7 hf:Int):Option (Int×Int):=bnd (ma aa [a0] a7 hf) fun r1=>jak r1 (fun r2=>bif (!decide (r2.1=0))then some (0,r2.1)else bnd (qub a7 r2.2.2 (r2.2.2.length:Int) (0,0)) fun oe4=>lk oe4 (fun e4=>some (e4,0)) (fun r=>some r)) (fun r3=>bif (!decide (r3=0))then some (0,r3)else none)
def qf2(aa:b8)(a0:qL1):Option Bool:=bnd (fc aa a0) fun r1=>some (decide (r1.1=0))
def qiw{R:Type}(hp h3:qL1)(ad op f3:Int)(nx:(Int×Int)→Option R)(dn rt:Int→Option R):Option R:=bif decide (f3<ad)then ak (ix f3 hp.length)<|ak (ix f3 hp.length)<|ak (ix f3 h3.length)<|ak (ix f3 h3.length)<|ak (di .i64 ((hp.getD f3.toNat 0)*(h3.getD f3.toNat 0)))<|ak (di .i64 (op+((hp.getD f3.toNat 0)*(h3.getD f3.toNat 0))))<|ak (di .i64 (f3+1))<|nx ((op+((hp.getD f3.toNat 0)*(h3.getD f3.toNat 0))),(f3+1))else dn op
def q77(hp h3:qL1)(ad:Int)(s0:(Int×Int)):Option (Int⊕Int):=bt (fun a=>qiw hp h3 ad a.1 a.2 (fun a' =>some (.next a')) (fun e=>some (.done e)) (fun r=>some (.ret r))) s0
def jh6:Shp:=⟨[jp9,jk4,j74,jcm,j64],[]⟩
def jh5:Shp:=⟨[j74],[]⟩
def qx7(hp h3:qL1):Option Int:=bnd (q77 hp h3 (hp.length:Int) (0,0)) fun oe1=>lk oe1 (fun e1=>some e1) (fun r=>some r)
def ni{R:Type}(a0:qL1)(a7:Int)(g8:qL2)(b2 i2 dk:Int)(nx:(Int×Int)→Option R)(dn:Int→Option R)(rt:(Int×Int)→Option R):Option R:=bif decide (dk<b2)then ak (ix dk g8.length)<|ak (ix dk g8.length)<|ak (ix a7 (g8.getD dk.toNat []).length)<|ak (ix a7 (g8.getD dk.toNat []).length)<|bif decide (((g8.getD dk.toNat []).getD a7.toNat 0)=0)then ak (di .i64 (dk+1))<|nx (i2,(dk+1))else bnd (qx7 (g8.getD dk.toNat []) a0) fun r3=>ak (ix a7 (g8.getD dk.toNat []).length)<|ak (ix a7 (g8.getD dk.toNat []).length)<|ak (!decide (((g8.getD dk.toNat []).getD a7.toNat 0)=0))<|ak (di .i64 (Int.tdiv r3 ((g8.getD dk.toNat []).getD a7.toNat 0)))<|bif decide (i2<0)then ak (di .i64 (dk+1))<|nx ((Int.tdiv r3 ((g8.getD dk.toNat []).getD a7.toNat 0)),(dk+1))else bif decide ((Int.tdiv r3 ((g8.getD dk.toNat []).getD a7.toNat 0))<i2)then ak (di .i64 (dk+1))<|nx ((Int.tdiv r3 ((g8.getD dk.toNat []).getD a7.toNat 0)),(dk+1))else ak (di .i64 (dk+1))<|nx (i2,(dk+1))else dn i2
def qx5(a0:qL1)(a7:Int)(g8:qL2)(b2:Int)(s0:(Int×Int)):Option (Int⊕(Int×Int)):=bt (fun a=>ni a0 a7 g8 b2 a.1 a.2 (fun a' =>some (.next a')) (fun e=>some (.done e)) (fun r=>some (.ret r))) s0
def jbn:Shp:=⟨[jk4,jlx,j3v,(34, .d true qT2),(35, .d true qT0),j6x],[]⟩
def jbm:Shp:=⟨[j3v],[]⟩
def qck(aa:b8)(a0:qL1)(a7:Int):Option (Int×Int):=bnd (qf2 aa a0) fun r1=>bif (!r1)then some (0,1)else bif decide (a7<0)then some (0,2)else bif decide (aa.1≤a7)then some (0,2)else bnd (qit aa) fun r2=>bif (!decide (r2.2=0))then some (0,r2.2)else bnd (qx5 a0 a7 r2.1 (r2.1.length:Int) ((-1),0)) fun oe4=>lk oe4 (fun e4=>bif decide (e4<0)then some (0,30)else some (e4,0)) (fun r=>some r)
def uf{R:Type}(a0:qL1)(cw:Bool)(hr h6 n6 cy ap:Int)(k2:qL2)(nd b4:Int)(b5:(List ah))(b6 cb:Int)(c2:qL2)(c4:(List ar))(c3:Bool)(l4 kp:Int)(nx:(Int×Int)→Option R)(dn:Int→Option R)(rt:Bool→Option R):Option R:=bif decide (kp<nd)then ak (ix kp k2.length)<|ak (ix kp k2.length)<|ak (ix hr (k2.getD kp.toNat []).length)<|ak (ix hr (k2.getD kp.toNat []).length)<|ak (di .i64 (kp+1))<|nx ((max l4 ((k2.getD kp.toNat []).getD hr.toNat 0)),(kp+1))else dn l4
def qpn(a0:qL1)(cw:Bool)(hr h6 n6 cy ap:Int)(k2:qL2)(nd b4:Int)(b5:(List ah))(b6 cb:Int)(c2:qL2)(c4:(List ar))(c3:Bool)(s0:(Int×Int)):Option (Int⊕Bool):=bt (fun a=>uf a0 cw hr h6 n6 cy ap k2 nd b4 b5 b6 cb c2 c4 c3 a.1 a.2 (fun a' =>some (.next a')) (fun e=>some (.done e)) (fun r=>some (.ret r))) s0
def q24:Shp:=⟨[q6n,jms,j2w,jvb,j3v,jxt,jre,jnu,j3x,j3y,(88, .d true qT2),(89, .d true qT0),(90, .d true qT0)],[qkf,qfw]⟩
def q23:Shp:=⟨[q6n,jms,j2w,jvb,j3v,jxt,jre,jnu,j3x,j3y],[qkf,qfw]⟩
def qmd{R:Type}(a0:qL1)(cw:Bool)(hr h6 cy ap:Int)(f0:Bool)(b4:Int)(b5:(List ah))(b6 cb:Int)(c2:qL2)(c4:(List ar))(c3:Bool)(dn:Unit→Option R)(rt:Bool→Option R):Option R:=bif f0 then rt false else dn ()
def cp(a0:qL1)(cw:Bool)(hr h6 cy ap:Int)(f0:Bool)(b4:Int)(b5:(List ah))(b6 cb:Int)(c2:qL2)(c4:(List ar))(c3:Bool):Option (Unit⊕Bool):=qmd a0 cw hr h6 cy ap f0 b4 b5 b6 cb c2 c4 c3 (fun e=>some (.inl e)) (fun r=>some (.inr r))
def q28:Shp:=⟨[q6n,jms,j2w,jvb,j3v,jxt,j3x,j3y,(127, .d true .bool)],[qkf,qfw]⟩
def q27:Shp:=⟨[q6n,jms,j2w,jvb,j3v,jxt,j3x,j3y],[qkf,qfw]⟩
def qda{R:Type}(a0:qL1)(cw:Bool)(hr h6 cy ap b4:Int)(b5:(List ah))(b6 cb:Int)(c2:qL2)(c4:(List ar))(c3:Bool)(dn:Unit→Option R)(rt:Bool→Option R):Option R:=bnd (qck (b4,b5,b6,cb,()) a0 hr) fun r10=>bif decide (r10.2=0)then bif decide (h6=(-1))then rt false else bif decide (r10.1<h6)then rt false else dn ()else dn ()
def cg(a0:qL1)(cw:Bool)(hr h6 cy ap b4:Int)(b5:(List ah))(b6 cb:Int)(c2:qL2)(c4:(List ar))(c3:Bool):Option (Unit⊕Bool):=qda a0 cw hr h6 cy ap b4 b5 b6 cb c2 c4 c3 (fun e=>some (.inl e)) (fun r=>some (.inr r))
def q3a:Shp:=⟨[q6n,jms,j2w,jvb,j3v,jxt,j3x,j3y],[qkf,qfw]⟩
def q29:Shp:=⟨[q6n,jms,j2w,jvb,j3x,j3y],[qkf,qfw]⟩
def ij{R:Type}(a0:qL1)(cw:Bool)(cy b4:Int)(b5:(List ah))(b6 cb:Int)(c2:qL2)(c4:(List ar))(c3:Bool)(ap:Int)(nx:Int→Option R)(dn:Unit→Option R)(rt:Bool→Option R):Option R:=bif decide (ap<cy)then bnd (xy (b4,b5,b6,cb,()) a0 ap 300) fun r7=>bnd (qpn a0 cw ap r7.1 r7.2 cy ap c2 (c2.length:Int) b4 b5 b6 cb c2 c4 c3 (0,0)) fun oe8=>lk oe8 (fun e8=>bif (!decide (r7.2=0))then bnd (cp a0 cw ap r7.1 cy ap true b4 b5 b6 cb c2 c4 c3) fun oe9=>lk oe9 (fun e9=>bnd (cg a0 cw ap r7.1 cy ap b4 b5 b6 cb c2 c4 c3) fun oe11=>lk oe11 (fun e11=>ak (di .i64 (ap+1))<|nx (ap+1)) (fun r=>rt r)) (fun r=>rt r)else bif c3 then bif (!decide (r7.1=e8))then bnd (cp a0 cw ap r7.1 cy ap true b4 b5 b6 cb c2 c4 c3) fun oe12=>lk oe12 (fun e12=>bnd (cg a0 cw ap r7.1 cy ap b4 b5 b6 cb c2 c4 c3) fun oe13=>lk oe13 (fun e13=>ak (di .i64 (ap+1))<|nx (ap+1)) (fun r=>rt r)) (fun r=>rt r)else bif (!decide (r7.1=(-1)))then bif decide (r7.1<e8)then bnd (cp a0 cw ap r7.1 cy ap true b4 b5 b6 cb c2 c4 c3) fun oe14=>lk oe14 (fun e14=>bnd (cg a0 cw ap r7.1 cy ap b4 b5 b6 cb c2 c4 c3) fun oe15=>lk oe15 (fun e15=>ak (di .i64 (ap+1))<|nx (ap+1)) (fun r=>rt r)) (fun r=>rt r)else bif cw then bnd (cp a0 cw ap r7.1 cy ap (decide (r7.1=(-1))) b4 b5 b6 cb c2 c4 c3) fun oe16=>lk oe16 (fun e16=>bnd (cg a0 cw ap r7.1 cy ap b4 b5 b6 cb c2 c4 c3) fun oe17=>lk oe17 (fun e17=>ak (di .i64 (ap+1))<|nx (ap+1)) (fun r=>rt r)) (fun r=>rt r)else bnd (cp a0 cw ap r7.1 cy ap false b4 b5 b6 cb c2 c4 c3) fun oe18=>lk oe18 (fun e18=>bnd (cg a0 cw ap r7.1 cy ap b4 b5 b6 cb c2 c4 c3) fun oe19=>lk oe19 (fun e19=>ak (di .i64 (ap+1))<|nx (ap+1)) (fun r=>rt r)) (fun r=>rt r)else bif cw then bnd (cp a0 cw ap r7.1 cy ap (decide (r7.1=(-1))) b4 b5 b6 cb c2 c4 c3) fun oe20=>lk oe20 (fun e20=>bnd (cg a0 cw ap r7.1 cy ap b4 b5 b6 cb c2 c4 c3) fun oe21=>lk oe21 (fun e21=>ak (di .i64 (ap+1))<|nx (ap+1)) (fun r=>rt r)) (fun r=>rt r)else bnd (cp a0 cw ap r7.1 cy ap false b4 b5 b6 cb c2 c4 c3) fun oe22=>lk oe22 (fun e22=>bnd (cg a0 cw ap r7.1 cy ap b4 b5 b6 cb c2 c4 c3) fun oe23=>lk oe23 (fun e23=>ak (di .i64 (ap+1))<|nx (ap+1)) (fun r=>rt r)) (fun r=>rt r)else bif (!decide (r7.1=(-1)))then bif decide (r7.1<e8)then bnd (cp a0 cw ap r7.1 cy ap true b4 b5 b6 cb c2 c4 c3) fun oe24=>lk oe24 (fun e24=>bnd (cg a0 cw ap r7.1 cy ap b4 b5 b6 cb c2 c4 c3) fun oe25=>lk oe25 (fun e25=>ak (di .i64 (ap+1))<|nx (ap+1)) (fun r=>rt r)) (fun r=>rt r)else bif cw then bnd (cp a0 cw ap r7.1 cy ap (decide (r7.1=(-1))) b4 b5 b6 cb c2 c4 c3) fun oe26=>lk oe26 (fun e26=>bnd (cg a0 cw ap r7.1 cy ap b4 b5 b6 cb c2 c4 c3) fun oe27=>lk oe27 (fun e27=>ak (di .i64 (ap+1))<|nx (ap+1)) (fun r=>rt r)) (fun r=>rt r)else bnd (cp a0 cw ap r7.1 cy ap false b4 b5 b6 cb c2 c4 c3) fun oe28=>lk oe28 (fun e28=>bnd (cg a0 cw ap r7.1 cy ap b4 b5 b6 cb c2 c4 c3) fun oe29=>lk oe29 (fun e29=>ak (di .i64 (ap+1))<|nx (ap+1)) (fun r=>rt r)) (fun r=>rt r)else bif cw then bnd (cp a0 cw ap r7.1 cy ap (decide (r7.1=(-1))) b4 b5 b6 cb c2 c4 c3) fun oe30=>lk oe30 (fun e30=>bnd (cg a0 cw ap r7.1 cy ap b4 b5 b6 cb c2 c4 c3) fun oe31=>lk oe31 (fun e31=>ak (di .i64 (ap+1))<|nx (ap+1)) (fun r=>rt r)) (fun r=>rt r)else bnd (cp a0 cw ap r7.1 cy ap false b4 b5 b6 cb c2 c4 c3) fun oe32=>lk oe32 (fun e32=>bnd (cg a0 cw ap r7.1 cy ap b4 b5 b6 cb c2 c4 c3) fun oe33=>lk oe33 (fun e33=>ak (di .i64 (ap+1))<|nx (ap+1)) (fun r=>rt r)) (fun r=>rt r)) (fun r=>rt r)else dn ()
def qpo(a0:qL1)(cw:Bool)(cy b4:Int)(b5:(List ah))(b6 cb:Int)(c2:qL2)(c4:(List ar))(c3:Bool)(s0:Int):Option (Unit⊕Bool):=bt (fun a=>ij a0 cw cy b4 b5 b6 cb c2 c4 c3 a (fun a' =>some (.next a')) (fun e=>some (.done e)) (fun r=>some (.ret r))) s0
def q26:Shp:=⟨[q6n,jms,j2w,jvb,j3x,j3y],[qkf,qfw]⟩
def q25:Shp:=⟨[],[]⟩
def qdb{R:Type}(a0:qL1)(cw:Bool)(b4:Int)(b5:(List ah))(b6 cb:Int)(c2:qL2)(c4:(List ar))(c3:Bool)(dn:Unit→Option R)(rt:Bool→Option R):Option R:=bnd (qpo a0 cw b4 b4 b5 b6 cb c2 c4 c3 0) fun oe34=>lk oe34 (fun e34=>rt true) (fun r=>rt r)
def ly(a0:qL1)(cw:Bool)(b4:Int)(b5:(List ah))(b6 cb:Int)(c2:qL2)(c4:(List ar))(c3:Bool):Option (Unit⊕Bool):=qdb a0 cw b4 b5 b6 cb c2 c4 c3 (fun e=>some (.inl e)) (fun r=>some (.inr r))
def q3c:Shp:=⟨[q6n,jms,j2w,jvb],[qkf,qfw]⟩
def q3b:Shp:=⟨[],[]⟩
def qkc(aa:b8)(a0:qL1):Option Bool:=bnd (qhy) fun r1=>bif (!r1)then some false else bnd (qf8 aa) fun r2=>bif (!r2)then some true else bif decide ((20:Int)<(a0.length:Int))then some true else bnd (qds aa a0 60) fun r3=>bif (!decide (r3.2=0))then bif decide (r3.2=1)then some true else some (decide (r3.2=13))else bnd (db r3.1.1 aa) fun r4=>bif r4 then some false else bnd (qdf aa a0 300) fun r5=>bif (!decide (r5.2.2=0))then bif decide (r5.2.2=13)then some (!r3.1.2.2.1)else some false else bnd (jz aa a0 r5.2.1) fun r6=>bif (!r6)then some false else bif r3.1.2.2.1 then bif (!r5.1)then some false else bnd (ly a0 r5.1 aa.1 aa.2.1 aa.2.2.1 aa.2.2.2.1 r3.1.1 r3.1.2.1 r3.1.2.2.1) fun oe35=>lk oe35 (fun e35=>none) (fun r=>some r)else bnd (ly a0 r5.1 aa.1 aa.2.1 aa.2.2.1 aa.2.2.2.1 r3.1.1 r3.1.2.1 r3.1.2.2.1) fun oe36=>lk oe36 (fun e36=>none) (fun r=>some r)
end
end Go.Proofs.YtemahcdcacmgdaaGreatDoor
