/-
  What the functions compute, as plain functions of Lean. Made by program (mg3.py) out of the translation.
-/
import Derived.Test.YtdhfhpdadbopkaaZ3KE
set_option linter.all false
set_option maxRecDepth 100000
namespace Go.Proofs.Ytdhfhpdadbopkaa
open Go.K Go.M
abbrev qL1:Type:=List Int
abbrev qL2:Type:=List (List Int)
abbrev qT0:Ty:=.int .i64
abbrev qT1:Ty:=.slice qT0
abbrev qT2:Ty:=.slice qT1
abbrev ae:Type:=ByteArray×qL1×qL1×Unit
abbrev ae.z:ae:=(⟨#[]⟩,[],[],())
def ae.ty:Ty:= .struct (.cons .str (.cons qT1 (.cons qT1 .nil)))
abbrev a8:Type:=Int×(List ae)×Int×Int×Unit
abbrev a8.z:a8:=(0,[],0,0,())
def a8.ty:Ty:= .struct (.cons qT0 (.cons (.slice ae.ty) (.cons qT0 (.cons qT0 .nil))))
abbrev af:Type:=Int×qL1×qL1×Unit
abbrev af.z:af:=(0,[],[],())
def af.ty:Ty:= .struct (.cons qT0 (.cons qT1 (.cons qT1 .nil)))
abbrev ag:Type:=Int×qL1×Unit
abbrev ag.z:ag:=(0,[],())
def ag.ty:Ty:= .struct (.cons qT0 (.cons qT1 .nil))
abbrev ab:Type:=qL1×qL1×Unit
abbrev ab.z:ab:=([],[],())
def ab.ty:Ty:= .struct (.cons qT1 (.cons qT1 .nil))
abbrev du:Type:=qL1×qL1×(List ab)×Unit
abbrev du.z:du:=([],[],[],())
def du.ty:Ty:= .struct (.cons qT1 (.cons qT1 (.cons (.slice ab.ty) .nil)))
abbrev qbq:Hs:=.cs 24 4 1 (.cons (.d true qT0) (.cons (.d false (.slice ae.ty)) (.cons (.d true qT0) (.cons (.d true qT0) .nil))))
abbrev qd8:Hs:=.arr 25 (.fz true) [3] qT1
abbrev qkh:Hs:=.cs 24 4 1 (.cons (.d true qT0) (.cons (.d true (.slice ae.ty)) (.cons (.d true qT0) (.cons (.d true qT0) .nil))))
abbrev qkr:Nat×Sh:=(0, .d true .bool)
abbrev qln:Hs:=.cs 28 3 1 (.cons (.d true qT1) (.cons (.d true qT1) (.cons (.d true (.slice ab.ty)) .nil)))
abbrev qnu:Hs:=.cs 116 1 1 (.cons (.mp 2) .nil)
abbrev qoc:Hs:=.mp .str .bool
abbrev qp2:Hs:=.arr 48 (.fz true) [3,3] ab.ty
abbrev qqc:Hs:=.cs 45 1 1 (.cons (.fn 82 (.cons (.ptr 1) .nil)) .nil)
abbrev qs8:Hs:=.cs 45 1 1 (.cons (.fn 96 (.cons (.ptr 1) .nil)) .nil)
abbrev qtg:Hs:=.arr 3 (.fz true) [0] qT0
abbrev qth:Hs:=.arr 92 (.fz true) [0,3,3] af.ty
abbrev qup:Hs:=.arr 4 (.fz true) [0] .bool
abbrev qur:Hs:=.cs 116 1 1 (.cons (.mp 1) .nil)
abbrev qu2:Nat×Sh:=(0, .d true qT0)
abbrev qvp:Hs:=.cs 24 4 1 (.cons (.d true qT0) (.cons (.own 2) (.cons (.d true qT0) (.cons (.d true qT0) .nil))))
abbrev qws:Nat×Sh:=(7, .d true qT0)
abbrev qxy:Nat×Sh:=(8, .d true qT0)
abbrev qx1:Nat×Sh:=(0, .d false (.slice ab.ty))
abbrev q2p:Nat×Sh:=(10, .fn 95 (.cons (.ptr 3) (.cons (.ptr 2) .nil)))
abbrev q2q:Nat×Sh:=(1, .fn 107 (.cons (.rp false a8.ty) (.cons (.rp false .str) (.cons (.ptr 0) (.cons (.rp false ag.ty) .nil)))))
abbrev q3k:Hs:=.cs 43 3 1 (.cons (.d true .str) (.cons (.d false qT1) (.cons (.d false qT1) .nil)))
abbrev q5t:Hs:=.cs 45 1 1 (.cons (.fn 96 (.cons (.ptr 2) .nil)) .nil)
abbrev q8m:Hs:=.cs 133 1 1 (.cons (.own 3) .nil)
abbrev q9n:Hs:=.cs 28 3 1 (.cons (.d true qT1) (.cons (.d true qT1) (.cons (.own 2) .nil)))
abbrev q9o:Hs:=.cs 116 1 1 (.cons (.mp 3) .nil)
abbrev jb7:Hs:=.cs 116 1 1 (.cons (.mp 5) .nil)
abbrev jb8:Hs:=.cs 38 1 1 (.cons (.own 4) .nil)
abbrev jb9:Nat×Sh:=(0, .own 0)
abbrev jcb:Nat×Sh:=(1, .d true qT0)
abbrev jcg:Nat×Sh:=(2, .d true qT0)
abbrev jd7:Nat×Sh:=(6, .d true qT0)
abbrev jd8:Hs:=.arr 43 (.fz true) [0,3,3] ae.ty
abbrev jeb:Hs:=.cs 116 1 1 (.cons (.mp 6) .nil)
abbrev jgo:Hs:=.arr 9 (.fz true) [0] .str
abbrev jg8:Hs:=.arr 129 (.fz true) [0,3] ag.ty
abbrev jjg:Nat×Sh:=(0, .d false qT1)
abbrev jjr:Nat×Sh:=(3, .ptr 0)
abbrev jjs:Nat×Sh:=(5, .d true qT0)
abbrev jjt:Hs:=.cs 25 1 1 (.cons (.d true qT1) .nil)
abbrev jom:Hs:=.cs 45 1 1 (.cons (.fn 82 (.cons (.ptr 0) .nil)) .nil)
abbrev jqk:Hs:=.cs 45 1 1 (.cons (.fn 96 (.cons (.ptr 0) .nil)) .nil)
abbrev jqn:Nat×Sh:=(1, .d false (.slice .str))
abbrev jqo:Nat×Sh:=(2, .ptr 0)
abbrev jqp:Nat×Sh:=(1, .fn 66 (.cons (.rp false (.slice .str)) .nil))
abbrev jqq:Nat×Sh:=(15, .nl false (.d true (.slice ag.ty)))
abbrev jqr:Nat×Sh:=(58, .nl false (.d true (.slice ag.ty)))
abbrev jqs:Nat×Sh:=(2, .d true .bool)
abbrev jqt:Nat×Sh:=(29, .d false (.slice ae.ty))
abbrev jqu:Nat×Sh:=(0, .d true .str)
abbrev jqv:Nat×Sh:=(1, .d false qT1)
abbrev jqw:Nat×Sh:=(12, .d true qT0)
abbrev jqx:Nat×Sh:=(13, .d true qT0)
abbrev jqy:Nat×Sh:=(20, .d true qT0)
abbrev jra:Nat×Sh:=(1, .ptr 0)
abbrev jrb:Nat×Sh:=(10, .d true .bool)
abbrev jrc:Nat×Sh:=(2, .d false (.slice ab.ty))
abbrev jtm:Nat×Sh:=(9, .nl false (.own 4))
abbrev jto:Nat×Sh:=(3, .d true qT0)
abbrev jtp:Nat×Sh:=(13, .d true (.slice af.ty))
abbrev jtq:Nat×Sh:=(15, .d true qT0)
abbrev jtr:Nat×Sh:=(21, .d true qT0)
abbrev jts:Nat×Sh:=(0, .d false (.slice ag.ty))
abbrev jtt:Nat×Sh:=(0, .d true qT1)
abbrev jtu:Nat×Sh:=(5, .own 1)
abbrev jtv:Nat×Sh:=(0, .nl false (.own 0))
abbrev jtw:Nat×Sh:=(6, .nl false (.own 0))
abbrev jtx:Nat×Sh:=(7, .nl false (.own 1))
abbrev jty:Nat×Sh:=(14, .d true qT0)
abbrev jtz:Nat×Sh:=(2, .d false qT1)
abbrev jt0:Nat×Sh:=(3, .d false qT1)
abbrev jt1:Nat×Sh:=(30, .d true qT0)
abbrev jt2:Nat×Sh:=(8, .ptr 0)
abbrev jt3:Nat×Sh:=(3, .ptr 1)
abbrev jt4:Nat×Sh:=(9, .own 2)
abbrev jt5:Nat×Sh:=(1, .d true .bool)
abbrev jt6:Nat×Sh:=(10, .ptr 5)
abbrev jt7:Nat×Sh:=(13, .d false qT2)
abbrev jt8:Nat×Sh:=(0, .d false qT2)
abbrev jt9:Nat×Sh:=(19, .d true qT0)
abbrev jua:Nat×Sh:=(2, .d true .str)
abbrev jub:Nat×Sh:=(22, .d true qT0)
abbrev juc:Nat×Sh:=(31, .d true qT0)
abbrev jud:Nat×Sh:=(4, .ptr 2)
abbrev jue:Nat×Sh:=(5, .ptr 3)
abbrev juf:Nat×Sh:=(8, .ptr 1)
abbrev jug:Nat×Sh:=(9, .ptr 2)
abbrev juh:Nat×Sh:=(3, .d true qT1)
abbrev jui:Nat×Sh:=(4, .d true qT1)
abbrev juj:Nat×Sh:=(4, .ptr 0)
abbrev juk:Nat×Sh:=(5, .ptr 1)
abbrev jul:Nat×Sh:=(5, .ptr 2)
abbrev jum:Nat×Sh:=(6, .ptr 3)
abbrev jun:Nat×Sh:=(9, .ptr 4)
def qlt{R:Type}(h6:ByteArray)(d0:(List ByteArray))(gt h4:Int)(kn:(List ae))(hi py pm ps pv gd:Int)(nf:(List ae))(nx:(Int×(List ae))→Option R)(dn:(List ae)→Option R)(rt:a8→Option R):Option R:=bif decide (gd<gt)then aq (ix gd d0.length)<|aq (ix gd d0.length)<|aq (fm .i64 (gd+1))<|aq (room (nf.length+1) 64)<|aq (fm .i64 (gd+1))<|nx ((gd+1),(nf++[((d0.getD gd.toNat ⟨#[]⟩),[gd],[(gd+1)],())]))else dn nf
def q1f(h6:ByteArray)(d0:(List ByteArray))(gt h4:Int)(kn:(List ae))(hi py pm ps pv:Int)(s0:(Int×(List ae))):Option ((List ae)⊕a8):=bi (fun a=>qlt h6 d0 gt h4 kn hi py pm ps pv a.1 a.2 (fun a' =>some (.next a')) (fun e=>some (.done e)) (fun r=>some (.ret r))) s0
def qx8:Shp:=⟨[jqu,juj,juk,(14, .d false (.slice .str)),jtq,(16, .d true qT0)],[qkh,qvp,jd8]⟩
def qx7:Shp:=⟨[jqu,juj,juk],[qkh,qvp,jd8]⟩
def qmv(h6:ByteArray)(ej:(List ByteArray)):Option a8:=aq (fm .i64 ((ej.length:Int)+1))<|bnd (q1f h6 ej (ej.length:Int) 0 [] 0 0 ((ej.length:Int)+1) 0 (ej.length:Int) (0,[])) fun oe1=>lk oe1 (fun e1=>bif (!(ByteArray.toList h6==ByteArray.toList ⟨#[]⟩))then aq (fm .i64 ((ej.length:Int)-1))<|aq (room (e1.length+1) 64)<|some (((ej.length:Int)+1),(e1++[(h6,[((ej.length:Int)-1)],[(ej.length:Int)],())]),0,(ej.length:Int),())else some (((ej.length:Int)+1),e1,0,(ej.length:Int),())) (fun r=>some r)
def qae(gx:Int):Option Bool:=bif decide ((65:Int)≤gx)then bif decide (gx≤90)then some true else bif decide ((97:Int)≤gx)then some (decide (gx≤122))else some false else bif decide ((97:Int)≤gx)then some (decide (gx≤122))else some false
def qkn(gx:Int):Option Bool:=bnd (qae gx) fun r1=>bif r1 then some true else bif decide ((48:Int)≤gx)then bif decide (gx≤57)then some true else bif decide (gx=95)then some true else bif decide (gx=45)then some true else some (decide (gx=46))else bif decide (gx=95)then some true else bif decide (gx=45)then some true else some (decide (gx=46))
def ql{R:Type}(aa:ByteArray)(ev a6:Int)(nx:Int→Option R)(dn:Unit→Option R)(rt:Bool→Option R):Option R:=bif decide (a6<ev)then aq (ix a6 (ByteArray.size aa))<|bnd (qkn (((ByteArray.data aa).getD a6.toNat 0).toNat:Int)) fun r2=>bif (!r2)then rt false else aq (fm .i64 (a6+1))<|nx (a6+1)else dn ()
def qlz(aa:ByteArray)(ev s0:Int):Option (Unit⊕Bool):=bi (fun a=>ql aa ev a (fun a' =>some (.next a')) (fun e=>some (.done e)) (fun r=>some (.ret r))) s0
def qwn:Shp:=⟨[jqu,jt9,jqy],[]⟩
def qwm:Shp:=⟨[],[]⟩
def qdy(aa:ByteArray):Option Bool:=bif decide ((ByteArray.size aa:Int)<1)then some false else bif decide ((40:Int)<(ByteArray.size aa:Int))then some false else aq (ix 0 (ByteArray.size aa))<|bnd (qae (((ByteArray.data aa).getD 0 0).toNat:Int)) fun r1=>bif (!r1)then some false else bnd (qlz aa (ByteArray.size aa:Int) 0) fun oe3=>lk oe3 (fun e3=>some true) (fun r=>some r)
def l3{R:Type}(eg a1:qL1)(ap c6:Int)(a5:(List ae))(dd dt hz:Int)(nx:Int→Option R)(dn:Unit→Option R)(rt:Bool→Option R):Option R:=bif decide (hz<ap)then aq (ix hz a1.length)<|aq (ix hz a1.length)<|bif decide ((a1.getD hz.toNat 0)<0)then rt false else bif decide (c6≤(a1.getD hz.toNat 0))then rt false else bif decide ((0:Int)<hz)then aq (fm .i64 (hz-1))<|aq (ix (hz-1) eg.length)<|aq (ix (hz-1) eg.length)<|bif decide ((a1.getD hz.toNat 0)≤(eg.getD (hz-1).toNat 0))then rt false else aq (fm .i64 (hz+1))<|nx (hz+1)else aq (fm .i64 (hz+1))<|nx (hz+1)else dn ()
def qjz(eg a1:qL1)(ap c6:Int)(a5:(List ae))(dd dt s0:Int):Option (Unit⊕Bool):=bi (fun a=>l3 eg a1 ap c6 a5 dd dt a (fun a' =>some (.next a')) (fun e=>some (.done e)) (fun r=>some (.ret r))) s0
def qt7:Shp:=⟨[jqv,jqo,(7, .d false qT1),qxy,(9, .d true qT0)],[qbq]⟩
def qt6:Shp:=⟨[],[]⟩
def jz(ad:a8)(eg:qL1):Option Bool:=bnd (qjz eg eg (eg.length:Int) ad.1 ad.2.1 ad.2.2.1 ad.2.2.2.1 0) fun oe1=>lk oe1 (fun e1=>some true) (fun r=>some r)
def wn{R:Type}(a6:(List ae))(dw c1:Int)(a4:(List ae))(c4 c5 b5:Int)(nx:Int→Option R)(dn:Unit→Option R)(rt:Bool→Option R):Option R:=bif decide (b5<dw)then aq (ix b5 a6.length)<|aq (ix b5 a6.length)<|bif (!(ByteArray.toList (a6.getD b5.toNat ae.z).1==ByteArray.toList ⟨#[]⟩))then bnd (qdy (a6.getD b5.toNat ae.z).1) fun r1=>bif (!r1)then rt false else bnd (jz (c1,a4,c4,c5,()) (a6.getD b5.toNat ae.z).2.1) fun r2=>bif (!r2)then rt false else bnd (jz (c1,a4,c4,c5,()) (a6.getD b5.toNat ae.z).2.2.1) fun r3=>bif (!r3)then rt false else aq (fm .i64 (b5+1))<|nx (b5+1)else bnd (jz (c1,a4,c4,c5,()) (a6.getD b5.toNat ae.z).2.1) fun r4=>bif (!r4)then rt false else bnd (jz (c1,a4,c4,c5,()) (a6.getD b5.toNat ae.z).2.2.1) fun r5=>bif (!r5)then rt false else aq (fm .i64 (b5+1))<|nx (b5+1)else dn ()
def ql5(a6:(List ae))(dw c1:Int)(a4:(List ae))(c4 c5 s0:Int):Option (Unit⊕Bool):=bi (fun a=>wn a6 dw c1 a4 c4 c5 a (fun a' =>some (.next a')) (fun e=>some (.done e)) (fun r=>some (.ret r))) s0
def qw1:Shp:=⟨[jra,(20, .d false (.slice ae.ty)),jtr,jub],[qbq]⟩
def qw0:Shp:=⟨[jra],[qbq]⟩
def qn(ad:a8):Option Bool:=bif decide (ad.1<1)then some false else bif decide ((40:Int)<ad.1)then some false else bif decide ((60:Int)<(ad.2.1.length:Int))then some false else bnd (ql5 ad.2.1 (ad.2.1.length:Int) ad.1 ad.2.1 ad.2.2.1 ad.2.2.2.1 0) fun oe6=>lk oe6 (fun e6=>bnd (jz ad [ad.2.2.1]) fun r7=>bif r7 then bnd (jz ad [ad.2.2.2.1]) fun r8=>some r8 else some false) (fun r=>some r)
def jb{R:Type}(aa:qL1)(hw a1 ap:Int)(nx:Int→Option R)(dn:Unit→Option R)(rt:Int→Option R):Option R:=bif decide (ap<a1)then aq (ix ap aa.length)<|aq (ix ap aa.length)<|bif decide (hw=(aa.getD ap.toNat 0))then rt ap else aq (fm .i64 (ap+1))<|nx (ap+1)else dn ()
def xl(aa:qL1)(hw a1 s0:Int):Option (Unit⊕Int):=bi (fun a=>jb aa hw a1 a (fun a' =>some (.next a')) (fun e=>some (.done e)) (fun r=>some (.ret r))) s0
def qf8:Shp:=⟨[jjg,jcb,qws,qxy],[]⟩
def qf7:Shp:=⟨[],[]⟩
def qu(aa:qL1)(hw:Int):Option Int:=bnd (xl aa hw (aa.length:Int) 0) fun oe1=>lk oe1 (fun e1=>some (-1)) (fun r=>some r)
def fu(aa:qL1)(hw:Int):Option Bool:=bnd (qu aa hw) fun r1=>some (decide ((0:Int)≤r1))
def t8(f4:Int)(cy:(List Bool)):Option Bool:=aq (ix 0 1)<|aq (ix f4 cy.length)<|aq (ix f4 cy.length)<|some (cy.getD f4.toNat false)
def d8{R:Type}(aa:qL1)(f_1c0:(List Bool))(a1 ap:Int)(nx:Int→Option R)(dn:Unit→Option R)(rt:Int→Option R):Option R:=bif decide (ap<a1)then aq (ix ap aa.length)<|aq (ix ap aa.length)<|bnd (t8 (aa.getD ap.toNat 0) f_1c0) fun r1=>bif r1 then rt ap else aq (fm .i64 (ap+1))<|nx (ap+1)else dn ()
def np(aa:qL1)(f_1c0:(List Bool))(a1 s0:Int):Option (Unit⊕Int):=bi (fun a=>d8 aa f_1c0 a1 a (fun a' =>some (.next a')) (fun e=>some (.done e)) (fun r=>some (.ret r))) s0
def x4:Shp:=⟨[jjg,(1, .fn 116 (.cons (.rp false (.slice .bool)) .nil)),qws,qxy],[]⟩
def x3:Shp:=⟨[],[]⟩
def jg(aa:qL1)(f_1c0:(List Bool)):Option Int:=bnd (np aa f_1c0 (aa.length:Int) 0) fun oe2=>lk oe2 (fun e2=>some (-1)) (fun r=>some r)
def ck(aa:qL1)(f_1c0:(List Bool)):Option Bool:=bnd (jg aa f_1c0) fun r1=>some (decide ((0:Int)≤r1))
def rj{R:Type}(et ei:Bool)(gj:(List ae))(gw bo:Int)(hb:qL1)(n3 bd:Int)(a3:(List ae))(be bf:Int)(a9:(List Bool))(b6:Int)(c3:(List Bool))(nx:(Int×(List Bool))→Option R)(dn:(List Bool)→Option R)(rt:((List Bool)×(List Bool))→Option R):Option R:=bif decide (b6<n3)then aq (ix b6 hb.length)<|aq (ix b6 hb.length)<|aq (ix (hb.getD b6.toNat 0) c3.length)<|aq (ix (hb.getD b6.toNat 0) c3.length)<|aq (fm .i64 (b6+1))<|nx ((b6+1),(c3.set (hb.getD b6.toNat 0).toNat true))else dn c3
def qa6(et ei:Bool)(gj:(List ae))(gw bo:Int)(hb:qL1)(n3 bd:Int)(a3:(List ae))(be bf:Int)(a9:(List Bool))(s0:(Int×(List Bool))):Option ((List Bool)⊕((List Bool)×(List Bool))):=bi (fun a=>rj et ei gj gw bo hb n3 bd a3 be bf a9 a.1 a.2 (fun a' =>some (.next a')) (fun e=>some (.done e)) (fun r=>some (.ret r))) s0
def qrq:Shp:=⟨[jqs,jjr,juf,jt4,jrb,jqt,jt1,juc,(56, .d false qT1),(57, .d true qT0),(58, .d true qT0)],[qbq,q8m,qup,qup]⟩
def qrp:Shp:=⟨[jqs,jjr,juf,jt4,jrb,jqt,jt1,juc],[qbq,q8m,qup,qup]⟩
def fp{R:Type}(et:Bool)(gj:(List ae))(gw bd:Int)(a3:(List ae))(be bf:Int)(ei:Bool)(bo:Int)(a9 c3:(List Bool))(nx:(Bool×Int×(List Bool)×(List Bool))→Option R)(dn:(Bool×(List Bool)×(List Bool))→Option R)(rt:((List Bool)×(List Bool))→Option R):Option R:=bif decide (bo<gw)then aq (ix bo gj.length)<|aq (ix bo gj.length)<|bif et then aq (ix bo a9.length)<|aq (ix bo a9.length)<|bif (a9.getD bo.toNat false)then aq (fm .i64 (bo+1))<|nx (ei,(bo+1),a9,c3)else bnd (ck (gj.getD bo.toNat ae.z).2.2.1 c3) fun r1=>bif (!r1)then aq (fm .i64 (bo+1))<|nx (ei,(bo+1),a9,c3)else aq (ix bo a9.length)<|aq (ix bo a9.length)<|bnd (qa6 et true gj gw bo (gj.getD bo.toNat ae.z).2.1 ((gj.getD bo.toNat ae.z).2.1.length:Int) bd a3 be bf (a9.set bo.toNat true) (0,c3)) fun oe2=>lk oe2 (fun e2=>aq (fm .i64 (bo+1))<|nx (true,(bo+1),(a9.set bo.toNat true),e2)) (fun r=>rt r)else aq (ix bo a9.length)<|aq (ix bo a9.length)<|bif (a9.getD bo.toNat false)then aq (fm .i64 (bo+1))<|nx (ei,(bo+1),a9,c3)else bnd (ck (gj.getD bo.toNat ae.z).2.1 c3) fun r3=>bif (!r3)then aq (fm .i64 (bo+1))<|nx (ei,(bo+1),a9,c3)else aq (ix bo a9.length)<|aq (ix bo a9.length)<|bnd (qa6 et true gj gw bo (gj.getD bo.toNat ae.z).2.2.1 ((gj.getD bo.toNat ae.z).2.2.1.length:Int) bd a3 be bf (a9.set bo.toNat true) (0,c3)) fun oe4=>lk oe4 (fun e4=>aq (fm .i64 (bo+1))<|nx (true,(bo+1),(a9.set bo.toNat true),e4)) (fun r=>rt r)else dn (ei,a9,c3)
def qa7(et:Bool)(gj:(List ae))(gw bd:Int)(a3:(List ae))(be bf:Int)(s0:(Bool×Int×(List Bool)×(List Bool))):Option ((Bool×(List Bool)×(List Bool))⊕((List Bool)×(List Bool))):=bi (fun a=>fp et gj gw bd a3 be bf a.1 a.2.1 a.2.2.1 a.2.2.2 (fun a' =>some (.next a')) (fun e=>some (.done e)) (fun r=>some (.ret r))) s0
def qrs:Shp:=⟨[jqs,jjr,juf,jt4,jrb,jqt,jt1,juc],[qbq,q8m,qup,qup]⟩
def qrr:Shp:=⟨[jqs,jjr,juf,jt4,jrb],[qbq,q8m,qup,qup]⟩
def yp{R:Type}(et:Bool)(bd:Int)(a3:(List ae))(be bf:Int)(ei:Bool)(a9 c3:(List Bool))(nx:(Bool×(List Bool)×(List Bool))→Option R)(dn rt:((List Bool)×(List Bool))→Option R):Option R:=bif ei then bnd (qa7 et a3 (a3.length:Int) bd a3 be bf (false,0,a9,c3)) fun oe5=>lk oe5 (fun e5=>nx (e5.1,e5.2.1,e5.2.2)) (fun r=>rt r)else dn (a9,c3)
def qhy(et:Bool)(bd:Int)(a3:(List ae))(be bf:Int)(s0:(Bool×(List Bool)×(List Bool))):Option (((List Bool)×(List Bool))⊕((List Bool)×(List Bool))):=bi (fun a=>yp et bd a3 be bf a.1 a.2.1 a.2.2 (fun a' =>some (.next a')) (fun e=>some (.done e)) (fun r=>some (.ret r))) s0
def qru:Shp:=⟨[jqs,jjr,juf,jt4,jrb],[qbq,q8m,qup,qup]⟩
def qrt:Shp:=⟨[jt2,(9, .own 1)],[.cs 133 1 1 (.cons (.own 2) .nil),qup,qup]⟩
def m4(ad:a8)(g5:Int)(et:Bool):Option ((List Bool)×(List Bool)):=aq (qyr ad.1 ad.1 1)<|aq (qyr (ad.2.1.length:Int) (ad.2.1.length:Int) 1)<|aq (ix g5 (List.replicate ad.1.toNat (false:Bool)).length)<|aq (ix g5 (List.replicate ad.1.toNat (false:Bool)).length)<|bnd (qhy et ad.1 ad.2.1 ad.2.2.1 ad.2.2.2.1 (true,(List.replicate (ad.2.1.length:Int).toNat (false:Bool)),((List.replicate ad.1.toNat (false:Bool)).set g5.toNat true))) fun oe6=>lk oe6 (fun e6=>some (e6.2,e6.1)) (fun r=>some r)
def gk{R:Type}(aa:(List Bool))(hw:Bool)(a1 ap:Int)(nx:Int→Option R)(dn:Unit→Option R)(rt:Int→Option R):Option R:=bif decide (ap<a1)then aq (ix ap aa.length)<|aq (ix ap aa.length)<|bif (hw==(aa.getD ap.toNat false))then rt ap else aq (fm .i64 (ap+1))<|nx (ap+1)else dn ()
def tu(aa:(List Bool))(hw:Bool)(a1 s0:Int):Option (Unit⊕Int):=bi (fun a=>gk aa hw a1 a (fun a' =>some (.next a')) (fun e=>some (.done e)) (fun r=>some (.ret r))) s0
def qdh:Shp:=⟨[(0, .d false (.slice .bool)),jt5,qws,qxy],[]⟩
def qdg:Shp:=⟨[],[]⟩
def oy(aa:(List Bool))(hw:Bool):Option Int:=bnd (tu aa hw (aa.length:Int) 0) fun oe1=>lk oe1 (fun e1=>some (-1)) (fun r=>some r)
def bz(aa:(List Bool))(hw:Bool):Option Bool:=bnd (oy aa hw) fun r1=>some (decide ((0:Int)≤r1))
def p9{R:Type}(dw:(List ae))(b5 c1:Int)(a4:(List ae))(c4 c5 h3:Int)(nx:Int→Option R)(dn:Unit→Option R)(rt:Bool→Option R):Option R:=bif decide (h3<b5)then aq (ix h3 dw.length)<|aq (ix h3 dw.length)<|bnd (fu (dw.getD h3.toNat ae.z).2.2.1 c4) fun r2=>bif r2 then rt false else bnd (fu (dw.getD h3.toNat ae.z).2.1 c5) fun r3=>bif r3 then rt false else aq (fm .i64 (h3+1))<|nx (h3+1)else dn ()
def qfm(dw:(List ae))(b5 c1:Int)(a4:(List ae))(c4 c5 s0:Int):Option (Unit⊕Bool):=bi (fun a=>p9 dw b5 c1 a4 c4 c5 a (fun a' =>some (.next a')) (fun e=>some (.done e)) (fun r=>some (.ret r))) s0
def qo8:Shp:=⟨[jra,(21, .d false (.slice ae.ty)),jub,(23, .d true qT0)],[qbq]⟩
def qo7:Shp:=⟨[jra],[qbq]⟩
def qa{R:Type}(h4:(List Bool))(kn c1:Int)(a4:(List ae))(c4 c5 hi:Int)(nx:Int→Option R)(dn:Unit→Option R)(rt:Bool→Option R):Option R:=bif decide (hi<kn)then aq (ix hi h4.length)<|aq (ix hi h4.length)<|bif (h4.getD hi.toNat false)then bnd (m4 (c1,a4,c4,c5,()) c5 (h4.getD hi.toNat false)) fun r5=>bnd (bz r5.1 false) fun r6=>bif r6 then rt false else bnd (bz r5.2 false) fun r7=>bif r7 then rt false else aq (fm .i64 (hi+1))<|nx (hi+1)else bnd (m4 (c1,a4,c4,c5,()) c4 (h4.getD hi.toNat false)) fun r8=>bnd (bz r8.1 false) fun r9=>bif r9 then rt false else bnd (bz r8.2 false) fun r10=>bif r10 then rt false else aq (fm .i64 (hi+1))<|nx (hi+1)else dn ()
def qfn(h4:(List Bool))(kn c1:Int)(a4:(List ae))(c4 c5 s0:Int):Option (Unit⊕Bool):=bi (fun a=>qa h4 kn c1 a4 c4 c5 a (fun a' =>some (.next a')) (fun e=>some (.done e)) (fun r=>some (.ret r))) s0
def qpa:Shp:=⟨[jra,(40, .d true (.slice .bool)),(41, .d true qT0),(42, .d true qT0)],[qbq]⟩
def qo9:Shp:=⟨[],[]⟩
def ij(ad:a8):Option Bool:=bnd (qn ad) fun r1=>bif (!r1)then some false else bif decide (ad.2.2.1=ad.2.2.2.1)then some false else bnd (qfm ad.2.1 (ad.2.1.length:Int) ad.1 ad.2.1 ad.2.2.1 ad.2.2.2.1 0) fun oe4=>lk oe4 (fun e4=>bnd (qfn [false,true] 2 ad.1 ad.2.1 ad.2.2.1 ad.2.2.2.1 0) fun oe11=>lk oe11 (fun e11=>some true) (fun r=>some r)) (fun r=>some r)
def qby(av a0:a8):Option Int:=bnd (ij av) fun r1=>bif (!r1)then some 1 else bnd (ij a0) fun r2=>bif (!r2)then some 1 else some 0
def qfs(ad:a8)(cy:Int):Option (Int×qL1):=bnd (qn ad) fun r1=>bif (!r1)then some (1,[])else aq (qyr ad.1 ad.1 8)<|aq (ix cy (List.replicate ad.1.toNat (0:Int)).length)<|aq (ix cy (List.replicate ad.1.toNat (0:Int)).length)<|some (0,((List.replicate ad.1.toNat (0:Int)).set cy.toNat 1))
def tc(ad:a8):Option (qL1×Int):=bnd (qfs ad ad.2.2.1) fun r1=>some (r1.2,r1.1)
def qa5(p6:Int):Option Bool:=bif decide (p6<0)then some true else some (decide ((100:Int)<p6))
def ey{R:Type}(aa:qL1)(a1 ap:Int)(nx:Int→Option R)(dn:Unit→Option R)(rt:Int→Option R):Option R:=bif decide (ap<a1)then aq (ix ap aa.length)<|aq (ix ap aa.length)<|bnd (qa5 (aa.getD ap.toNat 0)) fun r1=>bif r1 then rt ap else aq (fm .i64 (ap+1))<|nx (ap+1)else dn ()
def oc(aa:qL1)(a1 s0:Int):Option (Unit⊕Int):=bi (fun a=>ey aa a1 a (fun a' =>some (.next a')) (fun e=>some (.done e)) (fun r=>some (.ret r))) s0
def y9:Shp:=⟨[jjg,(1, .fn 87 .nil),qws,qxy],[]⟩
def y8:Shp:=⟨[],[]⟩
def j5(aa:qL1):Option Int:=bnd (oc aa (aa.length:Int) 0) fun oe2=>lk oe2 (fun e2=>some (-1)) (fun r=>some r)
def eq(aa:qL1):Option Bool:=bnd (j5 aa) fun r1=>some (decide ((0:Int)≤r1))
def kg(ad:a8)(ex:qL1):Option Bool:=bnd (qn ad) fun r1=>bif r1 then bif decide ((ex.length:Int)=ad.1)then bnd (eq ex) fun r2=>some (!r2)else some false else some false
def xd(aa:qL1):Option qL1:=bif decide ((aa.length:Int)=0)then some []else aq (room (0+aa.length) 8)<|some ([]++aa)
def j1(aa:qL1):Option qL1:=aq (room (0+aa.length) 8)<|some ([]++aa)
def br(aa:qL1):Option qL1:=j1 aa
def qa4(f4:Int)(cy:qL1):Option Bool:=aq (ix 0 1)<|aq (ix f4 cy.length)<|aq (ix f4 cy.length)<|some (decide ((cy.getD f4.toNat 0)=0))
def d7{R:Type}(aa f_1c0:qL1)(a1 ap:Int)(nx:Int→Option R)(dn:Unit→Option R)(rt:Int→Option R):Option R:=bif decide (ap<a1)then aq (ix ap aa.length)<|aq (ix ap aa.length)<|bnd (qa4 (aa.getD ap.toNat 0) f_1c0) fun r1=>bif r1 then rt ap else aq (fm .i64 (ap+1))<|nx (ap+1)else dn ()
def nk(aa f_1c0:qL1)(a1 s0:Int):Option (Unit⊕Int):=bi (fun a=>d7 aa f_1c0 a1 a (fun a' =>some (.next a')) (fun e=>some (.done e)) (fun r=>some (.ret r))) s0
def xy:Shp:=⟨[jjg,(1, .fn 111 (.cons (.rp false qT1) .nil)),qws,qxy],[]⟩
def xx:Shp:=⟨[],[]⟩
def jf(aa f_1c0:qL1):Option Int:=bnd (nk aa f_1c0 (aa.length:Int) 0) fun oe2=>lk oe2 (fun e2=>some (-1)) (fun r=>some r)
def ge(aa f_1c0:qL1):Option Bool:=bnd (jf aa f_1c0) fun r1=>some (decide ((0:Int)≤r1))
def td(m1:ae)(ex:qL1):Option Bool:=bnd (ge m1.2.1 ex) fun r1=>some (!r1)
def lh{R:Type}(hf:qL1)(ht hk:Int)(nx:(Int×Int)→Option R)(dn rt:Int→Option R):Option R:=bif decide (hk<(hf.length:Int))then aq (ix hk hf.length)<|aq (ix hk hf.length)<|aq (fm .i64 (hk+1))<|nx ((max ht (hf.getD hk.toNat 0)),(hk+1))else dn ht
def qap(hf:qL1)(s0:(Int×Int)):Option (Int⊕Int):=bi (fun a=>lh hf a.1 a.2 (fun a' =>some (.next a')) (fun e=>some (.done e)) (fun r=>some (.ret r))) s0
def qii:Shp:=⟨[jjg,jto,(4, .d true qT0)],[]⟩
def qih:Shp:=⟨[jto],[]⟩
def oz(hf:qL1):Option Int:=bif decide ((hf.length:Int)<1)then none else aq (ix 0 hf.length)<|aq (ix 0 hf.length)<|bnd (qap hf ((hf.getD 0 0),1)) fun oe1=>lk oe1 (fun e1=>some e1) (fun r=>some r)
def zk{R:Type}(hx:qL1)(n0:Int)(p2:ByteArray)(p3 p4:qL1)(hm:Int)(bl:qL1)(nx:(Int×qL1)→Option R)(dn:qL1→Option R)(rt:(Int×qL1)→Option R):Option R:=bif decide (hm<n0)then aq (ix hm hx.length)<|aq (ix hm hx.length)<|aq (ix (hx.getD hm.toNat 0) bl.length)<|aq (ix (hx.getD hm.toNat 0) bl.length)<|aq (fm .i64 ((bl.getD (hx.getD hm.toNat 0).toNat 0)-1))<|aq (ix (hx.getD hm.toNat 0) bl.length)<|aq (ix (hx.getD hm.toNat 0) bl.length)<|aq (fm .i64 (hm+1))<|nx ((hm+1),(bl.set (hx.getD hm.toNat 0).toNat ((bl.getD (hx.getD hm.toNat 0).toNat 0)-1)))else dn bl
def qpc(hx:qL1)(n0:Int)(p2:ByteArray)(p3 p4:qL1)(s0:(Int×qL1)):Option (qL1⊕(Int×qL1)):=bi (fun a=>zk hx n0 p2 p3 p4 a.1 a.2 (fun a' =>some (.next a')) (fun e=>some (.done e)) (fun r=>some (.ret r))) s0
def qyy:Shp:=⟨[jt2,(9, .own 1),(35, .d false qT1),(36, .d true qT0),(37, .d true qT0)],[q3k,qtg]⟩
def qyx:Shp:=⟨[jt2,(9, .own 1)],[q3k,qtg]⟩
def zl{R:Type}(hy:qL1)(n1 hn:Int)(bl:qL1)(nx:(Int×qL1)→Option R)(dn:qL1→Option R)(rt:(Int×qL1)→Option R):Option R:=bif decide (hn<n1)then aq (ix hn hy.length)<|aq (ix hn hy.length)<|aq (ix (hy.getD hn.toNat 0) bl.length)<|aq (ix (hy.getD hn.toNat 0) bl.length)<|aq (fm .i64 ((bl.getD (hy.getD hn.toNat 0).toNat 0)+1))<|aq (ix (hy.getD hn.toNat 0) bl.length)<|aq (ix (hy.getD hn.toNat 0) bl.length)<|aq (fm .i64 (hn+1))<|nx ((hn+1),(bl.set (hy.getD hn.toNat 0).toNat ((bl.getD (hy.getD hn.toNat 0).toNat 0)+1)))else dn bl
def qpd(hy:qL1)(n1:Int)(s0:(Int×qL1)):Option (qL1⊕(Int×qL1)):=bi (fun a=>zl hy n1 a.1 a.2 (fun a' =>some (.next a')) (fun e=>some (.done e)) (fun r=>some (.ret r))) s0
def qy0:Shp:=⟨[(9, .own 0),(49, .d false qT1),(50, .d true qT0),(51, .d true qT0)],[qtg]⟩
def qyz:Shp:=⟨[(9, .own 0)],[qtg]⟩
def m3(ad:a8)(ex:qL1)(h0:Int):Option (Int×qL1):=bif decide (h0<0)then some (2,[])else bif decide ((ad.2.1.length:Int)≤h0)then some (2,[])else aq (ix h0 ad.2.1.length)<|aq (ix h0 ad.2.1.length)<|bnd (td (ad.2.1.getD h0.toNat ae.z) ex) fun r1=>bif (!r1)then some (12,[])else bnd (br ex) fun r2=>bnd (qpc (ad.2.1.getD h0.toNat ae.z).2.1 ((ad.2.1.getD h0.toNat ae.z).2.1.length:Int) (ad.2.1.getD h0.toNat ae.z).1 (ad.2.1.getD h0.toNat ae.z).2.1 (ad.2.1.getD h0.toNat ae.z).2.2.1 (0,r2)) fun oe3=>lk oe3 (fun e3=>bnd (qpd (ad.2.1.getD h0.toNat ae.z).2.2.1 ((ad.2.1.getD h0.toNat ae.z).2.2.1.length:Int) (0,e3)) fun oe4=>lk oe4 (fun e4=>bnd (oz e4) fun r5=>bif decide ((100:Int)<r5)then some (5,[])else some (0,e4)) (fun r=>some r)) (fun r=>some r)
def wm{R:Type}(kp kv:qL1)(jc bd:Int)(a3:(List ae))(be bf:Int)(op:qL1)(g6:Int)(nx:(qL1×Int)→Option R)(dn:qL1→Option R)(rt:(qL1×Int×Int)→Option R):Option R:=bif decide (g6<jc)then aq (ix g6 kv.length)<|aq (ix g6 kv.length)<|bnd (m3 (bd,a3,be,bf,()) op (kv.getD g6.toNat 0)) fun r3=>bif (!decide (r3.1=0))then rt ([],g6,r3.1)else aq (fm .i64 (g6+1))<|nx (r3.2,(g6+1))else dn op
def qsu(kp kv:qL1)(jc bd:Int)(a3:(List ae))(be bf:Int)(s0:(qL1×Int)):Option (qL1⊕(qL1×Int×Int)):=bi (fun a=>wm kp kv jc bd a3 be bf a.1 a.2 (fun a' =>some (.next a')) (fun e=>some (.done e)) (fun r=>some (.ret r))) s0
def q12:Shp:=⟨[jtz,jjr,(9, .d true qT1),(25, .d false qT1),(26, .d true qT0),(27, .d true qT0)],[qbq]⟩
def q11:Shp:=⟨[jtz,(9, .d true qT1)],[]⟩
def qfl(ad:a8)(ex kp:qL1):Option (qL1×Int×Int):=bnd (kg ad ex) fun r1=>bif (!r1)then some ([],0,1)else bif decide ((1000:Int)<(kp.length:Int))then some ([],0,5)else bnd (br ex) fun r2=>bnd (qsu kp kp (kp.length:Int) ad.1 ad.2.1 ad.2.2.1 ad.2.2.2.1 (r2,0)) fun oe4=>lk oe4 (fun e4=>some (e4,(kp.length:Int),0)) (fun r=>some r)
def zj{R:Type}(g4:qL1)(ev c6:Int)(a5:(List ae))(dd dt a6:Int)(hp:(List ByteArray))(nx:(Int×(List ByteArray))→Option R)(dn:(List ByteArray)→Option R)(rt:(Int×(List ByteArray))→Option R):Option R:=bif decide (a6<ev)then aq (ix a6 g4.length)<|aq (ix a6 g4.length)<|bif decide ((g4.getD a6.toNat 0)<0)then rt (2,[])else bif decide ((a5.length:Int)≤(g4.getD a6.toNat 0))then rt (2,[])else aq (ix (g4.getD a6.toNat 0) a5.length)<|aq (ix (g4.getD a6.toNat 0) a5.length)<|bif (!(ByteArray.toList (a5.getD (g4.getD a6.toNat 0).toNat ae.z).1==ByteArray.toList ⟨#[]⟩))then aq (room (hp.length+1) 16)<|aq (fm .i64 (a6+1))<|nx ((a6+1),(hp++[(a5.getD (g4.getD a6.toNat 0).toNat ae.z).1]))else aq (fm .i64 (a6+1))<|nx ((a6+1),hp)else dn hp
def qo5(g4:qL1)(ev c6:Int)(a5:(List ae))(dd dt:Int)(s0:(Int×(List ByteArray))):Option ((List ByteArray)⊕(Int×(List ByteArray))):=bi (fun a=>zj g4 ev c6 a5 dd dt a.1 a.2 (fun a' =>some (.next a')) (fun e=>some (.done e)) (fun r=>some (.ret r))) s0
def qyv:Shp:=⟨[jqo,(6, .nl false (.own 1)),(18, .d false qT1),jt9,jqy],[qbq,jgo]⟩
def qyu:Shp:=⟨[jtw],[jgo]⟩
def qgw(ad:a8)(eg:qL1):Option (Int×(List ByteArray)):=bnd (qn ad) fun r1=>bif (!r1)then some (1,[])else bif decide ((1000:Int)<(eg.length:Int))then some (5,[])else bnd (qo5 eg (eg.length:Int) ad.1 ad.2.1 ad.2.2.1 ad.2.2.2.1 (0,[])) fun oe2=>lk oe2 (fun e2=>some (0,e2)) (fun r=>some r)
def l0(av:a8)(os:qL1):Option (qL1×Bool×(List ByteArray)):=bnd (tc av) fun r1=>bnd (qfl av r1.1 os) fun r2=>bif (!decide (r2.2.2=0))then some ([],false,[])else bnd (qgw av os) fun r3=>some (r2.1,decide (r3.1=0),r3.2)
def qly(av a0:a8)(hq:qL1)(gy:Int):Option (qL1×Int×(List ByteArray)):=bnd (qby av a0) fun r1=>bif (!decide (r1=0))then some ([],r1,[])else bnd (l0 av hq) fun r2=>bif (!r2.2.1)then some ([],12,[])else bif decide (gy<1)then some ([],2,[])else bif decide ((2000:Int)<gy)then some ([],2,[])else some (r2.1,0,r2.2.2)
def l6(he:qL1):Option ByteArray:=jdf he
def jd(ad:a8)(ex:qL1)(h0:Int):Option (Int×qL1):=bnd (kg ad ex) fun r1=>bif (!r1)then some (1,[])else bnd (m3 ad ex h0) fun r2=>some (r2.1,r2.2)
def rf{R:Type}(ex:qL1)(nn c6:Int)(a5:(List ae))(dd dt es:Int)(bb:(List ag))(nx:(Int×(List ag))→Option R)(dn rt:(List ag)→Option R):Option R:=bif decide (es<nn)then bnd (jd (c6,a5,dd,dt,()) ex es) fun r1=>bif decide (r1.1=0)then aq (room (bb.length+1) 32)<|aq (fm .i64 (es+1))<|nx ((es+1),(bb++[(es,r1.2,())]))else aq (fm .i64 (es+1))<|nx ((es+1),bb)else dn bb
def qho(ex:qL1)(nn c6:Int)(a5:(List ae))(dd dt:Int)(s0:(Int×(List ag))):Option ((List ag)⊕(List ag)):=bi (fun a=>rf ex nn c6 a5 dd dt a.1 a.2 (fun a' =>some (.next a')) (fun e=>some (.done e)) (fun r=>some (.ret r))) s0
def qra:Shp:=⟨[jqv,jqo,(5, .nl false (.own 1)),(11, .d true qT0),jqw],[qbq,jg8]⟩
def qq9:Shp:=⟨[(5, .nl false (.own 0))],[jg8]⟩
def fg(ad:a8)(ex:qL1):Option (List ag):=bnd (qho ex (ad.2.1.length:Int) ad.1 ad.2.1 ad.2.2.1 ad.2.2.2.1 (0,[])) fun oe2=>lk oe2 (fun e2=>some e2) (fun r=>some r)
def qac{R:Type}(i0:(List ByteArray))(bs hh:Int)(f3:(List ag))(h5 bd:Int)(a3:(List ae))(be bf hc:Int)(o1 kr:qL1)(ef:Int)(b3:(List af))(f2:(List (ByteArray×Bool)))(nx:(Int×(List af)×(List (ByteArray×Bool)))→Option R)(dn:((List af)×(List (ByteArray×Bool)))→Option R)(rt:(Bool×(List af))→Option R):Option R:=bif decide (ef<h5)then aq (ix ef f3.length)<|aq (ix ef f3.length)<|aq (ix (f3.getD ef.toNat ag.z).1 a3.length)<|aq (ix (f3.getD ef.toNat ag.z).1 a3.length)<|bif (!(ByteArray.toList (a3.getD (Int.toNat (f3.getD ef.toNat ag.z).1) ae.z).1==ByteArray.toList ⟨#[]⟩))then bif decide (hc=(i0.length:Int))then aq (fm .i64 (ef+1))<|nx ((ef+1),b3,f2)else aq (ix hc i0.length)<|aq (ix hc i0.length)<|bif (!(ByteArray.toList (i0.getD hc.toNat ⟨#[]⟩)==ByteArray.toList (a3.getD (Int.toNat (f3.getD ef.toNat ag.z).1) ae.z).1))then aq (fm .i64 (ef+1))<|nx ((ef+1),b3,f2)else aq (fm .i64 (hc+1))<|aq (room (1+(f3.getD ef.toNat ag.z).2.1.length) 8)<|bnd (l6 ([(hc+1)]++(f3.getD ef.toNat ag.z).2.1)) fun r4=>bif ((s8 .str r4 f2).getD false)then aq (fm .i64 (ef+1))<|nx ((ef+1),b3,f2)else bif decide ((b3.length:Int)=bs)then rt (false,b3)else bnd (br kr) fun r5=>aq (room (r5.length+1) 8)<|aq (room (b3.length+1) 56)<|aq (fm .i64 (ef+1))<|nx ((ef+1),(b3++[((hc+1),(f3.getD ef.toNat ag.z).2.1,(r5++[(f3.getD ef.toNat ag.z).1]),())]),(qef .str r4 true f2))else aq (room (1+(f3.getD ef.toNat ag.z).2.1.length) 8)<|bnd (l6 ([hc]++(f3.getD ef.toNat ag.z).2.1)) fun r6=>bif ((s8 .str r6 f2).getD false)then aq (fm .i64 (ef+1))<|nx ((ef+1),b3,f2)else bif decide ((b3.length:Int)=bs)then rt (false,b3)else bnd (br kr) fun r7=>aq (room (r7.length+1) 8)<|aq (room (b3.length+1) 56)<|aq (fm .i64 (ef+1))<|nx ((ef+1),(b3++[(hc,(f3.getD ef.toNat ag.z).2.1,(r7++[(f3.getD ef.toNat ag.z).1]),())]),(qef .str r6 true f2))else dn (b3,f2)
def qlg(i0:(List ByteArray))(bs hh:Int)(f3:(List ag))(h5 bd:Int)(a3:(List ae))(be bf hc:Int)(o1 kr:qL1)(s0:(Int×(List af)×(List (ByteArray×Bool)))):Option (((List af)×(List (ByteArray×Bool)))⊕(Bool×(List af))):=bi (fun a=>qac i0 bs hh f3 h5 bd a3 be bf hc o1 kr a.1 a.2.1 a.2.2 (fun a' =>some (.next a')) (fun e=>some (.done e)) (fun r=>some (.ret r))) s0
def qjf:Shp:=⟨[jqn,jcg,jjr,(10, .own 1),(11, .mp 2),jqw,(13, .ptr 3),(46, .nl false (.d true (.slice ag.ty))),(47, .d true qT0),(48, .d true qT0)],[qbq,qth,qoc, .cs 92 3 1 (.cons (.d true qT0) (.cons (.d true qT1) (.cons (.d true qT1) .nil)))]⟩
def qje:Shp:=⟨[jqn,jcg,jjr,(10, .own 1),(11, .mp 2),jqw],[qbq,qth,qoc]⟩
def qad{R:Type}(i0:(List ByteArray))(bs bd:Int)(a3:(List ae))(be bf hh:Int)(b3:(List af))(f2:(List (ByteArray×Bool)))(nx:(Int×(List af)×(List (ByteArray×Bool)))→Option R)(dn:(List af)→Option R)(rt:(Bool×(List af))→Option R):Option R:=bif decide (hh<(b3.length:Int))then aq (ix hh b3.length)<|aq (ix hh b3.length)<|bnd (fg (bd,a3,be,bf,()) (b3.getD hh.toNat af.z).2.1) fun r3=>bnd (qlg i0 bs hh r3 (r3.length:Int) bd a3 be bf (b3.getD hh.toNat af.z).1 (b3.getD hh.toNat af.z).2.1 (b3.getD hh.toNat af.z).2.2.1 (0,b3,f2)) fun oe8=>lk oe8 (fun e8=>aq (fm .i64 (hh+1))<|nx ((hh+1),e8.1,e8.2)) (fun r=>rt r)else dn b3
def qlh(i0:(List ByteArray))(bs bd:Int)(a3:(List ae))(be bf:Int)(s0:(Int×(List af)×(List (ByteArray×Bool)))):Option ((List af)⊕(Bool×(List af))):=bi (fun a=>qad i0 bs bd a3 be bf a.1 a.2.1 a.2.2 (fun a' =>some (.next a')) (fun e=>some (.done e)) (fun r=>some (.ret r))) s0
def qjh:Shp:=⟨[jqn,jcg,jjr,(10, .own 1),(11, .mp 2),jqw],[qbq,qth,qoc]⟩
def qjg:Shp:=⟨[(10, .own 0)],[qth]⟩
def qdv(ad:a8)(i0:(List ByteArray))(bs:Int):Option (Bool×(List af)):=bnd (tc ad) fun r1=>aq (room (1+r1.1.length) 8)<|bnd (l6 ([0]++r1.1)) fun r2=>bnd (qlh i0 bs ad.1 ad.2.1 ad.2.2.1 ad.2.2.2.1 (0,[(0,r1.1,[],())],(qef .str r2 true ([]:(List (ByteArray×Bool)))))) fun oe9=>lk oe9 (fun e9=>some (true,e9)) (fun r=>some r)
def qco(f4:af)(cy:(List ByteArray)):Option Bool:=aq (ix 0 1)<|some (decide (f4.1<(cy.length:Int)))
def cu{R:Type}(aa:(List af))(f_1c0:(List ByteArray))(a1 ap:Int)(nx:Int→Option R)(dn:Unit→Option R)(rt:Int→Option R):Option R:=bif decide (ap<a1)then aq (ix ap aa.length)<|aq (ix ap aa.length)<|bnd (qco (aa.getD ap.toNat af.z) f_1c0) fun r1=>bif r1 then rt ap else aq (fm .i64 (ap+1))<|nx (ap+1)else dn ()
def iz(aa:(List af))(f_1c0:(List ByteArray))(a1 s0:Int):Option (Unit⊕Int):=bi (fun a=>cu aa f_1c0 a1 a (fun a' =>some (.next a')) (fun e=>some (.done e)) (fun r=>some (.ret r))) s0
def ir:Shp:=⟨[(0, .d false (.slice af.ty)),jqp,qws,qxy],[]⟩
def iq:Shp:=⟨[],[]⟩
def dm(aa:(List af))(f_1c0:(List ByteArray)):Option Int:=bnd (iz aa f_1c0 (aa.length:Int) 0) fun oe2=>lk oe2 (fun e2=>some (-1)) (fun r=>some r)
def cn{R:Type}(del_1c0:(List ByteArray))(bk ha:Int)(aa:(List af))(nx:(Int×Int×(List af))→Option R)(dn:(Int×(List af))→Option R)(rt:(List af)→Option R):Option R:=bif decide (ha<(aa.length:Int))then aq (ix ha aa.length)<|aq (ix ha aa.length)<|bnd (qco (aa.getD ha.toNat af.z) del_1c0) fun r2=>bif (!r2)then aq (ix bk aa.length)<|aq (ix bk aa.length)<|aq (fm .i64 (bk+1))<|aq (fm .i64 (ha+1))<|nx ((bk+1),(ha+1),(aa.set bk.toNat (aa.getD ha.toNat af.z)))else aq (fm .i64 (ha+1))<|nx (bk,(ha+1),aa)else dn (bk,aa)
def im(del_1c0:(List ByteArray))(s0:(Int×Int×(List af))):Option ((Int×(List af))⊕(List af)):=bi (fun a=>cn del_1c0 a.1 a.2.1 a.2.2 (fun a' =>some (.next a')) (fun e=>some (.done e)) (fun r=>some (.ret r))) s0
def ib:Shp:=⟨[jb9,jqp,jjs,jd7],[qth]⟩
def ia:Shp:=⟨[jb9,jjs],[qth]⟩
def dg(del_1c0:(List ByteArray))(aa:(List af)):Option (List af):=bnd (dm aa del_1c0) fun r1=>bif decide (r1=(-1))then some aa else aq (fm .i64 (r1+1))<|bnd (im del_1c0 (r1,(r1+1),aa)) fun oe3=>lk oe3 (fun e3=>aq (cut e3.1 (e3.2.length:Int) e3.2.length)<|aq (cut 0 e3.1 (sd e3.2 e3.1.toNat ((e3.2.length:Int).toNat-e3.1.toNat) (List.replicate ((e3.2.length:Int).toNat-e3.1.toNat) (af.z:af))).length)<|some (((sd e3.2 e3.1.toNat ((e3.2.length:Int).toNat-e3.1.toNat) (List.replicate ((e3.2.length:Int).toNat-e3.1.toNat) (af.z:af))).drop 0).take (e3.1.toNat-0))) (fun r=>some r)
def qaz(pa:qL1)(cy:(List (ByteArray×Bool)))(g0:qL2):Option ((List (ByteArray×Bool))×qL2):=bnd (l6 pa) fun r1=>bif (!((s8 .str r1 cy).getD false))then bnd (l6 pa) fun r2=>aq (room (g0.length+1) 24)<|some ((qef .str r2 true cy),(g0++[pa]))else some (cy,g0)
def qfc{R:Type}(bs ev:Int)(g4:qL2)(bd:Int)(a3:(List ae))(be bf a6:Int)(bl:qL2)(add_10c0:(List (ByteArray×Bool)))(nx:(Int×qL2×(List (ByteArray×Bool)))→Option R)(dn:(qL2×(List (ByteArray×Bool)))→Option R)(rt:(Bool×qL2×qL2)→Option R):Option R:=bif decide (a6<ev)then aq (ix a6 g4.length)<|aq (ix a6 g4.length)<|bnd (qaz (g4.getD a6.toNat []) add_10c0 bl) fun r1=>aq (fm .i64 (a6+1))<|nx ((a6+1),r1.2,r1.1)else dn (bl,add_10c0)
def qty(bs ev:Int)(g4:qL2)(bd:Int)(a3:(List ae))(be bf:Int)(s0:(Int×qL2×(List (ByteArray×Bool)))):Option ((qL2×(List (ByteArray×Bool)))⊕(Bool×qL2×qL2)):=bi (fun a=>qfc bs ev g4 bd a3 be bf a.1 a.2.1 a.2.2 (fun a' =>some (.next a')) (fun e=>some (.done e)) (fun r=>some (.ret r))) s0
def qq1:Shp:=⟨[jcg,jt3,jug,q2p,(18, .own 0),jt9,jqy],[qd8,qbq,jb8,jb7,qd8,qoc]⟩
def qq0:Shp:=⟨[jcg,jt3,jug,q2p],[qd8,qbq,jb8,jb7,qd8,qoc]⟩
def qfd{R:Type}(bs h2:Int)(kx:(List ag))(f3:Int)(k0:qL2)(bd:Int)(a3:(List ae))(be bf h5:Int)(bl:qL2)(add_10c0:(List (ByteArray×Bool)))(nx:(Int×qL2×(List (ByteArray×Bool)))→Option R)(dn:(qL2×(List (ByteArray×Bool)))→Option R)(rt:(Bool×qL2×qL2)→Option R):Option R:=bif decide (h5<f3)then aq (ix h5 kx.length)<|aq (ix h5 kx.length)<|bnd (qaz (kx.getD h5.toNat ag.z).2.1 add_10c0 bl) fun r4=>aq (fm .i64 (h5+1))<|nx ((h5+1),r4.2,r4.1)else dn (bl,add_10c0)
def qtz(bs h2:Int)(kx:(List ag))(f3:Int)(k0:qL2)(bd:Int)(a3:(List ae))(be bf:Int)(s0:(Int×qL2×(List (ByteArray×Bool)))):Option ((qL2×(List (ByteArray×Bool)))⊕(Bool×qL2×qL2)):=bi (fun a=>qfd bs h2 kx f3 k0 bd a3 be bf a.1 a.2.1 a.2.2 (fun a' =>some (.next a')) (fun e=>some (.done e)) (fun r=>some (.ret r))) s0
def qq3:Shp:=⟨[jcg,jt3,jug,q2p,jqx,(45, .nl false (.d true (.slice ag.ty))),(46, .d true qT0),(47, .d true qT0)],[qd8,qbq,jb8,jb7,qd8,qoc]⟩
def qq2:Shp:=⟨[jcg,jt3,jug,q2p,jqx],[qd8,qbq,jb8,jb7,qd8,qoc]⟩
def qfe{R:Type}(bs:Int)(k0:qL2)(bd:Int)(a3:(List ae))(be bf h2:Int)(bl:qL2)(add_10c0:(List (ByteArray×Bool)))(nx:(Int×qL2×(List (ByteArray×Bool)))→Option R)(dn:qL2→Option R)(rt:(Bool×qL2×qL2)→Option R):Option R:=bif decide (h2<(bl.length:Int))then bif decide ((bl.length:Int)≤bs)then aq (ix h2 bl.length)<|aq (ix h2 bl.length)<|bnd (fg (bd,a3,be,bf,()) (bl.getD h2.toNat [])) fun r3=>bnd (qtz bs h2 r3 (r3.length:Int) k0 bd a3 be bf (0,bl,add_10c0)) fun oe5=>lk oe5 (fun e5=>aq (fm .i64 (h2+1))<|nx ((h2+1),e5.1,e5.2)) (fun r=>rt r)else dn bl else dn bl
def qt0(bs:Int)(k0:qL2)(bd:Int)(a3:(List ae))(be bf:Int)(s0:(Int×qL2×(List (ByteArray×Bool)))):Option (qL2⊕(Bool×qL2×qL2)):=bi (fun a=>qfe bs k0 bd a3 be bf a.1 a.2.1 a.2.2 (fun a' =>some (.next a')) (fun e=>some (.done e)) (fun r=>some (.ret r))) s0
def qq5:Shp:=⟨[jcg,jt3,jug,q2p,jqx],[qd8,qbq,jb8,jb7,qd8,qoc]⟩
def qq4:Shp:=⟨[jcg,(9, .ptr 1)],[qd8, .cs 38 1 1 (.cons (.own 2) .nil),qd8]⟩
def qee(ad:a8)(bs:Int)(g5:qL2):Option (Bool×qL2×qL2):=bnd (qty bs (g5.length:Int) g5 ad.1 ad.2.1 ad.2.2.1 ad.2.2.2.1 (0,[],[])) fun oe2=>lk oe2 (fun e2=>bnd (qt0 bs g5 ad.1 ad.2.1 ad.2.2.1 ad.2.2.2.1 (0,e2.1,e2.2)) fun oe6=>lk oe6 (fun e6=>some (decide ((e6.length:Int)≤bs),g5,e6)) (fun r=>some r)) (fun r=>some r)
def l7(hf nd:qL1):Option ByteArray:=bnd (l6 hf) fun r1=>aq (decide (((ByteArray.size r1+ByteArray.size ⟨#[124]⟩:Nat):Int)≤9223372036854775807))<|bnd (l6 nd) fun r2=>aq (decide (((ByteArray.size (r1++⟨#[124]⟩)+ByteArray.size r2:Nat):Int)≤9223372036854775807))<|some ((r1++⟨#[124]⟩)++r2)
def qm(ad:a8):Option (Int×qL1):=bnd (qfs ad ad.2.2.2.1) fun r1=>some (r1.1,r1.2)
def fv{R:Type}(ga g1:qL1)(es cb:Int)(nx:Int→Option R)(dn:Unit→Option R)(rt:Bool→Option R):Option R:=bif decide (cb<es)then aq (ix cb ga.length)<|aq (ix cb ga.length)<|aq (ix cb g1.length)<|aq (ix cb g1.length)<|bif (!decide ((ga.getD cb.toNat 0)=(g1.getD cb.toNat 0)))then rt false else aq (fm .i64 (cb+1))<|nx (cb+1)else dn ()
def xj(ga g1:qL1)(es s0:Int):Option (Unit⊕Bool):=bi (fun a=>fv ga g1 es a (fun a' =>some (.next a')) (fun e=>some (.done e)) (fun r=>some (.ret r))) s0
def qf6:Shp:=⟨[jjg,jqv,jqw,jqx],[]⟩
def qf5:Shp:=⟨[],[]⟩
def az(ga g1:qL1):Option Bool:=bif (!decide ((ga.length:Int)=(g1.length:Int)))then some false else bnd (xj ga g1 (ga.length:Int) 0) fun oe1=>lk oe1 (fun e1=>some true) (fun r=>some r)
def ni{R:Type}(ex:qL1)(d0:(List ae))(gt gd:Int)(hp:qL1)(nx:(Int×qL1)→Option R)(dn:qL1→Option R)(rt:(Int×qL1)→Option R):Option R:=bif decide (gd<gt)then aq (ix gd d0.length)<|aq (ix gd d0.length)<|bnd (td (d0.getD gd.toNat ae.z) ex) fun r2=>bif r2 then aq (room (hp.length+1) 8)<|aq (fm .i64 (gd+1))<|nx ((gd+1),(hp++[gd]))else aq (fm .i64 (gd+1))<|nx ((gd+1),hp)else dn hp
def qhs(ex:qL1)(d0:(List ae))(gt:Int)(s0:(Int×qL1)):Option (qL1⊕(Int×qL1)):=bi (fun a=>ni ex d0 gt a.1 a.2 (fun a' =>some (.next a')) (fun e=>some (.done e)) (fun r=>some (.ret r))) s0
def qri:Shp:=⟨[jqv,jtw,(14, .d false (.slice ae.ty)),jtq,(16, .d true qT0)],[qtg]⟩
def qrh:Shp:=⟨[jtw],[qtg]⟩
def m2(ad:a8)(ex:qL1):Option (Int×qL1):=bnd (kg ad ex) fun r1=>bif (!r1)then some (1,[])else bnd (qhs ex ad.2.1 (ad.2.1.length:Int) (0,[])) fun oe3=>lk oe3 (fun e3=>some (0,e3)) (fun r=>some r)
def ue(hf nd:qL1)(g0:(List (ByteArray×Bool))):Option (Bool×(List (ByteArray×Bool))):=bnd (l7 hf nd) fun r1=>some (((s8 .str r1 g0).getD false),g0)
def qcr(hd:ag)(cy:a8)(g0:ByteArray)(m0:ag)(p_3c0:(List (ByteArray×Bool))):Option (Bool×(List (ByteArray×Bool))):=aq (ix 0 1)<|aq (ix hd.1 cy.2.1.length)<|aq (ix hd.1 cy.2.1.length)<|aq (ix 0 1)<|bif (ByteArray.toList (cy.2.1.getD hd.1.toNat ae.z).1==ByteArray.toList g0)then aq (ix 0 1)<|bnd (ue m0.2.1 hd.2.1 p_3c0) fun r1=>some (r1.1,r1.2)else some (false,p_3c0)
def dq{R:Type}(aa:(List ag))(f_1c0:a8)(f_1c1:ByteArray)(f_1c3:ag)(a1 ap:Int)(f_1c2c0:(List (ByteArray×Bool)))(nx:(Int×(List (ByteArray×Bool)))→Option R)(dn:(List (ByteArray×Bool))→Option R)(rt:(Int×(List (ByteArray×Bool)))→Option R):Option R:=bif decide (ap<a1)then aq (ix ap aa.length)<|aq (ix ap aa.length)<|bnd (qcr (aa.getD ap.toNat ag.z) f_1c0 f_1c1 f_1c3 f_1c2c0) fun r1=>bif r1.1 then rt (ap,r1.2)else aq (fm .i64 (ap+1))<|nx ((ap+1),r1.2)else dn f_1c2c0
def k9(aa:(List ag))(f_1c0:a8)(f_1c1:ByteArray)(f_1c3:ag)(a1:Int)(s0:(Int×(List (ByteArray×Bool)))):Option ((List (ByteArray×Bool))⊕(Int×(List (ByteArray×Bool)))):=bi (fun a=>dq aa f_1c0 f_1c1 f_1c3 a1 a.1 a.2 (fun a' =>some (.next a')) (fun e=>some (.done e)) (fun r=>some (.ret r))) s0
def kb:Shp:=⟨[jts,q2q,qws,qxy],[qs8,qnu,qoc]⟩
def j9:Shp:=⟨[],[qs8,qnu,qoc]⟩
def eh(aa:(List ag))(f_1c0:a8)(f_1c1:ByteArray)(f_1c3:ag)(f_1c2c0:(List (ByteArray×Bool))):Option (Int×(List (ByteArray×Bool))):=bnd (k9 aa f_1c0 f_1c1 f_1c3 (aa.length:Int) (0,f_1c2c0)) fun oe2=>lk oe2 (fun e2=>some ((-1),e2)) (fun r=>some r)
def b8(aa:(List ag))(f_1c0:a8)(f_1c1:ByteArray)(f_1c3:ag)(f_1c2c0:(List (ByteArray×Bool))):Option (Bool×(List (ByteArray×Bool))):=bnd (eh aa f_1c0 f_1c1 f_1c3 f_1c2c0) fun r1=>some (decide ((0:Int)≤r1.1),r1.2)
def qbl{R:Type}(gs:qL1)(ek b6:(List ag))(jn cc:Int)(a2:(List ae))(ch cv bw:Int)(b0:(List ae))(b1 b2 b4:Int)(k0:(List (ByteArray×Bool)))(nx:(Int×(List (ByteArray×Bool)))→Option R)(dn:(List (ByteArray×Bool))→Option R)(rt:(Bool×(List (ByteArray×Bool)))→Option R):Option R:=bif decide (b4<jn)then aq (ix b4 b6.length)<|aq (ix b4 b6.length)<|aq (ix (b6.getD b4.toNat ag.z).1 a2.length)<|aq (ix (b6.getD b4.toNat ag.z).1 a2.length)<|bif (ByteArray.toList (a2.getD (Int.toNat (b6.getD b4.toNat ag.z).1) ae.z).1==ByteArray.toList ⟨#[]⟩)then bnd (ue (b6.getD b4.toNat ag.z).2.1 gs k0) fun r8=>bif r8.1 then aq (fm .i64 (b4+1))<|nx ((b4+1),r8.2)else bnd (b8 ek (bw,b0,b1,b2,()) (a2.getD (Int.toNat (b6.getD b4.toNat ag.z).1) ae.z).1 (b6.getD b4.toNat ag.z) r8.2) fun r9=>bif (!r9.1)then rt (false,r9.2)else aq (fm .i64 (b4+1))<|nx ((b4+1),r9.2)else bnd (b8 ek (bw,b0,b1,b2,()) (a2.getD (Int.toNat (b6.getD b4.toNat ag.z).1) ae.z).1 (b6.getD b4.toNat ag.z) k0) fun r10=>bif (!r10.1)then rt (false,r10.2)else aq (fm .i64 (b4+1))<|nx ((b4+1),r10.2)else dn k0
def qm7(gs:qL1)(ek b6:(List ag))(jn cc:Int)(a2:(List ae))(ch cv bw:Int)(b0:(List ae))(b1 b2:Int)(s0:(Int×(List (ByteArray×Bool)))):Option ((List (ByteArray×Bool))⊕(Bool×(List (ByteArray×Bool)))):=bi (fun a=>qbl gs ek b6 jn cc a2 ch cv bw b0 b1 b2 a.1 a.2 (fun a' =>some (.next a')) (fun e=>some (.done e)) (fun r=>some (.ret r))) s0
def qlc:Shp:=⟨[jt0,jul,jum,jun,jqq,jqr,(59, .d true qT0),(60, .d true qT0)],[qur,qoc,qbq,qbq,jqk]⟩
def qlb:Shp:=⟨[],[qur,qoc]⟩
def qbm{R:Type}(hl gs:qL1)(k0:(List (ByteArray×Bool)))(cc:Int)(a2:(List ae))(ch cv bw:Int)(b0:(List ae))(b1 b2:Int)(dn:Unit→Option R)(rt:(Bool×(List (ByteArray×Bool)))→Option R):Option R:=bnd (fg (bw,b0,b1,b2,()) gs) fun r5=>bnd (m2 (cc,a2,ch,cv,()) hl) fun r6=>bnd (fg (cc,a2,ch,cv,()) hl) fun r7=>bif decide ((r7.length:Int)<(r6.2.length:Int))then rt (false,k0)else bnd (qm7 gs r5 r7 (r7.length:Int) cc a2 ch cv bw b0 b1 b2 (0,k0)) fun oe11=>lk oe11 (fun e11=>rt (true,e11)) (fun r=>rt r)
def qcv(hl gs:qL1)(k0:(List (ByteArray×Bool)))(cc:Int)(a2:(List ae))(ch cv bw:Int)(b0:(List ae))(b1 b2:Int):Option (Unit⊕(Bool×(List (ByteArray×Bool)))):=qbm hl gs k0 cc a2 ch cv bw b0 b1 b2 (fun e=>some (.inl e)) (fun r=>some (.inr r))
def qle:Shp:=⟨[jtz,jt0,jul,jum,jun],[qur,qoc,qbq,qbq,jqk]⟩
def qld:Shp:=⟨[],[]⟩
def qfa(av a0:a8)(hl gs:qL1)(in_4c0:(List (ByteArray×Bool))):Option (Bool×(List (ByteArray×Bool))):=bnd (qm av) fun r1=>bnd (qm a0) fun r2=>bnd (az hl r1.2) fun r3=>bif r3 then bnd (az gs r2.2) fun r4=>bif (!r4)then some (false,in_4c0)else bnd (qcv hl gs in_4c0 av.1 av.2.1 av.2.2.1 av.2.2.2.1 a0.1 a0.2.1 a0.2.2.1 a0.2.2.2.1) fun oe12=>lk oe12 (fun e12=>none) (fun r=>some r)else bnd (qcv hl gs in_4c0 av.1 av.2.1 av.2.2.1 av.2.2.2.1 a0.1 a0.2.1 a0.2.2.1 a0.2.2.2.1) fun oe13=>lk oe13 (fun e13=>none) (fun r=>some r)
def px(f4:ab)(cy g0:a8)(m0:(List (ByteArray×Bool))):Option (Bool×(List (ByteArray×Bool))):=aq (ix 0 1)<|aq (ix 0 1)<|bnd (qfa cy g0 f4.1 f4.2.1 m0) fun r1=>bif r1.1 then some (false,r1.2)else bnd (l7 f4.1 f4.2.1) fun r2=>some (true,(qyl .str r2 r1.2))
def ja{R:Type}(aa:(List ab))(f_1c0 f_1c1:a8)(a1 ap:Int)(f_1c3:(List (ByteArray×Bool)))(nx:(Int×(List (ByteArray×Bool)))→Option R)(dn:(List (ByteArray×Bool))→Option R)(rt:(Int×(List (ByteArray×Bool)))→Option R):Option R:=bif decide (ap<a1)then aq (ix ap aa.length)<|aq (ix ap aa.length)<|bnd (px (aa.getD ap.toNat ab.z) f_1c0 f_1c1 f_1c3) fun r1=>bif r1.1 then rt (ap,r1.2)else aq (fm .i64 (ap+1))<|nx ((ap+1),r1.2)else dn f_1c3
def sw(aa:(List ab))(f_1c0 f_1c1:a8)(a1:Int)(s0:(Int×(List (ByteArray×Bool)))):Option ((List (ByteArray×Bool))⊕(Int×(List (ByteArray×Bool)))):=bi (fun a=>ja aa f_1c0 f_1c1 a1 a.1 a.2 (fun a' =>some (.next a')) (fun e=>some (.done e)) (fun r=>some (.ret r))) s0
def r0:Shp:=⟨[qx1,(1, .fn 98 (.cons (.rp false a8.ty) (.cons (.rp false a8.ty) (.cons (.ptr 0) (.cons (.ptr 1) .nil))))),qws,qxy],[qs8,qnu,qoc]⟩
def rz:Shp:=⟨[],[qs8,qnu,qoc]⟩
def lg(aa:(List ab))(f_1c0 f_1c1:a8)(f_1c3:(List (ByteArray×Bool))):Option (Int×(List (ByteArray×Bool))):=bnd (sw aa f_1c0 f_1c1 (aa.length:Int) (0,f_1c3)) fun oe2=>lk oe2 (fun e2=>some ((-1),e2)) (fun r=>some r)
def il{R:Type}(del_1c0 del_1c1:a8)(bk ha:Int)(aa:(List ab))(del_1c3:(List (ByteArray×Bool)))(nx:(Int×Int×(List ab)×(List (ByteArray×Bool)))→Option R)(dn:(Int×(List ab)×(List (ByteArray×Bool)))→Option R)(rt:((List ab)×(List (ByteArray×Bool)))→Option R):Option R:=bif decide (ha<(aa.length:Int))then aq (ix ha aa.length)<|aq (ix ha aa.length)<|bnd (px (aa.getD ha.toNat ab.z) del_1c0 del_1c1 del_1c3) fun r2=>bif (!r2.1)then aq (ix bk aa.length)<|aq (ix bk aa.length)<|aq (fm .i64 (bk+1))<|aq (fm .i64 (ha+1))<|nx ((bk+1),(ha+1),(aa.set bk.toNat (aa.getD ha.toNat ab.z)),r2.2)else aq (fm .i64 (ha+1))<|nx (bk,(ha+1),aa,r2.2)else dn (bk,aa,del_1c3)
def rq(del_1c0 del_1c1:a8)(s0:(Int×Int×(List ab)×(List (ByteArray×Bool)))):Option ((Int×(List ab)×(List (ByteArray×Bool)))⊕((List ab)×(List (ByteArray×Bool)))):=bi (fun a=>il del_1c0 del_1c1 a.1 a.2.1 a.2.2.1 a.2.2.2 (fun a' =>some (.next a')) (fun e=>some (.done e)) (fun r=>some (.ret r))) s0
def qs:Shp:=⟨[jb9,(1, .fn 98 (.cons (.rp false a8.ty) (.cons (.rp false a8.ty) (.cons (.ptr 1) (.cons (.ptr 2) .nil))))),jjs,jd7],[qp2,q5t,q9o,qoc]⟩
def qr:Shp:=⟨[jb9,jjs],[qp2,q5t,q9o,qoc]⟩
def ko(del_1c0 del_1c1:a8)(aa:(List ab))(del_1c3:(List (ByteArray×Bool))):Option ((List ab)×(List (ByteArray×Bool))):=bnd (lg aa del_1c0 del_1c1 del_1c3) fun r1=>bif decide (r1.1=(-1))then some (aa,r1.2)else aq (fm .i64 (r1.1+1))<|bnd (rq del_1c0 del_1c1 (r1.1,(r1.1+1),aa,r1.2)) fun oe3=>lk oe3 (fun e3=>aq (cut e3.1 (e3.2.1.length:Int) e3.2.1.length)<|aq (cut 0 e3.1 (sd e3.2.1 e3.1.toNat ((e3.2.1.length:Int).toNat-e3.1.toNat) (List.replicate ((e3.2.1.length:Int).toNat-e3.1.toNat) (ab.z:ab))).length)<|some ((((sd e3.2.1 e3.1.toNat ((e3.2.1.length:Int).toNat-e3.1.toNat) (List.replicate ((e3.2.1.length:Int).toNat-e3.1.toNat) (ab.z:ab))).drop 0).take (e3.1.toNat-0)),e3.2.2)) (fun r=>some r)
def qbg{R:Type}(lo:qL1)(a6 dw jc:Int)(ev g7:qL2)(fs:Int)(ft:(List ae))(f0 f1 e0:Int)(fd:(List ae))(fi fr g6:Int)(i8:(List ab))(hv:(List (ByteArray×Bool)))(nx:(Int×(List ab)×(List (ByteArray×Bool)))→Option R)(dn:((List ab)×(List (ByteArray×Bool)))→Option R)(rt:(qL2×qL2×(List ab))→Option R):Option R:=bif decide (g6<jc)then aq (ix g6 g7.length)<|aq (ix g6 g7.length)<|aq (room (i8.length+1) 48)<|bnd (l7 lo (g7.getD g6.toNat [])) fun r1=>aq (fm .i64 (g6+1))<|nx ((g6+1),(i8++[(lo,(g7.getD g6.toNat []),())]),(qef .str r1 true hv))else dn (i8,hv)
def qmz(lo:qL1)(a6 dw jc:Int)(ev g7:qL2)(fs:Int)(ft:(List ae))(f0 f1 e0:Int)(fd:(List ae))(fi fr:Int)(s0:(Int×(List ab)×(List (ByteArray×Bool)))):Option (((List ab)×(List (ByteArray×Bool)))⊕(qL2×qL2×(List ab))):=bi (fun a=>qbg lo a6 dw jc ev g7 fs ft f0 f1 e0 fd fi fr a.1 a.2.1 a.2.2 (fun a' =>some (.next a')) (fun e=>some (.done e)) (fun r=>some (.ret r))) s0
def qku:Shp:=⟨[(3, .own 1),jud,jue,jtm,jt6,(12, .d true qT1),(19, .own 0),jqy,jtr,(25, .own 1),(26, .d true qT0),(27, .d true qT0)],[qd8,qd8,qbq,qbq,qp2,jeb,qoc]⟩
def qkt:Shp:=⟨[(3, .own 1),jud,jue,jtm,jt6,(19, .own 0),jqy,jtr],[qd8,qd8,qbq,qbq,qp2,jeb,qoc]⟩
def qbh{R:Type}(a6:Int)(ev g7:qL2)(fs:Int)(ft:(List ae))(f0 f1 e0:Int)(fd:(List ae))(fi fr dw:Int)(i8:(List ab))(hv:(List (ByteArray×Bool)))(nx:(Int×(List ab)×(List (ByteArray×Bool)))→Option R)(dn:((List ab)×(List (ByteArray×Bool)))→Option R)(rt:(qL2×qL2×(List ab))→Option R):Option R:=bif decide (dw<a6)then aq (ix dw ev.length)<|aq (ix dw ev.length)<|bnd (qmz (ev.getD dw.toNat []) a6 dw (g7.length:Int) ev g7 fs ft f0 f1 e0 fd fi fr (0,i8,hv)) fun oe2=>lk oe2 (fun e2=>aq (fm .i64 (dw+1))<|nx ((dw+1),e2.1,e2.2)) (fun r=>rt r)else dn (i8,hv)
def qm0(a6:Int)(ev g7:qL2)(fs:Int)(ft:(List ae))(f0 f1 e0:Int)(fd:(List ae))(fi fr:Int)(s0:(Int×(List ab)×(List (ByteArray×Bool)))):Option (((List ab)×(List (ByteArray×Bool)))⊕(qL2×qL2×(List ab))):=bi (fun a=>qbh a6 ev g7 fs ft f0 f1 e0 fd fi fr a.1 a.2.1 a.2.2 (fun a' =>some (.next a')) (fun e=>some (.done e)) (fun r=>some (.ret r))) s0
def qkw:Shp:=⟨[(3, .own 1),jud,jue,jtm,jt6,(19, .own 0),jqy,jtr],[qd8,qd8,qbq,qbq,qp2,jeb,qoc]⟩
def qkv:Shp:=⟨[jud,jue,jtm,jt6],[qd8,qd8,qbq,qbq,qp2,jeb,qoc]⟩
def qbi{R:Type}(k0 k1:qL2)(fs:Int)(ft:(List ae))(f0 f1 e0:Int)(fd:(List ae))(fi fr:Int)(k5:Bool)(i8:(List ab))(hv:(List (ByteArray×Bool)))(nx:(Bool×(List ab)×(List (ByteArray×Bool)))→Option R)(dn:(List ab)→Option R)(rt:(qL2×qL2×(List ab))→Option R):Option R:=bif k5 then bnd (ko (fs,ft,f0,f1,()) (e0,fd,fi,fr,()) i8 hv) fun r4=>nx (decide ((r4.1.length:Int)<(i8.length:Int)),r4.1,r4.2)else dn i8
def qm1(k0 k1:qL2)(fs:Int)(ft:(List ae))(f0 f1 e0:Int)(fd:(List ae))(fi fr:Int)(s0:(Bool×(List ab)×(List (ByteArray×Bool)))):Option ((List ab)⊕(qL2×qL2×(List ab))):=bi (fun a=>qbi k0 k1 fs ft f0 f1 e0 fd fi fr a.1 a.2.1 a.2.2 (fun a' =>some (.next a')) (fun e=>some (.done e)) (fun r=>some (.ret r))) s0
def qky:Shp:=⟨[jud,jue,(9, .own 4),jt6,(15, .ptr 6),(16, .d true .bool)],[qd8,qd8,qbq,qbq,qp2, .cs 116 1 1 (.cons (.mp 7) .nil), .cs 45 1 1 (.cons (.fn 96 (.cons (.ptr 5) .nil)) .nil),qoc]⟩
def qkx:Shp:=⟨[jt4],[qd8,qd8,qp2]⟩
def qe9(av a0:a8)(lp g7:qL2):Option (qL2×qL2×(List ab)):=bnd (qm0 (lp.length:Int) lp g7 av.1 av.2.1 av.2.2.1 av.2.2.2.1 a0.1 a0.2.1 a0.2.2.1 a0.2.2.2.1 (0,[],[])) fun oe3=>lk oe3 (fun e3=>bnd (qm1 lp g7 av.1 av.2.1 av.2.2.1 av.2.2.2.1 a0.1 a0.2.1 a0.2.2.1 a0.2.2.2.1 (true,e3.1,e3.2)) fun oe5=>lk oe5 (fun e5=>some (lp,g7,e5)) (fun r=>some r)) (fun r=>some r)
def qja(p7:ab)(cy:qL1)(g0:af):Option Bool:=aq (ix 0 1)<|bnd (az p7.1 cy) fun r1=>bif r1 then aq (ix 0 1)<|bnd (az p7.2.1 g0.2.1) fun r2=>some r2 else some false
def lf{R:Type}(aa:(List ab))(f_1c0:qL1)(f_1c1:af)(a1 ap:Int)(nx:Int→Option R)(dn:Unit→Option R)(rt:Int→Option R):Option R:=bif decide (ap<a1)then aq (ix ap aa.length)<|aq (ix ap aa.length)<|bnd (qja (aa.getD ap.toNat ab.z) f_1c0 f_1c1) fun r1=>bif r1 then rt ap else aq (fm .i64 (ap+1))<|nx (ap+1)else dn ()
def vj(aa:(List ab))(f_1c0:qL1)(f_1c1:af)(a1 s0:Int):Option (Unit⊕Int):=bi (fun a=>lf aa f_1c0 f_1c1 a1 a (fun a' =>some (.next a')) (fun e=>some (.done e)) (fun r=>some (.ret r))) s0
def us:Shp:=⟨[qx1,(1, .fn 69 (.cons (.rp false qT1) (.cons (.rp false af.ty) .nil))),qws,qxy],[]⟩
def ur:Shp:=⟨[],[]⟩
def na(aa:(List ab))(f_1c0:qL1)(f_1c1:af):Option Int:=bnd (vj aa f_1c0 f_1c1 (aa.length:Int) 0) fun oe2=>lk oe2 (fun e2=>some (-1)) (fun r=>some r)
def ld(aa:(List ab))(f_1c0:qL1)(f_1c1:af):Option Bool:=bnd (na aa f_1c0 f_1c1) fun r1=>some (decide ((0:Int)≤r1))
def qhh{R:Type}(gy:Int)(o2 k2:(List af))(n2 fs:Int)(ft:(List ae))(f0 f1 e0:Int)(fd:(List ae))(fi fr:Int)(h9 ih:qL1)(ik:(List ab))(ka:qL1)(hb:Int)(j0:qL2)(nx:(Int×qL2)→Option R)(dn:qL2→Option R)(rt:(du×Int)→Option R):Option R:=bif decide (hb<n2)then aq (ix hb k2.length)<|aq (ix hb k2.length)<|aq (room (j0.length+1) 24)<|aq (fm .i64 (hb+1))<|nx ((hb+1),(j0++[(k2.getD hb.toNat af.z).2.1]))else dn j0
def qv9(gy:Int)(o2 k2:(List af))(n2 fs:Int)(ft:(List ae))(f0 f1 e0:Int)(fd:(List ae))(fi fr:Int)(h9 ih:qL1)(ik:(List ab))(ka:qL1)(s0:(Int×qL2)):Option (qL2⊕(du×Int)):=bi (fun a=>qhh gy o2 k2 n2 fs ft f0 f1 e0 fd fi fr h9 ih ik ka a.1 a.2 (fun a' =>some (.next a')) (fun e=>some (.done e)) (fun r=>some (.ret r))) s0
def qto:Shp:=⟨[jto,juj,juk,(8, .ptr 2),(10, .ptr 3),jtp,(15, .nl false (.own 4)),(54, .d true (.slice af.ty)),(55, .d true qT0),(56, .d true qT0)],[qbq,qbq,qln,jjt,qd8]⟩
def qtn:Shp:=⟨[jto,juj,juk,(8, .ptr 2),(10, .ptr 3),jtp,(15, .nl false (.own 4))],[qbq,qbq,qln,jjt,qd8]⟩
def qhi{R:Type}(i2:(List ab))(le:Int)(h9 ih:qL1)(ik:(List ab))(k3 k4:qL1)(h7:Int)(ke:(List ab))(nx:(Int×(List ab))→Option R)(dn:(List ab)→Option R)(rt:(du×Int)→Option R):Option R:=bif decide (h7<le)then aq (ix h7 i2.length)<|aq (ix h7 i2.length)<|bnd (br (i2.getD h7.toNat ab.z).1) fun r10=>bnd (br (i2.getD h7.toNat ab.z).2.1) fun r11=>aq (room (ke.length+1) 48)<|aq (fm .i64 (h7+1))<|nx ((h7+1),(ke++[(r10,r11,())]))else dn ke
def qwa(i2:(List ab))(le:Int)(h9 ih:qL1)(ik:(List ab))(k3 k4:qL1)(s0:(Int×(List ab))):Option ((List ab)⊕(du×Int)):=bi (fun a=>qhi i2 le h9 ih ik k3 k4 a.1 a.2 (fun a' =>some (.next a')) (fun e=>some (.done e)) (fun r=>some (.ret r))) s0
def qtq:Shp:=⟨[jt2,(25, .ptr 1),(116, .d true (.slice ab.ty)),(117, .d true qT0),(118, .d true qT0)],[qln,q9n,qp2]⟩
def qtp:Shp:=⟨[jt2,(25, .ptr 1)],[qln,q9n,qp2]⟩
def qhj{R:Type}(hu:(List ab))(h1:(List af))(lc:Int)(h9 ih:qL1)(ik:(List ab))(ka:qL1)(hr:Int)(nx:Int→Option R)(dn:Unit→Option R)(rt:(du×Int)→Option R):Option R:=bif decide (hr<lc)then aq (ix hr h1.length)<|aq (ix hr h1.length)<|bnd (ld hu ka (h1.getD hr.toNat af.z)) fun r8=>bif r8 then bnd (br (h1.getD hr.toNat af.z).2.1) fun r9=>bnd (qwa hu (hu.length:Int) h9 ih ik r9 (h1.getD hr.toNat af.z).2.2.1 (0,[])) fun oe12=>lk oe12 (fun e12=>rt ((r9,(h1.getD hr.toNat af.z).2.2.1,e12,()),0)) (fun r=>rt r)else aq (fm .i64 (hr+1))<|nx (hr+1)else dn ()
def qwb(hu:(List ab))(h1:(List af))(lc:Int)(h9 ih:qL1)(ik:(List ab))(ka:qL1)(s0:Int):Option (Unit⊕(du×Int)):=bi (fun a=>qhj hu h1 lc h9 ih ik ka a (fun a' =>some (.next a')) (fun e=>some (.done e)) (fun r=>some (.ret r))) s0
def qts:Shp:=⟨[jt2,(10, .ptr 1),(22, .d true (.slice ab.ty)),(101, .d true (.slice af.ty)),(102, .d true qT0),(103, .d true qT0)],[qln,jjt]⟩
def qtr:Shp:=⟨[jt2],[qln]⟩
def qgr(av a0:a8)(hq:qL1)(gy:Int):Option (du×Int):=bnd (qly av a0 hq gy) fun r1=>bif (!decide (r1.2.1=0))then some (([],[],[],()),r1.2.1)else bnd (qdv a0 r1.2.2 gy) fun r2=>bif (!r2.1)then some (([],[],[],()),13)else bnd (dg r1.2.2 r2.2) fun r3=>bnd (qv9 gy r3 r3 (r3.length:Int) av.1 av.2.1 av.2.2.1 av.2.2.2.1 a0.1 a0.2.1 a0.2.2.1 a0.2.2.2.1 [] [] [] r1.1 (0,[])) fun oe4=>lk oe4 (fun e4=>bnd (qee av gy [r1.1]) fun r5=>aq (decide (r5.2.1.length=1))<|bnd (qee a0 gy e4) fun r6=>aq (decide (r6.2.1.length=e4.length))<|bif (!r5.1)then some (([],[],[],()),13)else bif (!r6.1)then some (([],[],[],()),13)else aq (fm .i64 ((r5.2.2.length:Int)*(r6.2.2.length:Int)))<|bif decide ((20000:Int)<((r5.2.2.length:Int)*(r6.2.2.length:Int)))then some (([],[],[],()),13)else bnd (qe9 av a0 r5.2.2 r6.2.2) fun r7=>aq (decide (r7.1.length=r5.2.2.length))<|aq (decide (r7.2.1.length=r6.2.2.length))<|bnd (qwb r7.2.2 r3 (r3.length:Int) [] [] [] r1.1 0) fun oe13=>lk oe13 (fun e13=>some (([],[],[],()),10)) (fun r=>some r)) (fun r=>some r)
def o5(ad:a8)(ex:qL1):Option Bool:=bnd (m2 ad ex) fun r1=>some (decide (r1.1=0))
def qa0(f4:ab)(cy g0:a8):Option Bool:=aq (ix 0 1)<|bnd (o5 cy f4.1) fun r1=>bif (!r1)then some true else aq (ix 0 1)<|bnd (o5 g0 f4.2.1) fun r2=>some (!r2)
def c0{R:Type}(aa:(List ab))(f_1c0 f_1c1:a8)(a1 ap:Int)(nx:Int→Option R)(dn:Unit→Option R)(rt:Int→Option R):Option R:=bif decide (ap<a1)then aq (ix ap aa.length)<|aq (ix ap aa.length)<|bnd (qa0 (aa.getD ap.toNat ab.z) f_1c0 f_1c1) fun r1=>bif r1 then rt ap else aq (fm .i64 (ap+1))<|nx (ap+1)else dn ()
def lw(aa:(List ab))(f_1c0 f_1c1:a8)(a1 s0:Int):Option (Unit⊕Int):=bi (fun a=>c0 aa f_1c0 f_1c1 a1 a (fun a' =>some (.next a')) (fun e=>some (.done e)) (fun r=>some (.ret r))) s0
def uv:Shp:=⟨[qx1,(1, .fn 77 (.cons (.rp false a8.ty) (.cons (.rp false a8.ty) .nil))),qws,qxy],[]⟩
def uu:Shp:=⟨[],[]⟩
def gh(aa:(List ab))(f_1c0 f_1c1:a8):Option Int:=bnd (lw aa f_1c0 f_1c1 (aa.length:Int) 0) fun oe2=>lk oe2 (fun e2=>some (-1)) (fun r=>some r)
def fk(aa:(List ab))(f_1c0 f_1c1:a8):Option Bool:=bnd (gh aa f_1c0 f_1c1) fun r1=>some (decide ((0:Int)≤r1))
def zi(av a0:a8)(g3:(List ab)):Option Bool:=bnd (fk g3 av a0) fun r1=>some (!r1)
def ct{R:Type}(ga g1:(List ByteArray))(es cb:Int)(nx:Int→Option R)(dn:Unit→Option R)(rt:Bool→Option R):Option R:=bif decide (cb<es)then aq (ix cb ga.length)<|aq (ix cb ga.length)<|aq (ix cb g1.length)<|aq (ix cb g1.length)<|bif (!(ByteArray.toList (ga.getD cb.toNat ⟨#[]⟩)==ByteArray.toList (g1.getD cb.toNat ⟨#[]⟩)))then rt false else aq (fm .i64 (cb+1))<|nx (cb+1)else dn ()
def o9(ga g1:(List ByteArray))(es s0:Int):Option (Unit⊕Bool):=bi (fun a=>ct ga g1 es a (fun a' =>some (.next a')) (fun e=>some (.done e)) (fun r=>some (.ret r))) s0
def qaj:Shp:=⟨[(0, .d false (.slice .str)),jqn,jqw,jqx],[]⟩
def qai:Shp:=⟨[],[]⟩
def f5(ga g1:(List ByteArray)):Option Bool:=bif (!decide ((ga.length:Int)=(g1.length:Int)))then some false else bnd (o9 ga g1 (ga.length:Int) 0) fun oe1=>lk oe1 (fun e1=>some true) (fun r=>some r)
def qax(f4:ab)(cy g0:qL1):Option Bool:=aq (ix 0 1)<|bnd (az f4.1 cy) fun r1=>bif r1 then aq (ix 0 1)<|bnd (az f4.2.1 g0) fun r2=>some r2 else some false
def cz{R:Type}(aa:(List ab))(f_1c0 f_1c1:qL1)(a1 ap:Int)(nx:Int→Option R)(dn:Unit→Option R)(rt:Int→Option R):Option R:=bif decide (ap<a1)then aq (ix ap aa.length)<|aq (ix ap aa.length)<|bnd (qax (aa.getD ap.toNat ab.z) f_1c0 f_1c1) fun r1=>bif r1 then rt ap else aq (fm .i64 (ap+1))<|nx (ap+1)else dn ()
def lq(aa:(List ab))(f_1c0 f_1c1:qL1)(a1 s0:Int):Option (Unit⊕Int):=bi (fun a=>cz aa f_1c0 f_1c1 a1 a (fun a' =>some (.next a')) (fun e=>some (.done e)) (fun r=>some (.ret r))) s0
def uo:Shp:=⟨[qx1,(1, .fn 47 (.cons (.rp false qT1) (.cons (.rp false qT1) .nil))),qws,qxy],[]⟩
def um:Shp:=⟨[],[]⟩
def gg(aa:(List ab))(f_1c0 f_1c1:qL1):Option Int:=bnd (lq aa f_1c0 f_1c1 (aa.length:Int) 0) fun oe2=>lk oe2 (fun e2=>some (-1)) (fun r=>some r)
def cw(aa:(List ab))(f_1c0 f_1c1:qL1):Option Bool:=bnd (gg aa f_1c0 f_1c1) fun r1=>some (decide ((0:Int)≤r1))
def ji(hf nd:qL1)(g0:(List (ByteArray×Bool))):Option (Bool×(List (ByteArray×Bool))):=bnd (l7 hf nd) fun r1=>some (((s8 .str r1 g0).getD false),g0)
def oj(hd:ag)(cy:a8)(g0:ByteArray)(m0:ag)(p_3c0:(List (ByteArray×Bool))):Option (Bool×(List (ByteArray×Bool))):=aq (ix 0 1)<|aq (ix hd.1 cy.2.1.length)<|aq (ix hd.1 cy.2.1.length)<|aq (ix 0 1)<|bif (ByteArray.toList (cy.2.1.getD hd.1.toNat ae.z).1==ByteArray.toList g0)then aq (ix 0 1)<|bnd (ji m0.2.1 hd.2.1 p_3c0) fun r1=>some (r1.1,r1.2)else some (false,p_3c0)
def bg{R:Type}(aa:(List ag))(f_1c0:a8)(f_1c1:ByteArray)(f_1c3:ag)(a1 ap:Int)(f_1c2c0:(List (ByteArray×Bool)))(nx:(Int×(List (ByteArray×Bool)))→Option R)(dn:(List (ByteArray×Bool))→Option R)(rt:(Int×(List (ByteArray×Bool)))→Option R):Option R:=bif decide (ap<a1)then aq (ix ap aa.length)<|aq (ix ap aa.length)<|bnd (oj (aa.getD ap.toNat ag.z) f_1c0 f_1c1 f_1c3 f_1c2c0) fun r1=>bif r1.1 then rt (ap,r1.2)else aq (fm .i64 (ap+1))<|nx ((ap+1),r1.2)else dn f_1c2c0
def dv(aa:(List ag))(f_1c0:a8)(f_1c1:ByteArray)(f_1c3:ag)(a1:Int)(s0:(Int×(List (ByteArray×Bool)))):Option ((List (ByteArray×Bool))⊕(Int×(List (ByteArray×Bool)))):=bi (fun a=>bg aa f_1c0 f_1c1 f_1c3 a1 a.1 a.2 (fun a' =>some (.next a')) (fun e=>some (.done e)) (fun r=>some (.ret r))) s0
def j7:Shp:=⟨[jts,q2q,qws,qxy],[qqc,qnu,qoc]⟩
def j6:Shp:=⟨[],[qqc,qnu,qoc]⟩
def cd(aa:(List ag))(f_1c0:a8)(f_1c1:ByteArray)(f_1c3:ag)(f_1c2c0:(List (ByteArray×Bool))):Option (Int×(List (ByteArray×Bool))):=bnd (dv aa f_1c0 f_1c1 f_1c3 (aa.length:Int) (0,f_1c2c0)) fun oe2=>lk oe2 (fun e2=>some ((-1),e2)) (fun r=>some r)
def aw(aa:(List ag))(f_1c0:a8)(f_1c1:ByteArray)(f_1c3:ag)(f_1c2c0:(List (ByteArray×Bool))):Option (Bool×(List (ByteArray×Bool))):=bnd (cd aa f_1c0 f_1c1 f_1c3 f_1c2c0) fun r1=>some (decide ((0:Int)≤r1.1),r1.2)
def f6{R:Type}(gs:qL1)(ek b6:(List ag))(jn cc:Int)(a2:(List ae))(ch cv bw:Int)(b0:(List ae))(b1 b2 b4:Int)(k0:(List (ByteArray×Bool)))(nx:(Int×(List (ByteArray×Bool)))→Option R)(dn:(List (ByteArray×Bool))→Option R)(rt:(Bool×(List (ByteArray×Bool)))→Option R):Option R:=bif decide (b4<jn)then aq (ix b4 b6.length)<|aq (ix b4 b6.length)<|aq (ix (b6.getD b4.toNat ag.z).1 a2.length)<|aq (ix (b6.getD b4.toNat ag.z).1 a2.length)<|bif (ByteArray.toList (a2.getD (Int.toNat (b6.getD b4.toNat ag.z).1) ae.z).1==ByteArray.toList ⟨#[]⟩)then bnd (ji (b6.getD b4.toNat ag.z).2.1 gs k0) fun r8=>bif r8.1 then aq (fm .i64 (b4+1))<|nx ((b4+1),r8.2)else bnd (aw ek (bw,b0,b1,b2,()) (a2.getD (Int.toNat (b6.getD b4.toNat ag.z).1) ae.z).1 (b6.getD b4.toNat ag.z) r8.2) fun r9=>bif (!r9.1)then rt (false,r9.2)else aq (fm .i64 (b4+1))<|nx ((b4+1),r9.2)else bnd (aw ek (bw,b0,b1,b2,()) (a2.getD (Int.toNat (b6.getD b4.toNat ag.z).1) ae.z).1 (b6.getD b4.toNat ag.z) k0) fun r10=>bif (!r10.1)then rt (false,r10.2)else aq (fm .i64 (b4+1))<|nx ((b4+1),r10.2)else dn k0
def qcs(gs:qL1)(ek b6:(List ag))(jn cc:Int)(a2:(List ae))(ch cv bw:Int)(b0:(List ae))(b1 b2:Int)(s0:(Int×(List (ByteArray×Bool)))):Option ((List (ByteArray×Bool))⊕(Bool×(List (ByteArray×Bool)))):=bi (fun a=>f6 gs ek b6 jn cc a2 ch cv bw b0 b1 b2 a.1 a.2 (fun a' =>some (.next a')) (fun e=>some (.done e)) (fun r=>some (.ret r))) s0
def qk7:Shp:=⟨[jt0,jul,jum,jun,jqq,jqr,(59, .d true qT0),(60, .d true qT0)],[qur,qoc,qbq,qbq,jom]⟩
def qk6:Shp:=⟨[],[qur,qoc]⟩
def ss{R:Type}(hl gs:qL1)(k0:(List (ByteArray×Bool)))(cc:Int)(a2:(List ae))(ch cv bw:Int)(b0:(List ae))(b1 b2:Int)(dn:Unit→Option R)(rt:(Bool×(List (ByteArray×Bool)))→Option R):Option R:=bnd (fg (bw,b0,b1,b2,()) gs) fun r5=>bnd (m2 (cc,a2,ch,cv,()) hl) fun r6=>bnd (fg (cc,a2,ch,cv,()) hl) fun r7=>bif decide ((r7.length:Int)<(r6.2.length:Int))then rt (false,k0)else bnd (qcs gs r5 r7 (r7.length:Int) cc a2 ch cv bw b0 b1 b2 (0,k0)) fun oe11=>lk oe11 (fun e11=>rt (true,e11)) (fun r=>rt r)
def ol(hl gs:qL1)(k0:(List (ByteArray×Bool)))(cc:Int)(a2:(List ae))(ch cv bw:Int)(b0:(List ae))(b1 b2:Int):Option (Unit⊕(Bool×(List (ByteArray×Bool)))):=ss hl gs k0 cc a2 ch cv bw b0 b1 b2 (fun e=>some (.inl e)) (fun r=>some (.inr r))
def qk9:Shp:=⟨[jtz,jt0,jul,jum,jun],[qur,qoc,qbq,qbq,jom]⟩
def qk8:Shp:=⟨[],[]⟩
def rc(av a0:a8)(hl gs:qL1)(in_4c0:(List (ByteArray×Bool))):Option (Bool×(List (ByteArray×Bool))):=bnd (qm av) fun r1=>bnd (qm a0) fun r2=>bnd (az hl r1.2) fun r3=>bif r3 then bnd (az gs r2.2) fun r4=>bif (!r4)then some (false,in_4c0)else bnd (ol hl gs in_4c0 av.1 av.2.1 av.2.2.1 av.2.2.2.1 a0.1 a0.2.1 a0.2.2.1 a0.2.2.2.1) fun oe12=>lk oe12 (fun e12=>none) (fun r=>some r)else bnd (ol hl gs in_4c0 av.1 av.2.1 av.2.2.1 av.2.2.2.1 a0.1 a0.2.1 a0.2.2.1 a0.2.2.2.1) fun oe13=>lk oe13 (fun e13=>none) (fun r=>some r)
def om(f4:ab)(cy g0:a8)(p_3c0:(List (ByteArray×Bool))):Option (Bool×(List (ByteArray×Bool))):=aq (ix 0 1)<|aq (ix 0 1)<|bnd (rc cy g0 f4.1 f4.2.1 p_3c0) fun r1=>some ((!r1.1),r1.2)
def ci{R:Type}(aa:(List ab))(f_1c0 f_1c1:a8)(a1 ap:Int)(f_1c2c0:(List (ByteArray×Bool)))(nx:(Int×(List (ByteArray×Bool)))→Option R)(dn:(List (ByteArray×Bool))→Option R)(rt:(Int×(List (ByteArray×Bool)))→Option R):Option R:=bif decide (ap<a1)then aq (ix ap aa.length)<|aq (ix ap aa.length)<|bnd (om (aa.getD ap.toNat ab.z) f_1c0 f_1c1 f_1c2c0) fun r1=>bif r1.1 then rt (ap,r1.2)else aq (fm .i64 (ap+1))<|nx ((ap+1),r1.2)else dn f_1c2c0
def jv(aa:(List ab))(f_1c0 f_1c1:a8)(a1:Int)(s0:(Int×(List (ByteArray×Bool)))):Option ((List (ByteArray×Bool))⊕(Int×(List (ByteArray×Bool)))):=bi (fun a=>ci aa f_1c0 f_1c1 a1 a.1 a.2 (fun a' =>some (.next a')) (fun e=>some (.done e)) (fun r=>some (.ret r))) s0
def rx:Shp:=⟨[qx1,(1, .fn 83 (.cons (.rp false a8.ty) (.cons (.rp false a8.ty) (.cons (.ptr 0) .nil)))),qws,qxy],[qqc,qnu,qoc]⟩
def rv:Shp:=⟨[],[qqc,qnu,qoc]⟩
def fl(aa:(List ab))(f_1c0 f_1c1:a8)(f_1c2c0:(List (ByteArray×Bool))):Option (Int×(List (ByteArray×Bool))):=bnd (jv aa f_1c0 f_1c1 (aa.length:Int) (0,f_1c2c0)) fun oe2=>lk oe2 (fun e2=>some ((-1),e2)) (fun r=>some r)
def l8{R:Type}(g3 es:(List ab))(cb mb:Int)(md:(List ae))(mk ml lt:Int)(lv:(List ae))(l1 l2 d0:Int)(o0:(List (ByteArray×Bool)))(nx:(Int×(List (ByteArray×Bool)))→Option R)(dn:(List (ByteArray×Bool))→Option R)(rt:Int→Option R):Option R:=bif decide (d0<cb)then aq (ix d0 es.length)<|aq (ix d0 es.length)<|bnd (l7 (es.getD d0.toNat ab.z).1 (es.getD d0.toNat ab.z).2.1) fun r1=>aq (fm .i64 (d0+1))<|nx ((d0+1),(qef .str r1 true o0))else dn o0
def qbo(g3 es:(List ab))(cb mb:Int)(md:(List ae))(mk ml lt:Int)(lv:(List ae))(l1 l2:Int)(s0:(Int×(List (ByteArray×Bool)))):Option ((List (ByteArray×Bool))⊕Int):=bi (fun a=>l8 g3 es cb mb md mk ml lt lv l1 l2 a.1 a.2 (fun a' =>some (.next a')) (fun e=>some (.done e)) (fun r=>some (.ret r))) s0
def qjl:Shp:=⟨[jrc,jjr,(4, .ptr 1),(7, .ptr 2),(12, .d false (.slice ab.ty)),jqx,jty],[qbq,qbq,q9o,qoc]⟩
def qjk:Shp:=⟨[jrc,jjr,(4, .ptr 1),(7, .ptr 2)],[qbq,qbq,q9o,qoc]⟩
def p8(av a0:a8)(g3:(List ab)):Option Int:=bnd (qbo g3 g3 (g3.length:Int) av.1 av.2.1 av.2.2.1 av.2.2.2.1 a0.1 a0.2.1 a0.2.2.1 a0.2.2.2.1 (0,[])) fun oe2=>lk oe2 (fun e2=>bnd (fl g3 av a0 e2) fun r3=>some r3.1) (fun r=>some r)
def pr(av a0:a8)(hq:qL1)(ht:du):Option Bool:=bnd (qby av a0) fun r1=>bif (!decide (r1=0))then some false else bif decide ((20000:Int)<(ht.2.2.1.length:Int))then some false else bnd (zi av a0 ht.2.2.1) fun r2=>bif (!r2)then some false else bnd (l0 av hq) fun r3=>bnd (l0 a0 ht.2.1) fun r4=>bif (!r3.2.1)then some false else bif (!r4.2.1)then some false else bnd (f5 r3.2.2 r4.2.2) fun r5=>bif (!r5)then some false else bnd (az r4.1 ht.1) fun r6=>bif (!r6)then some false else bnd (cw ht.2.2.1 r3.1 r4.1) fun r7=>bif (!r7)then some false else bnd (p8 av a0 ht.2.2.1) fun r8=>some (decide (r8<0))
def qiz:Option Bool:=bnd (qmv ⟨#[]⟩ [⟨#[97]⟩,⟨#[98]⟩]) fun r1=>bnd (qmv ⟨#[99]⟩ [⟨#[97]⟩,⟨#[98]⟩]) fun r2=>bnd (qgr r1 r2 [0] 100) fun r3=>bnd (qgr r2 r1 [0] 100) fun r4=>bif decide (r3.2=0)then bif decide (r4.2=10)then bnd (pr r1 r2 [0] r3.1) fun r5=>bif r5 then bnd (pr r2 r1 [0] r3.1) fun r6=>some (!r6)else some false else some false else some false
def zd(m1:ae):Option Bool:=bif decide ((50:Int)<(m1.2.1.length:Int))then some true else bif decide ((50:Int)<(m1.2.2.1.length:Int))then some true else some (decide ((200:Int)<(ByteArray.size m1.1:Int)))
def b9{R:Type}(aa:(List ae))(a1 ap:Int)(nx:Int→Option R)(dn:Unit→Option R)(rt:Int→Option R):Option R:=bif decide (ap<a1)then aq (ix ap aa.length)<|aq (ix ap aa.length)<|bnd (zd (aa.getD ap.toNat ae.z)) fun r1=>bif r1 then rt ap else aq (fm .i64 (ap+1))<|nx (ap+1)else dn ()
def f9(aa:(List ae))(a1 s0:Int):Option (Unit⊕Int):=bi (fun a=>b9 aa a1 a (fun a' =>some (.next a')) (fun e=>some (.done e)) (fun r=>some (.ret r))) s0
def ow:Shp:=⟨[(0, .d false (.slice ae.ty)),(1, .fn 35 .nil),qws,qxy],[]⟩
def ov:Shp:=⟨[],[]⟩
def dr(aa:(List ae)):Option Int:=bnd (f9 aa (aa.length:Int) 0) fun oe2=>lk oe2 (fun e2=>some (-1)) (fun r=>some r)
def a7(aa:(List ae)):Option Bool:=bnd (dr aa) fun r1=>some (decide ((0:Int)≤r1))
def z6(ad:a8):Option Bool:=bif decide ((8:Int)<(ad.2.1.length:Int))then bif decide ((ad.2.1.length:Int)≤60)then some true else bif decide ((100:Int)<(ad.2.1.length:Int))then some true else bif decide ((8:Int)<ad.1)then bif decide (ad.1≤40)then some true else bnd (a7 ad.2.1) fun r1=>some r1 else bnd (a7 ad.2.1) fun r2=>some r2 else bif decide ((100:Int)<(ad.2.1.length:Int))then some true else bif decide ((8:Int)<ad.1)then bif decide (ad.1≤40)then some true else bnd (a7 ad.2.1) fun r3=>some r3 else bnd (a7 ad.2.1) fun r4=>some r4
def qci(he:qL1):Option Bool:=bif decide ((40:Int)<(he.length:Int))then bif decide ((he.length:Int)≤1000)then some true else some (decide ((2000:Int)<(he.length:Int)))else some (decide ((2000:Int)<(he.length:Int)))
def qgp(f4:ab):Option Bool:=bif decide ((50:Int)<(f4.1.length:Int))then some true else some (decide ((50:Int)<(f4.2.1.length:Int)))
def cx{R:Type}(aa:(List ab))(a1 ap:Int)(nx:Int→Option R)(dn:Unit→Option R)(rt:Int→Option R):Option R:=bif decide (ap<a1)then aq (ix ap aa.length)<|aq (ix ap aa.length)<|bnd (qgp (aa.getD ap.toNat ab.z)) fun r1=>bif r1 then rt ap else aq (fm .i64 (ap+1))<|nx (ap+1)else dn ()
def lm(aa:(List ab))(a1 s0:Int):Option (Unit⊕Int):=bi (fun a=>cx aa a1 a (fun a' =>some (.next a')) (fun e=>some (.done e)) (fun r=>some (.ret r))) s0
def uk:Shp:=⟨[qx1,(1, .fn 37 .nil),qws,qxy],[]⟩
def uj:Shp:=⟨[],[]⟩
def gf(aa:(List ab)):Option Int:=bnd (lm aa (aa.length:Int) 0) fun oe2=>lk oe2 (fun e2=>some (-1)) (fun r=>some r)
def fj(aa:(List ab)):Option Bool:=bnd (gf aa) fun r1=>some (decide ((0:Int)≤r1))
def qgo(he:(List ab)):Option Bool:=bif decide ((60:Int)<(he.length:Int))then some true else bnd (fj he) fun r1=>some r1
def wz(gx:Int):Option Bool:=bif decide ((97:Int)≤gx)then bif decide (gx≤122)then some true else bif decide ((65:Int)≤gx)then some (decide (gx≤90))else some false else bif decide ((65:Int)≤gx)then some (decide (gx≤90))else some false
def o8{R:Type}(aa:ByteArray)(c2:Int)(nx:Int→Option R)(dn:Unit→Option R)(rt:Bool→Option R):Option R:=bif decide (c2<(ByteArray.size aa:Int))then aq (ix c2 (ByteArray.size aa))<|bnd (wz (((ByteArray.data aa).getD c2.toNat 0).toNat:Int)) fun r2=>bif (!r2)then bif decide ((48:Int)≤(((ByteArray.data aa).getD c2.toNat 0).toNat:Int))then bif (!(decide ((((ByteArray.data aa).getD c2.toNat 0).toNat:Int)≤57)))then bif (!decide ((((ByteArray.data aa).getD c2.toNat 0).toNat:Int)=95))then bif (!decide ((((ByteArray.data aa).getD c2.toNat 0).toNat:Int)=45))then bif (!decide ((((ByteArray.data aa).getD c2.toNat 0).toNat:Int)=46))then rt false else aq (fm .i64 (c2+1))<|nx (c2+1)else aq (fm .i64 (c2+1))<|nx (c2+1)else aq (fm .i64 (c2+1))<|nx (c2+1)else aq (fm .i64 (c2+1))<|nx (c2+1)else bif (!decide ((((ByteArray.data aa).getD c2.toNat 0).toNat:Int)=95))then bif (!decide ((((ByteArray.data aa).getD c2.toNat 0).toNat:Int)=45))then bif (!decide ((((ByteArray.data aa).getD c2.toNat 0).toNat:Int)=46))then rt false else aq (fm .i64 (c2+1))<|nx (c2+1)else aq (fm .i64 (c2+1))<|nx (c2+1)else aq (fm .i64 (c2+1))<|nx (c2+1)else aq (fm .i64 (c2+1))<|nx (c2+1)else dn ()
def qj3(aa:ByteArray)(s0:Int):Option (Unit⊕Bool):=bi (fun a=>o8 aa a (fun a' =>some (.next a')) (fun e=>some (.done e)) (fun r=>some (.ret r))) s0
def que:Shp:=⟨[jqu,jto],[]⟩
def qud:Shp:=⟨[],[]⟩
def qb0(aa:ByteArray):Option Bool:=bif decide ((ByteArray.size aa:Int)<1)then some false else bif decide ((40:Int)<(ByteArray.size aa:Int))then some false else aq (ix 0 (ByteArray.size aa))<|bnd (wz (((ByteArray.data aa).getD 0 0).toNat:Int)) fun r1=>bif (!r1)then some false else bnd (qj3 aa 1) fun oe3=>lk oe3 (fun e3=>some true) (fun r=>some r)
def l4{R:Type}(ad:Int)(eg:qL1)(bk:Int)(nx:Int→Option R)(dn:Unit→Option R)(rt:Bool→Option R):Option R:=bif decide (bk<(eg.length:Int))then aq (ix bk eg.length)<|aq (ix bk eg.length)<|bif decide ((eg.getD bk.toNat 0)<0)then rt false else aq (ix bk eg.length)<|aq (ix bk eg.length)<|bif decide (ad≤(eg.getD bk.toNat 0))then rt false else bif decide ((0:Int)<bk)then aq (fm .i64 (bk-1))<|aq (ix (bk-1) eg.length)<|aq (ix (bk-1) eg.length)<|aq (ix bk eg.length)<|aq (ix bk eg.length)<|bif decide ((eg.getD bk.toNat 0)≤(eg.getD (bk-1).toNat 0))then rt false else aq (fm .i64 (bk+1))<|nx (bk+1)else aq (fm .i64 (bk+1))<|nx (bk+1)else dn ()
def qj9(ad:Int)(eg:qL1)(s0:Int):Option (Unit⊕Bool):=bi (fun a=>l4 ad eg a (fun a' =>some (.next a')) (fun e=>some (.done e)) (fun r=>some (.ret r))) s0
def quj:Shp:=⟨[qu2,jqv,jjs],[]⟩
def qui:Shp:=⟨[],[]⟩
def ot(ad:Int)(eg:qL1):Option Bool:=bnd (qj9 ad eg 0) fun oe1=>lk oe1 (fun e1=>some true) (fun r=>some r)
def w9{R:Type}(c1:Int)(a4:(List ae))(c4 c5 c2:Int)(nx:Int→Option R)(dn:Unit→Option R)(rt:Bool→Option R):Option R:=bif decide (c2<(a4.length:Int))then aq (ix c2 a4.length)<|aq (ix c2 a4.length)<|bif (!(ByteArray.toList (a4.getD c2.toNat ae.z).1==ByteArray.toList ⟨#[]⟩))then bnd (qb0 (a4.getD c2.toNat ae.z).1) fun r1=>bif (!r1)then rt false else bnd (ot c1 (a4.getD c2.toNat ae.z).2.1) fun r2=>bif (!r2)then rt false else bnd (ot c1 (a4.getD c2.toNat ae.z).2.2.1) fun r3=>bif (!r3)then rt false else aq (fm .i64 (c2+1))<|nx (c2+1)else bnd (ot c1 (a4.getD c2.toNat ae.z).2.1) fun r4=>bif (!r4)then rt false else bnd (ot c1 (a4.getD c2.toNat ae.z).2.2.1) fun r5=>bif (!r5)then rt false else aq (fm .i64 (c2+1))<|nx (c2+1)else dn ()
def qmf(c1:Int)(a4:(List ae))(c4 c5 s0:Int):Option (Unit⊕Bool):=bi (fun a=>w9 c1 a4 c4 c5 a (fun a' =>some (.next a')) (fun e=>some (.done e)) (fun r=>some (.ret r))) s0
def qxe:Shp:=⟨[jra,jto],[qbq]⟩
def qxd:Shp:=⟨[],[]⟩
def qd4(ad:a8):Option Bool:=bif decide (ad.1<1)then some false else bif decide ((40:Int)<ad.1)then some false else bif decide ((60:Int)<(ad.2.1.length:Int))then some false else bif decide (ad.2.2.1<0)then some false else bif decide (ad.1≤ad.2.2.1)then some false else bif decide (ad.2.2.2.1<0)then some false else bif decide (ad.1≤ad.2.2.2.1)then some false else bnd (qmf ad.1 ad.2.1 ad.2.2.1 ad.2.2.2.1 0) fun oe6=>lk oe6 (fun e6=>some true) (fun r=>some r)
def qb1{R:Type}(he:qL1)(nb bk:Int)(nx:Int→Option R)(dn:Unit→Option R)(rt:Bool→Option R):Option R:=bif decide (bk<(he.length:Int))then aq (ix bk he.length)<|aq (ix bk he.length)<|bif decide ((he.getD bk.toNat 0)=nb)then rt true else aq (fm .i64 (bk+1))<|nx (bk+1)else dn ()
def qs0(he:qL1)(nb s0:Int):Option (Unit⊕Bool):=bi (fun a=>qb1 he nb a (fun a' =>some (.next a')) (fun e=>some (.done e)) (fun r=>some (.ret r))) s0
def q19:Shp:=⟨[jjg,jcb,jjs],[]⟩
def q18:Shp:=⟨[],[]⟩
def pu(he:qL1)(nb:Int):Option Bool:=bnd (qs0 he nb 0) fun oe1=>lk oe1 (fun e1=>some false) (fun r=>some r)
def qo{R:Type}(dc gr c6:Int)(a5:(List ae))(dd dt i1:Int)(bb:qL1)(nx:(Int×qL1)→Option R)(dn rt:qL1→Option R):Option R:=aq (ix gr a5.length)<|aq (ix gr a5.length)<|bif decide (i1<((a5.getD gr.toNat ae.z).2.2.1.length:Int))then aq (ix gr a5.length)<|aq (ix gr a5.length)<|aq (ix i1 (a5.getD gr.toNat ae.z).2.2.1.length)<|aq (ix i1 (a5.getD gr.toNat ae.z).2.2.1.length)<|bnd (pu bb ((a5.getD gr.toNat ae.z).2.2.1.getD i1.toNat 0)) fun r2=>bif (!r2)then aq (ix gr a5.length)<|aq (ix gr a5.length)<|aq (ix i1 (a5.getD gr.toNat ae.z).2.2.1.length)<|aq (ix i1 (a5.getD gr.toNat ae.z).2.2.1.length)<|aq (room (bb.length+1) 8)<|aq (fm .i64 (i1+1))<|nx ((i1+1),(bb++[((a5.getD gr.toNat ae.z).2.2.1.getD i1.toNat 0)]))else aq (fm .i64 (i1+1))<|nx ((i1+1),bb)else dn bb
def qeh(dc gr c6:Int)(a5:(List ae))(dd dt:Int)(s0:(Int×qL1)):Option (qL1⊕qL1):=bi (fun a=>qo dc gr c6 a5 dd dt a.1 a.2 (fun a' =>some (.next a')) (fun e=>some (.done e)) (fun r=>some (.ret r))) s0
def qxi:Shp:=⟨[jqo,jtu,jd7,qws,qxy],[qbq,qtg]⟩
def qxh:Shp:=⟨[jqo,jtu,jd7,qws],[qbq,qtg]⟩
def qp{R:Type}(dc c6:Int)(a5:(List ae))(dd dt gr:Int)(bb:qL1)(nx:(Int×qL1)→Option R)(dn rt:qL1→Option R):Option R:=bif decide (gr<(a5.length:Int))then aq (ix gr a5.length)<|aq (ix gr a5.length)<|aq (ix dc bb.length)<|aq (ix dc bb.length)<|bnd (pu (a5.getD gr.toNat ae.z).2.1 (bb.getD dc.toNat 0)) fun r1=>bif (!r1)then aq (fm .i64 (gr+1))<|nx ((gr+1),bb)else bnd (qeh dc gr c6 a5 dd dt (0,bb)) fun oe3=>lk oe3 (fun e3=>aq (fm .i64 (gr+1))<|nx ((gr+1),e3)) (fun r=>rt r)else dn bb
def qei(dc c6:Int)(a5:(List ae))(dd dt:Int)(s0:(Int×qL1)):Option (qL1⊕qL1):=bi (fun a=>qp dc c6 a5 dd dt a.1 a.2 (fun a' =>some (.next a')) (fun e=>some (.done e)) (fun r=>some (.ret r))) s0
def qxk:Shp:=⟨[jqo,jtu,jd7,qws],[qbq,qtg]⟩
def qxj:Shp:=⟨[jqo,jtu,jd7],[qbq,qtg]⟩
def xa{R:Type}(c6:Int)(a5:(List ae))(dd dt dc:Int)(bb:qL1)(nx:(Int×qL1)→Option R)(dn rt:qL1→Option R):Option R:=bif decide (dc<(bb.length:Int))then bnd (qei dc c6 a5 dd dt (0,bb)) fun oe4=>lk oe4 (fun e4=>aq (fm .i64 (dc+1))<|nx ((dc+1),e4)) (fun r=>rt r)else dn bb
def qmk(c6:Int)(a5:(List ae))(dd dt:Int)(s0:(Int×qL1)):Option (qL1⊕qL1):=bi (fun a=>xa c6 a5 dd dt a.1 a.2 (fun a' =>some (.next a')) (fun e=>some (.done e)) (fun r=>some (.ret r))) s0
def qxm:Shp:=⟨[jqo,jtu,jd7],[qbq,qtg]⟩
def qxl:Shp:=⟨[(5, .own 0)],[qtg]⟩
def qag(ad:a8)(g5:Int):Option qL1:=bnd (qmk ad.1 ad.2.1 ad.2.2.1 ad.2.2.2.1 (0,[g5])) fun oe5=>lk oe5 (fun e5=>some e5) (fun r=>some r)
def rk{R:Type}(c1:Int)(a4:(List ae))(c4 c5 a6:Int)(dw:(List ae))(b5 h3 ms mv mx hk:Int)(ku:(List ae))(nx:(Int×(List ae))→Option R)(dn:(List ae)→Option R)(rt:a8→Option R):Option R:=bif decide (hk<(a4.length:Int))then aq (ix hk a4.length)<|aq (ix hk a4.length)<|aq (room (0+(a4.getD hk.toNat ae.z).2.2.1.length) 8)<|aq (room (0+(a4.getD hk.toNat ae.z).2.1.length) 8)<|aq (room (ku.length+1) 64)<|aq (fm .i64 (hk+1))<|nx ((hk+1),(ku++[((a4.getD hk.toNat ae.z).1,([]++(a4.getD hk.toNat ae.z).2.2.1),([]++(a4.getD hk.toNat ae.z).2.1),())]))else dn ku
def qh0(c1:Int)(a4:(List ae))(c4 c5 a6:Int)(dw:(List ae))(b5 h3 ms mv mx:Int)(s0:(Int×(List ae))):Option ((List ae)⊕a8):=bi (fun a=>rk c1 a4 c4 c5 a6 dw b5 h3 ms mv mx a.1 a.2 (fun a' =>some (.next a')) (fun e=>some (.done e)) (fun r=>some (.ret r))) s0
def qr0:Shp:=⟨[jra,(2, .ptr 1),(3, .ptr 2),(4, .d true qT0)],[qbq,qkh, .cs 24 4 1 (.cons (.d true qT0) (.cons (.own 3) (.cons (.d true qT0) (.cons (.d true qT0) .nil)))),jd8]⟩
def qrz:Shp:=⟨[jqo,jt3],[qkh,qvp,jd8]⟩
def zm(ad:a8):Option a8:=bnd (qh0 ad.1 ad.2.1 ad.2.2.1 ad.2.2.2.1 0 [] 0 0 ad.1 ad.2.2.2.1 ad.2.2.1 (0,[])) fun oe1=>lk oe1 (fun e1=>some (ad.1,e1,ad.2.2.2.1,ad.2.2.1,())) (fun r=>some r)
def zn{R:Type}(hd lr:qL1)(bk:Int)(nx:Int→Option R)(dn:Unit→Option R)(rt:Bool→Option R):Option R:=bif decide (bk<(hd.length:Int))then aq (ix bk hd.length)<|aq (ix bk hd.length)<|bnd (pu lr (hd.getD bk.toNat 0)) fun r1=>bif r1 then rt true else aq (fm .i64 (bk+1))<|nx (bk+1)else dn ()
def qpt(hd lr:qL1)(s0:Int):Option (Unit⊕Bool):=bi (fun a=>zn hd lr a (fun a' =>some (.next a')) (fun e=>some (.done e)) (fun r=>some (.ret r))) s0
def qza:Shp:=⟨[jjg,jqv,jjs],[]⟩
def qy9:Shp:=⟨[],[]⟩
def qc4(hd lr:qL1):Option Bool:=bnd (qpt hd lr 0) fun oe2=>lk oe2 (fun e2=>some false) (fun r=>some r)
def l9{R:Type}(hg hs:qL1)(c1:Int)(a4:(List ae))(c4 c5 bk:Int)(nx:Int→Option R)(dn:Unit→Option R)(rt:Bool→Option R):Option R:=bif decide (bk<c1)then bnd (pu hg bk) fun r5=>bif (!r5)then rt false else bnd (pu hs bk) fun r6=>bif (!r6)then rt false else aq (fm .i64 (bk+1))<|nx (bk+1)else dn ()
def qfu(hg hs:qL1)(c1:Int)(a4:(List ae))(c4 c5 s0:Int):Option (Unit⊕Bool):=bi (fun a=>l9 hg hs c1 a4 c4 c5 a (fun a' =>some (.next a')) (fun e=>some (.done e)) (fun r=>some (.ret r))) s0
def qpn:Shp:=⟨[jra,juh,jui,jjs],[qbq]⟩
def qpm:Shp:=⟨[jra,juh,jui],[qbq]⟩
def qb{R:Type}(hg hs:qL1)(c1:Int)(a4:(List ae))(c4 c5 dc:Int)(nx:Int→Option R)(dn:Unit→Option R)(rt:Bool→Option R):Option R:=bif decide (dc<(a4.length:Int))then aq (ix dc a4.length)<|aq (ix dc a4.length)<|bnd (pu (a4.getD dc.toNat ae.z).2.2.1 c4) fun r8=>bif r8 then rt false else bnd (pu (a4.getD dc.toNat ae.z).2.1 c5) fun r9=>bif r9 then rt false else bnd (qc4 (a4.getD dc.toNat ae.z).2.1 hg) fun r10=>bif (!r10)then rt false else bnd (qc4 (a4.getD dc.toNat ae.z).2.2.1 hs) fun r11=>bif (!r11)then rt false else aq (fm .i64 (dc+1))<|nx (dc+1)else dn ()
def qfv(hg hs:qL1)(c1:Int)(a4:(List ae))(c4 c5 s0:Int):Option (Unit⊕Bool):=bi (fun a=>qb hg hs c1 a4 c4 c5 a (fun a' =>some (.next a')) (fun e=>some (.done e)) (fun r=>some (.ret r))) s0
def qpp:Shp:=⟨[jra,juh,jui,jd7],[qbq]⟩
def qpo:Shp:=⟨[],[]⟩
def nj(ad:a8):Option Bool:=bnd (qd4 ad) fun r1=>bif (!r1)then some false else bif decide (ad.2.2.1=ad.2.2.2.1)then some false else bnd (qag ad ad.2.2.1) fun r2=>bnd (zm ad) fun r3=>bnd (qag r3 ad.2.2.2.1) fun r4=>bnd (qfu r2 r4 ad.1 ad.2.1 ad.2.2.1 ad.2.2.2.1 0) fun oe7=>lk oe7 (fun e7=>bnd (qfv r2 r4 ad.1 ad.2.1 ad.2.2.1 ad.2.2.2.1 0) fun oe12=>lk oe12 (fun e12=>some true) (fun r=>some r)) (fun r=>some r)
def qb8(ad:a8)(ki:Int):Option qL1:=aq (qyr ad.1 ad.1 8)<|aq (ix ki (List.replicate ad.1.toNat (0:Int)).length)<|aq (ix ki (List.replicate ad.1.toNat (0:Int)).length)<|some ((List.replicate ad.1.toNat (0:Int)).set ki.toNat 1)
def u6(aa:qL2):Option qL2:=bif decide ((aa.length:Int)=0)then some []else aq (room (0+aa.length) 24)<|some ([]++aa)
def i7(aa:qL2):Option qL2:=aq (room (0+aa.length) 24)<|some ([]++aa)
def gm(aa:qL2):Option qL2:=i7 aa
def qgq(p5 cy:qL1):Option Bool:=aq (ix 0 1)<|bnd (az cy p5) fun r1=>some r1
def ew{R:Type}(aa:qL2)(f_1c0:qL1)(a1 ap:Int)(nx:Int→Option R)(dn:Unit→Option R)(rt:Int→Option R):Option R:=bif decide (ap<a1)then aq (ix ap aa.length)<|aq (ix ap aa.length)<|bnd (qgq (aa.getD ap.toNat []) f_1c0) fun r1=>bif r1 then rt ap else aq (fm .i64 (ap+1))<|nx (ap+1)else dn ()
def n9(aa:qL2)(f_1c0:qL1)(a1 s0:Int):Option (Unit⊕Int):=bi (fun a=>ew aa f_1c0 a1 a (fun a' =>some (.next a')) (fun e=>some (.done e)) (fun r=>some (.ret r))) s0
def y6:Shp:=⟨[jt8,(1, .fn 54 (.cons (.rp false qT1) .nil)),qws,qxy],[]⟩
def y5:Shp:=⟨[],[]⟩
def j4(aa:qL2)(f_1c0:qL1):Option Int:=bnd (n9 aa f_1c0 (aa.length:Int) 0) fun oe2=>lk oe2 (fun e2=>some (-1)) (fun r=>some r)
def ep(aa:qL2)(f_1c0:qL1):Option Bool:=bnd (j4 aa f_1c0) fun r1=>some (decide ((0:Int)≤r1))
def ze{R:Type}(g2:ByteArray)(pl:qL1)(cb:qL2)(d0 gt dw bd:Int)(a3:(List ae))(be bf b5:Int)(hj:qL2)(nx:(Int×qL2)→Option R)(dn rt:qL2→Option R):Option R:=bif decide (b5<dw)then aq (ix b5 a3.length)<|aq (ix b5 a3.length)<|bif (!(ByteArray.toList (a3.getD b5.toNat ae.z).1==ByteArray.toList g2))then aq (fm .i64 (b5+1))<|nx ((b5+1),hj)else bnd (jd (bd,a3,be,bf,()) pl b5) fun r1=>bif decide (r1.1=0)then bnd (ep hj r1.2) fun r2=>bif (!r2)then aq (room (hj.length+1) 24)<|aq (fm .i64 (b5+1))<|nx ((b5+1),(hj++[r1.2]))else aq (fm .i64 (b5+1))<|nx ((b5+1),hj)else aq (fm .i64 (b5+1))<|nx ((b5+1),hj)else dn hj
def qol(g2:ByteArray)(pl:qL1)(cb:qL2)(d0 gt dw bd:Int)(a3:(List ae))(be bf:Int)(s0:(Int×qL2)):Option (qL2⊕qL2):=bi (fun a=>ze g2 pl cb d0 gt dw bd a3 be bf a.1 a.2 (fun a' =>some (.next a')) (fun e=>some (.done e)) (fun r=>some (.ret r))) s0
def qyf:Shp:=⟨[jua,jjr,jtx,(9, .d false qT1),jt7,jty,jtq,jtr,jub],[qbq,qd8]⟩
def qye:Shp:=⟨[jua,jjr,jtx,jt7,jty,jtq],[qbq,qd8]⟩
def zf{R:Type}(g2:ByteArray)(cb:qL2)(d0 bd:Int)(a3:(List ae))(be bf gt:Int)(hj:qL2)(nx:(Int×qL2)→Option R)(dn rt:qL2→Option R):Option R:=bif decide (gt<d0)then aq (ix gt cb.length)<|aq (ix gt cb.length)<|bnd (qol g2 (cb.getD gt.toNat []) cb d0 gt (a3.length:Int) bd a3 be bf (0,hj)) fun oe3=>lk oe3 (fun e3=>aq (fm .i64 (gt+1))<|nx ((gt+1),e3)) (fun r=>rt r)else dn hj
def qom(g2:ByteArray)(cb:qL2)(d0 bd:Int)(a3:(List ae))(be bf:Int)(s0:(Int×qL2)):Option (qL2⊕qL2):=bi (fun a=>zf g2 cb d0 bd a3 be bf a.1 a.2 (fun a' =>some (.next a')) (fun e=>some (.done e)) (fun r=>some (.ret r))) s0
def qyh:Shp:=⟨[jua,jjr,jtx,jt7,jty,jtq],[qbq,qd8]⟩
def qyg:Shp:=⟨[(7, .nl false (.own 0))],[qd8]⟩
def ud(ad:a8)(eg:qL2)(g2:ByteArray):Option qL2:=bnd (qom g2 eg (eg.length:Int) ad.1 ad.2.1 ad.2.2.1 ad.2.2.2.1 (0,[])) fun oe4=>lk oe4 (fun e4=>some e4) (fun r=>some r)
def qaw(p5 cy:qL1):Option Bool:=aq (ix 0 1)<|bnd (az cy p5) fun r1=>some r1
def eu{R:Type}(aa:qL2)(f_1c0:qL1)(a1 ap:Int)(nx:Int→Option R)(dn:Unit→Option R)(rt:Int→Option R):Option R:=bif decide (ap<a1)then aq (ix ap aa.length)<|aq (ix ap aa.length)<|bnd (qaw (aa.getD ap.toNat []) f_1c0) fun r1=>bif r1 then rt ap else aq (fm .i64 (ap+1))<|nx (ap+1)else dn ()
def n7(aa:qL2)(f_1c0:qL1)(a1 s0:Int):Option (Unit⊕Int):=bi (fun a=>eu aa f_1c0 a1 a (fun a' =>some (.next a')) (fun e=>some (.done e)) (fun r=>some (.ret r))) s0
def y3:Shp:=⟨[jt8,(1, .fn 53 (.cons (.rp false qT1) .nil)),qws,qxy],[]⟩
def yz:Shp:=⟨[],[]⟩
def j3(aa:qL2)(f_1c0:qL1):Option Int:=bnd (n7 aa f_1c0 (aa.length:Int) 0) fun oe2=>lk oe2 (fun e2=>some (-1)) (fun r=>some r)
def eo(aa:qL2)(f_1c0:qL1):Option Bool:=bnd (j3 aa f_1c0) fun r1=>some (decide ((0:Int)≤r1))
def q0{R:Type}(dc:Int)(kk:qL2)(gj c6:Int)(a5:(List ae))(dd dt gw:Int)(bb:qL2)(nx:(Int×qL2)→Option R)(dn rt:qL2→Option R):Option R:=bif decide (gw<gj)then aq (ix gw kk.length)<|aq (ix gw kk.length)<|bnd (eo bb (kk.getD gw.toNat [])) fun r3=>bif (!r3)then aq (room (bb.length+1) 24)<|aq (fm .i64 (gw+1))<|nx ((gw+1),(bb++[(kk.getD gw.toNat [])]))else aq (fm .i64 (gw+1))<|nx ((gw+1),bb)else dn bb
def qha(dc:Int)(kk:qL2)(gj c6:Int)(a5:(List ae))(dd dt:Int)(s0:(Int×qL2)):Option (qL2⊕qL2):=bi (fun a=>q0 dc kk gj c6 a5 dd dt a.1 a.2 (fun a' =>some (.next a')) (fun e=>some (.done e)) (fun r=>some (.ret r))) s0
def qqj:Shp:=⟨[jqo,jtu,jd7,(28, .nl false (.d true qT2)),(29, .d true qT0),jt1],[qbq,qd8]⟩
def qqi:Shp:=⟨[jqo,jtu,jd7],[qbq,qd8]⟩
def nh{R:Type}(c6:Int)(a5:(List ae))(dd dt dc:Int)(bb:qL2)(nx:(Int×qL2)→Option R)(dn rt:qL2→Option R):Option R:=bif decide (dc<(bb.length:Int))then bif decide ((bb.length:Int)≤200)then aq (fm .i64 (dc+1))<|aq (cut dc (dc+1) bb.length)<|bnd (ud (c6,a5,dd,dt,()) ((bb.drop dc.toNat).take ((dc+1).toNat-dc.toNat)) ⟨#[]⟩) fun r2=>bnd (qha dc r2 (r2.length:Int) c6 a5 dd dt (0,bb)) fun oe4=>lk oe4 (fun e4=>aq (fm .i64 (dc+1))<|nx ((dc+1),e4)) (fun r=>rt r)else dn bb else dn bb
def qhb(c6:Int)(a5:(List ae))(dd dt:Int)(s0:(Int×qL2)):Option (qL2⊕qL2):=bi (fun a=>nh c6 a5 dd dt a.1 a.2 (fun a' =>some (.next a')) (fun e=>some (.done e)) (fun r=>some (.ret r))) s0
def qql:Shp:=⟨[jqo,jtu,jd7],[qbq,qd8]⟩
def qqk:Shp:=⟨[(5, .own 0)],[qd8]⟩
def kf(ad:a8)(eg:qL2):Option qL2:=bnd (gm eg) fun r1=>bnd (qhb ad.1 ad.2.1 ad.2.2.1 ad.2.2.2.1 (0,r1)) fun oe5=>lk oe5 (fun e5=>some e5) (fun r=>some r)
def qh(q1:qL1)(cy:a8):Option Bool:=aq (ix 0 1)<|aq (ix 0 1)<|bnd (qb8 cy cy.2.2.2.1) fun r1=>bnd (az q1 r1) fun r2=>some r2
def er{R:Type}(aa:qL2)(f_1c0:a8)(a1 ap:Int)(nx:Int→Option R)(dn:Unit→Option R)(rt:Int→Option R):Option R:=bif decide (ap<a1)then aq (ix ap aa.length)<|aq (ix ap aa.length)<|bnd (qh (aa.getD ap.toNat []) f_1c0) fun r1=>bif r1 then rt ap else aq (fm .i64 (ap+1))<|nx (ap+1)else dn ()
def n5(aa:qL2)(f_1c0:a8)(a1 s0:Int):Option (Unit⊕Int):=bi (fun a=>er aa f_1c0 a1 a (fun a' =>some (.next a')) (fun e=>some (.done e)) (fun r=>some (.ret r))) s0
def yw:Shp:=⟨[jt8,(1, .fn 21 (.cons (.rp false a8.ty) .nil)),qws,qxy],[]⟩
def yv:Shp:=⟨[],[]⟩
def j2(aa:qL2)(f_1c0:a8):Option Int:=bnd (n5 aa f_1c0 (aa.length:Int) 0) fun oe2=>lk oe2 (fun e2=>some (-1)) (fun r=>some r)
def en(aa:qL2)(f_1c0:a8):Option Bool:=bnd (j2 aa f_1c0) fun r1=>some (decide ((0:Int)≤r1))
def cl{R:Type}(ip:qL1)(ob cc:Int)(a2:(List ae))(ch cv bw:Int)(b0:(List ae))(b1 b2:Int)(p1:qL1)(oo:qL2)(ho:Int)(nx:(qL1×qL2×Int)→Option R)(dn:(qL1×qL2)→Option R)(rt:Bool→Option R):Option R:=bif decide (ho<ob)then aq (ix ho ip.length)<|aq (ix ho ip.length)<|bnd (jd (cc,a2,ch,cv,()) p1 (ip.getD ho.toNat 0)) fun r12=>bif (!decide (r12.1=0))then rt true else bnd (kf (bw,b0,b1,b2,()) oo) fun r13=>aq (ix (ip.getD ho.toNat 0) a2.length)<|aq (ix (ip.getD ho.toNat 0) a2.length)<|bif (!(ByteArray.toList (a2.getD (ip.getD ho.toNat 0).toNat ae.z).1==ByteArray.toList ⟨#[]⟩))then bnd (ud (bw,b0,b1,b2,()) r13 (a2.getD (ip.getD ho.toNat 0).toNat ae.z).1) fun r14=>bnd (kf (bw,b0,b1,b2,()) r14) fun r15=>bif decide ((r15.length:Int)=0)then rt false else bif decide ((200:Int)<(r15.length:Int))then rt true else aq (fm .i64 (ho+1))<|nx (r12.2,r15,(ho+1))else bif decide ((r13.length:Int)=0)then rt false else bif decide ((200:Int)<(r13.length:Int))then rt true else aq (fm .i64 (ho+1))<|nx (r12.2,r13,(ho+1))else dn (p1,oo)
def zy(ip:qL1)(ob cc:Int)(a2:(List ae))(ch cv bw:Int)(b0:(List ae))(b1 b2:Int)(s0:(qL1×qL2×Int)):Option ((qL1×qL2)⊕Bool):=bi (fun a=>cl ip ob cc a2 ch cv bw b0 b1 b2 a.1 a.2.1 a.2.2 (fun a' =>some (.next a')) (fun e=>some (.done e)) (fun r=>some (.ret r))) s0
def qib:Shp:=⟨[(5, .ptr 0),(6, .ptr 1),(11, .d true qT1),(14, .d true qT2),(88, .d true qT1),(89, .d true qT0),(90, .d true qT0)],[qkh,qkh]⟩
def qia:Shp:=⟨[(5, .ptr 0),(6, .ptr 1),(11, .d true qT1),(14, .d true qT2)],[qkh,qkh]⟩
def uc(av a0:a8)(hq:qL1)(ht:du)(kt:qL1):Option Bool:=bnd (qiz) fun r1=>bif (!r1)then some false else bnd (z6 av) fun r2=>bif r2 then some true else bnd (z6 a0) fun r3=>bif r3 then some true else bnd (qci hq) fun r4=>bif r4 then some true else bnd (qci ht.2.1) fun r5=>bif r5 then some true else bif decide ((40:Int)<(kt.length:Int))then some true else bnd (qgo ht.2.2.1) fun r6=>bif r6 then some true else bif decide ((50:Int)<(ht.1.length:Int))then some true else bnd (nj av) fun r7=>bif (!r7)then some true else bnd (nj a0) fun r8=>bif (!r8)then some true else bnd (pr av a0 hq ht) fun r9=>bif (!r9)then some true else bnd (qb8 av av.2.2.1) fun r10=>bnd (qfl av r10 hq) fun r11=>bif (!decide (r11.2.2=0))then some false else bnd (zy kt (kt.length:Int) av.1 av.2.1 av.2.2.1 av.2.2.2.1 a0.1 a0.2.1 a0.2.2.1 a0.2.2.2.1 (r11.1,[ht.1],0)) fun oe16=>lk oe16 (fun e16=>bnd (qb8 av av.2.2.2.1) fun r17=>bnd (az e16.1 r17) fun r18=>bif (!r18)then some true else bnd (kf a0 e16.2) fun r19=>bnd (en r19 a0) fun r20=>some r20) (fun r=>some r)
end Go.Proofs.Ytdhfhpdadbopkaa
