/-
  What the functions compute, as plain functions of Lean. Made by program (mg3.py) out of the translation.
-/
import Derived.Test.YtocndcbobdnagaaGreatDoorZ3KE
import Derived.Test.YtocndcbobdnagaaGreatDoorZ3Ky
set_option linter.all false
set_option maxRecDepth 100000
namespace Go.Proofs.YtocndcbobdnagaaGreatDoor
open Go.K Go.M
abbrev qL1:Type:=List Int
abbrev qL2:Type:=List (List Int)
abbrev qT0:Ty:=.int .i64
abbrev qT1:Ty:=.slice qT0
abbrev qT2:Ty:=.slice qT1
noncomputable section
abbrev af:Type:=ByteArray×qL1×qL1×Unit
abbrev af.z:af:=(⟨#[]⟩,[],[],())
def af.ty:Ty:= .struct (.cons .str (.cons qT1 (.cons qT1 .nil)))
abbrev bk:Type:=Int×(List af)×Int×Int×Unit
abbrev bk.z:bk:=(0,[],0,0,())
def bk.ty:Ty:= .struct (.cons qT0 (.cons (.slice af.ty) (.cons qT0 (.cons qT0 .nil))))
abbrev oz:Type:=qL1×qL1×Int×Int×Int×Int×Bool×Bool×Unit
abbrev oz.z:oz:=([],[],0,0,0,0,false,false,())
def oz.ty:Ty:= .struct (.cons qT1 (.cons qT1 (.cons qT0 (.cons qT0 (.cons qT0 (.cons qT0 (.cons .bool (.cons .bool .nil))))))))
abbrev qof:Type:=(List oz)×qL2×Unit
abbrev qof.z:qof:=([],[],())
def qof.ty:Ty:= .struct (.cons (.slice oz.ty) (.cons qT2 .nil))
abbrev ak:Type:=Int×Int×Int×Unit
abbrev ak.z:ak:=(0,0,0,())
def ak.ty:Ty:= .struct (.cons qT0 (.cons qT0 (.cons qT0 .nil)))
abbrev o7:Type:=qL2×(List ak)×Bool×Unit
abbrev o7.z:o7:=([],[],false,())
def o7.ty:Ty:= .struct (.cons qT2 (.cons (.slice ak.ty) (.cons .bool .nil)))
abbrev j5:Type:=bk×o7×qL1×(List (List ak))×Unit
abbrev j5.z:j5:=(bk.z,o7.z,[],[],())
def j5.ty:Ty:= .struct (.cons bk.ty (.cons o7.ty (.cons qT1 (.cons (.slice (.slice ak.ty)) .nil))))
abbrev qy1:Type:=Int×Int×qL1×qL1×qL2×(List ak)×qL2×qL2×Unit
abbrev qy1.z:qy1:=(0,0,[],[],[],[],[],[],())
def qy1.ty:Ty:= .struct (.cons qT0 (.cons qT0 (.cons qT1 (.cons qT1 (.cons qT2 (.cons (.slice ak.ty) (.cons qT2 (.cons qT2 .nil))))))))
abbrev qgn:Type:=qL2×qL1×Int×Int×Unit
abbrev qgn.z:qgn:=([],[],0,0,())
def qgn.ty:Ty:= .struct (.cons qT2 (.cons qT1 (.cons qT0 (.cons qT0 .nil))))
abbrev j08:Type:=qL1×qL1×Unit
abbrev j08.z:j08:=([],[],())
def j08.ty:Ty:= .struct (.cons qT1 (.cons qT1 .nil))
abbrev o8:Type:=Tre ((Int×ByteArray×Unit)×Unit)
abbrev o8.z:o8:=⟨((0,⟨#[]⟩,()),(())),[]⟩
def o8.ty:Ty:= .tree (.cons qT0 (.cons .str .nil)) .nil
abbrev dy:Type:=qL1×qL1×o8×Unit
abbrev dy.z:dy:=([],[],o8.z,())
def dy.ty:Ty:= .struct (.cons qT1 (.cons qT1 (.cons o8.ty .nil)))
abbrev zt:Type:=bk×(List dy)×Bool×Unit
abbrev zt.z:zt:=(bk.z,[],false,())
def zt.ty:Ty:= .struct (.cons bk.ty (.cons (.slice dy.ty) (.cons .bool .nil)))
abbrev ag:Type:=Int×Int×Bool×Unit
abbrev ag.z:ag:=(0,0,false,())
def ag.ty:Ty:= .struct (.cons qT0 (.cons qT0 (.cons .bool .nil)))
abbrev ab:Type:=Int×Int×Unit
abbrev ab.z:ab:=(0,0,())
def ab.ty:Ty:= .struct (.cons qT0 (.cons qT0 .nil))
abbrev ae:Type:=Bool×Int×Int×Unit
abbrev ae.z:ae:=(false,0,0,())
def ae.ty:Ty:= .struct (.cons .bool (.cons qT0 (.cons qT0 .nil)))
abbrev aq:Type:=Int×Int×ByteArray×Unit
abbrev aq.z:aq:=(0,0,⟨#[]⟩,())
def aq.ty:Ty:= .struct (.cons qT0 (.cons qT0 (.cons .str .nil)))
abbrev aw:Type:=bk×o7×(List (List ak))×Int×Unit
abbrev aw.z:aw:=(bk.z,o7.z,[],0,())
def aw.ty:Ty:= .struct (.cons bk.ty (.cons o7.ty (.cons (.slice (.slice ak.ty)) (.cons qT0 .nil))))
abbrev qoe:Type:=(List aq)×Int×Unit
abbrev qoe.z:qoe:=([],0,())
def qoe.ty:Ty:= .struct (.cons (.slice aq.ty) (.cons qT0 .nil))
abbrev Ze(a0:Sh):ShL:=.cons a0 (.nil)
abbrev Zf(a0 a1:Sh):ShL:=.cons a0 (.cons a1 (.nil))
abbrev Za(a0 a1 a2:Sh):ShL:=.cons a0 (.cons a1 (.cons a2 (.nil)))
abbrev Zb(a0 a1 a2 a3:Sh):ShL:=.cons a0 (.cons a1 (.cons a2 (.cons a3 (.nil))))
abbrev Zh(a0 a1 a2 a3 a4:Sh):ShL:=.cons a0 (.cons a1 (.cons a2 (.cons a3 (.cons a4 (.nil)))))
abbrev Zi(a0 a1 a2 a3 a4 a5:Sh):ShL:=.cons a0 (.cons a1 (.cons a2 (.cons a3 (.cons a4 (.cons a5 (.nil))))))
abbrev Zg(a0 a1 a2 a3 a4 a5 a6 a7:Sh):ShL:=.cons a0 (.cons a1 (.cons a2 (.cons a3 (.cons a4 (.cons a5 (.cons a6 (.cons a7 (.nil))))))))
abbrev Zd(a0 a1 a2 a3 a4 a5 a6 a7 a8:Sh):ShL:=.cons a0 (.cons a1 (.cons a2 (.cons a3 (.cons a4 (.cons a5 (.cons a6 (.cons a7 (.cons a8 (.nil)))))))))
abbrev Zc(a0 a1 a2 a3 a4 a5 a6 a7 a8 a9 a10 a11 a12 a13:Sh):ShL:=.cons a0 (.cons a1 (.cons a2 (.cons a3 (.cons a4 (.cons a5 (.cons a6 (.cons a7 (.cons a8 (.cons a9 (.cons a10 (.cons a11 (.cons a12 (.cons a13 (.nil))))))))))))))
abbrev Zr:Sh:=.d false qT0
abbrev Zu:Sh:=.d true qT0
abbrev Zv:Sh:=.d false qT1
abbrev Zw:Sh:=.d false bk.ty
abbrev Zx:Sh:=.d true (.slice af.ty)
abbrev Zy:Sh:=.d true qT2
abbrev Zz:Sh:=.d true (.slice ak.ty)
abbrev ZA:Sh:=.d false qT2
abbrev ZB:Sh:=.d false .bool
abbrev ZC:Sh:=.dm false qT0 (.slice ab.ty)
abbrev ZD:Sh:=.d false (.slice .str)
abbrev ZE:Sh:=.d true qT1
abbrev ZF:Sh:=.rp false (.slice ag.ty)
abbrev ZG:Sh:=.own 1
abbrev ZH:Sh:=.d false (.slice ag.ty)
abbrev ZI:Sh:=.d true .bool
abbrev ZJ:Sh:=.rp false qT1
abbrev ZK:Sh:=.rp false bk.ty
abbrev ZL:Sh:=.own 2
abbrev ZM:Sh:=.d true (.slice .str)
abbrev ZN:Sh:=.d false .str
abbrev ZO:Sh:=.own 0
abbrev ZP:Sh:=.ptr 0
abbrev ZQ:Sh:=.rp false qT0
abbrev ZR:Sh:=.rp false qT2
abbrev ZS:Sh:=.d true bk.ty
abbrev ZT:Sh:=.rp false j5.ty
abbrev ZU:Sh:=.d false o8.ty
abbrev ZV:Sh:=.d false ak.ty
abbrev ZW:Sh:=.d false (.slice aq.ty)
abbrev ZX:Sh:=.fn 137 (Zf (.ptr 4) (.ptr 2))
abbrev ZY:Sh:=.fn 136 (Zf (.ptr 3) (.ptr 2))
abbrev ZZ:Sh:=.fn 134 (Zf (.ptr 1) (.ptr 2))
abbrev Z0:Sh:=.own 3
abbrev Z1:Sh:=.d true (.slice o8.ty)
abbrev Z2:Sh:=.d false qy1.ty
abbrev Z3:Sh:=.d false aq.ty
abbrev Z4:Sh:=.d false af.ty
abbrev Z5:Sh:=.rp false af.ty
abbrev Z6:Sh:=.rp false .bool
abbrev Z7:Sh:=.fn 282 .nil
abbrev Z8:Sh:=.own 4
abbrev Z9:Sh:=.d false (.int .u64)
abbrev Ya:Sh:=.own 5
abbrev Yb:Sh:=.rp false (.slice .bool)
abbrev Yc:Sh:=.d true .str
abbrev Yd:Sh:=.d false (.slice o8.ty)
abbrev Ye:Sh:=.d false (.slice af.ty)
abbrev Yf:Sh:=.d false (.slice .bool)
abbrev Yg:Sh:=.d false (.int .u8)
abbrev Yh:Sh:=.rp false qy1.ty
abbrev Yi:Sh:=.rp false aw.ty
abbrev Yj:Sh:=.rp false ak.ty
abbrev Yk:Sh:=.dm true qT0 (.slice ab.ty)
abbrev Yl:Sh:=.fn 2000152 (Ze ZP)
abbrev Ym:Sh:=.ptr 1
abbrev Yn:Sh:=.fn 2000154 (Ze (.agg (Zf Zr Zr)))
abbrev Yo:Nat×Sh:=(0, .d true .bool)
abbrev Yp:Nat×Sh:=(0, .d true qT0)
abbrev Yq:Nat×Sh:=(1, .d true qT0)
abbrev Yr:Nat×Sh:=(0, .nl false ZO)
abbrev Ys:Nat×Sh:=(0, .ptr 0)
abbrev Yt:Nat×Sh:=(0, .own 0)
abbrev Yu:Nat×Sh:=(1, .d true .bool)
abbrev Yv:Nat×Sh:=(5, .ptr 1)
abbrev Yw:Nat×Sh:=(9, .d true (.int .u64))
abbrev Yx:Nat×Sh:=(0, .d true o8.ty)
abbrev Yy:Nat×Sh:=(1, .d true qT1)
abbrev Yz:Nat×Sh:=(0, .d true ag.ty)
abbrev YA:Nat×Sh:=(54, .d true qT0)
abbrev YB:Nat×Sh:=(4, .ptr 0)
abbrev YC:Nat×Sh:=(2, .d true qT1)
abbrev YD:Nat×Sh:=(2, .d true qT0)
abbrev YE:Nat×Sh:=(0, .d true o7.ty)
abbrev YF:Hs:=.arr 63 (.fz true) [0,0,63] o8.ty
abbrev YG:Hs:=.arr 132 (.fz true) [3,3,0,0,63] dy.ty
abbrev YH:Hs:=.cs 188 9 1 (Zd Zu Zx Zu Zu Zy Zz ZI ZE ZG)
abbrev YI:Hs:=.arr 198 (.fz true) [3,3,0,0,0,0,0,0] oz.ty
abbrev YJ:Hs:=.cs 130 6 1 (Zi Zu Zx Zu Zu ZG ZI)
abbrev YK:Hs:=.cs 130 6 1 (Zi Zr Zx Zr Zr ZG ZB)
abbrev YL:Hs:=.arr 0 (.fz true) [] qT0
abbrev YM:Hs:=.cs 305 2 1 (Zf ZG ZL)
abbrev YN:Hs:=.cs 54 1 1 (Ze Zy)
abbrev YO:Hs:=.cs 305 2 1 (Zf ZL Z0)
abbrev YP:Hs:=.arr 27 .own [3] qT1
abbrev YQ:Hs:=.cs 188 9 1 (Zd Zu Zx Zu Zu Zy Zz ZI ZE ZL)
abbrev YR:Hs:=.cs 188 9 1 (Zd Zr Zx Zr Zr Zy Zz ZB ZE ZL)
abbrev YS:Hs:=.cs 188 9 1 (Zd Zr Zx Zr Zr Zy Zz ZB ZE ZG)
abbrev YT:Hs:=.cs 111 1 1 (Ze Ym)
abbrev YU:Hs:=.cs 191 1 1 (Ze (.ptr 3))
abbrev YV:Hs:=.cs 25 1 3 (Za ZZ ZY ZX)
abbrev YW:Hs:=.cs 82 1 1 (Ze (.mp 2))
abbrev YX:Hs:=.cs 277 4 1 (Zb Zy ZE Zu Zu)
abbrev YZ:Hs:=.cs 277 4 1 (Zb ZL Z0 Zu Zu)
abbrev Y0:Hs:=.cs 305 2 1 (Zf Z8 Ya)
abbrev Y1:Hs:=.cs 272 2 1 (Zf Zu ZG)
abbrev Y2:Hs:=.cs 196 2 1 (Zf Z8 Ya)
abbrev qee:Hs:=.cs 87 3 1 (Za ZC Zu Zu)
abbrev qef:Hs:=.cs 24 4 1 (Zb Zu Ye Zu Zu)
abbrev qgm:Hs:=.cs 24 4 1 (Zb Zu Zx Zu Zu)
abbrev qhc:Hs:=.arr 3 (.fz true) [0] qT0
abbrev qh0:Hs:=.cs 84 14 1 (Zc Zu Zx Zu Zu ZM Zu Zu Zu Z8 Ya (.own 6) (.own 7) (.own 8) (.mp 9))
abbrev qi8:Hs:=.cs 84 14 1 (Zc Zu Zx Zu Zu ZM Zu Zu Zu Ya (.own 6) (.own 7) (.own 8) (.own 9) (.mp 10))
abbrev qjc:Hs:=.cs 84 14 1 (Zc Zu Zx Zu Zu ZM Zu Zu Zu ZG ZL Z0 Z8 Ya (.mp 6))
abbrev qjd:Hs:=.cs 98 3 1 (Za Zy Zz ZI)
abbrev qlq:Hs:=.cs 36 3 1 (Za Zu Zu Zu)
abbrev qmc:Hs:=.arr 48 (.fz true) [0,0,0] aq.ty
abbrev qod:Hs:=.arr 167 (.fz true) [0,0,0] ae.ty
abbrev qo4:Nat×Sh:=Yo
abbrev qqo:Hs:=.arr 4 (.fz true) [0] .bool
abbrev qqu:Hs:=.arr 154 (.fz true) [0,0] ab.ty
abbrev qsk:Hs:=.cs 87 3 1 (Za Yk Zu Zu)
abbrev qsn:Hs:=.cs 107 9 1 (Zd Zu Zx Zu Zu Zy Zz ZI (.d true (.slice (.slice ak.ty))) Zu)
abbrev qua:Hs:=.cs 107 9 1 (Zd Zu Zx Zu Zu Zy Zz ZI Z0 Zu)
abbrev qu6:Nat×Sh:=Yq
abbrev qvu:Hs:=.arr 27 (.fz true) [3] qT1
abbrev qxz:Nat×Sh:=(1, .fn 34 (Ze ZF))
abbrev qy0:Nat×Sh:=(28, .dm false qT0 (.slice ab.ty))
abbrev qy2:Nat×Sh:=Yp
abbrev qy8:Hs:=.cs 156 1 1 (Ze ZG)
abbrev q02:Hs:=.cs 87 3 1 (Za (.mp 4) Zu Zu)
abbrev q1a:Hs:=.cs 32 3 1 (Za Zu Zu ZI)
abbrev q1e:Nat×Sh:=(0, .rp false aw.ty)
abbrev q20:Nat×Sh:=(1, .fn 170 (Ze ZF))
abbrev q21:Nat×Sh:=(1, .fn 172 (Ze ZF))
abbrev q4o:Hs:=.arr 32 (.fz true) [0,0,0] ag.ty
abbrev q4v:Hs:=.cs 98 3 1 (Za Z8 Ya ZI)
abbrev q6t:Nat×Sh:=(1, .d false (.slice ag.ty))
abbrev q9r:Nat×Sh:=(0, .agg (Za Yk Zu Zu))
abbrev q9s:Nat×Sh:=Yt
abbrev jar:Nat×Sh:=(3, .ptr 0)
abbrev jbu:Nat×Sh:=(2, .d true .bool)
abbrev jbz:Hs:=.cs 154 2 1 (Zf Zu Zu)
abbrev jb5:Nat×Sh:=(3, .d true qT0)
abbrev jce:Nat×Sh:=(7, .d true qT0)
abbrev jcm:Nat×Sh:=(24, .d true qT0)
abbrev jga:Nat×Sh:=(25, .d true qT0)
abbrev jgf:Nat×Sh:=(0, .fn 2000154 (Ze (.agg (Zf Zu Zu))))
abbrev jgp:Hs:=.cs 46 3 1 (Za Yc Zv Zv)
abbrev jiz:Nat×Sh:=(1, .d true (.slice .str))
abbrev jkh:Nat×Sh:=(17, .d true qT0)
abbrev jmd:Hs:=.cs 87 3 1 (Za (.mp 2) Zu Zu)
abbrev jme:Nat×Sh:=(8, .d true qT0)
abbrev jmf:Hs:=.arr 174 (.fz true) [0,0,0] ak.ty
abbrev jmg:Nat×Sh:=(2, .ptr 0)
abbrev jn7:Nat×Sh:=(8, .d true .bool)
abbrev jpq:Hs:=.mo qT0 ab.ty 169
abbrev jpr:Hs:=.mp .str qT0
abbrev jps:Hs:=.cs 156 1 1 (Ze (.own 10))
abbrev jpt:Nat×Sh:=YD
abbrev jq4:Nat×Sh:=(9, .nl false (.d true (.slice aq.ty)))
abbrev jq7:Hs:=.cs 169 2 1 (Zf Zu Zu)
abbrev jsd:Nat×Sh:=(35, .d false (.slice ab.ty))
abbrev jt8:Nat×Sh:=(7, .d true (.slice ae.ty))
abbrev jub:Hs:=.arr 55 .own [174] (.slice ak.ty)
abbrev ju3:Nat×Sh:=(13, .d true qT1)
abbrev ju8:Nat×Sh:=(18, .d true qT0)
abbrev jva:Nat×Sh:=(1, .ptr 0)
abbrev jvm:Nat×Sh:=(7, .own 1)
abbrev jwq:Hs:=.cs 156 1 1 (Ze (.own 11))
abbrev jwr:Nat×Sh:=(9, .d true qT0)
abbrev jws:Nat×Sh:=(0, .d false qT1)
abbrev jwt:Nat×Sh:=(0, .d true .str)
abbrev jw0:Nat×Sh:=(12, .d true qT0)
abbrev jw5:Nat×Sh:=(6, .ptr 1)
abbrev j00:Nat×Sh:=(15, .d false (.slice .bool))
abbrev j01:Nat×Sh:=(3, .d true qT1)
abbrev j02:Nat×Sh:=(6, .d true qT0)
abbrev j03:Nat×Sh:=(0, .d false (.slice (.slice aq.ty)))
abbrev j04:Nat×Sh:=(1, .d false (.slice .str))
abbrev j07:Nat×Sh:=(14, .nl false ZM)
abbrev j18:Nat×Sh:=(7, .own 0)
abbrev j2j:Nat×Sh:=(0, .fn 2000152 (Ze ZP))
abbrev j21:Nat×Sh:=(1, .d false qT1)
abbrev j31:Nat×Sh:=(37, .d true qT0)
abbrev j4b:Hs:=.mp qT0 .bool
abbrev j4f:Hs:=.arr 9 (.fz true) [0] .str
abbrev j4n:Hs:=.arr 46 (.fz true) [0,3,3] af.ty
abbrev j6z:Nat×Sh:=YB
abbrev j60:Nat×Sh:=(5, .own 1)
abbrev j98:Nat×Sh:=(15, .ptr 2)
abbrev zao:Nat×Sh:=(16, .ptr 3)
abbrev za2:Nat×Sh:=(51, .dm true qT0 .bool)
abbrev za3:Nat×Sh:=(6, .nl false ZO)
abbrev za4:Hs:=.arr 5 (.fz true) [0] (.int .u8)
abbrev za5:Nat×Sh:=Yz
abbrev za6:Nat×Sh:=(11, .d true qT0)
abbrev za7:Nat×Sh:=(16, .d true qT0)
abbrev za8:Nat×Sh:=(36, .d true qT0)
abbrev zbd:Nat×Sh:=(6, .ptr 0)
abbrev zbg:Nat×Sh:=(5, .d true qT0)
abbrev zeb:Nat×Sh:=(12, .d true (.slice .bool))
abbrev zed:Nat×Sh:=(0, .d false (.slice .str))
abbrev zeg:Nat×Sh:=(1, .own 0)
abbrev zeh:Nat×Sh:=(16, .d true .bool)
abbrev zei:Nat×Sh:=Yu
abbrev zej:Nat×Sh:=(10, .ptr 1)
abbrev zek:Nat×Sh:=(10, .ptr 2)
abbrev zel:Nat×Sh:=(2, .d true .str)
abbrev zem:Nat×Sh:=(20, .d true qT0)
abbrev zen:Nat×Sh:=(4, .d true qT1)
abbrev zeo:Nat×Sh:=(14, .ptr 2)
abbrev zep:Nat×Sh:=(15, .own 3)
abbrev zeq:Nat×Sh:=(29, .it)
def qhd(ej:Int):Option Bool:=bif decide ((65:Int)<=ej)then bif decide (ej<=90)then some true else bif decide ((97:Int)<=ej)then some (decide (ej<=122))else some false else bif decide ((97:Int)<=ej)then some (decide (ej<=122))else some false
def qyl(ej:Int):Option Bool:=bnd (qhd ej) fun r1=>bif r1 then some true else bif decide ((48:Int)<=ej)then bif decide (ej<=57)then some true else bif decide (ej=95)then some true else bif decide (ej=45)then some true else some (decide (ej=46))else bif decide (ej=95)then some true else bif decide (ej=45)then some true else some (decide (ej=46))
def xj{R:Type}(ad:ByteArray)(dk b3:Int)(nx:Int->Option R)(dn:Unit->Option R)(rt:Bool->Option R):Option R:=bif decide (b3<dk)then al (ix b3 (ByteArray.size ad))<|bnd (qyl (((ByteArray.data ad).getD b3.toNat 0).toNat:Int)) fun r2=>bif (!r2)then rt false else al (dg .i64 (b3+1))<|nx (b3+1)else dn ()
def qzx(ad:ByteArray)(dk s0:Int):Option (Unit⊕Bool):=b9 (fun a=>xj ad dk a (fun a' =>some (.next a')) (fun e=>some (.done e)) (fun r=>some (.ret r))) s0
def jd6:Shp:=⟨[jwt,(19, .d true qT0),zem],[]⟩
def jd5:Shp:=⟨[],[]⟩
def sr(ad:ByteArray):Option Bool:=bif decide ((ByteArray.size ad:Int)<1)then some false else bif decide ((40:Int)<(ByteArray.size ad:Int))then some false else al (ix 0 (ByteArray.size ad))<|bnd (qhd (((ByteArray.data ad).getD 0 0).toNat:Int)) fun r1=>bif (!r1)then some false else bnd (qzx ad (ByteArray.size ad:Int) 0) fun oe3=>lk oe3 (fun e3=>some true) (fun r=>some r)
def o4{R:Type}(ep ed:qL1)(a6 gw:Int)(bl:(List af))(g2 g3 ge:Int)(nx:Int->Option R)(dn:Unit->Option R)(rt:Bool->Option R):Option R:=bif decide (ge<a6)then al (ix ge ed.length)<|al (ix ge ed.length)<|bif decide ((ed.getD ge.toNat 0)<0)then rt false else bif decide (gw<=(ed.getD ge.toNat 0))then rt false else bif decide ((0:Int)<ge)then al (dg .i64 (ge-1))<|al (ix (ge-1) ep.length)<|al (ix (ge-1) ep.length)<|bif decide ((ed.getD ge.toNat 0)<=(ep.getD (ge-1).toNat 0))then rt false else al (dg .i64 (ge+1))<|nx (ge+1)else al (dg .i64 (ge+1))<|nx (ge+1)else dn ()
def qwb(ep ed:qL1)(a6 gw:Int)(bl:(List af))(g2 g3 s0:Int):Option (Unit⊕Bool):=b9 (fun a=>o4 ep ed a6 gw bl g2 g3 a (fun a' =>some (.next a')) (fun e=>some (.done e)) (fun r=>some (.ret r))) s0
def ja0:Shp:=⟨[j21,jmg,(7, .d false qT1),jme,jwr],[qef]⟩
def mu(aa:bk)(ep:qL1):Option Bool:=bnd (qwb ep ep (ep.length:Int) aa.1 aa.2.1 aa.2.2.1 aa.2.2.2.1 0) fun oe1=>lk oe1 (fun e1=>some true) (fun r=>some r)
def qdi{R:Type}(b3:(List af))(dt b2:Int)(a0:(List af))(cl cv hu:Int)(nx:Int->Option R)(dn:Unit->Option R)(rt:Bool->Option R):Option R:=bif decide (hu<dt)then al (ix hu b3.length)<|al (ix hu b3.length)<|bif (!(ByteArray.toList (b3.getD hu.toNat af.z).1==ByteArray.toList ⟨#[]⟩))then bnd (sr (b3.getD hu.toNat af.z).1) fun r1=>bif (!r1)then rt false else bnd (mu (b2,a0,cl,cv,()) (b3.getD hu.toNat af.z).2.1) fun r2=>bif (!r2)then rt false else bnd (mu (b2,a0,cl,cv,()) (b3.getD hu.toNat af.z).2.2.1) fun r3=>bif (!r3)then rt false else al (dg .i64 (hu+1))<|nx (hu+1)else bnd (mu (b2,a0,cl,cv,()) (b3.getD hu.toNat af.z).2.1) fun r4=>bif (!r4)then rt false else bnd (mu (b2,a0,cl,cv,()) (b3.getD hu.toNat af.z).2.2.1) fun r5=>bif (!r5)then rt false else al (dg .i64 (hu+1))<|nx (hu+1)else dn ()
def qz5(b3:(List af))(dt b2:Int)(a0:(List af))(cl cv s0:Int):Option (Unit⊕Bool):=b9 (fun a=>qdi b3 dt b2 a0 cl cv a (fun a' =>some (.next a')) (fun e=>some (.done e)) (fun r=>some (.ret r))) s0
def jek:Shp:=⟨[jva,(20, .d false (.slice af.ty)),(21, .d true qT0),(22, .d true qT0)],[qef]⟩
def jej:Shp:=⟨[jva],[qef]⟩
def m5(aa:bk):Option Bool:=bif decide (aa.1<1)then some false else bif decide ((40:Int)<aa.1)then some false else bif decide ((60:Int)<(aa.2.1.length:Int))then some false else bnd (qz5 aa.2.1 (aa.2.1.length:Int) aa.1 aa.2.1 aa.2.2.1 aa.2.2.2.1 0) fun oe6=>lk oe6 (fun e6=>bnd (mu aa [aa.2.2.1]) fun r7=>bif r7 then bnd (mu aa [aa.2.2.2.1]) fun r8=>some r8 else some false) (fun r=>some r)
def qpg(aa:bk)(hw:Int):Option (Int×qL1):=bnd (m5 aa) fun r1=>bif (!r1)then some (1,[])else al (qub aa.1 aa.1 8)<|al (ix hw (List.replicate aa.1.toNat (0:Int)).length)<|al (ix hw (List.replicate aa.1.toNat (0:Int)).length)<|some (0,((List.replicate aa.1.toNat (0:Int)).set hw.toNat 1))
def vg(aa:bk):Option (Int×qL1):=bnd (qpg aa aa.2.2.1) fun r1=>some (r1.1,r1.2)
def qh9(py:Int):Option Bool:=bif decide (py<0)then some true else some (decide ((100:Int)<py))
def fe{R:Type}(ad:qL1)(ed a6:Int)(nx:Int->Option R)(dn:Unit->Option R)(rt:Int->Option R):Option R:=bif decide (a6<ed)then al (ix a6 ad.length)<|al (ix a6 ad.length)<|bnd (qh9 (ad.getD a6.toNat 0)) fun r1=>bif r1 then rt a6 else al (dg .i64 (a6+1))<|nx (a6+1)else dn ()
def rx(ad:qL1)(ed s0:Int):Option (Unit⊕Int):=b9 (fun a=>fe ad ed a (fun a' =>some (.next a')) (fun e=>some (.done e)) (fun r=>some (.ret r))) s0
def qex:Shp:=⟨[jws,(1, .fn 236 .nil),jce,jme],[]⟩
def l7(ad:qL1):Option Int:=bnd (rx ad (ad.length:Int) 0) fun oe2=>lk oe2 (fun e2=>some (-1)) (fun r=>some r)
def fb(ad:qL1):Option Bool:=bnd (l7 ad) fun r1=>some (decide ((0:Int)<=r1))
def vi(aa:bk)(d0:qL1):Option Bool:=bnd (m5 aa) fun r1=>bif r1 then bif decide ((d0.length:Int)=aa.1)then bnd (fb d0) fun r2=>some (!r2)else some false else some false
def qh8(rs:Int)(hw:qL1):Option Bool:=al (ix 0 1)<|al (ix rs hw.length)<|al (ix rs hw.length)<|some (decide ((hw.getD rs.toNat 0)=0))
def ff{R:Type}(ad f_1c0:qL1)(ed a6:Int)(nx:Int->Option R)(dn:Unit->Option R)(rt:Int->Option R):Option R:=bif decide (a6<ed)then al (ix a6 ad.length)<|al (ix a6 ad.length)<|bnd (qh8 (ad.getD a6.toNat 0) f_1c0) fun r1=>bif r1 then rt a6 else al (dg .i64 (a6+1))<|nx (a6+1)else dn ()
def sc(ad f_1c0:qL1)(ed s0:Int):Option (Unit⊕Int):=b9 (fun a=>ff ad f_1c0 ed a (fun a' =>some (.next a')) (fun e=>some (.done e)) (fun r=>some (.ret r))) s0
def qe3:Shp:=⟨[jws,(1, .fn 262 (Ze ZJ)),jce,jme],[]⟩
def l8(ad f_1c0:qL1):Option Int:=bnd (sc ad f_1c0 (ad.length:Int) 0) fun oe2=>lk oe2 (fun e2=>some (-1)) (fun r=>some r)
def jm(ad f_1c0:qL1):Option Bool:=bnd (l8 ad f_1c0) fun r1=>some (decide ((0:Int)<=r1))
def qah(h2:af)(d0:qL1):Option Bool:=bnd (jm h2.2.1 d0) fun r1=>some (!r1)
def q9{R:Type}(d0:qL1)(n1:(List af))(i1 hl:Int)(jb:qL1)(nx:(Int×qL1)->Option R)(dn:qL1->Option R)(rt:(Int×qL1)->Option R):Option R:=bif decide (hl<i1)then al (ix hl n1.length)<|al (ix hl n1.length)<|bnd (qah (n1.getD hl.toNat af.z) d0) fun r2=>bif r2 then al (room (jb.length+1) 8)<|al (dg .i64 (hl+1))<|nx ((hl+1),(jb++[hl]))else al (dg .i64 (hl+1))<|nx ((hl+1),jb)else dn jb
def qs0(d0:qL1)(n1:(List af))(i1:Int)(s0:(Int×qL1)):Option (qL1⊕(Int×qL1)):=b9 (fun a=>q9 d0 n1 i1 a.1 a.2 (fun a' =>some (.next a')) (fun e=>some (.done e)) (fun r=>some (.ret r))) s0
def q7v:Shp:=⟨[j21,za3,(14, .d false (.slice af.ty)),(15, .d true qT0),za7],[qhc]⟩
def q7u:Shp:=⟨[za3],[qhc]⟩
def qa(aa:bk)(d0:qL1):Option (Int×qL1):=bnd (vi aa d0) fun r1=>bif (!r1)then some (1,[])else bnd (qs0 d0 aa.2.1 (aa.2.1.length:Int) (0,[])) fun oe3=>lk oe3 (fun e3=>some (0,e3)) (fun r=>some r)
def qdy(ad:qL1):Option qL1:=bif decide ((ad.length:Int)=0)then some []else al (room (0+ad.length) 8)<|some ([]++ad)
def mz(ad:qL1):Option qL1:=al (room (0+ad.length) 8)<|some ([]++ad)
def gz(ad:qL1):Option qL1:=mz ad
def ju0(mv:qL1):Option ByteArray:=j2n mv
def od{R:Type}(ft:qL1)(f4 i4:Int)(nx:(Int×Int)->Option R)(dn rt:Int->Option R):Option R:=bif decide (i4<(ft.length:Int))then al (ix i4 ft.length)<|al (ix i4 ft.length)<|al (dg .i64 (i4+1))<|nx ((max f4 (ft.getD i4.toNat 0)),(i4+1))else dn f4
def qhn(ft:qL1)(s0:(Int×Int)):Option (Int⊕Int):=b9 (fun a=>od ft a.1 a.2 (fun a' =>some (.next a')) (fun e=>some (.done e)) (fun r=>some (.ret r))) s0
def qut:Shp:=⟨[jws,jb5,(4, .d true qT0)],[]⟩
def qus:Shp:=⟨[jb5],[]⟩
def uj(ft:qL1):Option Int:=bif decide ((ft.length:Int)<1)then none else al (ix 0 ft.length)<|al (ix 0 ft.length)<|bnd (qhn ft ((ft.getD 0 0),1)) fun oe1=>lk oe1 (fun e1=>some e1) (fun r=>some r)
def ia{R:Type}(kr lc:qL1)(gj kv:Int)(nx:Int->Option R)(dn:Unit->Option R)(rt:Bool->Option R):Option R:=bif decide (kv<gj)then al (ix kv kr.length)<|al (ix kv kr.length)<|al (ix kv lc.length)<|al (ix kv lc.length)<|bif (!decide ((kr.getD kv.toNat 0)=(lc.getD kv.toNat 0)))then rt false else al (dg .i64 (kv+1))<|nx (kv+1)else dn ()
def qd4(kr lc:qL1)(gj s0:Int):Option (Unit⊕Bool):=b9 (fun a=>ia kr lc gj a (fun a' =>some (.next a')) (fun e=>some (.done e)) (fun r=>some (.ret r))) s0
def qqg:Shp:=⟨[jws,j21,jw0,(13, .d true qT0)],[]⟩
def g9(kr lc:qL1):Option Bool:=bif (!decide ((kr.length:Int)=(lc.length:Int)))then some false else bnd (qd4 kr lc (kr.length:Int) 0) fun oe1=>lk oe1 (fun e1=>some true) (fun r=>some r)
def qcg(aa:bk):Option (Int×qL1):=bnd (qpg aa aa.2.2.2.1) fun r1=>some (r1.1,r1.2)
def qjn(ft:qL2):Option qL2:=j0e ft
def qjm(ft:qL2):Option qL2:=j0e ft
def jrb(h2:o8):Option (ByteArray×Int):=jpb h2
def jc4(ft l3:Int):Option (Int×Int):=al (decide (0<=(32:Int)))<|al (decide (0<=(32:Int)))<|al (decide (0<=(32:Int)))<|al (decide (0<=(32:Int)))<|al (decide (0<=(32:Int)))<|some ((IntKind.wrap .u64 ((IntKind.wrap .u64 ((IntKind.wrap .u64 ((q8s .u64 ft 32)*(q8s .u64 l3 32)))+(q8s .u64 (IntKind.wrap .u64 ((IntKind.wrap .u64 ((q8s .u64 ft 32)*(jaq .and .u64 l3 4294967295)))+(q8s .u64 (IntKind.wrap .u64 ((jaq .and .u64 ft 4294967295)*(jaq .and .u64 l3 4294967295))) 32))) 32)))+(q8s .u64 (IntKind.wrap .u64 ((jaq .and .u64 (IntKind.wrap .u64 ((IntKind.wrap .u64 ((q8s .u64 ft 32)*(jaq .and .u64 l3 4294967295)))+(q8s .u64 (IntKind.wrap .u64 ((jaq .and .u64 ft 4294967295)*(jaq .and .u64 l3 4294967295))) 32))) 4294967295)+(IntKind.wrap .u64 ((jaq .and .u64 ft 4294967295)*(q8s .u64 l3 32))))) 32))),(IntKind.wrap .u64 (ft*l3)))
def jm0(ft l3:Int):Option (Int×Int):=bnd (jc4 ft l3) fun r1=>some (r1.1,r1.2)
def k6{R:Type}(k2:Int)(c3:(List ag))(nx:(Int×(List ag))->Option R)(dn rt:(List ag)->Option R):Option R:=bif decide (k2<(c3.length:Int))then al (cut k2 (c3.length:Int) c3.length)<|al (cut 0 k2 c3.length)<|al (dg .i64 (k2+((min ((c3.drop 0).take (k2.toNat-0)).length ((c3.length:Int).toNat-k2.toNat):Nat):Int)))<|nx ((k2+((min ((c3.drop 0).take (k2.toNat-0)).length ((c3.length:Int).toNat-k2.toNat):Nat):Int)),(qca c3 k2.toNat ((c3.length:Int).toNat-k2.toNat) ((c3.drop 0).take (k2.toNat-0))))else dn c3
def yp(s0:(Int×(List ag))):Option ((List ag)⊕(List ag)):=b9 (fun a=>k6 a.1 a.2 (fun a' =>some (.next a')) (fun e=>some (.done e)) (fun r=>some (.ret r))) s0
def x6:Shp:=⟨[j18,jme],[q4o]⟩
def x5:Shp:=⟨[j18],[q4o]⟩
def dx(ft:(List ag))(n6:Int):Option (List ag):=bif decide (n6<0)then none else bnd (jm0 (IntKind.wrap .u64 (ft.length:Int)) (IntKind.wrap .u64 n6)) fun r1=>bif decide ((0:Int)<r1.1)then none else bif decide ((9223372036854775807:Int)<r1.2)then none else al (dg .i64 r1.2)<|al (qub r1.2 r1.2 24)<|bnd (yp (((min ft.length (List.replicate r1.2.toNat (ag.z:ag)).length:Nat):Int),(qca (List.replicate r1.2.toNat (ag.z:ag)) 0 (List.replicate r1.2.toNat (ag.z:ag)).length ft))) fun oe2=>lk oe2 (fun e2=>some e2) (fun r=>some r)
def qdn(aa:bk):Option (List ag):=bnd (dx [(1,1,false,())] (aa.2.1.length:Int)) fun r1=>some r1
def qa4(h6:ag):Option Bool:=bif h6.2.2.1 then bif (!decide (h6.2.1=0))then some true else bif (!h6.2.2.1)then bif decide (h6.2.1<h6.1)then some true else bif decide ((1048576:Int)<h6.2.1)then some true else bif decide (h6.1<0)then some true else some (decide ((1048576:Int)<h6.1))else bif decide (h6.1<0)then some true else some (decide ((1048576:Int)<h6.1))else bif (!h6.2.2.1)then bif decide (h6.2.1<h6.1)then some true else bif decide ((1048576:Int)<h6.2.1)then some true else bif decide (h6.1<0)then some true else some (decide ((1048576:Int)<h6.1))else bif decide (h6.1<0)then some true else some (decide ((1048576:Int)<h6.1))
def ch{R:Type}(ad:(List ag))(ed a6:Int)(nx:Int->Option R)(dn:Unit->Option R)(rt:Int->Option R):Option R:=bif decide (a6<ed)then al (ix a6 ad.length)<|al (ix a6 ad.length)<|bnd (qa4 (ad.getD a6.toNat ag.z)) fun r1=>bif r1 then rt a6 else al (dg .i64 (a6+1))<|nx (a6+1)else dn ()
def ib(ad:(List ag))(ed s0:Int):Option (Unit⊕Int):=b9 (fun a=>ch ad ed a (fun a' =>some (.next a')) (fun e=>some (.done e)) (fun r=>some (.ret r))) s0
def qu:Shp:=⟨[(0, .d false (.slice ag.ty)),(1, .fn 181 .nil),jce,jme],[]⟩
def d8(ad:(List ag)):Option Int:=bnd (ib ad (ad.length:Int) 0) fun oe2=>lk oe2 (fun e2=>some (-1)) (fun r=>some r)
def dh(ad:(List ag)):Option Bool:=bnd (d8 ad) fun r1=>some (decide ((0:Int)<=r1))
def qgt(aa:bk)(a4:(List ag)):Option Bool:=bif decide ((a4.length:Int)=(aa.2.1.length:Int))then bnd (dh a4) fun r1=>some (!r1)else some false
def qjp{R:Type}(h3:qL1)(f2 gj:Int)(rl:qL1)(nx:(Int×qL1)->Option R)(dn:qL1->Option R)(rt:ByteArray->Option R):Option R:=bif decide (gj<f2)then al (ix gj h3.length)<|al (ix gj h3.length)<|al (decide (0<=(8:Int)))<|al (room (rl.length+2) 1)<|al (dg .i64 (gj+1))<|nx ((gj+1),(rl++[(IntKind.wrap .u8 (h3.getD gj.toNat 0)),(IntKind.wrap .u8 (q8s .i64 (h3.getD gj.toNat 0) 8))]))else dn rl
def jae(h3:qL1)(f2:Int)(s0:(Int×qL1)):Option (qL1⊕ByteArray):=b9 (fun a=>qjp h3 f2 a.1 a.2 (fun a' =>some (.next a')) (fun e=>some (.done e)) (fun r=>some (.ret r))) s0
def jl0:Shp:=⟨[(3, .own 0),(10, .d false qT1),za6,jw0],[za4]⟩
def jlz:Shp:=⟨[(3, .own 0)],[za4]⟩
def qgj(mv:qL1):Option ByteArray:=al (dg .i64 ((2:Int)*(mv.length:Int)))<|al (qub 0 ((2:Int)*(mv.length:Int)) 1)<|bnd (jae mv (mv.length:Int) (0,[])) fun oe1=>lk oe1 (fun e1=>some (strOfNums e1)) (fun r=>some r)
def qgr{R:Type}(a1:qL1)(dw:Int)(s2:ByteArray)(s3 tb:qL1)(av:Int)(ga:qL1)(nx:(Int×qL1)->Option R)(dn:qL1->Option R)(rt:(Int×qL1)->Option R):Option R:=bif decide (av<dw)then al (ix av a1.length)<|al (ix av a1.length)<|al (ix (a1.getD av.toNat 0) ga.length)<|al (ix (a1.getD av.toNat 0) ga.length)<|al (dg .i64 ((ga.getD (a1.getD av.toNat 0).toNat 0)-1))<|al (ix (a1.getD av.toNat 0) ga.length)<|al (ix (a1.getD av.toNat 0) ga.length)<|al (dg .i64 (av+1))<|nx ((av+1),(ga.set (a1.getD av.toNat 0).toNat ((ga.getD (a1.getD av.toNat 0).toNat 0)-1)))else dn ga
def q43(a1:qL1)(dw:Int)(s2:ByteArray)(s3 tb:qL1)(s0:(Int×qL1)):Option (qL1⊕(Int×qL1)):=b9 (fun a=>qgr a1 dw s2 s3 tb a.1 a.2 (fun a' =>some (.next a')) (fun e=>some (.done e)) (fun r=>some (.ret r))) s0
def jgw:Shp:=⟨[(8, .ptr 0),(9, .own 1),(35, .d false qT1),za8,j31],[jgp,qhc]⟩
def jgv:Shp:=⟨[(8, .ptr 0),(9, .own 1)],[jgp,qhc]⟩
def qgs{R:Type}(j1:qL1)(q0 g4:Int)(ga:qL1)(nx:(Int×qL1)->Option R)(dn:qL1->Option R)(rt:(Int×qL1)->Option R):Option R:=bif decide (g4<q0)then al (ix g4 j1.length)<|al (ix g4 j1.length)<|al (ix (j1.getD g4.toNat 0) ga.length)<|al (ix (j1.getD g4.toNat 0) ga.length)<|al (dg .i64 ((ga.getD (j1.getD g4.toNat 0).toNat 0)+1))<|al (ix (j1.getD g4.toNat 0) ga.length)<|al (ix (j1.getD g4.toNat 0) ga.length)<|al (dg .i64 (g4+1))<|nx ((g4+1),(ga.set (j1.getD g4.toNat 0).toNat ((ga.getD (j1.getD g4.toNat 0).toNat 0)+1)))else dn ga
def q44(j1:qL1)(q0:Int)(s0:(Int×qL1)):Option (qL1⊕(Int×qL1)):=b9 (fun a=>qgs j1 q0 a.1 a.2 (fun a' =>some (.next a')) (fun e=>some (.done e)) (fun r=>some (.ret r))) s0
def jgy:Shp:=⟨[(9, .own 0),(49, .d false qT1),(50, .d true qT0),(51, .d true qT0)],[qhc]⟩
def jgx:Shp:=⟨[(9, .own 0)],[qhc]⟩
def q1v(aa:bk)(d0:qL1)(ka:Int):Option (Int×qL1):=bif decide (ka<0)then some (2,[])else bif decide ((aa.2.1.length:Int)<=ka)then some (2,[])else al (ix ka aa.2.1.length)<|al (ix ka aa.2.1.length)<|bnd (qah (aa.2.1.getD ka.toNat af.z) d0) fun r1=>bif (!r1)then some (12,[])else bnd (gz d0) fun r2=>bnd (q43 (aa.2.1.getD ka.toNat af.z).2.1 ((aa.2.1.getD ka.toNat af.z).2.1.length:Int) (aa.2.1.getD ka.toNat af.z).1 (aa.2.1.getD ka.toNat af.z).2.1 (aa.2.1.getD ka.toNat af.z).2.2.1 (0,r2)) fun oe3=>lk oe3 (fun e3=>bnd (q44 (aa.2.1.getD ka.toNat af.z).2.2.1 ((aa.2.1.getD ka.toNat af.z).2.2.1.length:Int) (0,e3)) fun oe4=>lk oe4 (fun e4=>bnd (uj e4) fun r5=>bif decide ((100:Int)<r5)then some (5,[])else some (0,e4)) (fun r=>some r)) (fun r=>some r)
def xl(aa:bk)(d0:qL1)(ka:Int):Option (Int×qL1):=bnd (vi aa d0) fun r1=>bif (!r1)then some (1,[])else bnd (q1v aa d0 ka) fun r2=>some (r2.1,r2.2)
def kb{R:Type}(dc hi:Int)(cd:qL1)(q2 hq:Int)(ha:(List af))(hr hs:Int)(es:qL2)(g0:(List ak))(v_62' :Bool)(hv:Int)(ho:Bool)(i3:(List (ByteArray×Int)))(c1:qL2)(eg:(List ak))(nx:(Int×Bool×(List (ByteArray×Int))×qL2×(List ak))->Option R)(dn:(Bool×(List (ByteArray×Int))×qL2×(List ak))->Option R)(rt:(o7×Int)->Option R):Option R:=bif decide (hv<q2)then al (ix hv cd.length)<|al (ix hv cd.length)<|al (ix hi c1.length)<|al (ix hi c1.length)<|bnd (xl (hq,ha,hr,hs,()) (c1.getD hi.toNat []) (cd.getD hv.toNat 0)) fun r5=>bif (!decide (r5.1=0))then al (dg .i64 (hv+1))<|nx ((hv+1),false,i3,c1,eg)else bnd (qgj r5.2) fun r6=>bif (!(bz .str r6 i3).isSome)then bif decide (dc<=(c1.length:Int))then al (dg .i64 (hv+1))<|nx ((hv+1),false,i3,c1,eg)else bnd (qgj r5.2) fun r7=>al (room (c1.length+1) 24)<|al (room (eg.length+1) 24)<|bif decide ((20000:Int)<((eg++[(hi,(c1.length:Int),(cd.getD hv.toNat 0),())]).length:Int))then rt (([],[],false,()),13)else al (dg .i64 (hv+1))<|nx ((hv+1),ho,(qdf .str r7 (c1.length:Int) i3),(c1++[r5.2]),(eg++[(hi,(c1.length:Int),(cd.getD hv.toNat 0),())]))else al (room (eg.length+1) 24)<|bif decide ((20000:Int)<((eg++[(hi,((bz .str r6 i3).getD 0),(cd.getD hv.toNat 0),())]).length:Int))then rt (([],[],false,()),13)else al (dg .i64 (hv+1))<|nx ((hv+1),ho,i3,c1,(eg++[(hi,((bz .str r6 i3).getD 0),(cd.getD hv.toNat 0),())]))else dn (ho,i3,c1,eg)
def qtw(dc hi:Int)(cd:qL1)(q2 hq:Int)(ha:(List af))(hr hs:Int)(es:qL2)(g0:(List ak))(v_62' :Bool)(s0:(Int×Bool×(List (ByteArray×Int))×qL2×(List ak))):Option ((Bool×(List (ByteArray×Int))×qL2×(List ak))⊕(o7×Int)):=b9 (fun a=>kb dc hi cd q2 hq ha hr hs es g0 v_62' a.1 a.2.1 a.2.2.1 a.2.2.2.1 a.2.2.2.2 (fun a' =>some (.next a')) (fun e=>some (.done e)) (fun r=>some (.ret r))) s0
def q80:Shp:=⟨[jpt,jar,jw5,zek,(11, .mp 3),jw0,(62, .nl false ZE),(63, .d true qT0),(64, .d true qT0)],[qef,qjd,q4v,jpr,qvu,jmf]⟩
def q8z:Shp:=⟨[jpt,jar,jw5,zek,(11, .mp 3),jw0],[qef,qjd,q4v,jpr,qvu,jmf]⟩
def nk{R:Type}(dc hq:Int)(ha:(List af))(hr hs:Int)(es:qL2)(g0:(List ak))(cd:Bool)(hi:Int)(ho:Bool)(i3:(List (ByteArray×Int)))(c1:qL2)(eg:(List ak))(nx:(Int×Bool×(List (ByteArray×Int))×qL2×(List ak))->Option R)(dn:(Bool×qL2×(List ak))->Option R)(rt:(o7×Int)->Option R):Option R:=bif decide (hi<(c1.length:Int))then al (ix hi c1.length)<|al (ix hi c1.length)<|bnd (qa (hq,ha,hr,hs,()) (c1.getD hi.toNat [])) fun r4=>bnd (qtw dc hi r4.2 (r4.2.length:Int) hq ha hr hs es g0 cd (0,ho,i3,c1,eg)) fun oe8=>lk oe8 (fun e8=>al (dg .i64 (hi+1))<|nx ((hi+1),e8.1,e8.2.1,e8.2.2.1,e8.2.2.2)) (fun r=>rt r)else dn (ho,c1,eg)
def qtx(dc hq:Int)(ha:(List af))(hr hs:Int)(es:qL2)(g0:(List ak))(cd:Bool)(s0:(Int×Bool×(List (ByteArray×Int))×qL2×(List ak))):Option ((Bool×qL2×(List ak))⊕(o7×Int)):=b9 (fun a=>nk dc hq ha hr hs es g0 cd a.1 a.2.1 a.2.2.1 a.2.2.2.1 a.2.2.2.2 (fun a' =>some (.next a')) (fun e=>some (.done e)) (fun r=>some (.ret r))) s0
def q81:Shp:=⟨[zbd,zej],[qjd, .cs 98 3 1 (Za ZL Z0 ZI),qvu,jmf]⟩
def ql(aa:bk)(d0:qL1)(dc:Int):Option (o7×Int):=bnd (qa aa d0) fun r1=>bif (!decide (r1.1=0))then some (([],[],false,()),1)else bif decide (dc<1)then some (([],[],false,()),2)else bif decide ((2000:Int)<dc)then some (([],[],false,()),2)else bnd (gz d0) fun r2=>bnd (qgj d0) fun r3=>bnd (qtx dc aa.1 aa.2.1 aa.2.2.1 aa.2.2.2.1 [] [] false (0,true,(qdf .str r3 (0:Int) ([]:(List (ByteArray×Int)))),[r2],[])) fun oe9=>lk oe9 (fun e9=>some ((e9.2.1,e9.2.2,e9.1,()),0)) (fun r=>some r)
def qjo(ft hw:qL1):Option Bool:=al (ix 0 1)<|bnd (g9 ft hw) fun r1=>some r1
def fc{R:Type}(ad:qL2)(f_1c0:qL1)(ed a6:Int)(nx:Int->Option R)(dn:Unit->Option R)(rt:Int->Option R):Option R:=bif decide (a6<ed)then al (ix a6 ad.length)<|al (ix a6 ad.length)<|bnd (qjo (ad.getD a6.toNat []) f_1c0) fun r1=>bif r1 then rt a6 else al (dg .i64 (a6+1))<|nx (a6+1)else dn ()
def rq(ad:qL2)(f_1c0:qL1)(ed s0:Int):Option (Unit⊕Int):=b9 (fun a=>fc ad f_1c0 ed a (fun a' =>some (.next a')) (fun e=>some (.done e)) (fun r=>some (.ret r))) s0
def qem:Shp:=⟨[(0, .d false qT2),(1, .fn 184 (Ze ZJ)),jce,jme],[]⟩
def l6(ad:qL2)(f_1c0:qL1):Option Int:=bnd (rq ad f_1c0 (ad.length:Int) 0) fun oe2=>lk oe2 (fun e2=>some (-1)) (fun r=>some r)
def qlj(ad:o7)(d0:qL1):Option Int:=bnd (l6 ad.1 d0) fun r1=>some r1
def j7{R:Type}(i2:(List ak))(q3:Int)(es:(List (Int×(List ab))))(g0 cd:Int)(c1:qL2)(eg:(List ak))(ho:Bool)(i8 i9:Int)(et:(List (Int×(List ab))))(ki:Bool)(hb:Int)(bf:(List Bool))(nx:(Bool×Int×(List Bool))->Option R)(dn:(Bool×(List Bool))->Option R)(rt:((List (Int×(List ab)))×Int×Int×Int)->Option R):Option R:=bif decide (hb<q3)then al (ix hb i2.length)<|al (ix hb i2.length)<|al (ix (i2.getD hb.toNat ak.z).2.1 bf.length)<|al (ix (i2.getD hb.toNat ak.z).2.1 bf.length)<|bif (bf.getD (Int.toNat (i2.getD hb.toNat ak.z).2.1) false)then al (ix (i2.getD hb.toNat ak.z).1 bf.length)<|al (ix (i2.getD hb.toNat ak.z).1 bf.length)<|bif (!(bf.getD (Int.toNat (i2.getD hb.toNat ak.z).1) false))then al (ix (i2.getD hb.toNat ak.z).1 bf.length)<|al (ix (i2.getD hb.toNat ak.z).1 bf.length)<|al (dg .i64 (hb+1))<|nx (true,(hb+1),(bf.set (Int.toNat (i2.getD hb.toNat ak.z).1) true))else al (dg .i64 (hb+1))<|nx (ki,(hb+1),bf)else al (dg .i64 (hb+1))<|nx (ki,(hb+1),bf)else dn (ki,bf)
def qmy(i2:(List ak))(q3:Int)(es:(List (Int×(List ab))))(g0 cd:Int)(c1:qL2)(eg:(List ak))(ho:Bool)(i8 i9:Int)(et:(List (Int×(List ab))))(s0:(Bool×Int×(List Bool))):Option ((Bool×(List Bool))⊕((List (Int×(List ab)))×Int×Int×Int)):=b9 (fun a=>j7 i2 q3 es g0 cd c1 eg ho i8 i9 et a.1 a.2.1 a.2.2 (fun a' =>some (.next a')) (fun e=>some (.done e)) (fun r=>some (.ret r))) s0
def q15:Shp:=⟨[zbd,zej,zeo,zep,zeh,(78, .d true (.slice ak.ty)),(79, .d true qT0),(80, .d true qT0)],[qsk,qjd,q02,qqo,jpq]⟩
def q14:Shp:=⟨[zbd,zej,zeo,zep,zeh],[qsk,qjd,q02,qqo,jpq]⟩
def j8{R:Type}(es:(List (Int×(List ab))))(g0 cd:Int)(c1:qL2)(eg:(List ak))(ho:Bool)(i8 i9:Int)(et:(List (Int×(List ab))))(ki:Bool)(bf:(List Bool))(nx:(Bool×(List Bool))->Option R)(dn:(List Bool)->Option R)(rt:((List (Int×(List ab)))×Int×Int×Int)->Option R):Option R:=bif ki then bnd (qmy eg (eg.length:Int) es g0 cd c1 eg ho i8 i9 et (false,0,bf)) fun oe5=>lk oe5 (fun e5=>nx (e5.1,e5.2)) (fun r=>rt r)else dn bf
def qmz(es:(List (Int×(List ab))))(g0 cd:Int)(c1:qL2)(eg:(List ak))(ho:Bool)(i8 i9:Int)(et:(List (Int×(List ab))))(s0:(Bool×(List Bool))):Option ((List Bool)⊕((List (Int×(List ab)))×Int×Int×Int)):=b9 (fun a=>j8 es g0 cd c1 eg ho i8 i9 et a.1 a.2 (fun a' =>some (.next a')) (fun e=>some (.done e)) (fun r=>some (.ret r))) s0
def q16:Shp:=⟨[zbd,zej,zeo,zep],[qsk,qjd,q02,qqo,jpq]⟩
def gi{R:Type}(bf:(List Bool))(gd:(List ak))(oe:Int)(es:(List (Int×(List ab))))(g0 cd i8 i9 dd:Int)(et:(List (Int×(List ab))))(nx:(Int×(List (Int×(List ab))))->Option R)(dn:(List (Int×(List ab)))->Option R)(rt:((List (Int×(List ab)))×Int×Int×Int)->Option R):Option R:=bif decide (dd<oe)then al (ix dd gd.length)<|al (ix dd gd.length)<|al (ix (gd.getD dd.toNat ak.z).1 bf.length)<|al (ix (gd.getD dd.toNat ak.z).1 bf.length)<|bif (bf.getD (Int.toNat (gd.getD dd.toNat ak.z).1) false)then al (ix (gd.getD dd.toNat ak.z).2.1 bf.length)<|al (ix (gd.getD dd.toNat ak.z).2.1 bf.length)<|bif (bf.getD (Int.toNat (gd.getD dd.toNat ak.z).2.1) false)then match mIx qT0 (gd.getD dd.toNat ak.z).1 et 0 with|some ix7=>al (Nat.blt ix7 et.length)<|al (room ((qeh et ix7).length+1) 16)<|al (Nat.beq 2 2&&Nat.beq ix7 ix7&&Nat.beq 0 0)<|al (match mIx qT0 (gd.getD dd.toNat ak.z).1 (quc et ix7 (qeh et ix7++[(gd.getD dd.toNat ak.z).2])) 0 with|some i' =>Nat.beq i' ix7|none=>false)<|al (dg .i64 (dd+1))<|nx ((dd+1),(quc et ix7 (qeh et ix7++[(gd.getD dd.toNat ak.z).2])))|none=>al (room 1 16)<|al (match mIx qT0 (gd.getD dd.toNat ak.z).1 et 0 with|some _=>false|none=>true)<|al (dg .i64 (dd+1))<|nx ((dd+1),(et++[((gd.getD dd.toNat ak.z).1,[(gd.getD dd.toNat ak.z).2])]))else al (dg .i64 (dd+1))<|nx ((dd+1),et)else al (dg .i64 (dd+1))<|nx ((dd+1),et)else dn et
def qm0(bf:(List Bool))(gd:(List ak))(oe:Int)(es:(List (Int×(List ab))))(g0 cd i8 i9:Int)(s0:(Int×(List (Int×(List ab))))):Option ((List (Int×(List ab)))⊕((List (Int×(List ab)))×Int×Int×Int)):=b9 (fun a=>gi bf gd oe es g0 cd i8 i9 a.1 a.2 (fun a' =>some (.next a')) (fun e=>some (.done e)) (fun r=>some (.ret r))) s0
def q19:Shp:=⟨[zbd,(14, .ptr 1),(15, .d true (.slice .bool)),(103, .d true (.slice ak.ty)),(104, .d true qT0),(105, .d true qT0)],[qsk,jmd,jpq]⟩
def q18:Shp:=⟨[zbd,(14, .ptr 1)],[qsk,jmd,jpq]⟩
def db(aa:bk)(d0:qL1)(dc:Int):Option ((List (Int×(List ab)))×Int×Int×Int):=bnd (qa aa d0) fun r1=>bif (!decide (r1.1=0))then some ([],0,0,1)else bif decide (dc<1)then some ([],0,0,2)else bif decide ((2000:Int)<dc)then some ([],0,0,2)else bnd (ql aa d0 dc) fun r2=>bif (!decide (r2.2=0))then some ([],0,0,r2.2)else bif (!r2.1.2.2.1)then some ([],0,0,13)else bnd (qcg aa) fun r3=>bnd (qlj r2.1 r3.2) fun r4=>bif decide (r4<0)then some ([],0,0,10)else al (qub (r2.1.1.length:Int) (r2.1.1.length:Int) 1)<|al (ix r4 (List.replicate (r2.1.1.length:Int).toNat (false:Bool)).length)<|al (ix r4 (List.replicate (r2.1.1.length:Int).toNat (false:Bool)).length)<|bnd (qmz [] 0 0 r2.1.1 r2.1.2.1 r2.1.2.2.1 r4 (r2.1.1.length:Int) [] (true,((List.replicate (r2.1.1.length:Int).toNat (false:Bool)).set r4.toNat true))) fun oe6=>lk oe6 (fun e6=>bnd (qm0 e6 r2.1.2.1 (r2.1.2.1.length:Int) [] 0 0 r4 (r2.1.1.length:Int) (0,[])) fun oe8=>lk oe8 (fun e8=>some (e8,r4,(r2.1.1.length:Int),0)) (fun r=>some r)) (fun r=>some r)
def vj(aa:bk)(d0:qL1)(i0:(List ag))(bb:Int):Option ((List (Int×(List ab)))×Int×Int×Int):=bnd (m5 aa) fun r1=>bif (!r1)then some ([],0,0,1)else bnd (qgt aa i0) fun r2=>bif (!r2)then some ([],0,0,1)else bnd (db aa d0 bb) fun r3=>some (r3.1,r3.2.1,r3.2.2.1,r3.2.2.2)
def me(g1:(List (Int×(List ab))))(cc a9:Int):Option (Int×Bool):=bif decide (cc=0)then some (0,true)else some (cc,decide ((0:Int)<((oj ab.ty (bz qT0 (0:Int) g1)).length:Int)))
def fo(h2:Int)(hw:(List ag)):Option Int:=al (ix 0 1)<|al (ix h2 hw.length)<|al (ix h2 hw.length)<|some (hw.getD h2.toNat ag.z).1
def lm(jc lo:ae)(a2:Bool):Option Bool:=bif (!jc.1)then some jc.1 else bif (!lo.1)then some jc.1 else bif (!decide (jc.2.1=lo.2.1))then some (!(decide (jc.2.1<lo.2.1)==a2))else some (decide (jc.2.2.1<lo.2.2.1))
def yw{R:Type}(weight_1c0:(List ag))(a2:Bool)(cg d5 a3:Int)(gy:(List (Int×(List ab))))(a1:(List ab))(dw:Int)(a5:(List (Int×(List ab))))(bq bs:Int)(b0:Bool)(av:Int)(ap:(List ae))(nx:(Bool×Int×(List ae))->Option R)(dn:(Bool×(List ae))->Option R)(rt:(List ae)->Option R):Option R:=bif decide (av<dw)then al (ix av a1.length)<|al (ix av a1.length)<|al (ix (a1.getD av.toNat ab.z).1 ap.length)<|al (ix (a1.getD av.toNat ab.z).1 ap.length)<|bif (!(ap.getD (Int.toNat (a1.getD av.toNat ab.z).1) ae.z).1)then al (dg .i64 (av+1))<|nx (b0,(av+1),ap)else bnd (fo (a1.getD av.toNat ab.z).2.1 weight_1c0) fun r1=>al (dg .i64 ((ap.getD (Int.toNat (a1.getD av.toNat ab.z).1) ae.z).2.1+r1))<|al (dg .i64 ((ap.getD (Int.toNat (a1.getD av.toNat ab.z).1) ae.z).2.2.1+1))<|al (ix cg ap.length)<|al (ix cg ap.length)<|bnd (lm ((ap.getD (Int.toNat (a1.getD av.toNat ab.z).1) ae.z).1,((ap.getD (Int.toNat (a1.getD av.toNat ab.z).1) ae.z).2.1+r1),((ap.getD (Int.toNat (a1.getD av.toNat ab.z).1) ae.z).2.2.1+1),()) (ap.getD cg.toNat ae.z) a2) fun r2=>bif r2 then al (ix cg ap.length)<|al (ix cg ap.length)<|al (dg .i64 (av+1))<|nx (true,(av+1),(ap.set cg.toNat ((ap.getD (Int.toNat (a1.getD av.toNat ab.z).1) ae.z).1,((ap.getD (Int.toNat (a1.getD av.toNat ab.z).1) ae.z).2.1+r1),((ap.getD (Int.toNat (a1.getD av.toNat ab.z).1) ae.z).2.2.1+1),())))else al (dg .i64 (av+1))<|nx (b0,(av+1),ap)else dn (b0,ap)
def qnp(weight_1c0:(List ag))(a2:Bool)(cg d5 a3:Int)(gy:(List (Int×(List ab))))(a1:(List ab))(dw:Int)(a5:(List (Int×(List ab))))(bq bs:Int)(s0:(Bool×Int×(List ae))):Option ((Bool×(List ae))⊕(List ae)):=b9 (fun a=>yw weight_1c0 a2 cg d5 a3 gy a1 dw a5 bq bs a.1 a.2.1 a.2.2 (fun a' =>some (.next a')) (fun e=>some (.done e)) (fun r=>some (.ret r))) s0
def qlx:Shp:=⟨[q20,jbu,jar,jvm,jn7,jwr,jcm,jga,qy0,zeq,jsd,za8,j31],[qee,qod]⟩
def qlw:Shp:=⟨[q20,jbu,jar,jvm,jn7,jcm,jga,qy0,zeq],[qee,qod]⟩
def yx{R:Type}(weight_1c0:(List ag))(a2:Bool)(d5 a3:Int)(gy:(List (Int×(List ab))))(a5:(List (Int×(List ab))))(bq bs:Int)(b0:Bool)(ap:(List ae))(en:(Int×(List ab)))(nx:(Bool×(List ae))->Option R)(rt:(List ae)->Option R):Option R:=bnd (qnp weight_1c0 a2 en.1 d5 a3 gy en.2 (en.2.length:Int) a5 bq bs (b0,0,ap)) fun oe3=>lk oe3 (fun e3=>nx (e3.1,e3.2)) (fun r=>rt r)
def qai(weight_1c0:(List ag))(a2:Bool)(d5 a3:Int)(gy:(List (Int×(List ab))))(a5:(List (Int×(List ab))))(bq bs:Int)(l:List (Int×(List ab)))(s0:(Bool×(List ae))):Option ((Bool×(List ae))⊕(List ae)):=qim (fun a en=>yx weight_1c0 a2 d5 a3 gy a5 bq bs a.1 a.2 en (fun a' =>some (.inl a')) (fun r=>some (.inr r))) l s0
def qly:Shp:=⟨[q20,jbu,jar,jvm,jn7,jcm,jga,qy0],[qee,qod]⟩
def jq{R:Type}(weight_1c0:(List ag))(a2:Bool)(d5:Int)(a5:(List (Int×(List ab))))(bq bs a3:Int)(ap:(List ae))(nx:(Int×(List ae))->Option R)(dn rt:(List ae)->Option R):Option R:=bif decide (a3<d5)then q5w (fun l=>qai weight_1c0 a2 d5 a3 a5 a5 bq bs l (false,ap)) a5 (fun e4=>bif (!e4.1)then dn e4.2 else al (dg .i64 (a3+1))<|nx ((a3+1),e4.2)) (fun r=>rt r)else dn ap
def ql0:Shp:=⟨[q20,jbu,jar,jvm,jcm,jga],[qee,qod]⟩
def qlz:Shp:=⟨[j18],[qod]⟩
def fk(g1:(List (Int×(List ab))))(cc a9:Int)(weight_1c0:(List ag))(a2:Bool):Option (List ae):=al (qub a9 a9 24)<|al (ix cc (List.replicate a9.toNat (ae.z:ae)).length)<|al (ix cc (List.replicate a9.toNat (ae.z:ae)).length)<|al (dg .i64 (a9+1))<|ndK (fun{Q} a nx dn rt=>jq (R:=Q) weight_1c0 a2 (a9+1) g1 cc a9 a.1 a.2 nx dn rt) (0,((List.replicate a9.toNat (ae.z:ae)).set cc.toNat (true,((List.replicate a9.toNat (ae.z:ae)).getD cc.toNat ae.z).2.1,((List.replicate a9.toNat (ae.z:ae)).getD cc.toNat ae.z).2.2.1,()))) (fun e5=>some e5) (fun r=>some r)
def i6{R:Type}(ku:Int)(bw:(List ab))(hn:Int)(a5:(List (Int×(List ab))))(bq bs kd:Int)(le:(List (Int×Bool)))(eq:qL1)(nx:(Int×(List (Int×Bool))×qL1)->Option R)(dn:((List (Int×Bool))×qL1)->Option R)(rt:Bool->Option R):Option R:=bif decide (kd<hn)then al (ix kd bw.length)<|al (ix kd bw.length)<|bif (!((bz qT0 (bw.getD kd.toNat ab.z).1 le).getD false))then al (room (eq.length+1) 8)<|al (dg .i64 (kd+1))<|nx ((kd+1),(qdf qT0 (bw.getD kd.toNat ab.z).1 true le),(eq++[(bw.getD kd.toNat ab.z).1]))else al (dg .i64 (kd+1))<|nx ((kd+1),le,eq)else dn (le,eq)
def oc(ku:Int)(bw:(List ab))(hn:Int)(a5:(List (Int×(List ab))))(bq bs:Int)(s0:(Int×(List (Int×Bool))×qL1)):Option (((List (Int×Bool))×qL1)⊕Bool):=b9 (fun a=>i6 ku bw hn a5 bq bs a.1 a.2.1 a.2.2 (fun a' =>some (.next a')) (fun e=>some (.done e)) (fun r=>some (.ret r))) s0
def qrr:Shp:=⟨[jpt,jar,(7, .mp 1),(8, .own 2),(31, .d false (.slice ab.ty)),(32, .d true qT0),(33, .d true qT0)],[qee,j4b,qhc]⟩
def qrq:Shp:=⟨[jpt,jar,(7, .mp 1),(8, .own 2)],[qee,j4b,qhc]⟩
def d7{R:Type}(ku:Int)(a5:(List (Int×(List ab))))(bq bs:Int)(le:(List (Int×Bool)))(eq:qL1)(nx:((List (Int×Bool))×qL1)->Option R)(dn:Unit->Option R)(rt:Bool->Option R):Option R:=bif decide ((0:Int)<(eq.length:Int))then al (ix 0 eq.length)<|al (ix 0 eq.length)<|bif decide ((eq.getD 0 0)=ku)then rt true else al (ix 0 eq.length)<|al (ix 0 eq.length)<|bnd (oc ku (oj ab.ty (bz qT0 (eq.getD 0 0) a5)) ((oj ab.ty (bz qT0 (eq.getD 0 0) a5)).length:Int) a5 bq bs (0,le,eq)) fun oe1=>lk oe1 (fun e1=>al (cut 1 (e1.2.length:Int) e1.2.length)<|nx (e1.1,((e1.2.drop 1).take ((e1.2.length:Int).toNat-1)))) (fun r=>rt r)else dn ()
def qfc(ku:Int)(a5:(List (Int×(List ab))))(bq bs:Int)(s0:((List (Int×Bool))×qL1)):Option (Unit⊕Bool):=b9 (fun a=>d7 ku a5 bq bs a.1 a.2 (fun a' =>some (.next a')) (fun e=>some (.done e)) (fun r=>some (.ret r))) s0
def qx(g1:(List (Int×(List ab))))(cc a9 lt ku:Int):Option Bool:=bnd (qfc ku g1 cc a9 ((qdf qT0 lt true ([]:(List (Int×Bool)))),[lt])) fun oe2=>lk oe2 (fun e2=>some false) (fun r=>some r)
def ci{R:Type}(a4:(List ag))(a3:(List ab))(lr:Int)(g7:(List (Int×(List ab))))(hz h0 gl:Int)(kn:(List (Int×Bool)))(gx:qL1)(nx:(Int×(List (Int×Bool))×qL1)->Option R)(dn:((List (Int×Bool))×qL1)->Option R)(rt:Bool->Option R):Option R:=bif decide (gl<lr)then al (ix gl a3.length)<|al (ix gl a3.length)<|al (ix (a3.getD gl.toNat ab.z).2.1 a4.length)<|al (ix (a3.getD gl.toNat ab.z).2.1 a4.length)<|bif (a4.getD (Int.toNat (a3.getD gl.toNat ab.z).2.1) ag.z).2.2.1 then rt true else bif (!((bz qT0 (a3.getD gl.toNat ab.z).1 kn).getD false))then al (room (gx.length+1) 8)<|al (dg .i64 (gl+1))<|nx ((gl+1),(qdf qT0 (a3.getD gl.toNat ab.z).1 true kn),(gx++[(a3.getD gl.toNat ab.z).1]))else al (dg .i64 (gl+1))<|nx ((gl+1),kn,gx)else dn (kn,gx)
def gu(a4:(List ag))(a3:(List ab))(lr:Int)(g7:(List (Int×(List ab))))(hz h0:Int)(s0:(Int×(List (Int×Bool))×qL1)):Option (((List (Int×Bool))×qL1)⊕Bool):=b9 (fun a=>ci a4 a3 lr g7 hz h0 a.1 a.2.1 a.2.2 (fun a' =>some (.next a')) (fun e=>some (.done e)) (fun r=>some (.ret r))) s0
def qui:Shp:=⟨[q6t,jmg,(5, .mp 1),(6, .own 2),(25, .d false (.slice ab.ty)),(26, .d true qT0),(27, .d true qT0)],[qee,j4b,qhc]⟩
def quh:Shp:=⟨[q6t,jmg,(5, .mp 1),(6, .own 2)],[qee,j4b,qhc]⟩
def cj{R:Type}(a4:(List ag))(g7:(List (Int×(List ab))))(hz h0:Int)(kn:(List (Int×Bool)))(gx:qL1)(nx:((List (Int×Bool))×qL1)->Option R)(dn:(List (Int×Bool))->Option R)(rt:Bool->Option R):Option R:=bif decide ((0:Int)<(gx.length:Int))then al (ix 0 gx.length)<|al (ix 0 gx.length)<|bnd (gu a4 (oj ab.ty (bz qT0 (gx.getD 0 0) g7)) ((oj ab.ty (bz qT0 (gx.getD 0 0) g7)).length:Int) g7 hz h0 (0,kn,gx)) fun oe1=>lk oe1 (fun e1=>al (cut 1 (e1.2.length:Int) e1.2.length)<|nx (e1.1,((e1.2.drop 1).take ((e1.2.length:Int).toNat-1)))) (fun r=>rt r)else dn kn
def xo(a4:(List ag))(g7:(List (Int×(List ab))))(hz h0:Int)(s0:((List (Int×Bool))×qL1)):Option ((List (Int×Bool))⊕Bool):=b9 (fun a=>cj a4 g7 hz h0 a.1 a.2 (fun a' =>some (.next a')) (fun e=>some (.done e)) (fun r=>some (.ret r))) s0
def quj:Shp:=⟨[q6t,jmg,(5, .mp 1)],[qee,j4b]⟩
def bj{R:Type}(a4:(List ag))(cg:Int)(g4:(List (Int×Bool)))(es:(List ab))(g0:Int)(g7:(List (Int×(List ab))))(hz h0 cd:Int)(nx:Int->Option R)(dn:Unit->Option R)(rt:Bool->Option R):Option R:=bif decide (cd<g0)then al (ix cd es.length)<|al (ix cd es.length)<|al (ix (es.getD cd.toNat ab.z).2.1 a4.length)<|al (ix (es.getD cd.toNat ab.z).2.1 a4.length)<|bif decide ((0:Int)<(a4.getD (Int.toNat (es.getD cd.toNat ab.z).2.1) ag.z).2.1)then bnd (qx g7 hz h0 (es.getD cd.toNat ab.z).1 cg) fun r3=>bif r3 then rt true else al (dg .i64 (cd+1))<|nx (cd+1)else al (dg .i64 (cd+1))<|nx (cd+1)else dn ()
def gv(a4:(List ag))(cg:Int)(g4:(List (Int×Bool)))(es:(List ab))(g0:Int)(g7:(List (Int×(List ab))))(hz h0 s0:Int):Option (Unit⊕Bool):=b9 (fun a=>bj a4 cg g4 es g0 g7 hz h0 a (fun a' =>some (.next a')) (fun e=>some (.done e)) (fun r=>some (.ret r))) s0
def qum:Shp:=⟨[q6t,jmg,jwr,za2,(52, .it),(60, .d false (.slice ab.ty)),(61, .d true qT0),(62, .d true qT0)],[qee]⟩
def qul:Shp:=⟨[q6t,jmg,za2,(52, .it)],[qee]⟩
def ju{R:Type}(a4:(List ag))(g4:(List (Int×Bool)))(g7:(List (Int×(List ab))))(hz h0:Int)(en:(Int×Bool))(nx:Unit->Option R)(rt:Bool->Option R):Option R:=bnd (gv a4 en.1 g4 (oj ab.ty (bz qT0 en.1 g7)) ((oj ab.ty (bz qT0 en.1 g7)).length:Int) g7 hz h0 0) fun oe4=>lk oe4 (fun e4=>nx ()) (fun r=>rt r)
def kw(a4:(List ag))(g4:(List (Int×Bool)))(g7:(List (Int×(List ab))))(hz h0:Int)(l:List (Int×Bool))(s0:Unit):Option (Unit⊕Bool):=qim (fun a en=>ju a4 g4 g7 hz h0 en (fun a' =>some (.inl a')) (fun r=>some (.inr r))) l s0
def qun:Shp:=⟨[q6t,jmg,za2],[qee]⟩
def gk(g1:(List (Int×(List ab))))(cc a9:Int)(a4:(List ag)):Option Bool:=bnd (xo a4 g1 cc a9 ((qdf qT0 (0:Int) true ([]:(List (Int×Bool)))),[0])) fun oe2=>lk oe2 (fun e2=>q5w (fun l=>kw a4 e2 g1 cc a9 l ()) e2 (fun e5=>some false) (fun r=>some r)) (fun r=>some r)
def fp(h2:Int)(hw:(List ag)):Option Int:=al (ix 0 1)<|al (ix h2 hw.length)<|al (ix h2 hw.length)<|some (hw.getD h2.toNat ag.z).2.1
def y0{R:Type}(weight_1c0:(List ag))(a2:Bool)(cg d5 a3:Int)(gy:(List (Int×(List ab))))(a1:(List ab))(dw:Int)(a5:(List (Int×(List ab))))(bq bs:Int)(b0:Bool)(av:Int)(ap:(List ae))(nx:(Bool×Int×(List ae))->Option R)(dn:(Bool×(List ae))->Option R)(rt:(List ae)->Option R):Option R:=bif decide (av<dw)then al (ix av a1.length)<|al (ix av a1.length)<|al (ix (a1.getD av.toNat ab.z).1 ap.length)<|al (ix (a1.getD av.toNat ab.z).1 ap.length)<|bif (!(ap.getD (Int.toNat (a1.getD av.toNat ab.z).1) ae.z).1)then al (dg .i64 (av+1))<|nx (b0,(av+1),ap)else bnd (fp (a1.getD av.toNat ab.z).2.1 weight_1c0) fun r1=>al (dg .i64 ((ap.getD (Int.toNat (a1.getD av.toNat ab.z).1) ae.z).2.1+r1))<|al (dg .i64 ((ap.getD (Int.toNat (a1.getD av.toNat ab.z).1) ae.z).2.2.1+1))<|al (ix cg ap.length)<|al (ix cg ap.length)<|bnd (lm ((ap.getD (Int.toNat (a1.getD av.toNat ab.z).1) ae.z).1,((ap.getD (Int.toNat (a1.getD av.toNat ab.z).1) ae.z).2.1+r1),((ap.getD (Int.toNat (a1.getD av.toNat ab.z).1) ae.z).2.2.1+1),()) (ap.getD cg.toNat ae.z) a2) fun r2=>bif r2 then al (ix cg ap.length)<|al (ix cg ap.length)<|al (dg .i64 (av+1))<|nx (true,(av+1),(ap.set cg.toNat ((ap.getD (Int.toNat (a1.getD av.toNat ab.z).1) ae.z).1,((ap.getD (Int.toNat (a1.getD av.toNat ab.z).1) ae.z).2.1+r1),((ap.getD (Int.toNat (a1.getD av.toNat ab.z).1) ae.z).2.2.1+1),())))else al (dg .i64 (av+1))<|nx (b0,(av+1),ap)else dn (b0,ap)
def qnt(weight_1c0:(List ag))(a2:Bool)(cg d5 a3:Int)(gy:(List (Int×(List ab))))(a1:(List ab))(dw:Int)(a5:(List (Int×(List ab))))(bq bs:Int)(s0:(Bool×Int×(List ae))):Option ((Bool×(List ae))⊕(List ae)):=b9 (fun a=>y0 weight_1c0 a2 cg d5 a3 gy a1 dw a5 bq bs a.1 a.2.1 a.2.2 (fun a' =>some (.next a')) (fun e=>some (.done e)) (fun r=>some (.ret r))) s0
def ql2:Shp:=⟨[q21,jbu,jar,jvm,jn7,jwr,jcm,jga,qy0,zeq,jsd,za8,j31],[qee,qod]⟩
def ql1:Shp:=⟨[q21,jbu,jar,jvm,jn7,jcm,jga,qy0,zeq],[qee,qod]⟩
def y7{R:Type}(weight_1c0:(List ag))(a2:Bool)(d5 a3:Int)(gy:(List (Int×(List ab))))(a5:(List (Int×(List ab))))(bq bs:Int)(b0:Bool)(ap:(List ae))(en:(Int×(List ab)))(nx:(Bool×(List ae))->Option R)(rt:(List ae)->Option R):Option R:=bnd (qnt weight_1c0 a2 en.1 d5 a3 gy en.2 (en.2.length:Int) a5 bq bs (b0,0,ap)) fun oe3=>lk oe3 (fun e3=>nx (e3.1,e3.2)) (fun r=>rt r)
def qak(weight_1c0:(List ag))(a2:Bool)(d5 a3:Int)(gy:(List (Int×(List ab))))(a5:(List (Int×(List ab))))(bq bs:Int)(l:List (Int×(List ab)))(s0:(Bool×(List ae))):Option ((Bool×(List ae))⊕(List ae)):=qim (fun a en=>y7 weight_1c0 a2 d5 a3 gy a5 bq bs a.1 a.2 en (fun a' =>some (.inl a')) (fun r=>some (.inr r))) l s0
def ql3:Shp:=⟨[q21,jbu,jar,jvm,jn7,jcm,jga,qy0],[qee,qod]⟩
def jr{R:Type}(weight_1c0:(List ag))(a2:Bool)(d5:Int)(a5:(List (Int×(List ab))))(bq bs a3:Int)(ap:(List ae))(nx:(Int×(List ae))->Option R)(dn rt:(List ae)->Option R):Option R:=bif decide (a3<d5)then q5w (fun l=>qak weight_1c0 a2 d5 a3 a5 a5 bq bs l (false,ap)) a5 (fun e4=>bif (!e4.1)then dn e4.2 else al (dg .i64 (a3+1))<|nx ((a3+1),e4.2)) (fun r=>rt r)else dn ap
def ql5:Shp:=⟨[q21,jbu,jar,jvm,jcm,jga],[qee,qod]⟩
def fl(g1:(List (Int×(List ab))))(cc a9:Int)(weight_1c0:(List ag))(a2:Bool):Option (List ae):=al (qub a9 a9 24)<|al (ix cc (List.replicate a9.toNat (ae.z:ae)).length)<|al (ix cc (List.replicate a9.toNat (ae.z:ae)).length)<|al (dg .i64 (a9+1))<|ndK (fun{Q} a nx dn rt=>jr (R:=Q) weight_1c0 a2 (a9+1) g1 cc a9 a.1 a.2 nx dn rt) (0,((List.replicate a9.toNat (ae.z:ae)).set cc.toNat (true,((List.replicate a9.toNat (ae.z:ae)).getD cc.toNat ae.z).2.1,((List.replicate a9.toNat (ae.z:ae)).getD cc.toNat ae.z).2.2.1,()))) (fun e5=>some e5) (fun r=>some r)
def ll(g1:(List (Int×(List ab))))(cc a9:Int)(a4:(List ag)):Option ag:=bnd (fk g1 cc a9 a4 false) fun r1=>al (ix 0 r1.length)<|al (ix 0 r1.length)<|bnd (gk g1 cc a9 a4) fun r2=>bif r2 then some ((r1.getD 0 ae.z).2.1,0,true,())else bnd (fl g1 cc a9 a4 true) fun r3=>al (ix 0 r3.length)<|al (ix 0 r3.length)<|some ((r1.getD 0 ae.z).2.1,(r3.getD 0 ae.z).2.1,false,())
def pd(aa:bk)(d0:qL1)(i0:(List ag))(bb:Int):Option (ag×Int):=bnd (vj aa d0 i0 bb) fun r1=>bif (!decide (r1.2.2.2=0))then some ((0,0,false,()),r1.2.2.2)else bnd (me r1.1 r1.2.1 r1.2.2.1) fun r2=>bif (!r2.2)then some ((0,0,false,()),10)else bnd (ll r1.1 r1.2.1 r1.2.2.1 i0) fun r3=>some (r3,0)
def dv(aa:bk)(d0:qL1)(dc:Int):Option (ag×Int):=bnd (m5 aa) fun r1=>bif (!r1)then some ((0,0,false,()),1)else bnd (qdn aa) fun r2=>bnd (pd aa d0 r2 dc) fun r3=>some (r3.1,r3.2)
def qlm:Option Bool:=some true
def qea(h2:af):Option Bool:=bif decide ((20:Int)<(h2.2.1.length:Int))then some true else bif decide ((20:Int)<(h2.2.2.1.length:Int))then some true else some (decide ((100:Int)<(ByteArray.size h2.1:Int)))
def cq{R:Type}(ad:(List af))(ed a6:Int)(nx:Int->Option R)(dn:Unit->Option R)(rt:Int->Option R):Option R:=bif decide (a6<ed)then al (ix a6 ad.length)<|al (ix a6 ad.length)<|bnd (qea (ad.getD a6.toNat af.z)) fun r1=>bif r1 then rt a6 else al (dg .i64 (a6+1))<|nx (a6+1)else dn ()
def jj(ad:(List af))(ed s0:Int):Option (Unit⊕Int):=b9 (fun a=>cq ad ed a (fun a' =>some (.next a')) (fun e=>some (.done e)) (fun r=>some (.ret r))) s0
def uh:Shp:=⟨[(0, .d false (.slice af.ty)),(1, .fn 20 .nil),jce,jme],[]⟩
def ey(ad:(List af)):Option Int:=bnd (jj ad (ad.length:Int) 0) fun oe2=>lk oe2 (fun e2=>some (-1)) (fun r=>some r)
def cp(ad:(List af)):Option Bool:=bnd (ey ad) fun r1=>some (decide ((0:Int)<=r1))
def qjq(aa:bk):Option Bool:=bif decide (aa.1<=12)then bif decide ((aa.2.1.length:Int)<=14)then bnd (cp aa.2.1) fun r1=>some (!r1)else some false else some false
def qdv(ej:Int):Option Bool:=bif decide ((97:Int)<=ej)then bif decide (ej<=122)then some true else bif decide ((65:Int)<=ej)then some (decide (ej<=90))else some false else bif decide ((65:Int)<=ej)then some (decide (ej<=90))else some false
def uy{R:Type}(ad:ByteArray)(c5:Int)(nx:Int->Option R)(dn:Unit->Option R)(rt:Bool->Option R):Option R:=bif decide (c5<(ByteArray.size ad:Int))then al (ix c5 (ByteArray.size ad))<|bnd (qdv (((ByteArray.data ad).getD c5.toNat 0).toNat:Int)) fun r2=>bif (!r2)then bif decide ((48:Int)<=(((ByteArray.data ad).getD c5.toNat 0).toNat:Int))then bif (!(decide ((((ByteArray.data ad).getD c5.toNat 0).toNat:Int)<=57)))then bif (!decide ((((ByteArray.data ad).getD c5.toNat 0).toNat:Int)=95))then bif (!decide ((((ByteArray.data ad).getD c5.toNat 0).toNat:Int)=45))then bif (!decide ((((ByteArray.data ad).getD c5.toNat 0).toNat:Int)=46))then rt false else al (dg .i64 (c5+1))<|nx (c5+1)else al (dg .i64 (c5+1))<|nx (c5+1)else al (dg .i64 (c5+1))<|nx (c5+1)else al (dg .i64 (c5+1))<|nx (c5+1)else bif (!decide ((((ByteArray.data ad).getD c5.toNat 0).toNat:Int)=95))then bif (!decide ((((ByteArray.data ad).getD c5.toNat 0).toNat:Int)=45))then bif (!decide ((((ByteArray.data ad).getD c5.toNat 0).toNat:Int)=46))then rt false else al (dg .i64 (c5+1))<|nx (c5+1)else al (dg .i64 (c5+1))<|nx (c5+1)else al (dg .i64 (c5+1))<|nx (c5+1)else al (dg .i64 (c5+1))<|nx (c5+1)else dn ()
def qw2(ad:ByteArray)(s0:Int):Option (Unit⊕Bool):=b9 (fun a=>uy ad a (fun a' =>some (.next a')) (fun e=>some (.done e)) (fun r=>some (.ret r))) s0
def jbf:Shp:=⟨[jwt,jb5],[]⟩
def qjj(ad:ByteArray):Option Bool:=bif decide ((ByteArray.size ad:Int)<1)then some false else bif decide ((40:Int)<(ByteArray.size ad:Int))then some false else al (ix 0 (ByteArray.size ad))<|bnd (qdv (((ByteArray.data ad).getD 0 0).toNat:Int)) fun r1=>bif (!r1)then some false else bnd (qw2 ad 1) fun oe3=>lk oe3 (fun e3=>some true) (fun r=>some r)
def o6{R:Type}(aa:Int)(ep:qL1)(d1:Int)(nx:Int->Option R)(dn:Unit->Option R)(rt:Bool->Option R):Option R:=bif decide (d1<(ep.length:Int))then al (ix d1 ep.length)<|al (ix d1 ep.length)<|bif decide ((ep.getD d1.toNat 0)<0)then rt false else al (ix d1 ep.length)<|al (ix d1 ep.length)<|bif decide (aa<=(ep.getD d1.toNat 0))then rt false else bif decide ((0:Int)<d1)then al (dg .i64 (d1-1))<|al (ix (d1-1) ep.length)<|al (ix (d1-1) ep.length)<|al (ix d1 ep.length)<|al (ix d1 ep.length)<|bif decide ((ep.getD d1.toNat 0)<=(ep.getD (d1-1).toNat 0))then rt false else al (dg .i64 (d1+1))<|nx (d1+1)else al (dg .i64 (d1+1))<|nx (d1+1)else dn ()
def qw8(aa:Int)(ep:qL1)(s0:Int):Option (Unit⊕Bool):=b9 (fun a=>o6 aa ep a (fun a' =>some (.next a')) (fun e=>some (.done e)) (fun r=>some (.ret r))) s0
def jbk:Shp:=⟨[qy2,j21,zbg],[]⟩
def ud(aa:Int)(ep:qL1):Option Bool:=bnd (qw8 aa ep 0) fun oe1=>lk oe1 (fun e1=>some true) (fun r=>some r)
def qdx{R:Type}(b2:Int)(a0:(List af))(cl cv c5:Int)(nx:Int->Option R)(dn:Unit->Option R)(rt:Bool->Option R):Option R:=bif decide (c5<(a0.length:Int))then al (ix c5 a0.length)<|al (ix c5 a0.length)<|bif (!(ByteArray.toList (a0.getD c5.toNat af.z).1==ByteArray.toList ⟨#[]⟩))then bnd (qjj (a0.getD c5.toNat af.z).1) fun r1=>bif (!r1)then rt false else bnd (ud b2 (a0.getD c5.toNat af.z).2.1) fun r2=>bif (!r2)then rt false else bnd (ud b2 (a0.getD c5.toNat af.z).2.2.1) fun r3=>bif (!r3)then rt false else al (dg .i64 (c5+1))<|nx (c5+1)else bnd (ud b2 (a0.getD c5.toNat af.z).2.1) fun r4=>bif (!r4)then rt false else bnd (ud b2 (a0.getD c5.toNat af.z).2.2.1) fun r5=>bif (!r5)then rt false else al (dg .i64 (c5+1))<|nx (c5+1)else dn ()
def q0j(b2:Int)(a0:(List af))(cl cv s0:Int):Option (Unit⊕Bool):=b9 (fun a=>qdx b2 a0 cl cv a (fun a' =>some (.next a')) (fun e=>some (.done e)) (fun r=>some (.ret r))) s0
def jfb:Shp:=⟨[jva,jb5],[qef]⟩
def qm5(aa:bk):Option Bool:=bif decide (aa.1<1)then some false else bif decide ((40:Int)<aa.1)then some false else bif decide ((60:Int)<(aa.2.1.length:Int))then some false else bif decide (aa.2.2.1<0)then some false else bif decide (aa.1<=aa.2.2.1)then some false else bif decide (aa.2.2.2.1<0)then some false else bif decide (aa.1<=aa.2.2.2.1)then some false else bnd (q0j aa.1 aa.2.1 aa.2.2.1 aa.2.2.2.1 0) fun oe6=>lk oe6 (fun e6=>some true) (fun r=>some r)
def qdw{R:Type}(j2:qL1)(qc d1:Int)(nx:Int->Option R)(dn:Unit->Option R)(rt:Bool->Option R):Option R:=bif decide (d1<(j2.length:Int))then al (ix d1 j2.length)<|al (ix d1 j2.length)<|bif decide ((j2.getD d1.toNat 0)=qc)then rt true else al (dg .i64 (d1+1))<|nx (d1+1)else dn ()
def q96(j2:qL1)(qc s0:Int):Option (Unit⊕Bool):=b9 (fun a=>qdw j2 qc a (fun a' =>some (.next a')) (fun e=>some (.done e)) (fun r=>some (.ret r))) s0
def jlo:Shp:=⟨[jws,qu6,zbg],[]⟩
def vn(j2:qL1)(qc:Int):Option Bool:=bnd (q96 j2 qc 0) fun oe1=>lk oe1 (fun e1=>some false) (fun r=>some r)
def rj{R:Type}(hc g6 gw:Int)(bl:(List af))(g2 g3 k5:Int)(gt:qL1)(nx:(Int×qL1)->Option R)(dn rt:qL1->Option R):Option R:=al (ix g6 bl.length)<|al (ix g6 bl.length)<|bif decide (k5<((bl.getD g6.toNat af.z).2.2.1.length:Int))then al (ix g6 bl.length)<|al (ix g6 bl.length)<|al (ix k5 (bl.getD g6.toNat af.z).2.2.1.length)<|al (ix k5 (bl.getD g6.toNat af.z).2.2.1.length)<|bnd (vn gt ((bl.getD g6.toNat af.z).2.2.1.getD k5.toNat 0)) fun r2=>bif (!r2)then al (ix g6 bl.length)<|al (ix g6 bl.length)<|al (ix k5 (bl.getD g6.toNat af.z).2.2.1.length)<|al (ix k5 (bl.getD g6.toNat af.z).2.2.1.length)<|al (room (gt.length+1) 8)<|al (dg .i64 (k5+1))<|nx ((k5+1),(gt++[((bl.getD g6.toNat af.z).2.2.1.getD k5.toNat 0)]))else al (dg .i64 (k5+1))<|nx ((k5+1),gt)else dn gt
def q0o(hc g6 gw:Int)(bl:(List af))(g2 g3:Int)(s0:(Int×qL1)):Option (qL1⊕qL1):=b9 (fun a=>rj hc g6 gw bl g2 g3 a.1 a.2 (fun a' =>some (.next a')) (fun e=>some (.done e)) (fun r=>some (.ret r))) s0
def jff:Shp:=⟨[jmg,j60,j02,jce,jme],[qef,qhc]⟩
def jfe:Shp:=⟨[jmg,j60,j02,jce],[qef,qhc]⟩
def rk{R:Type}(hc gw:Int)(bl:(List af))(g2 g3 g6:Int)(gt:qL1)(nx:(Int×qL1)->Option R)(dn rt:qL1->Option R):Option R:=bif decide (g6<(bl.length:Int))then al (ix g6 bl.length)<|al (ix g6 bl.length)<|al (ix hc gt.length)<|al (ix hc gt.length)<|bnd (vn (bl.getD g6.toNat af.z).2.1 (gt.getD hc.toNat 0)) fun r1=>bif (!r1)then al (dg .i64 (g6+1))<|nx ((g6+1),gt)else bnd (q0o hc g6 gw bl g2 g3 (0,gt)) fun oe3=>lk oe3 (fun e3=>al (dg .i64 (g6+1))<|nx ((g6+1),e3)) (fun r=>rt r)else dn gt
def q0p(hc gw:Int)(bl:(List af))(g2 g3:Int)(s0:(Int×qL1)):Option (qL1⊕qL1):=b9 (fun a=>rk hc gw bl g2 g3 a.1 a.2 (fun a' =>some (.next a')) (fun e=>some (.done e)) (fun r=>some (.ret r))) s0
def jfg:Shp:=⟨[jmg,j60,j02],[qef,qhc]⟩
def x0{R:Type}(gw:Int)(bl:(List af))(g2 g3 hc:Int)(gt:qL1)(nx:(Int×qL1)->Option R)(dn rt:qL1->Option R):Option R:=bif decide (hc<(gt.length:Int))then bnd (q0p hc gw bl g2 g3 (0,gt)) fun oe4=>lk oe4 (fun e4=>al (dg .i64 (hc+1))<|nx ((hc+1),e4)) (fun r=>rt r)else dn gt
def q0q(gw:Int)(bl:(List af))(g2 g3:Int)(s0:(Int×qL1)):Option (qL1⊕qL1):=b9 (fun a=>x0 gw bl g2 g3 a.1 a.2 (fun a' =>some (.next a')) (fun e=>some (.done e)) (fun r=>some (.ret r))) s0
def jfi:Shp:=⟨[(5, .own 0)],[qhc]⟩
def qco(aa:bk)(lt:Int):Option qL1:=bnd (q0q aa.1 aa.2.1 aa.2.2.1 aa.2.2.2.1 (0,[lt])) fun oe5=>lk oe5 (fun e5=>some e5) (fun r=>some r)
def yj{R:Type}(b2:Int)(a0:(List af))(cl cv b3:Int)(dt:(List af))(hu sb p0 p1 p2 i4:Int)(m1:(List af))(nx:(Int×(List af))->Option R)(dn:(List af)->Option R)(rt:bk->Option R):Option R:=bif decide (i4<(a0.length:Int))then al (ix i4 a0.length)<|al (ix i4 a0.length)<|al (room (0+(a0.getD i4.toNat af.z).2.2.1.length) 8)<|al (room (0+(a0.getD i4.toNat af.z).2.1.length) 8)<|al (room (m1.length+1) 64)<|al (dg .i64 (i4+1))<|nx ((i4+1),(m1++[((a0.getD i4.toNat af.z).1,([]++(a0.getD i4.toNat af.z).2.2.1),([]++(a0.getD i4.toNat af.z).2.1),())]))else dn m1
def qtn(b2:Int)(a0:(List af))(cl cv b3:Int)(dt:(List af))(hu sb p0 p1 p2:Int)(s0:(Int×(List af))):Option ((List af)⊕bk):=b9 (fun a=>yj b2 a0 cl cv b3 dt hu sb p0 p1 p2 a.1 a.2 (fun a' =>some (.next a')) (fun e=>some (.done e)) (fun r=>some (.ret r))) s0
def q8l:Shp:=⟨[jva,(2, .ptr 1),(3, .ptr 2),(4, .d true qT0)],[qef,qgm, .cs 24 4 1 (Zb Zu Z0 Zu Zu),j4n]⟩
def q8k:Shp:=⟨[jmg,(3, .ptr 1)],[qgm, .cs 24 4 1 (Zb Zu ZL Zu Zu),j4n]⟩
def qgv(aa:bk):Option bk:=bnd (qtn aa.1 aa.2.1 aa.2.2.1 aa.2.2.2.1 0 [] 0 0 aa.1 aa.2.2.2.1 aa.2.2.1 (0,[])) fun oe1=>lk oe1 (fun e1=>some (aa.1,e1,aa.2.2.2.1,aa.2.2.1,())) (fun r=>some r)
def qat{R:Type}(jc lo:qL1)(d1:Int)(nx:Int->Option R)(dn:Unit->Option R)(rt:Bool->Option R):Option R:=bif decide (d1<(jc.length:Int))then al (ix d1 jc.length)<|al (ix d1 jc.length)<|bnd (vn lo (jc.getD d1.toNat 0)) fun r1=>bif r1 then rt true else al (dg .i64 (d1+1))<|nx (d1+1)else dn ()
def q5u(jc lo:qL1)(s0:Int):Option (Unit⊕Bool):=b9 (fun a=>qat jc lo a (fun a' =>some (.next a')) (fun e=>some (.done e)) (fun r=>some (.ret r))) s0
def jhi:Shp:=⟨[jws,j21,zbg],[]⟩
def qk7(jc lo:qL1):Option Bool:=bnd (q5u jc lo 0) fun oe2=>lk oe2 (fun e2=>some false) (fun r=>some r)
def ls{R:Type}(h8 jn:qL1)(b2:Int)(a0:(List af))(cl cv d1:Int)(nx:Int->Option R)(dn:Unit->Option R)(rt:Bool->Option R):Option R:=bif decide (d1<b2)then bnd (vn h8 d1) fun r5=>bif (!r5)then rt false else bnd (vn jn d1) fun r6=>bif (!r6)then rt false else al (dg .i64 (d1+1))<|nx (d1+1)else dn ()
def qp6(h8 jn:qL1)(b2:Int)(a0:(List af))(cl cv s0:Int):Option (Unit⊕Bool):=b9 (fun a=>ls h8 jn b2 a0 cl cv a (fun a' =>some (.next a')) (fun e=>some (.done e)) (fun r=>some (.ret r))) s0
def q5o:Shp:=⟨[jva,j01,zen,zbg],[qef]⟩
def q5n:Shp:=⟨[jva,j01,zen],[qef]⟩
def wn{R:Type}(h8 jn:qL1)(b2:Int)(a0:(List af))(cl cv hc:Int)(nx:Int->Option R)(dn:Unit->Option R)(rt:Bool->Option R):Option R:=bif decide (hc<(a0.length:Int))then al (ix hc a0.length)<|al (ix hc a0.length)<|bnd (vn (a0.getD hc.toNat af.z).2.2.1 cl) fun r8=>bif r8 then rt false else bnd (vn (a0.getD hc.toNat af.z).2.1 cv) fun r9=>bif r9 then rt false else bnd (qk7 (a0.getD hc.toNat af.z).2.1 h8) fun r10=>bif (!r10)then rt false else bnd (qk7 (a0.getD hc.toNat af.z).2.2.1 jn) fun r11=>bif (!r11)then rt false else al (dg .i64 (hc+1))<|nx (hc+1)else dn ()
def qf7(h8 jn:qL1)(b2:Int)(a0:(List af))(cl cv s0:Int):Option (Unit⊕Bool):=b9 (fun a=>wn h8 jn b2 a0 cl cv a (fun a' =>some (.next a')) (fun e=>some (.done e)) (fun r=>some (.ret r))) s0
def q5q:Shp:=⟨[jva,j01,zen,j02],[qef]⟩
def xz(aa:bk):Option Bool:=bnd (qm5 aa) fun r1=>bif (!r1)then some false else bif decide (aa.2.2.1=aa.2.2.2.1)then some false else bnd (qco aa aa.2.2.1) fun r2=>bnd (qgv aa) fun r3=>bnd (qco r3 aa.2.2.2.1) fun r4=>bnd (qp6 r2 r4 aa.1 aa.2.1 aa.2.2.1 aa.2.2.2.1 0) fun oe7=>lk oe7 (fun e7=>bnd (qf7 r2 r4 aa.1 aa.2.1 aa.2.2.1 aa.2.2.2.1 0) fun oe12=>lk oe12 (fun e12=>some true) (fun r=>some r)) (fun r=>some r)
def qp3(ad:ByteArray):Option Bool:=bnd (sr ad) fun r1=>some (!r1)
def lx{R:Type}(ad:(List ByteArray))(ed a6:Int)(nx:Int->Option R)(dn:Unit->Option R)(rt:Int->Option R):Option R:=bif decide (a6<ed)then al (ix a6 ad.length)<|al (ix a6 ad.length)<|bnd (qp3 (ad.getD a6.toNat ⟨#[]⟩)) fun r1=>bif r1 then rt a6 else al (dg .i64 (a6+1))<|nx (a6+1)else dn ()
def zg(ad:(List ByteArray))(ed s0:Int):Option (Unit⊕Int):=b9 (fun a=>lx ad ed a (fun a' =>some (.next a')) (fun e=>some (.done e)) (fun r=>some (.ret r))) s0
def yn:Shp:=⟨[zed,(1, .fn 185 .nil),jce,jme],[]⟩
def nv(ad:(List ByteArray)):Option Int:=bnd (zg ad (ad.length:Int) 0) fun oe2=>lk oe2 (fun e2=>some (-1)) (fun r=>some r)
def lu(ad:(List ByteArray)):Option Bool:=bnd (nv ad) fun r1=>some (decide ((0:Int)<=r1))
def xy(b1:(List ByteArray)):Option Bool:=bif decide ((b1.length:Int)<=200)then bnd (lu b1) fun r1=>some (!r1)else some false
def vk(aa:bk)(a7:(List ByteArray)):Option (qL1×Int):=bnd (vg aa) fun r1=>bif (!decide (r1.1=0))then some ([],1)else bnd (xy a7) fun r2=>bif (!r2)then some ([],1)else al (room (1+r1.2.length) 8)<|some (([0]++r1.2),0)
def pf(aa:Int):Option Bool:=bif decide ((0:Int)<=aa)then some (decide (aa<=1000))else some false
def uc(ej:ak):Option Bool:=bnd (pf ej.1) fun r1=>bif r1 then bnd (pf ej.2.1) fun r2=>bif r2 then bnd (pf ej.2.2.1) fun r3=>some r3 else some false else some false
def qmf(aa:bk)(a7:(List ByteArray))(ke:ak):Option Bool:=bnd (vk aa a7) fun r1=>bif decide (r1.2=0)then bnd (uc ke) fun r2=>some r2 else some false
def qhh(aa:bk)(a7:(List ByteArray)):Option (Int×qL1):=bnd (qcg aa) fun r1=>bif (!decide (r1.1=0))then some (1,[])else bnd (xy a7) fun r2=>bif (!r2)then some (1,[])else al (room (1+r1.2.length) 8)<|some (0,([(a7.length:Int)]++r1.2))
def qft(ad:qL1):Option ByteArray:=jyv ad
def wa(ik:qL1)(k3 lv:Int)(re:aq)(m2:Int)(nb:(List af))(nd ne:Int)(nf:(List ByteArray))(nm nn n0:Int)(ef:(List (ByteArray×Int))):Option (Int×Bool×Int×(List af)×Int×Int×(List ByteArray)×Int×Int×Int×(List (ByteArray×Int))×qL2×qL1×qL1×(List aq)×(List Bool)):=bnd (qft ik) fun r1=>bif (!(bz .str r1 ef).isSome)then bnd (qft ik) fun r2=>al (room 1 24)<|al (room 1 8)<|al (room 1 8)<|al (room 1 32)<|al (room 1 1)<|some (0,true,m2,nb,nd,ne,nf,nm,nn,n0,(qdf .str r2 (0:Int) ef),[ik],[k3],[lv],[re],[false])else none
def ea(c4:(List ab)):Option Int:=some (c4.length:Int)
def fj(k0 k1:Int)(c4:(List ab)):Option (List ab):=al (ix k1 c4.length)<|al (ix k1 c4.length)<|al (ix k0 c4.length)<|al (ix k0 c4.length)<|al (ix k0 c4.length)<|al (ix k1 c4.length)<|al (ix k0 c4.length)<|al (decide ((c4.length:Nat)=(c4.set k0.toNat (c4.getD k1.toNat ab.z)).length))<|al (ix k1 (c4.set k0.toNat (c4.getD k1.toNat ab.z)).length)<|some ((c4.set k0.toNat (c4.getD k1.toNat ab.z)).set k1.toNat (c4.getD k0.toNat ab.z))
def gq(c4:(List ab))(k0 k1:Int):Option Bool:=al (ix k0 c4.length)<|al (ix k0 c4.length)<|al (ix k1 c4.length)<|al (ix k1 c4.length)<|some (decide ((c4.getD k0.toNat ab.z).1<(c4.getD k1.toNat ab.z).1))
def cf{R:Type}(md ob gs:Int)(h_0c0:(List ab))(nx dn:(Int×(List ab))->Option R)(rt:(Bool×(List ab))->Option R):Option R:=al (dg .i64 ((2:Int)*gs))<|al (dg .i64 (((2:Int)*gs)+1))<|bif decide (ob<=(((2:Int)*gs)+1))then dn (gs,h_0c0)else bif decide ((((2:Int)*gs)+1)<0)then dn (gs,h_0c0)else al (dg .i64 ((((2:Int)*gs)+1)+1))<|bif decide (((((2:Int)*gs)+1)+1)<ob)then bnd (gq h_0c0 ((((2:Int)*gs)+1)+1) (((2:Int)*gs)+1)) fun r1=>bif r1 then bnd (gq h_0c0 ((((2:Int)*gs)+1)+1) gs) fun r2=>bif (!r2)then dn (gs,h_0c0)else bnd (fj gs ((((2:Int)*gs)+1)+1) h_0c0) fun r3=>al (decide (r3.length=h_0c0.length))<|nx (((((2:Int)*gs)+1)+1),r3)else bnd (gq h_0c0 (((2:Int)*gs)+1) gs) fun r4=>bif (!r4)then dn (gs,h_0c0)else bnd (fj gs (((2:Int)*gs)+1) h_0c0) fun r5=>al (decide (r5.length=h_0c0.length))<|nx ((((2:Int)*gs)+1),r5)else bnd (gq h_0c0 (((2:Int)*gs)+1) gs) fun r6=>bif (!r6)then dn (gs,h_0c0)else bnd (fj gs (((2:Int)*gs)+1) h_0c0) fun r7=>al (decide (r7.length=h_0c0.length))<|nx ((((2:Int)*gs)+1),r7)
def qio(md ob:Int)(s0:(Int×(List ab))):Option ((Int×(List ab))⊕(Bool×(List ab))):=b9 (fun a=>cf md ob a.1 a.2 (fun a' =>some (.next a')) (fun e=>some (.done e)) (fun r=>some (.ret r))) s0
def qvw:Shp:=⟨[j2j,qu6,jpt,jce],[qy8,qqu]⟩
def qvv:Shp:=⟨[qu6,jce],[qy8,qqu]⟩
def wi(md ob:Int)(h_0c0:(List ab)):Option (Bool×(List ab)):=bnd (qio md ob (md,h_0c0)) fun oe8=>lk oe8 (fun e8=>some (decide (md<e8.1),e8.2)) (fun r=>some r)
def qh2(c4:(List ab)):Option (Int×Int×(List ab)):=al (dg .i64 ((c4.length:Int)-1))<|al (ix ((c4.length:Int)-1) c4.length)<|al (ix ((c4.length:Int)-1) c4.length)<|al (dg .i64 ((c4.length:Int)-1))<|al (cut 0 ((c4.length:Int)-1) c4.length)<|some ((c4.getD ((c4.length:Int)-1).toNat ab.z).1,(c4.getD ((c4.length:Int)-1).toNat ab.z).2.1,((c4.drop 0).take (((c4.length:Int)-1).toNat-0)))
def yd(h_0c0:(List ab)):Option (Int×Int×(List ab)):=bnd (ea h_0c0) fun r1=>al (dg .i64 (r1-1))<|bnd (fj 0 (r1-1) h_0c0) fun r2=>al (decide (r2.length=h_0c0.length))<|bnd (wi 0 (r1-1) r2) fun r3=>al (decide (r3.2.length=r2.length))<|bnd (qh2 r3.2) fun r4=>some (r4.1,r4.2.1,r4.2.2)
def uw(aa:bk)(a7:(List ByteArray))(bo:qL1):Option Bool:=bnd (xy a7) fun r1=>bif (!r1)then some false else bif decide ((bo.length:Int)=0)then some false else al (ix 0 bo.length)<|al (ix 0 bo.length)<|bif decide ((bo.getD 0 0)<0)then some false else al (ix 0 bo.length)<|al (ix 0 bo.length)<|bif decide ((a7.length:Int)<(bo.getD 0 0))then some false else al (cut 1 bo.length bo.length)<|bnd (qa aa (bo.drop 1)) fun r2=>some (decide (r2.1=0))
def qk3(b1:(List ByteArray))(rd:Int)(hy:ByteArray):Option Bool:=bif decide (rd<(b1.length:Int))then al (ix rd b1.length)<|al (ix rd b1.length)<|some (ByteArray.toList (b1.getD rd.toNat ⟨#[]⟩)==ByteArray.toList hy)else some false
def fx(m0:Int):Option (List aq):=bif decide (m0<0)then none else al (dg .i64 ((0:Int)-0))<|al (dg .i64 (m0-((0:Int)-0)))<|bif decide ((0:Int)<(m0-((0:Int)-0)))then al (cut 0 0 0)<|al (decide (0<(m0-((0:Int)-0))))<|al (room (m0-((0:Int)-0)).toNat 32)<|al (cut 0 0 (List.replicate (m0-((0:Int)-0)).toNat (aq.z:aq)).length)<|some (((List.replicate (m0-((0:Int)-0)).toNat (aq.z:aq)).drop 0).take (0-0))else some []
def gm{R:Type}(hk ge:(List (List aq)))(h3 l1 f2:Int)(nx:(Int×Int)->Option R)(dn:Int->Option R)(rt:(List aq)->Option R):Option R:=bif decide (f2<h3)then al (ix f2 ge.length)<|al (ix f2 ge.length)<|al (dg .i64 (l1+((ge.getD f2.toNat []).length:Int)))<|bif decide ((l1+((ge.getD f2.toNat []).length:Int))<0)then none else al (dg .i64 (f2+1))<|nx ((l1+((ge.getD f2.toNat []).length:Int)),(f2+1))else dn l1
def il(hk ge:(List (List aq)))(h3:Int)(s0:(Int×Int)):Option (Int⊕(List aq)):=b9 (fun a=>gm hk ge h3 a.1 a.2 (fun a' =>some (.next a')) (fun e=>some (.done e)) (fun r=>some (.ret r))) s0
def qbk:Shp:=⟨[j03,jb5,(9, .d false (.slice (.slice aq.ty))),(10, .d true qT0),za6],[]⟩
def qbj:Shp:=⟨[j03,jb5],[]⟩
def gn{R:Type}(a3:(List (List aq)))(lr gl:Int)(kp:(List aq))(nx:(Int×(List aq))->Option R)(dn rt:(List aq)->Option R):Option R:=bif decide (gl<lr)then al (ix gl a3.length)<|al (ix gl a3.length)<|al (room (kp.length+(a3.getD gl.toNat []).length) 32)<|al (dg .i64 (gl+1))<|nx ((gl+1),(kp++(a3.getD gl.toNat [])))else dn kp
def im(a3:(List (List aq)))(lr:Int)(s0:(Int×(List aq))):Option ((List aq)⊕(List aq)):=b9 (fun a=>gn a3 lr a.1 a.2 (fun a' =>some (.next a')) (fun e=>some (.done e)) (fun r=>some (.ret r))) s0
def qbm:Shp:=⟨[(6, .own 0),(25, .d false (.slice (.slice aq.ty))),(26, .d true qT0),(27, .d true qT0)],[qmc]⟩
def qbl:Shp:=⟨[(6, .own 0)],[qmc]⟩
def fa(hk:(List (List aq))):Option (List aq):=bnd (il hk hk (hk.length:Int) (0,0)) fun oe1=>lk oe1 (fun e1=>bnd (fx e1) fun r2=>bnd (im hk (hk.length:Int) (0,r2)) fun oe3=>lk oe3 (fun e3=>some e3) (fun r=>some r)) (fun r=>some r)
def nj{R:Type}(a7:(List ByteArray))(bo:qL1)(kk:(List aq))(av:(List af))(f3 hq:Int)(ha:(List af))(hr hs gr:Int)(hx er:(List aq))(nx:(Int×(List aq)×(List aq))->Option R)(dn:((List aq)×(List aq))->Option R)(rt:(Int×(List aq))->Option R):Option R:=bif decide (gr<f3)then al (ix gr av.length)<|al (ix gr av.length)<|al (cut 1 bo.length bo.length)<|bnd (xl (hq,ha,hr,hs,()) (bo.drop 1) gr) fun r2=>bif (!decide (r2.1=0))then al (dg .i64 (gr+1))<|nx ((gr+1),hx,er)else bif (ByteArray.toList (av.getD gr.toNat af.z).1==ByteArray.toList ⟨#[]⟩)then al (room (er.length+1) 32)<|al (dg .i64 (gr+1))<|nx ((gr+1),hx,(er++[(4,gr,⟨#[]⟩,())]))else al (ix 0 bo.length)<|al (ix 0 bo.length)<|bnd (qk3 a7 (bo.getD 0 0) (av.getD gr.toNat af.z).1) fun r3=>bif r3 then al (room (hx.length+1) 32)<|al (room (er.length+1) 32)<|al (dg .i64 (gr+1))<|nx ((gr+1),(hx++[(1,gr,(av.getD gr.toNat af.z).1,())]),(er++[(3,gr,(av.getD gr.toNat af.z).1,())]))else al (room (er.length+1) 32)<|al (dg .i64 (gr+1))<|nx ((gr+1),hx,(er++[(3,gr,(av.getD gr.toNat af.z).1,())]))else dn (hx,er)
def qtf(a7:(List ByteArray))(bo:qL1)(kk:(List aq))(av:(List af))(f3 hq:Int)(ha:(List af))(hr hs:Int)(s0:(Int×(List aq)×(List aq))):Option (((List aq)×(List aq))⊕(Int×(List aq))):=b9 (fun a=>nj a7 bo kk av f3 hq ha hr hs a.1 a.2.1 a.2.2 (fun a' =>some (.next a')) (fun e=>some (.done e)) (fun r=>some (.ret r))) s0
def q8c:Shp:=⟨[j04,(2, .d false qT1),jar,(8, .nl false ZG),jq4,(10, .nl false ZL),(37, .d false (.slice af.ty)),(38, .d true qT0),(39, .d true qT0)],[qef,qmc,qmc]⟩
def q8b:Shp:=⟨[(8, .nl false ZO),jq4,(10, .nl false ZG)],[qmc,qmc]⟩
def qf3{R:Type}(a7:(List ByteArray))(bo:qL1)(kk:(List aq))(hq:Int)(ha:(List af))(hr hs:Int)(hx er:(List aq))(dn:Unit->Option R)(rt:(Int×(List aq))->Option R):Option R:=bnd (qtf a7 bo kk ha (ha.length:Int) hq ha hr hs (0,hx,er)) fun oe4=>lk oe4 (fun e4=>bnd (fa [e4.1,kk,e4.2]) fun r5=>rt (0,r5)) (fun r=>rt r)
def qa5(a7:(List ByteArray))(bo:qL1)(kk:(List aq))(hq:Int)(ha:(List af))(hr hs:Int)(hx er:(List aq)):Option (Unit⊕(Int×(List aq))):=qf3 a7 bo kk hq ha hr hs hx er (fun e=>some (.inl e)) (fun r=>some (.inr r))
def q8e:Shp:=⟨[j04,(2, .d false qT1),jar,(8, .nl false ZG),jq4,(10, .nl false ZL)],[qef,qmc,qmc]⟩
def qas(aa:bk)(a7:(List ByteArray))(bo:qL1):Option (Int×(List aq)):=bnd (uw aa a7 bo) fun r1=>bif (!r1)then some (1,[])else al (ix 0 bo.length)<|al (ix 0 bo.length)<|bif decide ((bo.getD 0 0)<(a7.length:Int))then al (ix 0 bo.length)<|al (ix 0 bo.length)<|al (ix (bo.getD 0 0) a7.length)<|al (ix (bo.getD 0 0) a7.length)<|al (room 1 32)<|bnd (qa5 a7 bo [(2,(-1),(a7.getD (bo.getD 0 0).toNat ⟨#[]⟩),())] aa.1 aa.2.1 aa.2.2.1 aa.2.2.2.1 [] []) fun oe6=>lk oe6 (fun e6=>none) (fun r=>some r)else bnd (qa5 a7 bo [] aa.1 aa.2.1 aa.2.2.1 aa.2.2.2.1 [] []) fun oe7=>lk oe7 (fun e7=>none) (fun r=>some r)
def qji(py:Int):Option Bool:=bif decide ((1:Int)<=py)then some (decide (py<=4))else some false
def vm(aa:bk)(a7:(List ByteArray))(bo:qL1)(f4:aq):Option (Int×qL1):=al (ix 0 bo.length)<|al (ix 0 bo.length)<|al (cut 1 bo.length bo.length)<|bif decide (f4.1=2)then bif (!decide (f4.2.1=(-1)))then some (2,[])else bnd (sr f4.2.2.1) fun r1=>bif (!r1)then some (8,[])else bnd (qk3 a7 (bo.getD 0 0) f4.2.2.1) fun r2=>bif (!r2)then some (10,[])else al (dg .i64 ((bo.getD 0 0)+1))<|al (room (1+(bo.drop 1).length) 8)<|some (0,([((bo.getD 0 0)+1)]++(bo.drop 1)))else bif decide (f4.2.1<0)then some (2,[])else bif decide ((aa.2.1.length:Int)<=f4.2.1)then some (2,[])else al (ix f4.2.1 aa.2.1.length)<|al (ix f4.2.1 aa.2.1.length)<|bif (!(ByteArray.toList f4.2.2.1==ByteArray.toList (aa.2.1.getD f4.2.1.toNat af.z).1))then some (8,[])else bif (!((ByteArray.toList (aa.2.1.getD f4.2.1.toNat af.z).1==ByteArray.toList ⟨#[]⟩)==decide (f4.1=4)))then some (8,[])else bif decide (f4.1=1)then bnd (qk3 a7 (bo.getD 0 0) f4.2.2.1) fun r3=>bif (!r3)then some (10,[])else al (dg .i64 ((bo.getD 0 0)+1))<|bnd (xl aa (bo.drop 1) f4.2.1) fun r4=>bif (!decide (r4.1=0))then some (r4.1,[])else al (room (1+r4.2.length) 8)<|some (0,([((bo.getD 0 0)+1)]++r4.2))else bnd (xl aa (bo.drop 1) f4.2.1) fun r5=>bif (!decide (r5.1=0))then some (r5.1,[])else al (room (1+r5.2.length) 8)<|some (0,([(bo.getD 0 0)]++r5.2))
def qaq(aa:bk)(a7:(List ByteArray))(bo:qL1)(f4:aq):Option (qL1×Int):=bnd (uw aa a7 bo) fun r1=>bif (!r1)then some ([],1)else bnd (qji f4.1) fun r2=>bif (!r2)then some ([],1)else bnd (vm aa a7 bo f4) fun r3=>some (r3.2,r3.1)
def qdq(mv:aq):Option Bool:=bnd (qji mv.1) fun r1=>some (!r1)
def cu{R:Type}(ad:(List aq))(ed a6:Int)(nx:Int->Option R)(dn:Unit->Option R)(rt:Int->Option R):Option R:=bif decide (a6<ed)then al (ix a6 ad.length)<|al (ix a6 ad.length)<|bnd (qdq (ad.getD a6.toNat aq.z)) fun r1=>bif r1 then rt a6 else al (dg .i64 (a6+1))<|nx (a6+1)else dn ()
def jv(ad:(List aq))(ed s0:Int):Option (Unit⊕Int):=b9 (fun a=>cu ad ed a (fun a' =>some (.next a')) (fun e=>some (.done e)) (fun r=>some (.ret r))) s0
def u5:Shp:=⟨[(0, .d false (.slice aq.ty)),(1, .fn 188 .nil),jce,jme],[]⟩
def fh(ad:(List aq)):Option Int:=bnd (jv ad (ad.length:Int) 0) fun oe2=>lk oe2 (fun e2=>some (-1)) (fun r=>some r)
def eb(ad:(List aq)):Option Bool:=bnd (fh ad) fun r1=>some (decide ((0:Int)<=r1))
def qjh(j2:(List aq)):Option Bool:=bif decide ((j2.length:Int)<=4000)then bnd (eb j2) fun r1=>some (!r1)else some false
def qgu(ej:ak)(d0:aq):Option Int:=bif decide (d0.1=2)then some ej.1 else bif decide (d0.1=3)then some ej.2.1 else bif decide (d0.1=4)then some ej.2.2.1 else some 0
def qkz(aa:Int)(d0:aq)(ti:ak):Option Int:=al (ix 0 1)<|bnd (qgu ti d0) fun r1=>al (dg .i64 (aa+r1))<|some (aa+r1)
def lq{R:Type}(f_2c0:ak)(ge:(List aq))(h3 ld f2:Int)(nx:(Int×Int)->Option R)(dn rt:Int->Option R):Option R:=bif decide (f2<h3)then al (ix f2 ge.length)<|al (ix f2 ge.length)<|bnd (qkz ld (ge.getD f2.toNat aq.z) f_2c0) fun r1=>al (dg .i64 (f2+1))<|nx (r1,(f2+1))else dn ld
def qdr(f_2c0:ak)(ge:(List aq))(h3:Int)(s0:(Int×Int)):Option (Int⊕Int):=b9 (fun a=>lq f_2c0 ge h3 a.1 a.2 (fun a' =>some (.next a')) (fun e=>some (.done e)) (fun r=>some (.ret r))) s0
def qp0:Shp:=⟨[qu6,(2, .fn 108 (Ze Yj)),(9, .d false (.slice aq.ty)),(10, .d true qT0),za6],[]⟩
def qpz:Shp:=⟨[qu6],[]⟩
def xx(j2:(List aq))(ld:Int)(f_2c0:ak):Option Int:=bnd (qdr f_2c0 j2 (j2.length:Int) (ld,0)) fun oe2=>lk oe2 (fun e2=>some e2) (fun r=>some r)
def yi(ej:ak)(ep:(List aq)):Option (Int×Int):=bnd (uc ej) fun r1=>bif (!r1)then some (0,1)else bnd (qjh ep) fun r2=>bif (!r2)then some (0,1)else bnd (xx ep 0 ej) fun r3=>some (r3,0)
def j6(ik:qL1)(k3 lv:Int)(re:aq)(m2:Int)(nb:(List af))(nd ne:Int)(nf:(List ByteArray))(nm nn n0:Int)(mk:qL2)(ks lf:qL1)(ln:(List aq))(mx:(List Bool))(ef:(List (ByteArray×Int))):Option (Int×Bool×Int×(List af)×Int×Int×(List ByteArray)×Int×Int×Int×qL2×qL1×qL1×(List aq)×(List Bool)×(List (ByteArray×Int))):=bnd (qft ik) fun r1=>bif (!(bz .str r1 ef).isSome)then bnd (qft ik) fun r2=>al (room (mk.length+1) 24)<|al (room (ks.length+1) 8)<|al (room (lf.length+1) 8)<|al (room (ln.length+1) 32)<|al (room (mx.length+1) 1)<|some ((mk.length:Int),true,m2,nb,nd,ne,nf,nm,nn,n0,(mk++[ik]),(ks++[k3]),(lf++[lv]),(ln++[re]),(mx++[false]),(qdf .str r2 (mk.length:Int) ef))else al (ix ((bz .str r1 ef).getD 0) ks.length)<|al (ix ((bz .str r1 ef).getD 0) ks.length)<|bif decide ((ks.getD ((bz .str r1 ef).getD 0).toNat 0)<=k3)then some (((bz .str r1 ef).getD 0),false,m2,nb,nd,ne,nf,nm,nn,n0,mk,ks,lf,ln,mx,ef)else al (ix ((bz .str r1 ef).getD 0) ks.length)<|al (ix ((bz .str r1 ef).getD 0) lf.length)<|al (ix ((bz .str r1 ef).getD 0) ln.length)<|al (ix ((bz .str r1 ef).getD 0) ks.length)<|al (ix ((bz .str r1 ef).getD 0) lf.length)<|al (ix ((bz .str r1 ef).getD 0) ln.length)<|some (((bz .str r1 ef).getD 0),true,m2,nb,nd,ne,nf,nm,nn,n0,mk,(ks.set ((bz .str r1 ef).getD 0).toNat k3),(lf.set ((bz .str r1 ef).getD 0).toNat lv),(ln.set ((bz .str r1 ef).getD 0).toNat re),mx,ef)
def p9(x_1c00 x_1c01:Int)(c4:(List ab)):Option (List ab):=al (room (c4.length+1) 16)<|some (c4++[(x_1c00,x_1c01,())])
def nr{R:Type}(k4:Int)(h_0c0:(List ab))(nx:(Int×(List ab))->Option R)(dn rt:(List ab)->Option R):Option R:=al (dg .i64 (k4-1))<|al (!decide ((2:Int)=0))<|al (dg .i64 (Int.tdiv (k4-1) 2))<|bif decide ((Int.tdiv (k4-1) 2)=k4)then dn h_0c0 else bnd (gq h_0c0 k4 (Int.tdiv (k4-1) 2)) fun r1=>bif (!r1)then dn h_0c0 else bnd (fj (Int.tdiv (k4-1) 2) k4 h_0c0) fun r2=>al (decide (r2.length=h_0c0.length))<|nx ((Int.tdiv (k4-1) 2),r2)
def qmn(s0:(Int×(List ab))):Option ((List ab)⊕(List ab)):=b9 (fun a=>nr a.1 a.2 (fun a' =>some (.next a')) (fun e=>some (.done e)) (fun r=>some (.ret r))) s0
def q1l:Shp:=⟨[j2j,qu6],[qy8,qqu]⟩
def q1k:Shp:=⟨[],[qy8,qqu]⟩
def qa2(k4:Int)(h_0c0:(List ab)):Option (List ab):=bnd (qmn (k4,h_0c0)) fun oe3=>lk oe3 (fun e3=>some e3) (fun r=>some r)
def d6(x_1c00 x_1c01:Int)(h_0c0:(List ab)):Option (List ab):=bnd (p9 x_1c00 x_1c01 h_0c0) fun r1=>bnd (ea r1) fun r2=>al (dg .i64 (r2-1))<|bnd (qa2 (r2-1) r1) fun r3=>al (decide (r3.length=r1.length))<|some r3
def yb{R:Type}(a7:(List ByteArray))(bb:Int)(ei:qL1)(bd cy:Int)(kx:(List aq))(op f5:Int)(f6:(List af))(f7 f8 hf hg hh g5 c2 he ev:Int)(ew:(List af))(ex e0:Int)(fd:(List ByteArray))(fi fr fs:Int)(b5:qL2)(ee d2:qL1)(d3:(List aq))(b4:(List Bool))(d4:(List (ByteArray×Int)))(hj:(List ab))(nx:(Int×Int×(List af)×Int×Int×(List ByteArray)×Int×Int×Int×qL2×qL1×qL1×(List aq)×(List Bool)×(List (ByteArray×Int))×(List ab))->Option R)(dn:(Int×(List af)×Int×Int×(List ByteArray)×Int×Int×Int×qL2×qL1×qL1×(List aq)×(List Bool)×(List (ByteArray×Int))×(List ab))->Option R)(rt:((Int×Int×Int×(List af)×Int×Int×(List ByteArray)×Int×Int×Int×qL2×qL1×qL1×(List aq)×(List Bool)×(List (ByteArray×Int)))⊕(Int×Int))->Option R):Option R:=bif decide (he<op)then al (ix he kx.length)<|al (ix he kx.length)<|al (ix c2 b5.length)<|al (ix c2 b5.length)<|bnd (qaq (f5,f6,f7,f8,()) a7 (b5.getD c2.toNat []) (kx.getD he.toNat aq.z)) fun r9=>bnd (yi (hf,hg,hh,()) [(kx.getD he.toNat aq.z)]) fun r10=>bif (!decide (r9.2=0))then al (dg .i64 (he+1))<|nx ((he+1),ev,ew,ex,e0,fd,fi,fr,fs,b5,ee,d2,d3,b4,d4,hj)else bif (!decide (r10.2=0))then al (dg .i64 (he+1))<|nx ((he+1),ev,ew,ex,e0,fd,fi,fr,fs,b5,ee,d2,d3,b4,d4,hj)else al (dg .i64 (g5+r10.1))<|bnd (j6 r9.1 (g5+r10.1) c2 (kx.getD he.toNat aq.z) ev ew ex e0 fd fi fr fs b5 ee d2 d3 b4 d4) fun r11=>bif r11.2.1 then al (dg .i64 (g5+r10.1))<|bnd (d6 (g5+r10.1) r11.1 hj) fun r12=>al (dg .i64 (he+1))<|nx ((he+1),r11.2.2.1,r11.2.2.2.1,r11.2.2.2.2.1,r11.2.2.2.2.2.1,r11.2.2.2.2.2.2.1,r11.2.2.2.2.2.2.2.1,r11.2.2.2.2.2.2.2.2.1,r11.2.2.2.2.2.2.2.2.2.1,r11.2.2.2.2.2.2.2.2.2.2.1,r11.2.2.2.2.2.2.2.2.2.2.2.1,r11.2.2.2.2.2.2.2.2.2.2.2.2.1,r11.2.2.2.2.2.2.2.2.2.2.2.2.2.1,r11.2.2.2.2.2.2.2.2.2.2.2.2.2.2.1,r11.2.2.2.2.2.2.2.2.2.2.2.2.2.2.2,r12)else al (dg .i64 (he+1))<|nx ((he+1),r11.2.2.1,r11.2.2.2.1,r11.2.2.2.2.1,r11.2.2.2.2.2.1,r11.2.2.2.2.2.2.1,r11.2.2.2.2.2.2.2.1,r11.2.2.2.2.2.2.2.2.1,r11.2.2.2.2.2.2.2.2.2.1,r11.2.2.2.2.2.2.2.2.2.2.1,r11.2.2.2.2.2.2.2.2.2.2.2.1,r11.2.2.2.2.2.2.2.2.2.2.2.2.1,r11.2.2.2.2.2.2.2.2.2.2.2.2.2.1,r11.2.2.2.2.2.2.2.2.2.2.2.2.2.2.1,r11.2.2.2.2.2.2.2.2.2.2.2.2.2.2.2,hj)else dn (ev,ew,ex,e0,fd,fi,fr,fs,b5,ee,d2,d3,b4,d4,hj)
def q9b(a7:(List ByteArray))(bb:Int)(ei:qL1)(bd cy:Int)(kx:(List aq))(op f5:Int)(f6:(List af))(f7 f8 hf hg hh g5 c2:Int)(s0:(Int×Int×(List af)×Int×Int×(List ByteArray)×Int×Int×Int×qL2×qL1×qL1×(List aq)×(List Bool)×(List (ByteArray×Int))×(List ab))):Option ((Int×(List af)×Int×Int×(List ByteArray)×Int×Int×Int×qL2×qL1×qL1×(List aq)×(List Bool)×(List (ByteArray×Int))×(List ab))⊕((Int×Int×Int×(List af)×Int×Int×(List ByteArray)×Int×Int×Int×qL2×qL1×qL1×(List aq)×(List Bool)×(List (ByteArray×Int)))⊕(Int×Int))):=b9 (fun a=>yb a7 bb ei bd cy kx op f5 f6 f7 f8 hf hg hh g5 c2 a.1 a.2.1 a.2.2.1 a.2.2.2.1 a.2.2.2.2.1 a.2.2.2.2.2.1 a.2.2.2.2.2.2.1 a.2.2.2.2.2.2.2.1 a.2.2.2.2.2.2.2.2.1 a.2.2.2.2.2.2.2.2.2.1 a.2.2.2.2.2.2.2.2.2.2.1 a.2.2.2.2.2.2.2.2.2.2.2.1 a.2.2.2.2.2.2.2.2.2.2.2.2.1 a.2.2.2.2.2.2.2.2.2.2.2.2.2.1 a.2.2.2.2.2.2.2.2.2.2.2.2.2.2.1 a.2.2.2.2.2.2.2.2.2.2.2.2.2.2.2 (fun a' =>some (.next a')) (fun e=>some (.done e)) (fun r=>some (.ret r))) s0
def jjl:Shp:=⟨[jiz,jb5,j6z,jw5,ju3,j98,zao,jkh,ju8,(19, .ptr 4),(140, .d true (.slice aq.ty)),(141, .d true qT0),(142, .d true qT0)],[qgm,qlq,qi8,jwq,jbz,qvu,qhc,qhc,qmc,qqo,jpr,qqu]⟩
def jjk:Shp:=⟨[jiz,jb5,j6z,jw5,ju3,j98,zao,jkh,ju8],[qgm,qlq,qh0,jps,qvu,qhc,qhc,qmc,qqo,jpr,qqu]⟩
def qqx{R:Type}(a7:(List ByteArray))(bb:Int)(ei:qL1)(bd cy f5:Int)(f6:(List af))(f7 f8 hf hg hh ev:Int)(ew:(List af))(ex e0:Int)(fd:(List ByteArray))(fi fr fs g5 c2:Int)(b5:qL2)(ee d2:qL1)(d3:(List aq))(b4:(List Bool))(d4:(List (ByteArray×Int)))(hj:(List ab))(dn:(Int×(List af)×Int×Int×(List ByteArray)×Int×Int×Int×qL2×qL1×qL1×(List aq)×(List Bool)×(List (ByteArray×Int))×(List ab))->Option R)(rt:((Int×Int×Int×(List af)×Int×Int×(List ByteArray)×Int×Int×Int×qL2×qL1×qL1×(List aq)×(List Bool)×(List (ByteArray×Int)))⊕(Int×Int))->Option R):Option R:=al (ix c2 b5.length)<|al (ix c2 b5.length)<|bnd (qas (f5,f6,f7,f8,()) a7 (b5.getD c2.toNat [])) fun r8=>bif (!decide (r8.1=0))then rt (Sum.inr (0,r8.1))else bnd (q9b a7 bb ei bd cy r8.2 (r8.2.length:Int) f5 f6 f7 f8 hf hg hh g5 c2 (0,ev,ew,ex,e0,fd,fi,fr,fs,b5,ee,d2,d3,b4,d4,hj)) fun oe13=>lk oe13 (fun e13=>dn (e13.1,e13.2.1,e13.2.2.1,e13.2.2.2.1,e13.2.2.2.2.1,e13.2.2.2.2.2.1,e13.2.2.2.2.2.2.1,e13.2.2.2.2.2.2.2.1,e13.2.2.2.2.2.2.2.2.1,e13.2.2.2.2.2.2.2.2.2.1,e13.2.2.2.2.2.2.2.2.2.2.1,e13.2.2.2.2.2.2.2.2.2.2.2.1,e13.2.2.2.2.2.2.2.2.2.2.2.2.1,e13.2.2.2.2.2.2.2.2.2.2.2.2.2.1,e13.2.2.2.2.2.2.2.2.2.2.2.2.2.2)) (fun r=>rt r)
def qmg(a7:(List ByteArray))(bb:Int)(ei:qL1)(bd cy f5:Int)(f6:(List af))(f7 f8 hf hg hh ev:Int)(ew:(List af))(ex e0:Int)(fd:(List ByteArray))(fi fr fs g5 c2:Int)(b5:qL2)(ee d2:qL1)(d3:(List aq))(b4:(List Bool))(d4:(List (ByteArray×Int)))(hj:(List ab)):Option ((Int×(List af)×Int×Int×(List ByteArray)×Int×Int×Int×qL2×qL1×qL1×(List aq)×(List Bool)×(List (ByteArray×Int))×(List ab))⊕((Int×Int×Int×(List af)×Int×Int×(List ByteArray)×Int×Int×Int×qL2×qL1×qL1×(List aq)×(List Bool)×(List (ByteArray×Int)))⊕(Int×Int))):=qqx a7 bb ei bd cy f5 f6 f7 f8 hf hg hh ev ew ex e0 fd fi fr fs g5 c2 b5 ee d2 d3 b4 d4 hj (fun e=>some (.inl e)) (fun r=>some (.inr r))
def jjp:Shp:=⟨[jiz,jb5,j6z,jw5,ju3,j98,zao,jkh,ju8,(19, .ptr 4)],[qgm,qlq,qi8,jwq,jbz,qvu,qhc,qhc,qmc,qqo,jpr,qqu]⟩
def qc1{R:Type}(a7:(List ByteArray))(bb:Int)(ei:qL1)(bd cy f5:Int)(f6:(List af))(f7 f8 hf hg hh ev:Int)(ew:(List af))(ex e0:Int)(fd:(List ByteArray))(fi fr fs g5 c2:Int)(b5:qL2)(ee d2:qL1)(d3:(List aq))(b4:(List Bool))(d4:(List (ByteArray×Int)))(hj:(List ab))(dn:(Int×Int×Int×(List af)×Int×Int×(List ByteArray)×Int×Int×Int×qL2×qL1×qL1×(List aq)×(List Bool)×(List (ByteArray×Int))×(List ab))->Option R)(rt:((Int×Int×Int×(List af)×Int×Int×(List ByteArray)×Int×Int×Int×qL2×qL1×qL1×(List aq)×(List Bool)×(List (ByteArray×Int)))⊕(Int×Int))->Option R):Option R:=al (ix c2 b4.length)<|al (ix c2 b4.length)<|al (dg .i64 (cy+1))<|bif decide (bb<(cy+1))then rt (Sum.inr (0,13))else al (ix c2 b5.length)<|al (ix c2 b5.length)<|bnd (g9 (b5.getD c2.toNat []) ei) fun r7=>bif r7 then bnd (qmg a7 bb ei c2 (cy+1) f5 f6 f7 f8 hf hg hh ev ew ex e0 fd fi fr fs g5 c2 b5 ee d2 d3 (b4.set c2.toNat true) d4 hj) fun oe14=>lk oe14 (fun e14=>dn (c2,(cy+1),e14.1,e14.2.1,e14.2.2.1,e14.2.2.2.1,e14.2.2.2.2.1,e14.2.2.2.2.2.1,e14.2.2.2.2.2.2.1,e14.2.2.2.2.2.2.2.1,e14.2.2.2.2.2.2.2.2.1,e14.2.2.2.2.2.2.2.2.2.1,e14.2.2.2.2.2.2.2.2.2.2.1,e14.2.2.2.2.2.2.2.2.2.2.2.1,e14.2.2.2.2.2.2.2.2.2.2.2.2.1,e14.2.2.2.2.2.2.2.2.2.2.2.2.2.1,e14.2.2.2.2.2.2.2.2.2.2.2.2.2.2)) (fun r=>rt r)else bnd (qmg a7 bb ei bd (cy+1) f5 f6 f7 f8 hf hg hh ev ew ex e0 fd fi fr fs g5 c2 b5 ee d2 d3 (b4.set c2.toNat true) d4 hj) fun oe15=>lk oe15 (fun e15=>dn (bd,(cy+1),e15.1,e15.2.1,e15.2.2.1,e15.2.2.2.1,e15.2.2.2.2.1,e15.2.2.2.2.2.1,e15.2.2.2.2.2.2.1,e15.2.2.2.2.2.2.2.1,e15.2.2.2.2.2.2.2.2.1,e15.2.2.2.2.2.2.2.2.2.1,e15.2.2.2.2.2.2.2.2.2.2.1,e15.2.2.2.2.2.2.2.2.2.2.2.1,e15.2.2.2.2.2.2.2.2.2.2.2.2.1,e15.2.2.2.2.2.2.2.2.2.2.2.2.2.1,e15.2.2.2.2.2.2.2.2.2.2.2.2.2.2)) (fun r=>rt r)
def xf(a7:(List ByteArray))(bb:Int)(ei:qL1)(bd cy f5:Int)(f6:(List af))(f7 f8 hf hg hh ev:Int)(ew:(List af))(ex e0:Int)(fd:(List ByteArray))(fi fr fs g5 c2:Int)(b5:qL2)(ee d2:qL1)(d3:(List aq))(b4:(List Bool))(d4:(List (ByteArray×Int)))(hj:(List ab)):Option ((Int×Int×Int×(List af)×Int×Int×(List ByteArray)×Int×Int×Int×qL2×qL1×qL1×(List aq)×(List Bool)×(List (ByteArray×Int))×(List ab))⊕((Int×Int×Int×(List af)×Int×Int×(List ByteArray)×Int×Int×Int×qL2×qL1×qL1×(List aq)×(List Bool)×(List (ByteArray×Int)))⊕(Int×Int))):=qc1 a7 bb ei bd cy f5 f6 f7 f8 hf hg hh ev ew ex e0 fd fi fr fs g5 c2 b5 ee d2 d3 b4 d4 hj (fun e=>some (.inl e)) (fun r=>some (.inr r))
def mq{R:Type}(a7:(List ByteArray))(bb:Int)(ei:qL1)(f5:Int)(f6:(List af))(f7 f8 hf hg hh bd cy ev:Int)(ew:(List af))(ex e0:Int)(fd:(List ByteArray))(fi fr fs:Int)(b5:qL2)(ee d2:qL1)(d3:(List aq))(b4:(List Bool))(d4:(List (ByteArray×Int)))(hj:(List ab))(nx:(Int×Int×Int×(List af)×Int×Int×(List ByteArray)×Int×Int×Int×qL2×qL1×qL1×(List aq)×(List Bool)×(List (ByteArray×Int))×(List ab))->Option R)(dn:(Int×Int×(List af)×Int×Int×(List ByteArray)×Int×Int×Int×qL2×qL1×qL1×(List aq)×(List Bool)×(List (ByteArray×Int)))->Option R)(rt:((Int×Int×Int×(List af)×Int×Int×(List ByteArray)×Int×Int×Int×qL2×qL1×qL1×(List aq)×(List Bool)×(List (ByteArray×Int)))⊕(Int×Int))->Option R):Option R:=bnd (ea hj) fun r5=>bif decide ((0:Int)<r5)then bnd (yd hj) fun r6=>al (ix r6.2.1 b4.length)<|al (ix r6.2.1 b4.length)<|bif (b4.getD r6.2.1.toNat false)then nx (bd,cy,ev,ew,ex,e0,fd,fi,fr,fs,b5,ee,d2,d3,b4,d4,r6.2.2)else bif decide ((0:Int)<=bd)then al (ix bd ee.length)<|al (ix bd ee.length)<|bif decide ((ee.getD bd.toNat 0)<r6.1)then dn (bd,ev,ew,ex,e0,fd,fi,fr,fs,b5,ee,d2,d3,b4,d4)else bnd (xf a7 bb ei bd cy f5 f6 f7 f8 hf hg hh ev ew ex e0 fd fi fr fs r6.1 r6.2.1 b5 ee d2 d3 b4 d4 r6.2.2) fun oe16=>lk oe16 (fun e16=>nx (e16.1,e16.2.1,e16.2.2.1,e16.2.2.2.1,e16.2.2.2.2.1,e16.2.2.2.2.2.1,e16.2.2.2.2.2.2.1,e16.2.2.2.2.2.2.2.1,e16.2.2.2.2.2.2.2.2.1,e16.2.2.2.2.2.2.2.2.2.1,e16.2.2.2.2.2.2.2.2.2.2.1,e16.2.2.2.2.2.2.2.2.2.2.2.1,e16.2.2.2.2.2.2.2.2.2.2.2.2.1,e16.2.2.2.2.2.2.2.2.2.2.2.2.2.1,e16.2.2.2.2.2.2.2.2.2.2.2.2.2.2.1,e16.2.2.2.2.2.2.2.2.2.2.2.2.2.2.2.1,e16.2.2.2.2.2.2.2.2.2.2.2.2.2.2.2.2)) (fun r=>rt r)else bnd (xf a7 bb ei bd cy f5 f6 f7 f8 hf hg hh ev ew ex e0 fd fi fr fs r6.1 r6.2.1 b5 ee d2 d3 b4 d4 r6.2.2) fun oe17=>lk oe17 (fun e17=>nx (e17.1,e17.2.1,e17.2.2.1,e17.2.2.2.1,e17.2.2.2.2.1,e17.2.2.2.2.2.1,e17.2.2.2.2.2.2.1,e17.2.2.2.2.2.2.2.1,e17.2.2.2.2.2.2.2.2.1,e17.2.2.2.2.2.2.2.2.2.1,e17.2.2.2.2.2.2.2.2.2.2.1,e17.2.2.2.2.2.2.2.2.2.2.2.1,e17.2.2.2.2.2.2.2.2.2.2.2.2.1,e17.2.2.2.2.2.2.2.2.2.2.2.2.2.1,e17.2.2.2.2.2.2.2.2.2.2.2.2.2.2.1,e17.2.2.2.2.2.2.2.2.2.2.2.2.2.2.2.1,e17.2.2.2.2.2.2.2.2.2.2.2.2.2.2.2.2)) (fun r=>rt r)else dn (bd,ev,ew,ex,e0,fd,fi,fr,fs,b5,ee,d2,d3,b4,d4)
def qu9(a7:(List ByteArray))(bb:Int)(ei:qL1)(f5:Int)(f6:(List af))(f7 f8 hf hg hh:Int)(s0:(Int×Int×Int×(List af)×Int×Int×(List ByteArray)×Int×Int×Int×qL2×qL1×qL1×(List aq)×(List Bool)×(List (ByteArray×Int))×(List ab))):Option ((Int×Int×(List af)×Int×Int×(List ByteArray)×Int×Int×Int×qL2×qL1×qL1×(List aq)×(List Bool)×(List (ByteArray×Int)))⊕((Int×Int×Int×(List af)×Int×Int×(List ByteArray)×Int×Int×Int×qL2×qL1×qL1×(List aq)×(List Bool)×(List (ByteArray×Int)))⊕(Int×Int))):=b9 (fun a=>mq a7 bb ei f5 f6 f7 f8 hf hg hh a.1 a.2.1 a.2.2.1 a.2.2.2.1 a.2.2.2.2.1 a.2.2.2.2.2.1 a.2.2.2.2.2.2.1 a.2.2.2.2.2.2.2.1 a.2.2.2.2.2.2.2.2.1 a.2.2.2.2.2.2.2.2.2.1 a.2.2.2.2.2.2.2.2.2.2.1 a.2.2.2.2.2.2.2.2.2.2.2.1 a.2.2.2.2.2.2.2.2.2.2.2.2.1 a.2.2.2.2.2.2.2.2.2.2.2.2.2.1 a.2.2.2.2.2.2.2.2.2.2.2.2.2.2.1 a.2.2.2.2.2.2.2.2.2.2.2.2.2.2.2.1 a.2.2.2.2.2.2.2.2.2.2.2.2.2.2.2.2 (fun a' =>some (.next a')) (fun e=>some (.done e)) (fun r=>some (.ret r))) s0
def jjm:Shp:=⟨[(15, .ptr 0),jkh],[qjc,qvu,qhc,qhc,qmc,qqo,jpr]⟩
def qok(aa:bk)(a7:(List ByteArray))(ke:ak)(bb:Int):Option ((Int×Int×Int×(List af)×Int×Int×(List ByteArray)×Int×Int×Int×qL2×qL1×qL1×(List aq)×(List Bool)×(List (ByteArray×Int)))⊕(Int×Int)):=bnd (qmf aa a7 ke) fun r1=>bif (!r1)then some (Sum.inr (0,1))else bif decide (bb<1)then some (Sum.inr (0,2))else bif decide ((2000:Int)<bb)then some (Sum.inr (0,2))else bnd (vk aa a7) fun r2=>bnd (qhh aa a7) fun r3=>bnd (wa r2.1 0 (-1) (0,0,⟨#[]⟩,()) aa.1 aa.2.1 aa.2.2.1 aa.2.2.2.1 a7 ke.1 ke.2.1 ke.2.2.1 []) fun r4=>bnd (qu9 a7 bb r3.2 aa.1 aa.2.1 aa.2.2.1 aa.2.2.2.1 ke.1 ke.2.1 ke.2.2.1 ((-1),0,r4.2.2.1,r4.2.2.2.1,r4.2.2.2.2.1,r4.2.2.2.2.2.1,r4.2.2.2.2.2.2.1,r4.2.2.2.2.2.2.2.1,r4.2.2.2.2.2.2.2.2.1,r4.2.2.2.2.2.2.2.2.2.1,r4.2.2.2.2.2.2.2.2.2.2.2.1,r4.2.2.2.2.2.2.2.2.2.2.2.2.1,r4.2.2.2.2.2.2.2.2.2.2.2.2.2.1,r4.2.2.2.2.2.2.2.2.2.2.2.2.2.2.1,r4.2.2.2.2.2.2.2.2.2.2.2.2.2.2.2,r4.2.2.2.2.2.2.2.2.2.2.1,[(0,0,())])) fun oe18=>lk oe18 (fun e18=>bif decide (e18.1<0)then some (Sum.inr (0,10))else some (Sum.inl (e18.1,0,e18.2.1,e18.2.2.1,e18.2.2.2.1,e18.2.2.2.2.1,e18.2.2.2.2.2.1,e18.2.2.2.2.2.2.1,e18.2.2.2.2.2.2.2.1,e18.2.2.2.2.2.2.2.2.1,e18.2.2.2.2.2.2.2.2.2.1,e18.2.2.2.2.2.2.2.2.2.2.1,e18.2.2.2.2.2.2.2.2.2.2.2.1,e18.2.2.2.2.2.2.2.2.2.2.2.2.1,e18.2.2.2.2.2.2.2.2.2.2.2.2.2.1,e18.2.2.2.2.2.2.2.2.2.2.2.2.2.2))) (fun r=>some r)
def sq(aa:bk)(a7:(List ByteArray))(ke:ak)(bb:Int):Option (Int×Int):=bnd (qok aa a7 ke bb) fun r1=>jwi r1 (fun r2=>bif (!decide (r2.2.1=0))then some (0,r2.2.1)else al (ix r2.1 r2.2.2.2.2.2.2.2.2.2.2.2.1.length)<|al (ix r2.1 r2.2.2.2.2.2.2.2.2.2.2.2.1.length)<|some ((r2.2.2.2.2.2.2.2.2.2.2.2.1.getD r2.1.toNat 0),0)) (fun r3=>bif (!decide (r3.2=0))then some (0,r3.2)else none)
def lb(h2:Int)(hw:(List ag)):Option Int:=al (ix 0 1)<|al (ix h2 hw.length)<|al (ix h2 hw.length)<|some (hw.getD h2.toNat ag.z).1
def qam{R:Type}(weight_1c0:(List ag))(a2:Bool)(cg d5 a3:Int)(gy:(List (Int×(List ab))))(a1:(List ab))(dw:Int)(a5:(List (Int×(List ab))))(bq bs:Int)(b0:Bool)(av:Int)(ap:(List ae))(nx:(Bool×Int×(List ae))->Option R)(dn:(Bool×(List ae))->Option R)(rt:(List ae)->Option R):Option R:=bif decide (av<dw)then al (ix av a1.length)<|al (ix av a1.length)<|al (ix (a1.getD av.toNat ab.z).1 ap.length)<|al (ix (a1.getD av.toNat ab.z).1 ap.length)<|bif (!(ap.getD (Int.toNat (a1.getD av.toNat ab.z).1) ae.z).1)then al (dg .i64 (av+1))<|nx (b0,(av+1),ap)else bnd (lb (a1.getD av.toNat ab.z).2.1 weight_1c0) fun r1=>al (dg .i64 ((ap.getD (Int.toNat (a1.getD av.toNat ab.z).1) ae.z).2.1+r1))<|al (dg .i64 ((ap.getD (Int.toNat (a1.getD av.toNat ab.z).1) ae.z).2.2.1+1))<|al (ix cg ap.length)<|al (ix cg ap.length)<|bnd (lm ((ap.getD (Int.toNat (a1.getD av.toNat ab.z).1) ae.z).1,((ap.getD (Int.toNat (a1.getD av.toNat ab.z).1) ae.z).2.1+r1),((ap.getD (Int.toNat (a1.getD av.toNat ab.z).1) ae.z).2.2.1+1),()) (ap.getD cg.toNat ae.z) a2) fun r2=>bif r2 then al (ix cg ap.length)<|al (ix cg ap.length)<|al (dg .i64 (av+1))<|nx (true,(av+1),(ap.set cg.toNat ((ap.getD (Int.toNat (a1.getD av.toNat ab.z).1) ae.z).1,((ap.getD (Int.toNat (a1.getD av.toNat ab.z).1) ae.z).2.1+r1),((ap.getD (Int.toNat (a1.getD av.toNat ab.z).1) ae.z).2.2.1+1),())))else al (dg .i64 (av+1))<|nx (b0,(av+1),ap)else dn (b0,ap)
def qpk(weight_1c0:(List ag))(a2:Bool)(cg d5 a3:Int)(gy:(List (Int×(List ab))))(a1:(List ab))(dw:Int)(a5:(List (Int×(List ab))))(bq bs:Int)(s0:(Bool×Int×(List ae))):Option ((Bool×(List ae))⊕(List ae)):=b9 (fun a=>qam weight_1c0 a2 cg d5 a3 gy a1 dw a5 bq bs a.1 a.2.1 a.2.2 (fun a' =>some (.next a')) (fun e=>some (.done e)) (fun r=>some (.ret r))) s0
def qny:Shp:=⟨[qxz,jbu,jar,jvm,jn7,jwr,jcm,jga,qy0,zeq,jsd,za8,j31],[qee,qod]⟩
def qnx:Shp:=⟨[qxz,jbu,jar,jvm,jn7,jcm,jga,qy0,zeq],[qee,qod]⟩
def qan{R:Type}(weight_1c0:(List ag))(a2:Bool)(d5 a3:Int)(gy:(List (Int×(List ab))))(a5:(List (Int×(List ab))))(bq bs:Int)(b0:Bool)(ap:(List ae))(en:(Int×(List ab)))(nx:(Bool×(List ae))->Option R)(rt:(List ae)->Option R):Option R:=bnd (qpk weight_1c0 a2 en.1 d5 a3 gy en.2 (en.2.length:Int) a5 bq bs (b0,0,ap)) fun oe3=>lk oe3 (fun e3=>nx (e3.1,e3.2)) (fun r=>rt r)
def qpl(weight_1c0:(List ag))(a2:Bool)(d5 a3:Int)(gy:(List (Int×(List ab))))(a5:(List (Int×(List ab))))(bq bs:Int)(l:List (Int×(List ab)))(s0:(Bool×(List ae))):Option ((Bool×(List ae))⊕(List ae)):=qim (fun a en=>qan weight_1c0 a2 d5 a3 gy a5 bq bs a.1 a.2 en (fun a' =>some (.inl a')) (fun r=>some (.inr r))) l s0
def qnz:Shp:=⟨[qxz,jbu,jar,jvm,jn7,jcm,jga,qy0],[qee,qod]⟩
def qao{R:Type}(weight_1c0:(List ag))(a2:Bool)(d5:Int)(a5:(List (Int×(List ab))))(bq bs a3:Int)(ap:(List ae))(nx:(Int×(List ae))->Option R)(dn rt:(List ae)->Option R):Option R:=bif decide (a3<d5)then q5w (fun l=>qpl weight_1c0 a2 d5 a3 a5 a5 bq bs l (false,ap)) a5 (fun e4=>bif (!e4.1)then dn e4.2 else al (dg .i64 (a3+1))<|nx ((a3+1),e4.2)) (fun r=>rt r)else dn ap
def qn1:Shp:=⟨[qxz,jbu,jar,jvm,jcm,jga],[qee,qod]⟩
def qfb(g1:(List (Int×(List ab))))(cc a9:Int)(weight_1c0:(List ag))(a2:Bool):Option (List ae):=al (qub a9 a9 24)<|al (ix cc (List.replicate a9.toNat (ae.z:ae)).length)<|al (ix cc (List.replicate a9.toNat (ae.z:ae)).length)<|al (dg .i64 (a9+1))<|ndK (fun{Q} a nx dn rt=>qao (R:=Q) weight_1c0 a2 (a9+1) g1 cc a9 a.1 a.2 nx dn rt) (0,((List.replicate a9.toNat (ae.z:ae)).set cc.toNat (true,((List.replicate a9.toNat (ae.z:ae)).getD cc.toNat ae.z).2.1,((List.replicate a9.toNat (ae.z:ae)).getD cc.toNat ae.z).2.2.1,()))) (fun e5=>some e5) (fun r=>some r)
def qcl{R:Type}(weight_1c0:(List ag))(hp:(List ae))(cg:Int)(hm:(List ab))(h5:Int)(a5:(List (Int×(List ab))))(bq bs:Int)(j3:qL1)(bw h9 ih:Int)(nx:(Int×Int×Int)->Option R)(dn:(Int×Int)->Option R)(rt:qL1->Option R):Option R:=bif decide (bw<h5)then al (ix bw hm.length)<|al (ix bw hm.length)<|al (ix (hm.getD bw.toNat ab.z).1 hp.length)<|al (ix (hm.getD bw.toNat ab.z).1 hp.length)<|bif (hp.getD (Int.toNat (hm.getD bw.toNat ab.z).1) ae.z).1 then bnd (lb (hm.getD bw.toNat ab.z).2.1 weight_1c0) fun r2=>al (dg .i64 ((hp.getD (Int.toNat (hm.getD bw.toNat ab.z).1) ae.z).2.1+r2))<|al (ix cg hp.length)<|al (ix cg hp.length)<|bif decide (((hp.getD (Int.toNat (hm.getD bw.toNat ab.z).1) ae.z).2.1+r2)=(hp.getD cg.toNat ae.z).2.1)then al (dg .i64 ((hp.getD (Int.toNat (hm.getD bw.toNat ab.z).1) ae.z).2.2.1+1))<|al (ix cg hp.length)<|al (ix cg hp.length)<|bif decide (((hp.getD (Int.toNat (hm.getD bw.toNat ab.z).1) ae.z).2.2.1+1)=(hp.getD cg.toNat ae.z).2.2.1)then bif decide (h9<0)then al (dg .i64 (bw+1))<|nx ((bw+1),(hm.getD bw.toNat ab.z).1,(hm.getD bw.toNat ab.z).2.1)else bif decide ((hm.getD bw.toNat ab.z).2.1<ih)then al (dg .i64 (bw+1))<|nx ((bw+1),(hm.getD bw.toNat ab.z).1,(hm.getD bw.toNat ab.z).2.1)else al (dg .i64 (bw+1))<|nx ((bw+1),h9,ih)else al (dg .i64 (bw+1))<|nx ((bw+1),h9,ih)else al (dg .i64 (bw+1))<|nx ((bw+1),h9,ih)else al (dg .i64 (bw+1))<|nx ((bw+1),h9,ih)else dn (h9,ih)
def qrx(weight_1c0:(List ag))(hp:(List ae))(cg:Int)(hm:(List ab))(h5:Int)(a5:(List (Int×(List ab))))(bq bs:Int)(j3:qL1)(s0:(Int×Int×Int)):Option ((Int×Int)⊕qL1):=b9 (fun a=>qcl weight_1c0 hp cg hm h5 a5 bq bs j3 a.1 a.2.1 a.2.2 (fun a' =>some (.next a')) (fun e=>some (.done e)) (fun r=>some (.ret r))) s0
def qpq:Shp:=⟨[qxz,jar,jt8,(8, .own 1),jwr,zek,(29, .d false (.slice ab.ty)),(30, .d true qT0),(31, .d true qT0)],[qee,qhc,jq7]⟩
def qpp:Shp:=⟨[qxz,jar,jt8,(8, .own 1),zek],[qee,qhc,jq7]⟩
def qcm{R:Type}(weight_1c0:(List ag))(hp:(List ae))(a5:(List (Int×(List ab))))(bq bs cg:Int)(j3:qL1)(nx:(Int×qL1)->Option R)(dn rt:qL1->Option R):Option R:=al (ix cg hp.length)<|al (ix cg hp.length)<|bif decide ((0:Int)<(hp.getD cg.toNat ae.z).2.2.1)then bnd (qrx weight_1c0 hp cg (oj ab.ty (bz qT0 cg a5)) ((oj ab.ty (bz qT0 cg a5)).length:Int) a5 bq bs j3 (0,(-1),0)) fun oe3=>lk oe3 (fun e3=>bif decide (e3.1<0)then dn j3 else al (room (j3.length+1) 8)<|nx (e3.1,(j3++[e3.2]))) (fun r=>rt r)else dn j3
def qry(weight_1c0:(List ag))(hp:(List ae))(a5:(List (Int×(List ab))))(bq bs:Int)(s0:(Int×qL1)):Option (qL1⊕qL1):=b9 (fun a=>qcm weight_1c0 hp a5 bq bs a.1 a.2 (fun a' =>some (.next a')) (fun e=>some (.done e)) (fun r=>some (.ret r))) s0
def qps:Shp:=⟨[qxz,jar,jt8,(8, .own 1),jwr],[qee,qhc]⟩
def qpr:Shp:=⟨[(8, .own 0)],[qhc]⟩
def xu(g1:(List (Int×(List ab))))(cc a9:Int)(weight_1c0:(List ag))(a2:Bool):Option qL1:=bnd (qfb g1 cc a9 weight_1c0 a2) fun r1=>bnd (qry weight_1c0 r1 g1 cc a9 (0,[])) fun oe4=>lk oe4 (fun e4=>some e4) (fun r=>some r)
def o5(aa:bk)(d0:qL1)(i0:(List ag))(bb:Int):Option (Int×qL1):=bnd (vj aa d0 i0 bb) fun r1=>bif (!decide (r1.2.2.2=0))then some (r1.2.2.2,[])else bnd (me r1.1 r1.2.1 r1.2.2.1) fun r2=>bif (!r2.2)then some (10,[])else bnd (xu r1.1 r1.2.1 r1.2.2.1 i0 false) fun r3=>some (0,r3)
def qag{R:Type}(kc:qL1)(dk gw:Int)(bl:(List af))(g2 g3 b3:Int)(jb:(List ByteArray))(nx:(Int×(List ByteArray))->Option R)(dn:(List ByteArray)->Option R)(rt:(Int×(List ByteArray))->Option R):Option R:=bif decide (b3<dk)then al (ix b3 kc.length)<|al (ix b3 kc.length)<|bif decide ((kc.getD b3.toNat 0)<0)then rt (2,[])else bif decide ((bl.length:Int)<=(kc.getD b3.toNat 0))then rt (2,[])else al (ix (kc.getD b3.toNat 0) bl.length)<|al (ix (kc.getD b3.toNat 0) bl.length)<|bif (!(ByteArray.toList (bl.getD (kc.getD b3.toNat 0).toNat af.z).1==ByteArray.toList ⟨#[]⟩))then al (room (jb.length+1) 16)<|al (dg .i64 (b3+1))<|nx ((b3+1),(jb++[(bl.getD (kc.getD b3.toNat 0).toNat af.z).1]))else al (dg .i64 (b3+1))<|nx ((b3+1),jb)else dn jb
def q41(kc:qL1)(dk gw:Int)(bl:(List af))(g2 g3:Int)(s0:(Int×(List ByteArray))):Option ((List ByteArray)⊕(Int×(List ByteArray))):=b9 (fun a=>qag kc dk gw bl g2 g3 a.1 a.2 (fun a' =>some (.next a')) (fun e=>some (.done e)) (fun r=>some (.ret r))) s0
def jgt:Shp:=⟨[jmg,(6, .nl false ZG),(18, .d false qT1),(19, .d true qT0),zem],[qef,j4f]⟩
def jgs:Shp:=⟨[za3],[j4f]⟩
def qkn(aa:bk)(ep:qL1):Option (Int×(List ByteArray)):=bnd (m5 aa) fun r1=>bif (!r1)then some (1,[])else bif decide ((1000:Int)<(ep.length:Int))then some (5,[])else bnd (q41 ep (ep.length:Int) aa.1 aa.2.1 aa.2.2.1 aa.2.2.2.1 (0,[])) fun oe2=>lk oe2 (fun e2=>some (0,e2)) (fun r=>some r)
def qie(ad:ByteArray):Option Bool:=bnd (sr ad) fun r1=>some (!r1)
def dl{R:Type}(ad:(List ByteArray))(ed a6:Int)(nx:Int->Option R)(dn:Unit->Option R)(rt:Int->Option R):Option R:=bif decide (a6<ed)then al (ix a6 ad.length)<|al (ix a6 ad.length)<|bnd (qie (ad.getD a6.toNat ⟨#[]⟩)) fun r1=>bif r1 then rt a6 else al (dg .i64 (a6+1))<|nx (a6+1)else dn ()
def nc(ad:(List ByteArray))(ed s0:Int):Option (Unit⊕Int):=b9 (fun a=>dl ad ed a (fun a' =>some (.next a')) (fun e=>some (.done e)) (fun r=>some (.ret r))) s0
def zj:Shp:=⟨[zed,(1, .fn 36 .nil),jce,jme],[]⟩
def io(ad:(List ByteArray)):Option Int:=bnd (nc ad (ad.length:Int) 0) fun oe2=>lk oe2 (fun e2=>some (-1)) (fun r=>some r)
def dj(ad:(List ByteArray)):Option Bool:=bnd (io ad) fun r1=>some (decide ((0:Int)<=r1))
def qm7(aa:bk)(l0:Int):Option Int:=bnd (m5 aa) fun r1=>bif (!r1)then some 1 else bif decide (l0<1)then some 2 else bif decide ((2000:Int)<l0)then some 2 else some 0
def qm8(aa:bk)(l0:Int):Option (o7×Int):=bnd (vg aa) fun r1=>bif (!decide (r1.1=0))then some (([],[],false,()),r1.1)else bnd (ql aa r1.2 l0) fun r2=>bif decide (r2.2=0)then bif (!r2.1.2.2.1)then some (([],[],false,()),13)else some (r2.1,r2.2)else some (r2.1,r2.2)
def qgy{R:Type}(dk:(List ak))(b3 gw:Int)(bl:(List af))(g2 g3:Int)(rv:qL2)(r0:(List ak))(sa:Bool)(sf:Int)(sg:(List af))(sl sp:Int)(sv:qL2)(sw:(List ak))(sz:Bool)(s1 dt:Int)(i5:(List (List ak)))(nx:(Int×(List (List ak)))->Option R)(dn:(List (List ak))->Option R)(rt:(Int×(List af)×Int×Int×qL2×(List ak)×Bool×Int×(List (List ak)))->Option R):Option R:=bif decide (dt<b3)then al (ix dt dk.length)<|al (ix dt dk.length)<|al (ix (dk.getD dt.toNat ak.z).1 i5.length)<|al (ix (dk.getD dt.toNat ak.z).1 i5.length)<|al (ix (dk.getD dt.toNat ak.z).1 i5.length)<|al (room ((i5.getD (Int.toNat (dk.getD dt.toNat ak.z).1) []).length+1) 24)<|al (decide ((i5.length:Nat)=(i5.set (Int.toNat (dk.getD dt.toNat ak.z).1) ((i5.getD (Int.toNat (dk.getD dt.toNat ak.z).1) [])++[(dk.getD dt.toNat ak.z)])).length))<|al (ix (dk.getD dt.toNat ak.z).1 (i5.set (Int.toNat (dk.getD dt.toNat ak.z).1) ((i5.getD (Int.toNat (dk.getD dt.toNat ak.z).1) [])++[(dk.getD dt.toNat ak.z)])).length)<|al (decide (((Int.toNat (dk.getD dt.toNat ak.z).1):Nat)=(Int.toNat (dk.getD dt.toNat ak.z).1)))<|al (decide (((Int.toNat (dk.getD dt.toNat ak.z).1):Nat)=(Int.toNat (dk.getD dt.toNat ak.z).1)))<|al (dg .i64 (dt+1))<|nx ((dt+1),(i5.set (Int.toNat (dk.getD dt.toNat ak.z).1) ((i5.getD (Int.toNat (dk.getD dt.toNat ak.z).1) [])++[(dk.getD dt.toNat ak.z)])))else dn i5
def q54(dk:(List ak))(b3 gw:Int)(bl:(List af))(g2 g3:Int)(rv:qL2)(r0:(List ak))(sa:Bool)(sf:Int)(sg:(List af))(sl sp:Int)(sv:qL2)(sw:(List ak))(sz:Bool)(s1:Int)(s0:(Int×(List (List ak)))):Option ((List (List ak))⊕(Int×(List af)×Int×Int×qL2×(List ak)×Bool×Int×(List (List ak)))):=b9 (fun a=>qgy dk b3 gw bl g2 g3 rv r0 sa sf sg sl sp sv sw sz s1 a.1 a.2 (fun a' =>some (.next a')) (fun e=>some (.done e)) (fun r=>some (.ret r))) s0
def jhr:Shp:=⟨[jmg,(3, .ptr 1),(5, .ptr 2),(19, .d true (.slice ak.ty)),zem,(21, .d true qT0)],[qgm,qjd,qua,jub]⟩
def jhq:Shp:=⟨[jmg,(3, .ptr 1),(5, .ptr 2)],[qgm,qjd,qua,jub]⟩
def qsd(aa:bk)(h7:o7):Option (Int×(List af)×Int×Int×qL2×(List ak)×Bool×Int×(List (List ak))):=al (qub (h7.1.length:Int) (h7.1.length:Int) 24)<|bnd (q54 h7.2.1 (h7.2.1.length:Int) aa.1 aa.2.1 aa.2.2.1 aa.2.2.2.1 h7.1 h7.2.1 h7.2.2.1 aa.1 aa.2.1 aa.2.2.1 aa.2.2.2.1 h7.1 h7.2.1 h7.2.2.1 (-1) (0,(List.replicate (h7.1.length:Int).toNat ([]:(List ak))))) fun oe1=>lk oe1 (fun e1=>bnd (qcg aa) fun r2=>bif decide (r2.1=0)then bnd (qlj h7 r2.2) fun r3=>some (aa.1,aa.2.1,aa.2.2.1,aa.2.2.2.1,h7.1,h7.2.1,h7.2.2.1,r3,e1)else some (aa.1,aa.2.1,aa.2.2.1,aa.2.2.2.1,h7.1,h7.2.1,h7.2.2.1,(-1),e1)) (fun r=>some r)
def j4{R:Type}(b1:aw)(f2:Int)(b6:(List Bool))(gj:Int)(c0:qL1)(nx:(Int×qL1)->Option R)(dn:qL1->Option R)(rt:(List Bool)->Option R):Option R:=bif decide (gj<f2)then al (ix gj b6.length)<|al (ix gj b6.length)<|bif (b6.getD gj.toNat false)then al (room (c0.length+1) 8)<|al (dg .i64 (gj+1))<|nx ((gj+1),(c0++[gj]))else al (dg .i64 (gj+1))<|nx ((gj+1),c0)else dn c0
def qht(b1:aw)(f2:Int)(b6:(List Bool))(s0:(Int×qL1)):Option (qL1⊕(List Bool)):=b9 (fun a=>j4 b1 f2 b6 a.1 a.2 (fun a' =>some (.next a')) (fun e=>some (.done e)) (fun r=>some (.ret r))) s0
def qux:Shp:=⟨[q1e,zeg,(5, .nl false ZG),(10, .own 0),za6,jw0],[qqo,qhc]⟩
def quw:Shp:=⟨[q1e,zeg,(5, .nl false ZG)],[qqo,qhc]⟩
def eo{R:Type}(b1:aw)(dw:(List ak))(av f3:Int)(b6:(List Bool))(c0:qL1)(nx:(Int×(List Bool)×qL1)->Option R)(dn:((List Bool)×qL1)->Option R)(rt:(List Bool)->Option R):Option R:=bif decide (f3<av)then al (ix f3 dw.length)<|al (ix f3 dw.length)<|al (ix 0 1)<|al (ix (dw.getD f3.toNat ak.z).2.2.1 b1.1.2.1.length)<|al (ix (dw.getD f3.toNat ak.z).2.2.1 b1.1.2.1.length)<|bif (ByteArray.toList (b1.1.2.1.getD (Int.toNat (dw.getD f3.toNat ak.z).2.2.1) af.z).1==ByteArray.toList ⟨#[]⟩)then al (ix (dw.getD f3.toNat ak.z).2.1 b6.length)<|al (ix (dw.getD f3.toNat ak.z).2.1 b6.length)<|bif (!(b6.getD (Int.toNat (dw.getD f3.toNat ak.z).2.1) false))then al (ix (dw.getD f3.toNat ak.z).2.1 b6.length)<|al (ix (dw.getD f3.toNat ak.z).2.1 b6.length)<|al (room (c0.length+1) 8)<|al (dg .i64 (f3+1))<|nx ((f3+1),(b6.set (Int.toNat (dw.getD f3.toNat ak.z).2.1) true),(c0++[(dw.getD f3.toNat ak.z).2.1]))else al (dg .i64 (f3+1))<|nx ((f3+1),b6,c0)else al (dg .i64 (f3+1))<|nx ((f3+1),b6,c0)else dn (b6,c0)
def qhu(b1:aw)(dw:(List ak))(av:Int)(s0:(Int×(List Bool)×qL1)):Option (((List Bool)×qL1)⊕(List Bool)):=b9 (fun a=>eo b1 dw av a.1 a.2.1 a.2.2 (fun a' =>some (.next a')) (fun e=>some (.done e)) (fun r=>some (.ret r))) s0
def quz:Shp:=⟨[q1e,zeg,j60,(36, .d false (.slice ak.ty)),j31,(38, .d true qT0)],[qqo,qhc]⟩
def quy:Shp:=⟨[q1e,zeg,j60],[qqo,qhc]⟩
def og{R:Type}(b1:aw)(b6:(List Bool))(c0:qL1)(nx:((List Bool)×qL1)->Option R)(dn rt:(List Bool)->Option R):Option R:=bif decide ((0:Int)<(c0.length:Int))then al (ix 0 1)<|al (ix 0 c0.length)<|al (ix 0 c0.length)<|al (ix (c0.getD 0 0) b1.2.2.1.length)<|al (ix (c0.getD 0 0) b1.2.2.1.length)<|bnd (qhu b1 (b1.2.2.1.getD (c0.getD 0 0).toNat []) ((b1.2.2.1.getD (c0.getD 0 0).toNat []).length:Int) (0,b6,c0)) fun oe2=>lk oe2 (fun e2=>al (cut 1 (e2.2.length:Int) e2.2.length)<|nx (e2.1,((e2.2.drop 1).take ((e2.2.length:Int).toNat-1)))) (fun r=>rt r)else dn b6
def qhv(b1:aw)(s0:((List Bool)×qL1)):Option ((List Bool)⊕(List Bool)):=b9 (fun a=>og b1 a.1 a.2 (fun a' =>some (.next a')) (fun e=>some (.done e)) (fun r=>some (.ret r))) s0
def qu0:Shp:=⟨[zeg],[qqo]⟩
def n7(b1:aw)(b6:(List Bool)):Option (List Bool):=bnd (qht b1 (b6.length:Int) b6 (0,[])) fun oe1=>lk oe1 (fun e1=>bnd (qhv b1 (b6,e1)) fun oe3=>lk oe3 (fun e3=>some e3) (fun r=>some r)) (fun r=>some r)
def uk(b1:aw):Option (List Bool):=al (ix 0 1)<|al (qub (b1.2.1.1.length:Int) (b1.2.1.1.length:Int) 1)<|al (ix 0 (List.replicate (b1.2.1.1.length:Int).toNat (false:Bool)).length)<|al (ix 0 (List.replicate (b1.2.1.1.length:Int).toNat (false:Bool)).length)<|bnd (n7 b1 ((List.replicate (b1.2.1.1.length:Int).toNat (false:Bool)).set 0 true)) fun r1=>al (decide (r1.length=((List.replicate (b1.2.1.1.length:Int).toNat (false:Bool)).set 0 true).length))<|some r1
def ig{R:Type}(b1:aw)(hy:ByteArray)(i1:(List Bool))(hl ht:Int)(h5:(List ak))(bw hn:Int)(h1:(List Bool))(nx:(Int×(List Bool))->Option R)(dn rt:(List Bool)->Option R):Option R:=bif decide (hn<bw)then al (ix hn h5.length)<|al (ix hn h5.length)<|al (ix 0 1)<|al (ix (h5.getD hn.toNat ak.z).2.2.1 b1.1.2.1.length)<|al (ix (h5.getD hn.toNat ak.z).2.2.1 b1.1.2.1.length)<|bif (ByteArray.toList (b1.1.2.1.getD (Int.toNat (h5.getD hn.toNat ak.z).2.2.1) af.z).1==ByteArray.toList hy)then al (ix (h5.getD hn.toNat ak.z).2.1 h1.length)<|al (ix (h5.getD hn.toNat ak.z).2.1 h1.length)<|al (dg .i64 (hn+1))<|nx ((hn+1),(h1.set (Int.toNat (h5.getD hn.toNat ak.z).2.1) true))else al (dg .i64 (hn+1))<|nx ((hn+1),h1)else dn h1
def zo(b1:aw)(hy:ByteArray)(i1:(List Bool))(hl ht:Int)(h5:(List ak))(bw:Int)(s0:(Int×(List Bool))):Option ((List Bool)⊕(List Bool)):=b9 (fun a=>ig b1 hy i1 hl ht h5 bw a.1 a.2 (fun a' =>some (.next a')) (fun e=>some (.done e)) (fun r=>some (.ret r))) s0
def qxv:Shp:=⟨[q1e,zel,j18,j00,za7,jkh,(30, .d false (.slice ak.ty)),(31, .d true qT0),(32, .d true qT0)],[qqo]⟩
def qxu:Shp:=⟨[q1e,zel,j18,j00,za7,jkh],[qqo]⟩
def ii{R:Type}(b1:aw)(hy:ByteArray)(i1:(List Bool))(hl ht:Int)(h1:(List Bool))(nx:(Int×(List Bool))->Option R)(dn rt:(List Bool)->Option R):Option R:=bif decide (ht<hl)then al (ix ht i1.length)<|al (ix ht i1.length)<|bif (!(i1.getD ht.toNat false))then al (dg .i64 (ht+1))<|nx ((ht+1),h1)else al (ix 0 1)<|al (ix ht b1.2.2.1.length)<|al (ix ht b1.2.2.1.length)<|bnd (zo b1 hy i1 hl ht (b1.2.2.1.getD ht.toNat []) ((b1.2.2.1.getD ht.toNat []).length:Int) (0,h1)) fun oe1=>lk oe1 (fun e1=>al (dg .i64 (ht+1))<|nx ((ht+1),e1)) (fun r=>rt r)else dn h1
def qi3(b1:aw)(hy:ByteArray)(i1:(List Bool))(hl:Int)(s0:(Int×(List Bool))):Option ((List Bool)⊕(List Bool)):=b9 (fun a=>ii b1 hy i1 hl a.1 a.2 (fun a' =>some (.next a')) (fun e=>some (.done e)) (fun r=>some (.ret r))) s0
def qxw:Shp:=⟨[q1e,j18],[qqo]⟩
def wo(b1:aw)(b6:(List Bool))(hy:ByteArray):Option (List Bool):=al (qub (b6.length:Int) (b6.length:Int) 1)<|bnd (qi3 b1 hy b6 (b6.length:Int) (0,(List.replicate (b6.length:Int).toNat (false:Bool)))) fun oe2=>lk oe2 (fun e2=>bnd (n7 b1 e2) fun r3=>al (decide (r3.length=e2.length))<|some r3) (fun r=>some r)
def si{R:Type}(n2:(List ByteArray))(qi os:Int)(o0:(List af))(o1 o2:Int)(o3:qL2)(pa:(List ak))(pk:Bool)(pl:(List (List ak)))(ps:Int)(p3:(List Bool))(ml:Int)(nx:((List Bool)×Int)->Option R)(dn:(List Bool)->Option R)(rt:(Bool×Int)->Option R):Option R:=bif decide (ml<qi)then al (ix ml n2.length)<|al (ix ml n2.length)<|bnd (wo ((os,o0,o1,o2,()),(o3,pa,pk,()),pl,ps,()) p3 (n2.getD ml.toNat ⟨#[]⟩)) fun r7=>al (dg .i64 (ml+1))<|nx (r7,(ml+1))else dn p3
def qtu(n2:(List ByteArray))(qi os:Int)(o0:(List af))(o1 o2:Int)(o3:qL2)(pa:(List ak))(pk:Bool)(pl:(List (List ak)))(ps:Int)(s0:((List Bool)×Int)):Option ((List Bool)⊕(Bool×Int)):=b9 (fun a=>si n2 qi os o0 o1 o2 o3 pa pk pl ps a.1 a.2 (fun a' =>some (.next a')) (fun e=>some (.done e)) (fun r=>some (.ret r))) s0
def q8v:Shp:=⟨[(11, .ptr 0),zeb,(45, .d false (.slice .str)),(46, .d true qT0),(47, .d true qT0)],[qsn]⟩
def q8u:Shp:=⟨[(11, .ptr 0),zeb],[qsn]⟩
def qax(aa:bk)(l2:(List ByteArray))(dc:Int):Option (Bool×Int):=bnd (m5 aa) fun r1=>bif (!r1)then some (false,1)else bnd (dj l2) fun r2=>bif r2 then some (false,1)else bnd (qm7 aa dc) fun r3=>bif (!decide (r3=0))then some (false,r3)else bif decide ((200:Int)<(l2.length:Int))then some (false,5)else bnd (qm8 aa dc) fun r4=>bif (!decide (r4.2=0))then some (false,r4.2)else bnd (qsd aa r4.1) fun r5=>bnd (uk ((r5.1,r5.2.1,r5.2.2.1,r5.2.2.2.1,()),(r5.2.2.2.2.1,r5.2.2.2.2.2.1,r5.2.2.2.2.2.2.1,()),r5.2.2.2.2.2.2.2.2,r5.2.2.2.2.2.2.2.1,())) fun r6=>bnd (qtu l2 (l2.length:Int) r5.1 r5.2.1 r5.2.2.1 r5.2.2.2.1 r5.2.2.2.2.1 r5.2.2.2.2.2.1 r5.2.2.2.2.2.2.1 r5.2.2.2.2.2.2.2.2 r5.2.2.2.2.2.2.2.1 (r6,0)) fun oe8=>lk oe8 (fun e8=>bif decide ((0:Int)<=r5.2.2.2.2.2.2.2.1)then al (ix r5.2.2.2.2.2.2.2.1 e8.length)<|al (ix r5.2.2.2.2.2.2.2.1 e8.length)<|some ((e8.getD r5.2.2.2.2.2.2.2.1.toNat false),0)else some (false,0)) (fun r=>some r)
def ri{R:Type}(a7:(List ByteArray))(pv:qL1)(n3:(List aq))(q1 f5:Int)(f6:(List af))(f7 f8:Int)(tg:qL1)(ms:Int)(nx:(qL1×Int)->Option R)(dn:qL1->Option R)(rt:Bool->Option R):Option R:=bif decide (ms<q1)then al (ix ms n3.length)<|al (ix ms n3.length)<|bnd (vm (f5,f6,f7,f8,()) a7 tg (n3.getD ms.toNat aq.z)) fun r4=>bif (!decide (r4.1=0))then rt false else al (dg .i64 (ms+1))<|nx (r4.2,(ms+1))else dn tg
def qtb(a7:(List ByteArray))(pv:qL1)(n3:(List aq))(q1 f5:Int)(f6:(List af))(f7 f8:Int)(s0:(qL1×Int)):Option (qL1⊕Bool):=b9 (fun a=>ri a7 pv n3 q1 f5 f6 f7 f8 a.1 a.2 (fun a' =>some (.next a')) (fun e=>some (.done e)) (fun r=>some (.ret r))) s0
def q79:Shp:=⟨[j04,j6z,(9, .d true qT1),(11, .d true qT1),(55, .d false (.slice aq.ty)),(56, .d true qT0),(57, .d true qT0)],[qef]⟩
def q78:Shp:=⟨[(9, .d true qT1),(11, .d true qT1)],[]⟩
def qar(aa:bk)(a7:(List ByteArray))(ke:ak)(rc:qoe):Option Bool:=bnd (vk aa a7) fun r1=>bnd (qhh aa a7) fun r2=>bnd (yi ke rc.1) fun r3=>bif (!decide (r1.2=0))then some false else bif (!decide (r2.1=0))then some false else bif (!decide (r3.2=0))then some false else bif (!decide (r3.1=rc.2.1))then some false else bnd (qtb a7 r2.2 rc.1 (rc.1.length:Int) aa.1 aa.2.1 aa.2.2.1 aa.2.2.2.1 (r1.1,0)) fun oe5=>lk oe5 (fun e5=>bnd (g9 e5 r2.2) fun r6=>some r6) (fun r=>some r)
def ul{R:Type}(f4:qL1)(ra b2:Int)(a0:(List af))(cl cv lp l4:Int)(mb:Bool)(fu f0 f1 mt:Int)(kt:(List ag))(nx:(Int×(List ag))->Option R)(dn:(List ag)->Option R)(rt:Bool->Option R):Option R:=bif decide (mt<ra)then al (ix mt kt.length)<|al (ix mt kt.length)<|al (dg .i64 (mt+1))<|nx ((mt+1),(kt.set mt.toNat (1,1,false,())))else dn kt
def qna(f4:qL1)(ra b2:Int)(a0:(List af))(cl cv lp l4:Int)(mb:Bool)(fu f0 f1:Int)(s0:(Int×(List ag))):Option ((List ag)⊕Bool):=b9 (fun a=>ul f4 ra b2 a0 cl cv lp l4 mb fu f0 f1 a.1 a.2 (fun a' =>some (.next a')) (fun e=>some (.done e)) (fun r=>some (.ret r))) s0
def q2p:Shp:=⟨[jva,j01,Yv,(7, .ptr 2),(10, .own 3),(87, .d true qT0),(88, .d true qT0)],[qgm,q1a,qlq,q4o]⟩
def q2o:Shp:=⟨[jva,j01,Yv,(7, .ptr 2),(10, .own 3)],[qgm,q1a,qlq,q4o]⟩
def n8{R:Type}(rr:qL1)(sd:(List ByteArray))(h4:qL1)(oo b2:Int)(a0:(List af))(cl cv fu f0 f1 hd:Int)(j0:(List aq))(nx:(Int×(List aq))->Option R)(dn:(List aq)->Option R)(rt:Bool->Option R):Option R:=bif decide (hd<oo)then al (ix hd h4.length)<|al (ix hd h4.length)<|al (ix (h4.getD hd.toNat 0) a0.length)<|al (ix (h4.getD hd.toNat 0) a0.length)<|bif (ByteArray.toList (a0.getD (h4.getD hd.toNat 0).toNat af.z).1==ByteArray.toList ⟨#[]⟩)then al (room (j0.length+1) 32)<|al (dg .i64 (hd+1))<|nx ((hd+1),(j0++[(4,(h4.getD hd.toNat 0),(a0.getD (h4.getD hd.toNat 0).toNat af.z).1,())]))else al (room (j0.length+1) 32)<|al (dg .i64 (hd+1))<|nx ((hd+1),(j0++[(3,(h4.getD hd.toNat 0),(a0.getD (h4.getD hd.toNat 0).toNat af.z).1,())]))else dn j0
def qnb(rr:qL1)(sd:(List ByteArray))(h4:qL1)(oo b2:Int)(a0:(List af))(cl cv fu f0 f1:Int)(s0:(Int×(List aq))):Option ((List aq)⊕Bool):=b9 (fun a=>n8 rr sd h4 oo b2 a0 cl cv fu f0 f1 a.1 a.2 (fun a' =>some (.next a')) (fun e=>some (.done e)) (fun r=>some (.ret r))) s0
def q2r:Shp:=⟨[jva,(7, .ptr 1),(12, .d true qT1),j07,(16, .nl false ZL),(122, .d true qT1),(123, .d true qT0),(124, .d true qT0)],[qgm,qlq,qmc]⟩
def q2q:Shp:=⟨[jva,(7, .ptr 1),(12, .d true qT1),j07,(16, .nl false ZL)],[qgm,qlq,qmc]⟩
def qb6{R:Type}(f4:qL1)(b2:Int)(a0:(List af))(cl cv lp l4:Int)(mb:Bool)(fu f0 f1:Int)(dn:Unit->Option R)(rt:Bool->Option R):Option R:=al (qub (a0.length:Int) (a0.length:Int) 24)<|bnd (qna f4 ((List.replicate (a0.length:Int).toNat (ag.z:ag)).length:Int) b2 a0 cl cv lp l4 mb fu f0 f1 (0,(List.replicate (a0.length:Int).toNat (ag.z:ag)))) fun oe7=>lk oe7 (fun e7=>bnd (o5 (b2,a0,cl,cv,()) f4 e7 60) fun r8=>bnd (qkn (b2,a0,cl,cv,()) r8.2) fun r9=>bif (!decide (r8.1=0))then rt false else bif (!decide (r9.1=0))then rt false else bif (!decide ((r8.2.length:Int)=lp))then rt false else bnd (qnb r8.2 r9.2 r8.2 (r8.2.length:Int) b2 a0 cl cv fu f0 f1 (0,[])) fun oe10=>lk oe10 (fun e10=>bnd (qax (b2,a0,cl,cv,()) r9.2 60) fun r11=>bnd (qar (b2,a0,cl,cv,()) [] (fu,f0,f1,()) (e10,(r8.2.length:Int),())) fun r12=>bif r12 then bif decide (r11.2=0)then rt r11.1 else rt false else rt false) (fun r=>rt r)) (fun r=>rt r)
def fy(f4:qL1)(b2:Int)(a0:(List af))(cl cv lp l4:Int)(mb:Bool)(fu f0 f1:Int):Option (Unit⊕Bool):=qb6 f4 b2 a0 cl cv lp l4 mb fu f0 f1 (fun e=>some (.inl e)) (fun r=>some (.inr r))
def q2t:Shp:=⟨[jva,j01,Yv,(7, .ptr 2)],[qgm,q1a,qlq]⟩
def qif(aa:bk):Option Bool:=bnd (qlm) fun r1=>bif (!r1)then some false else bnd (qjq aa) fun r2=>bif (!r2)then some true else bnd (xz aa) fun r3=>bif (!r3)then some true else bnd (vg aa) fun r4=>bnd (dv aa r4.2 60) fun r5=>bif (!decide (r4.1=0))then some false else bif decide (r5.2=13)then some true else bnd (sq aa [] (1,1,1,()) 200) fun r6=>bif (!decide (r5.2=0))then bif decide (r5.2=10)then bif decide (r6.2=10)then some true else some (decide (r6.2=13))else some false else bif decide (r6.2=0)then bif (!decide (r6.1=r5.1.1))then some false else bif (!decide (r6.2=0))then bif (!decide (r6.2=13))then some false else bnd (fy r4.2 aa.1 aa.2.1 aa.2.2.1 aa.2.2.2.1 r5.1.1 r5.1.2.1 r5.1.2.2.1 1 1 1) fun oe13=>lk oe13 (fun e13=>none) (fun r=>some r)else bnd (fy r4.2 aa.1 aa.2.1 aa.2.2.1 aa.2.2.2.1 r5.1.1 r5.1.2.1 r5.1.2.2.1 1 1 1) fun oe14=>lk oe14 (fun e14=>none) (fun r=>some r)else bif (!decide (r6.2=0))then bif (!decide (r6.2=13))then some false else bnd (fy r4.2 aa.1 aa.2.1 aa.2.2.1 aa.2.2.2.1 r5.1.1 r5.1.2.1 r5.1.2.2.1 1 1 1) fun oe15=>lk oe15 (fun e15=>none) (fun r=>some r)else bnd (fy r4.2 aa.1 aa.2.1 aa.2.2.1 aa.2.2.2.1 r5.1.1 r5.1.2.1 r5.1.2.2.1 1 1 1) fun oe16=>lk oe16 (fun e16=>none) (fun r=>some r)
end
end Go.Proofs.YtocndcbobdnagaaGreatDoor
