/-
  What the functions compute, as plain functions of Lean. Made by program (mg3.py) out of the translation.
-/
import Derived.Test.YtclbndfjhjladaaGreatZ4KE
set_option linter.all false
set_option maxRecDepth 100000
namespace Go.Proofs.YtclbndfjhjladaaGreat
open Go.K Go.M
abbrev qL1:Type:=List Int
abbrev qL2:Type:=List (List Int)
abbrev qT0:Ty:=.int .i64
abbrev qT1:Ty:=.slice qT0
abbrev qT2:Ty:=.slice qT1
abbrev af:Type:=ByteArray×qL1×qL1×Unit
abbrev af.z:af:=(⟨#[]⟩,[],[],())
def af.ty:Ty:= .struct (.cons .str (.cons qT1 (.cons qT1 .nil)))
abbrev ca:Type:=Int×(List af)×Int×Int×Unit
abbrev ca.z:ca:=(0,[],0,0,())
def ca.ty:Ty:= .struct (.cons qT0 (.cons (.slice af.ty) (.cons qT0 (.cons qT0 .nil))))
abbrev ae:Type:=qL1×qL1×Unit
abbrev ae.z:ae:=([],[],())
def ae.ty:Ty:= .struct (.cons qT1 (.cons qT1 .nil))
abbrev az:Type:=qL2×qL1×Int×Int×Unit
abbrev az.z:az:=([],[],0,0,())
def az.ty:Ty:= .struct (.cons qT2 (.cons qT1 (.cons qT0 (.cons qT0 .nil))))
abbrev qfz:Hs:=.cs 24 4 1 (.cons (.d true qT0) (.cons (.d false (.slice af.ty)) (.cons (.d true qT0) (.cons (.d true qT0) .nil))))
abbrev qf0:Hs:=.arr 3 (.fz true) [0] qT0
abbrev qgq:Hs:=.arr 48 (.fz true) [3] qT1
abbrev qgw:Hs:=.cs 144 4 1 (.cons (.d true qT2) (.cons (.d true qT1) (.cons (.d true qT0) (.cons (.d true qT0) .nil))))
abbrev qh4:Hs:=.cs 144 4 1 (.cons (.own 2) (.cons (.own 3) (.cons (.d true qT0) (.cons (.d true qT0) .nil))))
abbrev qjn:Nat×Sh:=(0, .d true .bool)
abbrev qkq:Hs:=.arr 139 (.fz true) [3,3] ae.ty
abbrev qnf:Nat×Sh:=(1, .d true qT0)
abbrev qov:Hs:=.cs 24 4 1 (.cons (.d true qT0) (.cons (.d true (.slice af.ty)) (.cons (.d true qT0) (.cons (.d true qT0) .nil))))
abbrev qqz:Hs:=.arr 4 (.fz true) [0] .bool
abbrev qt8:Hs:=.cs 103 2 1 (.cons (.d true qT0) (.cons (.own 1) .nil))
abbrev qu2:Nat×Sh:=(7, .d true qT0)
abbrev qyj:Nat×Sh:=(0, .d true (.slice ae.ty))
abbrev qzl:Hs:=.cs 114 4 1 (.cons (.d true qT2) (.cons (.d true qT1) (.cons (.d true qT0) (.cons (.d true qT0) .nil))))
abbrev q2r:Hs:=.cs 135 2 1 (.cons (.own 2) (.cons (.own 3) .nil))
abbrev q2w:Hs:=.cs 114 4 1 (.cons (.own 2) (.cons (.own 3) (.cons (.d true qT0) (.cons (.d true qT0) .nil))))
abbrev q25:Nat×Sh:=(1, .ptr 0)
abbrev q5z:Nat×Sh:=(5, .d true qT0)
abbrev q53:Hs:=.cs 135 2 1 (.cons (.own 1) (.cons (.own 2) .nil))
abbrev q7a:Hs:=.arr 48 .own [3] qT1
abbrev q7j:Hs:=.cs 139 2 1 (.cons (.d true qT1) (.cons (.d true qT1) .nil))
abbrev jao:Hs:=.cs 114 4 1 (.cons (.own 1) (.cons (.own 2) (.cons (.d true qT0) (.cons (.d true qT0) .nil))))
abbrev jb9:Hs:=.cs 139 2 1 (.cons (.d false qT1) (.cons (.d false qT1) .nil))
abbrev jfn:Nat×Sh:=(4, .nl false (.own 1))
abbrev jfq:Hs:=.arr 0 (.fz true) [] qT0
abbrev jis:Nat×Sh:=(0, .d false qT2)
abbrev jlx:Nat×Sh:=(8, .d true qT0)
abbrev jly:Hs:=.cs 25 1 3 (.cons (.fn 57 (.cons (.ptr 1) (.cons (.ptr 2) .nil))) (.cons (.fn 59 (.cons (.ptr 3) (.cons (.ptr 2) .nil))) (.cons (.fn 60 (.cons (.ptr 4) (.cons (.ptr 2) .nil))) .nil)))
abbrev jlz:Hs:=.arr 121 (.fz true) [0] (.int .u32)
abbrev jnf:Nat×Sh:=(6, .d true qT0)
abbrev jqp:Nat×Sh:=(0, .d true qT0)
abbrev jq2:Nat×Sh:=(3, .d true qT0)
abbrev jry:Hs:=.cs 24 4 1 (.cons (.d true qT0) (.cons (.own 3) (.cons (.d true qT0) (.cons (.d true qT0) .nil))))
abbrev jty:Hs:=.cs 135 2 1 (.cons (.own 4) (.cons (.own 5) .nil))
abbrev jua:Nat×Sh:=(0, .d false qT1)
abbrev juc:Nat×Sh:=(9, .d true qT0)
abbrev jvw:Nat×Sh:=(10, .d true qT0)
abbrev jvz:Hs:=.cs 135 2 1 (.cons (.d true qT2) (.cons (.d true qT2) .nil))
abbrev jv0:Nat×Sh:=(4, .ptr 0)
abbrev jv1:Hs:=.arr 69 .own [3,3] ae.ty
abbrev jzj:Nat×Sh:=(3, .nl false (.d true (.slice (.int .u32))))
abbrev jzk:Nat×Sh:=(4, .nl false (.d true (.slice (.int .u32))))
abbrev jzm:Hs:=.arr 69 (.fz true) [3,3] ae.ty
abbrev jzo:Hs:=.cs 103 2 1 (.cons (.d true qT0) (.cons (.own 2) .nil))
abbrev j13:Hs:=.cs 139 2 1 (.cons (.own 3) (.cons (.d true qT1) .nil))
abbrev j2c:Nat×Sh:=(0, .ptr 0)
abbrev j2f:Nat×Sh:=(5, .ptr 1)
abbrev j2j:Nat×Sh:=(1, .d false qT1)
abbrev j2r:Nat×Sh:=(4, .d true qT0)
abbrev j5e:Nat×Sh:=(2, .d true .bool)
abbrev j9t:Nat×Sh:=(3, .ptr 0)
abbrev j9u:Hs:=.cs 64 3 1 (.cons (.d true .str) (.cons (.d false qT1) (.cons (.d false qT1) .nil)))
abbrev j9v:Nat×Sh:=(0, .nl false (.own 0))
abbrev j9w:Hs:=.cs 103 2 1 (.cons (.d true qT0) (.cons (.own 4) .nil))
abbrev j9x:Nat×Sh:=(4, .nl false (.d true qT2))
abbrev j91:Hs:=.cs 50 1 1 (.cons (.own 3) .nil)
abbrev zer:Nat×Sh:=(1, .d true qT1)
abbrev zet:Nat×Sh:=(16, .d true qT0)
abbrev zew:Hs:=.arr 64 (.fz true) [0,3,3] af.ty
abbrev zex:Hs:=.cs 42 1 1 (.cons (.d true qT2) .nil)
abbrev zey:Nat×Sh:=(8, .d true .bool)
abbrev zez:Nat×Sh:=(18, .nl false (.d true (.slice (.int .u32))))
abbrev ze0:Nat×Sh:=(17, .d true qT0)
abbrev ze1:Nat×Sh:=(9, .d true (.int .u64))
abbrev ze2:Nat×Sh:=(0, .own 0)
abbrev ze3:Nat×Sh:=(2, .ptr 0)
abbrev ze4:Nat×Sh:=(6, .nl false (.own 1))
abbrev ze5:Nat×Sh:=(9, .nl false (.own 3))
abbrev ze6:Nat×Sh:=(2, .d true qT1)
abbrev ze7:Nat×Sh:=(15, .d false (.slice af.ty))
abbrev ze8:Nat×Sh:=(11, .d true qT0)
abbrev ze9:Nat×Sh:=(19, .d true qT0)
abbrev zfa:Hs:=.cs 69 2 1 (.cons (.d true qT1) (.cons (.d true qT1) .nil))
abbrev zfb:Nat×Sh:=(9, .d true (.int .u32))
abbrev zfm:Nat×Sh:=(4, .nl false (.own 0))
abbrev zfn:Nat×Sh:=(4, .nl false (.own 2))
abbrev zfo:Nat×Sh:=(8, .nl false (.own 2))
abbrev zfp:Nat×Sh:=(18, .d true qT0)
abbrev zft:Nat×Sh:=(7, .own 1)
abbrev zfv:Hs:=.cs 135 2 1 (.cons (.own 2) (.cons (.own 1) .nil))
abbrev zfw:Hs:=.cs 135 2 1 (.cons (.own 3) (.cons (.own 4) .nil))
abbrev zfx:Nat×Sh:=(16, .d false (.slice af.ty))
abbrev zfy:Nat×Sh:=(17, .d false (.slice af.ty))
abbrev zfz:Nat×Sh:=(29, .d false (.slice af.ty))
abbrev zf0:Nat×Sh:=(20, .d true qT0)
abbrev zf1:Nat×Sh:=(27, .d true qT0)
abbrev zf2:Nat×Sh:=(8, .d false (.slice af.ty))
abbrev zf3:Nat×Sh:=(10, .d true .bool)
abbrev zf4:Nat×Sh:=(3, .ptr 1)
abbrev zf5:Nat×Sh:=(0, .nl false (.d true qT2))
abbrev zf6:Nat×Sh:=(7, .own 0)
abbrev zf7:Nat×Sh:=(15, .d true qT0)
abbrev zf8:Nat×Sh:=(42, .d true qT0)
abbrev zf9:Nat×Sh:=(5, .d false qT1)
abbrev zga:Nat×Sh:=(54, .d true qT0)
abbrev zgb:Nat×Sh:=(6, .d false qT1)
abbrev zgc:Hs:=.cs 3 1 1 (.cons (.d true qT0) .nil)
abbrev zgd:Nat×Sh:=(0, .d true ae.ty)
abbrev zge:Nat×Sh:=(21, .d false (.slice af.ty))
abbrev zgf:Nat×Sh:=(12, .d true qT0)
abbrev zgg:Nat×Sh:=(23, .d true qT0)
abbrev zgh:Nat×Sh:=(28, .d true qT0)
abbrev zgi:Nat×Sh:=(30, .d true qT0)
abbrev zgj:Nat×Sh:=(9, .d false qT2)
abbrev zgk:Nat×Sh:=(0, .d true az.ty)
abbrev zgl:Nat×Sh:=(0, .d true qT2)
abbrev zgm:Nat×Sh:=(2, .d true qT0)
abbrev zgn:Nat×Sh:=(6, .d true qT2)
abbrev zgo:Nat×Sh:=(8, .nl false (.d true qT1))
abbrev zgp:Nat×Sh:=(0, .d true ca.ty)
abbrev zgq:Nat×Sh:=(6, .d true (.slice .bool))
abbrev zgr:Nat×Sh:=(8, .ptr 1)
abbrev zgs:Nat×Sh:=(13, .d true qT0)
abbrev zgt:Nat×Sh:=(22, .d true qT0)
abbrev zgu:Nat×Sh:=(26, .d true qT0)
abbrev zgv:Nat×Sh:=(31, .d true qT0)
abbrev zgw:Nat×Sh:=(32, .d true qT0)
abbrev zgx:Nat×Sh:=(33, .d true qT0)
abbrev zgy:Nat×Sh:=(43, .d true qT0)
abbrev zgz:Nat×Sh:=(53, .d true qT0)
abbrev zg0:Nat×Sh:=(55, .d true qT0)
abbrev zg1:Nat×Sh:=(5, .own 1)
abbrev zg2:Nat×Sh:=(6, .ptr 2)
abbrev zg3:Nat×Sh:=(9, .own 2)
abbrev zg4:Nat×Sh:=(3, .d true qT1)
abbrev zg5:Nat×Sh:=(4, .d true qT1)
abbrev zg6:Nat×Sh:=(12, .ptr 1)
abbrev zg7:Nat×Sh:=(6, .own 2)
def qef(tb:ByteArray)(h4 gx:qL1):Option (af×qL1×qL1):=some ((tb,h4,gx,()),[],[])
def qeg(hw:Int):Option Bool:=bif decide ((65:Int)≤hw)then bif decide (hw≤90)then some true else bif decide ((97:Int)≤hw)then some (decide (hw≤122))else some false else bif decide ((97:Int)≤hw)then some (decide (hw≤122))else some false
def qug(hw:Int):Option Bool:=bnd (qeg hw) fun r1=>bif r1 then some true else bif decide ((48:Int)≤hw)then bif decide (hw≤57)then some true else bif decide (hw=95)then some true else bif decide (hw=45)then some true else some (decide (hw=46))else bif decide (hw=95)then some true else bif decide (hw=45)then some true else some (decide (hw=46))
def tk{R:Type}(a3:ByteArray)(f1 c1:Int)(nx:Int→Option R)(dn:Unit→Option R)(rt:Bool→Option R):Option R:=bif decide (c1<f1)then ah (ix c1 (ByteArray.size a3))<|bnd (qug (((ByteArray.data a3).getD c1.toNat 0).toNat:Int)) fun r2=>bif (!r2)then rt false else ah (bw .i64 (c1+1))<|nx (c1+1)else dn ()
def qvj(a3:ByteArray)(f1 s0:Int):Option (Unit⊕Bool):=ar (fun a=>tk a3 f1 a (fun a' =>some (.next a')) (fun e=>some (.done e)) (fun r=>some (.ret r))) s0
def jc6:Shp:=⟨[(0, .d true .str),ze9,zf0],[]⟩
def jc5:Shp:=⟨[],[]⟩
def qix(a3:ByteArray):Option Bool:=bif decide ((ByteArray.size a3:Int)<1)then some false else bif decide ((40:Int)<(ByteArray.size a3:Int))then some false else ah (ix 0 (ByteArray.size a3))<|bnd (qeg (((ByteArray.data a3).getD 0 0).toNat:Int)) fun r1=>bif (!r1)then some false else bnd (qvj a3 (ByteArray.size a3:Int) 0) fun oe3=>lk oe3 (fun e3=>some true) (fun r=>some r)
def ll{R:Type}(es b6:qL1)(a4 dt:Int)(be:(List af))(ej ep ex:Int)(nx:Int→Option R)(dn:Unit→Option R)(rt:Bool→Option R):Option R:=bif decide (ex<a4)then ah (ix ex b6.length)<|ah (ix ex b6.length)<|bif decide ((b6.getD ex.toNat 0)<0)then rt false else bif decide (dt≤(b6.getD ex.toNat 0))then rt false else bif decide ((0:Int)<ex)then ah (bw .i64 (ex-1))<|ah (ix (ex-1) es.length)<|ah (ix (ex-1) es.length)<|bif decide ((b6.getD ex.toNat 0)≤(es.getD (ex-1).toNat 0))then rt false else ah (bw .i64 (ex+1))<|nx (ex+1)else ah (bw .i64 (ex+1))<|nx (ex+1)else dn ()
def qr9(es b6:qL1)(a4 dt:Int)(be:(List af))(ej ep s0:Int):Option (Unit⊕Bool):=ar (fun a=>ll es b6 a4 dt be ej ep a (fun a' =>some (.next a')) (fun e=>some (.done e)) (fun r=>some (.ret r))) s0
def q8c:Shp:=⟨[j2j,ze3,(7, .d false qT1),jlx,juc],[qfz]⟩
def q8b:Shp:=⟨[],[]⟩
def jo(aa:ca)(es:qL1):Option Bool:=bnd (qr9 es es (es.length:Int) aa.1 aa.2.1 aa.2.2.1 aa.2.2.2.1 0) fun oe1=>lk oe1 (fun e1=>some true) (fun r=>some r)
def z9{R:Type}(c1:(List af))(fr ad:Int)(ab:(List af))(av a0 gj:Int)(nx:Int→Option R)(dn:Unit→Option R)(rt:Bool→Option R):Option R:=bif decide (gj<fr)then ah (ix gj c1.length)<|ah (ix gj c1.length)<|bif (!(ByteArray.toList (c1.getD gj.toNat af.z).1==ByteArray.toList ⟨#[]⟩))then bnd (qix (c1.getD gj.toNat af.z).1) fun r1=>bif (!r1)then rt false else bnd (jo (ad,ab,av,a0,()) (c1.getD gj.toNat af.z).2.1) fun r2=>bif (!r2)then rt false else bnd (jo (ad,ab,av,a0,()) (c1.getD gj.toNat af.z).2.2.1) fun r3=>bif (!r3)then rt false else ah (bw .i64 (gj+1))<|nx (gj+1)else bnd (jo (ad,ab,av,a0,()) (c1.getD gj.toNat af.z).2.1) fun r4=>bif (!r4)then rt false else bnd (jo (ad,ab,av,a0,()) (c1.getD gj.toNat af.z).2.2.1) fun r5=>bif (!r5)then rt false else ah (bw .i64 (gj+1))<|nx (gj+1)else dn ()
def qvp(c1:(List af))(fr ad:Int)(ab:(List af))(av a0 s0:Int):Option (Unit⊕Bool):=ar (fun a=>z9 c1 fr ad ab av a0 a (fun a' =>some (.next a')) (fun e=>some (.done e)) (fun r=>some (.ret r))) s0
def jdf:Shp:=⟨[q25,(20, .d false (.slice af.ty)),(21, .d true qT0),zgt],[qfz]⟩
def jde:Shp:=⟨[q25],[qfz]⟩
def gb(aa:ca):Option Bool:=bif decide (aa.1<1)then some false else bif decide ((40:Int)<aa.1)then some false else bif decide ((60:Int)<(aa.2.1.length:Int))then some false else bnd (qvp aa.2.1 (aa.2.1.length:Int) aa.1 aa.2.1 aa.2.2.1 aa.2.2.2.1 0) fun oe6=>lk oe6 (fun e6=>bnd (jo aa [aa.2.2.1]) fun r7=>bif r7 then bnd (jo aa [aa.2.2.2.1]) fun r8=>some r8 else some false) (fun r=>some r)
def ia{R:Type}(c1 hf fr:Int)(f3:qL1)(nx:(Int×qL1)→Option R)(dn:qL1→Option R)(rt:(Int×qL1)→Option R):Option R:=bif decide (fr<c1)then ah (ix fr f3.length)<|ah (ix fr f3.length)<|ah (bw .i64 (fr+1))<|nx ((fr+1),(f3.set fr.toNat fr))else dn f3
def x8(c1 hf:Int)(s0:(Int×qL1)):Option (qL1⊕(Int×qL1)):=ar (fun a=>ia c1 hf a.1 a.2 (fun a' =>some (.next a')) (fun e=>some (.done e)) (fun r=>some (.ret r))) s0
def qjz:Shp:=⟨[j9t,zf0,(21, .d true qT0)],[qt8,qf0]⟩
def qjy:Shp:=⟨[j9t],[qt8,qf0]⟩
def gn(aa:ca):Option (Int×qL1):=ah (bw .i64 (aa.1+(aa.2.1.length:Int)))<|ah (qqv (aa.1+(aa.2.1.length:Int)) (aa.1+(aa.2.1.length:Int)) 8)<|bnd (x8 ((List.replicate (aa.1+(aa.2.1.length:Int)).toNat (0:Int)).length:Int) aa.1 (0,(List.replicate (aa.1+(aa.2.1.length:Int)).toNat (0:Int)))) fun oe1=>lk oe1 (fun e1=>some (aa.1,e1)) (fun r=>some r)
def fy{R:Type}(le g1:Int)(ft:qL1)(nx dn:(Int×qL1)→Option R)(rt:(Int×Int×qL1)→Option R):Option R:=ah (ix g1 ft.length)<|ah (ix g1 ft.length)<|bif (!decide ((ft.getD g1.toNat 0)=g1))then ah (ix g1 ft.length)<|ah (ix g1 ft.length)<|ah (ix (ft.getD g1.toNat 0) ft.length)<|ah (ix (ft.getD g1.toNat 0) ft.length)<|ah (ix g1 ft.length)<|ah (ix g1 ft.length)<|ah (ix g1 (ft.set g1.toNat (ft.getD (ft.getD g1.toNat 0).toNat 0)).length)<|ah (ix g1 (ft.set g1.toNat (ft.getD (ft.getD g1.toNat 0).toNat 0)).length)<|nx (((ft.set g1.toNat (ft.getD (ft.getD g1.toNat 0).toNat 0)).getD g1.toNat 0),(ft.set g1.toNat (ft.getD (ft.getD g1.toNat 0).toNat 0)))else dn (g1,ft)
def uv(le:Int)(s0:(Int×qL1)):Option ((Int×qL1)⊕(Int×Int×qL1)):=ar (fun a=>fy le a.1 a.2 (fun a' =>some (.next a')) (fun e=>some (.done e)) (fun r=>some (.ret r))) s0
def qhg:Shp:=⟨[j2c,qnf],[qt8,qf0]⟩
def qhf:Shp:=⟨[qnf],[qt8,qf0]⟩
def cd(g1 le:Int)(ft:qL1):Option (Int×Int×qL1):=bnd (uv le (g1,ft)) fun oe1=>lk oe1 (fun e1=>some (e1.1,le,e1.2)) (fun r=>some r)
def cm(tg q4 le:Int)(ft:qL1):Option (Int×qL1):=ah (bw .i64 (le+q4))<|bnd (cd tg le ft) fun r1=>ah (decide (r1.2.2.length=ft.length))<|ah (decide (le=r1.2.1))<|bnd (cd (le+q4) r1.2.1 r1.2.2) fun r2=>ah (decide (r2.2.2.length=r1.2.2.length))<|ah (ix (max r1.1 r2.1) r2.2.2.length)<|ah (ix (max r1.1 r2.1) r2.2.2.length)<|some (r2.2.1,(r2.2.2.set (max r1.1 r2.1).toNat (min r1.1 r2.1)))
def c8{R:Type}(p3:Int)(cc:(List af))(b4 f1:Int)(h5:qL1)(c2 ad:Int)(ab:(List af))(av a0 gw hf:Int)(f3:qL1)(nx:(Int×Int×qL1)→Option R)(dn:(Int×qL1)→Option R)(rt:(List ae)→Option R):Option R:=bif decide (gw<c2)then ah (ix gw h5.length)<|ah (ix gw h5.length)<|bnd (cm (h5.getD gw.toNat 0) p3 hf f3) fun r2=>ah (decide (r2.2.length=f3.length))<|ah (bw .i64 (gw+1))<|nx ((gw+1),r2.1,r2.2)else dn (hf,f3)
def qb0(p3:Int)(cc:(List af))(b4 f1:Int)(h5:qL1)(c2 ad:Int)(ab:(List af))(av a0:Int)(s0:(Int×Int×qL1)):Option ((Int×qL1)⊕(List ae)):=ar (fun a=>c8 p3 cc b4 f1 h5 c2 ad ab av a0 a.1 a.2.1 a.2.2 (fun a' =>some (.next a')) (fun e=>some (.done e)) (fun r=>some (.ret r))) s0
def qnv:Shp:=⟨[q25,zf4,j2r,zfy,zfp,ze9,(25, .d false qT1),zgu,zf1],[qfz,jzo,qf0]⟩
def qnu:Shp:=⟨[q25,zf4,zfy,zfp,ze9],[qfz,jzo,qf0]⟩
def jk{R:Type}(cc:(List af))(b4 ad:Int)(ab:(List af))(av a0 f1 hf:Int)(f3:qL1)(nx:(Int×Int×qL1)→Option R)(dn:(Int×qL1)→Option R)(rt:(List ae)→Option R):Option R:=bif decide (f1<b4)then ah (ix f1 cc.length)<|ah (ix f1 cc.length)<|bnd (qb0 f1 cc b4 f1 (cc.getD f1.toNat af.z).2.1 ((cc.getD f1.toNat af.z).2.1.length:Int) ad ab av a0 (0,hf,f3)) fun oe3=>lk oe3 (fun e3=>ah (bw .i64 (f1+1))<|nx ((f1+1),e3.1,e3.2)) (fun r=>rt r)else dn (hf,f3)
def ry(cc:(List af))(b4 ad:Int)(ab:(List af))(av a0:Int)(s0:(Int×Int×qL1)):Option ((Int×qL1)⊕(List ae)):=ar (fun a=>jk cc b4 ad ab av a0 a.1 a.2.1 a.2.2 (fun a' =>some (.next a')) (fun e=>some (.done e)) (fun r=>some (.ret r))) s0
def qnx:Shp:=⟨[q25,zf4,zfy,zfp,ze9],[qfz,jzo,qf0]⟩
def qnw:Shp:=⟨[q25,zf4],[qfz,jzo,qf0]⟩
def jl{R:Type}(g4 b3 bf c3 ad:Int)(ab:(List af))(av a0 hf:Int)(hr:(List (Int×Int)))(b1:(List ae))(f3:qL1)(dn rt:(List ae)→Option R):Option R:=bif decide (g4<ad)then ah (ix b3 b1.length)<|ah (ix b3 b1.length)<|ah (ix b3 b1.length)<|ah (room ((b1.getD b3.toNat ae.z).1.length+1) 8)<|ah (decide ((b1.length:Nat)=(b1.set b3.toNat (((b1.getD b3.toNat ae.z).1++[g4]),(b1.getD b3.toNat ae.z).2.1,())).length))<|ah (ix b3 (b1.set b3.toNat (((b1.getD b3.toNat ae.z).1++[g4]),(b1.getD b3.toNat ae.z).2.1,())).length)<|ah (decide ((b3.toNat:Nat)=b3.toNat))<|ah (decide ((b3.toNat:Nat)=b3.toNat))<|dn (b1.set b3.toNat (((b1.getD b3.toNat ae.z).1++[g4]),(b1.getD b3.toNat ae.z).2.1,()))else ah (ix b3 b1.length)<|ah (ix b3 b1.length)<|ah (bw .i64 (g4-ad))<|ah (ix b3 b1.length)<|ah (room ((b1.getD b3.toNat ae.z).2.1.length+1) 8)<|ah (decide ((b1.length:Nat)=(b1.set b3.toNat ((b1.getD b3.toNat ae.z).1,((b1.getD b3.toNat ae.z).2.1++[(g4-ad)]),())).length))<|ah (ix b3 (b1.set b3.toNat ((b1.getD b3.toNat ae.z).1,((b1.getD b3.toNat ae.z).2.1++[(g4-ad)]),())).length)<|ah (decide ((b3.toNat:Nat)=b3.toNat))<|ah (decide ((b3.toNat:Nat)=b3.toNat))<|dn (b1.set b3.toNat ((b1.getD b3.toNat ae.z).1,((b1.getD b3.toNat ae.z).2.1++[(g4-ad)]),()))
def kl(g4 b3 bf c3 ad:Int)(ab:(List af))(av a0 hf:Int)(hr:(List (Int×Int)))(b1:(List ae))(f3:qL1):Option ((List ae)⊕(List ae)):=jl g4 b3 bf c3 ad ab av a0 hf hr b1 f3 (fun e=>some (.inl e)) (fun r=>some (.inr r))
def qn1:Shp:=⟨[q25,zf4,(8, .mp 2),ze5,jvw,zgf,zf8,zgy],[qfz,j9w, .mp qT0 qT0,jv1,qf0]⟩
def qn0:Shp:=⟨[q25,zf4,(8, .mp 2),ze5,zf8,zgy],[qfz,j9w, .mp qT0 qT0,jv1,qf0]⟩
def f5{R:Type}(bf ad:Int)(ab:(List af))(av a0 c3 hf:Int)(hr:(List (Int×Int)))(b1:(List ae))(f3:qL1)(nx:(Int×Int×(List (Int×Int))×(List ae)×qL1)→Option R)(dn rt:(List ae)→Option R):Option R:=bif decide (c3<bf)then bnd (cd c3 hf f3) fun r5=>ah (decide (r5.2.2.length=f3.length))<|bif (!(qb7 qT0 r5.1 hr).isSome)then ah (room (b1.length+1) 48)<|bnd (kl c3 (b1.length:Int) bf c3 ad ab av a0 r5.2.1 (qxb qT0 r5.1 (b1.length:Int) hr) (b1++[([],[],())]) r5.2.2) fun oe6=>lk oe6 (fun e6=>ah (bw .i64 (c3+1))<|nx ((c3+1),r5.2.1,(qxb qT0 r5.1 (b1.length:Int) hr),e6,r5.2.2)) (fun r=>rt r)else bnd (kl c3 ((qb7 qT0 r5.1 hr).getD 0) bf c3 ad ab av a0 r5.2.1 hr b1 r5.2.2) fun oe7=>lk oe7 (fun e7=>ah (bw .i64 (c3+1))<|nx ((c3+1),r5.2.1,hr,e7,r5.2.2)) (fun r=>rt r)else dn b1
def rz(bf ad:Int)(ab:(List af))(av a0:Int)(s0:(Int×Int×(List (Int×Int))×(List ae)×qL1)):Option ((List ae)⊕(List ae)):=ar (fun a=>f5 bf ad ab av a0 a.1 a.2.1 a.2.2.1 a.2.2.2.1 a.2.2.2.2 (fun a' =>some (.next a')) (fun e=>some (.done e)) (fun r=>some (.ret r))) s0
def qnz:Shp:=⟨[q25,zf4,(8, .mp 2),ze5,zf8,zgy],[qfz,j9w, .mp qT0 qT0,jv1,qf0]⟩
def qny:Shp:=⟨[(9, .nl false (.own 0))],[jv1]⟩
def de(aa:ca):Option (List ae):=bnd (gn aa) fun r1=>bnd (ry aa.2.1 (aa.2.1.length:Int) aa.1 aa.2.1 aa.2.2.1 aa.2.2.2.1 (0,r1.1,r1.2)) fun oe4=>lk oe4 (fun e4=>bnd (rz (e4.2.length:Int) aa.1 aa.2.1 aa.2.2.1 aa.2.2.2.1 (0,e4.1,[],[],e4.2)) fun oe8=>lk oe8 (fun e8=>some e8) (fun r=>some r)) (fun r=>some r)
def qfp(aa:ca):Option (Int×(List ae)):=bnd (gb aa) fun r1=>bif (!r1)then some (1,[])else bnd (de aa) fun r2=>some (0,r2)
def i5{R:Type}(a3:qL1)(ku b6 a4:Int)(nx:Int→Option R)(dn:Unit→Option R)(rt:Int→Option R):Option R:=bif decide (a4<b6)then ah (ix a4 a3.length)<|ah (ix a4 a3.length)<|bif decide (ku=(a3.getD a4.toNat 0))then rt a4 else ah (bw .i64 (a4+1))<|nx (a4+1)else dn ()
def qa6(a3:qL1)(ku b6 s0:Int):Option (Unit⊕Int):=ar (fun a=>i5 a3 ku b6 a (fun a' =>some (.next a')) (fun e=>some (.done e)) (fun r=>some (.ret r))) s0
def qmx:Shp:=⟨[jua,qnf,qu2,jlx],[]⟩
def qmw:Shp:=⟨[],[]⟩
def tu(a3:qL1)(ku:Int):Option Int:=bnd (qa6 a3 ku (a3.length:Int) 0) fun oe1=>lk oe1 (fun e1=>some (-1)) (fun r=>some r)
def bm(a3:qL1)(ku:Int):Option Bool:=bnd (tu a3 ku) fun r1=>some (decide ((0:Int)≤r1))
def wo(nf:Int)(hh:(List Bool)):Option Bool:=ah (ix 0 1)<|ah (ix nf hh.length)<|ah (ix nf hh.length)<|some (hh.getD nf.toNat false)
def dp{R:Type}(a3:qL1)(f_1c0:(List Bool))(b6 a4:Int)(nx:Int→Option R)(dn:Unit→Option R)(rt:Int→Option R):Option R:=bif decide (a4<b6)then ah (ix a4 a3.length)<|ah (ix a4 a3.length)<|bnd (wo (a3.getD a4.toNat 0) f_1c0) fun r1=>bif r1 then rt a4 else ah (bw .i64 (a4+1))<|nx (a4+1)else dn ()
def n9(a3:qL1)(f_1c0:(List Bool))(b6 s0:Int):Option (Unit⊕Int):=ar (fun a=>dp a3 f_1c0 b6 a (fun a' =>some (.next a')) (fun e=>some (.done e)) (fun r=>some (.ret r))) s0
def qbj:Shp:=⟨[jua,(1, .fn 130 (.cons (.rp false (.slice .bool)) .nil)),qu2,jlx],[]⟩
def qbi:Shp:=⟨[],[]⟩
def jb(a3:qL1)(f_1c0:(List Bool)):Option Int:=bnd (n9 a3 f_1c0 (a3.length:Int) 0) fun oe2=>lk oe2 (fun e2=>some (-1)) (fun r=>some r)
def cw(a3:qL1)(f_1c0:(List Bool)):Option Bool:=bnd (jb a3 f_1c0) fun r1=>some (decide ((0:Int)≤r1))
def ug{R:Type}(he gs:Bool)(ht:(List af))(h9 d0:Int)(j1:qL1)(st eq:Int)(ec:(List af))(f4 ga:Int)(c5:(List Bool))(n3:Int)(fd:(List Bool))(nx:(Int×(List Bool))→Option R)(dn:(List Bool)→Option R)(rt:((List Bool)×(List Bool))→Option R):Option R:=bif decide (n3<st)then ah (ix n3 j1.length)<|ah (ix n3 j1.length)<|ah (ix (j1.getD n3.toNat 0) fd.length)<|ah (ix (j1.getD n3.toNat 0) fd.length)<|ah (bw .i64 (n3+1))<|nx ((n3+1),(fd.set (j1.getD n3.toNat 0).toNat true))else dn fd
def qe6(he gs:Bool)(ht:(List af))(h9 d0:Int)(j1:qL1)(st eq:Int)(ec:(List af))(f4 ga:Int)(c5:(List Bool))(s0:(Int×(List Bool))):Option ((List Bool)⊕((List Bool)×(List Bool))):=ar (fun a=>ug he gs ht h9 d0 j1 st eq ec f4 ga c5 a.1 a.2 (fun a' =>some (.next a')) (fun e=>some (.done e)) (fun r=>some (.ret r))) s0
def q37:Shp:=⟨[j5e,j9t,zgr,zg3,zf3,zfz,zgi,zgv,(56, .d false qT1),(57, .d true qT0),(58, .d true qT0)],[qfz,j91,qqz,qqz]⟩
def q36:Shp:=⟨[j5e,j9t,zgr,zg3,zf3,zfz,zgi,zgv],[qfz,j91,qqz,qqz]⟩
def fl{R:Type}(he:Bool)(ht:(List af))(h9 eq:Int)(ec:(List af))(f4 ga:Int)(gs:Bool)(d0:Int)(c5 fd:(List Bool))(nx:(Bool×Int×(List Bool)×(List Bool))→Option R)(dn:(Bool×(List Bool)×(List Bool))→Option R)(rt:((List Bool)×(List Bool))→Option R):Option R:=bif decide (d0<h9)then ah (ix d0 ht.length)<|ah (ix d0 ht.length)<|bif he then ah (ix d0 c5.length)<|ah (ix d0 c5.length)<|bif (c5.getD d0.toNat false)then ah (bw .i64 (d0+1))<|nx (gs,(d0+1),c5,fd)else bnd (cw (ht.getD d0.toNat af.z).2.2.1 fd) fun r1=>bif (!r1)then ah (bw .i64 (d0+1))<|nx (gs,(d0+1),c5,fd)else ah (ix d0 c5.length)<|ah (ix d0 c5.length)<|bnd (qe6 he true ht h9 d0 (ht.getD d0.toNat af.z).2.1 ((ht.getD d0.toNat af.z).2.1.length:Int) eq ec f4 ga (c5.set d0.toNat true) (0,fd)) fun oe2=>lk oe2 (fun e2=>ah (bw .i64 (d0+1))<|nx (true,(d0+1),(c5.set d0.toNat true),e2)) (fun r=>rt r)else ah (ix d0 c5.length)<|ah (ix d0 c5.length)<|bif (c5.getD d0.toNat false)then ah (bw .i64 (d0+1))<|nx (gs,(d0+1),c5,fd)else bnd (cw (ht.getD d0.toNat af.z).2.1 fd) fun r3=>bif (!r3)then ah (bw .i64 (d0+1))<|nx (gs,(d0+1),c5,fd)else ah (ix d0 c5.length)<|ah (ix d0 c5.length)<|bnd (qe6 he true ht h9 d0 (ht.getD d0.toNat af.z).2.2.1 ((ht.getD d0.toNat af.z).2.2.1.length:Int) eq ec f4 ga (c5.set d0.toNat true) (0,fd)) fun oe4=>lk oe4 (fun e4=>ah (bw .i64 (d0+1))<|nx (true,(d0+1),(c5.set d0.toNat true),e4)) (fun r=>rt r)else dn (gs,c5,fd)
def qe7(he:Bool)(ht:(List af))(h9 eq:Int)(ec:(List af))(f4 ga:Int)(s0:(Bool×Int×(List Bool)×(List Bool))):Option ((Bool×(List Bool)×(List Bool))⊕((List Bool)×(List Bool))):=ar (fun a=>fl he ht h9 eq ec f4 ga a.1 a.2.1 a.2.2.1 a.2.2.2 (fun a' =>some (.next a')) (fun e=>some (.done e)) (fun r=>some (.ret r))) s0
def q39:Shp:=⟨[j5e,j9t,zgr,zg3,zf3,zfz,zgi,zgv],[qfz,j91,qqz,qqz]⟩
def q38:Shp:=⟨[j5e,j9t,zgr,zg3,zf3],[qfz,j91,qqz,qqz]⟩
def qco{R:Type}(he:Bool)(eq:Int)(ec:(List af))(f4 ga:Int)(gs:Bool)(c5 fd:(List Bool))(nx:(Bool×(List Bool)×(List Bool))→Option R)(dn rt:((List Bool)×(List Bool))→Option R):Option R:=bif gs then bnd (qe7 he ec (ec.length:Int) eq ec f4 ga (false,0,c5,fd)) fun oe5=>lk oe5 (fun e5=>nx (e5.1,e5.2.1,e5.2.2)) (fun r=>rt r)else dn (c5,fd)
def qpi(he:Bool)(eq:Int)(ec:(List af))(f4 ga:Int)(s0:(Bool×(List Bool)×(List Bool))):Option (((List Bool)×(List Bool))⊕((List Bool)×(List Bool))):=ar (fun a=>qco he eq ec f4 ga a.1 a.2.1 a.2.2 (fun a' =>some (.next a')) (fun e=>some (.done e)) (fun r=>some (.ret r))) s0
def q4b:Shp:=⟨[j5e,j9t,zgr,zg3,zf3],[qfz,j91,qqz,qqz]⟩
def q4a:Shp:=⟨[(8, .ptr 0),(9, .own 1)],[.cs 50 1 1 (.cons (.own 2) .nil),qqz,qqz]⟩
def mq(aa:ca)(ik:Int)(he:Bool):Option ((List Bool)×(List Bool)):=ah (qqv aa.1 aa.1 1)<|ah (qqv (aa.2.1.length:Int) (aa.2.1.length:Int) 1)<|ah (ix ik (List.replicate aa.1.toNat (false:Bool)).length)<|ah (ix ik (List.replicate aa.1.toNat (false:Bool)).length)<|bnd (qpi he aa.1 aa.2.1 aa.2.2.1 aa.2.2.2.1 (true,(List.replicate (aa.2.1.length:Int).toNat (false:Bool)),((List.replicate aa.1.toNat (false:Bool)).set ik.toNat true))) fun oe6=>lk oe6 (fun e6=>some (e6.2,e6.1)) (fun r=>some r)
def gk{R:Type}(a3:(List Bool))(ku:Bool)(b6 a4:Int)(nx:Int→Option R)(dn:Unit→Option R)(rt:Int→Option R):Option R:=bif decide (a4<b6)then ah (ix a4 a3.length)<|ah (ix a4 a3.length)<|bif (ku==(a3.getD a4.toNat false))then rt a4 else ah (bw .i64 (a4+1))<|nx (a4+1)else dn ()
def wd(a3:(List Bool))(ku:Bool)(b6 s0:Int):Option (Unit⊕Int):=ar (fun a=>gk a3 ku b6 a (fun a' =>some (.next a')) (fun e=>some (.done e)) (fun r=>some (.ret r))) s0
def qih:Shp:=⟨[(0, .d false (.slice .bool)),(1, .d true .bool),qu2,jlx],[]⟩
def qig:Shp:=⟨[],[]⟩
def ql(a3:(List Bool))(ku:Bool):Option Int:=bnd (wd a3 ku (a3.length:Int) 0) fun oe1=>lk oe1 (fun e1=>some (-1)) (fun r=>some r)
def cf(a3:(List Bool))(ku:Bool):Option Bool:=bnd (ql a3 ku) fun r1=>some (decide ((0:Int)≤r1))
def sn{R:Type}(fr:(List af))(gj ad:Int)(ab:(List af))(av a0 f2:Int)(nx:Int→Option R)(dn:Unit→Option R)(rt:Bool→Option R):Option R:=bif decide (f2<gj)then ah (ix f2 fr.length)<|ah (ix f2 fr.length)<|bnd (bm (fr.getD f2.toNat af.z).2.2.1 av) fun r2=>bif r2 then rt false else bnd (bm (fr.getD f2.toNat af.z).2.1 a0) fun r3=>bif r3 then rt false else ah (bw .i64 (f2+1))<|nx (f2+1)else dn ()
def qlr(fr:(List af))(gj ad:Int)(ab:(List af))(av a0 s0:Int):Option (Unit⊕Bool):=ar (fun a=>sn fr gj ad ab av a0 a (fun a' =>some (.next a')) (fun e=>some (.done e)) (fun r=>some (.ret r))) s0
def q0g:Shp:=⟨[q25,zge,zgt,zgg],[qfz]⟩
def q0f:Shp:=⟨[q25],[qfz]⟩
def sq{R:Type}(dc:(List Bool))(dd ad:Int)(ab:(List af))(av a0 bf:Int)(nx:Int→Option R)(dn:Unit→Option R)(rt:Bool→Option R):Option R:=bif decide (bf<dd)then ah (ix bf dc.length)<|ah (ix bf dc.length)<|bif (dc.getD bf.toNat false)then bnd (mq (ad,ab,av,a0,()) a0 (dc.getD bf.toNat false)) fun r5=>bnd (cf r5.1 false) fun r6=>bif r6 then rt false else bnd (cf r5.2 false) fun r7=>bif r7 then rt false else ah (bw .i64 (bf+1))<|nx (bf+1)else bnd (mq (ad,ab,av,a0,()) av (dc.getD bf.toNat false)) fun r8=>bnd (cf r8.1 false) fun r9=>bif r9 then rt false else bnd (cf r8.2 false) fun r10=>bif r10 then rt false else ah (bw .i64 (bf+1))<|nx (bf+1)else dn ()
def qls(dc:(List Bool))(dd ad:Int)(ab:(List af))(av a0 s0:Int):Option (Unit⊕Bool):=ar (fun a=>sq dc dd ad ab av a0 a (fun a' =>some (.next a')) (fun e=>some (.done e)) (fun r=>some (.ret r))) s0
def q0i:Shp:=⟨[q25,(40, .d true (.slice .bool)),(41, .d true qT0),zf8],[qfz]⟩
def q0h:Shp:=⟨[],[]⟩
def ns(aa:ca):Option Bool:=bnd (gb aa) fun r1=>bif (!r1)then some false else bif decide (aa.2.2.1=aa.2.2.2.1)then some false else bnd (qlr aa.2.1 (aa.2.1.length:Int) aa.1 aa.2.1 aa.2.2.1 aa.2.2.2.1 0) fun oe4=>lk oe4 (fun e4=>bnd (qls [false,true] 2 aa.1 aa.2.1 aa.2.2.1 aa.2.2.2.1 0) fun oe11=>lk oe11 (fun e11=>some true) (fun r=>some r)) (fun r=>some r)
def qau(a3:qL1):Option qL1:=bif decide ((a3.length:Int)=0)then some []else ah (room (0+a3.length) 8)<|some ([]++a3)
def jp(a3:qL1):Option qL1:=ah (room (0+a3.length) 8)<|some ([]++a3)
def b8(a3:qL1):Option qL1:=jp a3
def ne{R:Type}(c2:(List af))(gw ad:Int)(ab:(List af))(av a0 c1:Int)(fr:(List af))(gj f2 rd re rr fs:Int)(p2:(List af))(nx:(Int×(List af))→Option R)(dn:(List af)→Option R)(rt:(ca×Int)→Option R):Option R:=bif decide (fs<gw)then ah (ix fs c2.length)<|ah (ix fs c2.length)<|bnd (b8 (c2.getD fs.toNat af.z).2.1) fun r3=>bnd (b8 (c2.getD fs.toNat af.z).2.2.1) fun r4=>ah (room (p2.length+1) 64)<|ah (bw .i64 (fs+1))<|nx ((fs+1),(p2++[((c2.getD fs.toNat af.z).1,r3,r4,())]))else dn p2
def qg9(c2:(List af))(gw ad:Int)(ab:(List af))(av a0 c1:Int)(fr:(List af))(gj f2 rd re rr:Int)(s0:(Int×(List af))):Option ((List af)⊕(ca×Int)):=ar (fun a=>ne c2 gw ad ab av a0 c1 fr gj f2 rd re rr a.1 a.2 (fun a' =>some (.next a')) (fun e=>some (.done e)) (fun r=>some (.ret r))) s0
def quw:Shp:=⟨[q25,(2, .ptr 1),(4, .ptr 2),(26, .d false (.slice af.ty)),zf1,zgh],[qfz,qov,jry,zew]⟩
def quv:Shp:=⟨[q25,(2, .ptr 1),(4, .ptr 2)],[qfz,qov,jry,zew]⟩
def t9(aa:ca):Option (ca×Int):=bnd (gb aa) fun r1=>bif (!r1)then some ((0,[],0,0,()),1)else bnd (ns aa) fun r2=>bif (!r2)then some ((0,[],0,0,()),19)else bif decide ((60:Int)≤(aa.2.1.length:Int))then some ((0,[],0,0,()),5)else bnd (qg9 aa.2.1 (aa.2.1.length:Int) aa.1 aa.2.1 aa.2.2.1 aa.2.2.2.1 0 [] 0 0 aa.1 aa.2.2.1 aa.2.2.2.1 (0,[])) fun oe5=>lk oe5 (fun e5=>ah (room (e5.length+1) 64)<|some ((aa.1,(e5++[(⟨#[]⟩,[aa.2.2.2.1],[aa.2.2.1],())]),aa.2.2.1,aa.2.2.2.1,()),0)) (fun r=>some r)
def ng(nf:Int)(hh:af):Option Bool:=ah (ix 0 1)<|bnd (bm hh.2.1 nf) fun r1=>some r1
def d8{R:Type}(a3:qL1)(f_1c0:af)(b6 a4:Int)(nx:Int→Option R)(dn:Unit→Option R)(rt:Int→Option R):Option R:=bif decide (a4<b6)then ah (ix a4 a3.length)<|ah (ix a4 a3.length)<|bnd (ng (a3.getD a4.toNat 0) f_1c0) fun r1=>bif r1 then rt a4 else ah (bw .i64 (a4+1))<|nx (a4+1)else dn ()
def pb(a3:qL1)(f_1c0:af)(b6 s0:Int):Option (Unit⊕Int):=ar (fun a=>d8 a3 f_1c0 b6 a (fun a' =>some (.next a')) (fun e=>some (.done e)) (fun r=>some (.ret r))) s0
def qc7:Shp:=⟨[jua,(1, .fn 86 (.cons (.rp false af.ty) .nil)),qu2,jlx],[]⟩
def qc6:Shp:=⟨[],[]⟩
def jt(a3:qL1)(f_1c0:af):Option Int:=bnd (pb a3 f_1c0 (a3.length:Int) 0) fun oe2=>lk oe2 (fun e2=>some (-1)) (fun r=>some r)
def d5(a3:qL1)(f_1c0:af):Option Bool:=bnd (jt a3 f_1c0) fun r1=>some (decide ((0:Int)≤r1))
def fq{R:Type}(mk n0:qL1)(ms i1:Int)(nx:Int→Option R)(dn:Unit→Option R)(rt:Bool→Option R):Option R:=bif decide (i1<ms)then ah (ix i1 mk.length)<|ah (ix i1 mk.length)<|ah (ix i1 n0.length)<|ah (ix i1 n0.length)<|bif (!decide ((mk.getD i1.toNat 0)=(n0.getD i1.toNat 0)))then rt false else ah (bw .i64 (i1+1))<|nx (i1+1)else dn ()
def qa4(mk n0:qL1)(ms s0:Int):Option (Unit⊕Bool):=ar (fun a=>fq mk n0 ms a (fun a' =>some (.next a')) (fun e=>some (.done e)) (fun r=>some (.ret r))) s0
def qmv:Shp:=⟨[jua,j2j,zgf,zgs],[]⟩
def qmu:Shp:=⟨[],[]⟩
def iu(mk n0:qL1):Option Bool:=bif (!decide ((mk.length:Int)=(n0.length:Int)))then some false else bnd (qa4 mk n0 (mk.length:Int) 0) fun oe1=>lk oe1 (fun e1=>some true) (fun r=>some r)
def im{R:Type}(a4:(List af))(ex gd:Int)(b4:(List af))(f1 ad:Int)(ab:(List af))(av a0:Int)(t1:ByteArray)(q7 t2:qL1)(c1:Int)(nx:Int→Option R)(dn:Unit→Option R)(rt:Bool→Option R):Option R:=bif decide (c1<f1)then ah (ix c1 b4.length)<|ah (ix c1 b4.length)<|bnd (d5 q7 (b4.getD c1.toNat af.z)) fun r1=>bif r1 then bnd (iu q7 (b4.getD c1.toNat af.z).2.1) fun r2=>bif (!r2)then rt false else ah (bw .i64 (c1+1))<|nx (c1+1)else ah (bw .i64 (c1+1))<|nx (c1+1)else dn ()
def qfu(a4:(List af))(ex gd:Int)(b4:(List af))(f1 ad:Int)(ab:(List af))(av a0:Int)(t1:ByteArray)(q7 t2:qL1)(s0:Int):Option (Unit⊕Bool):=ar (fun a=>im a4 ex gd b4 f1 ad ab av a0 t1 q7 t2 a (fun a' =>some (.next a')) (fun e=>some (.done e)) (fun r=>some (.ret r))) s0
def qrt:Shp:=⟨[q25,(4, .ptr 1),zf2,juc,jvw,(18, .d false (.slice af.ty)),ze9,zf0],[qfz,j9u]⟩
def qrs:Shp:=⟨[q25,zf2,juc,jvw],[qfz]⟩
def io{R:Type}(a4:(List af))(ex ad:Int)(ab:(List af))(av a0 gd:Int)(nx:Int→Option R)(dn:Unit→Option R)(rt:Bool→Option R):Option R:=bif decide (gd<ex)then ah (ix gd a4.length)<|ah (ix gd a4.length)<|ah (cut 0 gd ab.length)<|bnd (qfu a4 ex gd (ab.take gd.toNat) ((ab.take gd.toNat).length:Int) ad ab av a0 (a4.getD gd.toNat af.z).1 (a4.getD gd.toNat af.z).2.1 (a4.getD gd.toNat af.z).2.2.1 0) fun oe3=>lk oe3 (fun e3=>ah (bw .i64 (gd+1))<|nx (gd+1)) (fun r=>rt r)else dn ()
def qfv(a4:(List af))(ex ad:Int)(ab:(List af))(av a0 s0:Int):Option (Unit⊕Bool):=ar (fun a=>io a4 ex ad ab av a0 a (fun a' =>some (.next a')) (fun e=>some (.done e)) (fun r=>some (.ret r))) s0
def qrv:Shp:=⟨[q25,zf2,juc,jvw],[qfz]⟩
def qru:Shp:=⟨[],[]⟩
def f6(aa:ca):Option Bool:=bnd (qfv aa.2.1 (aa.2.1.length:Int) aa.1 aa.2.1 aa.2.2.1 aa.2.2.2.1 0) fun oe4=>lk oe4 (fun e4=>some true) (fun r=>some r)
def nh(ip:Int):Option qL1:=bif decide (ip<0)then none else ah (bw .i64 ((0:Int)-0))<|ah (bw .i64 (ip-((0:Int)-0)))<|bif decide ((0:Int)<(ip-((0:Int)-0)))then ah (cut 0 0 0)<|ah (decide (0<(ip-((0:Int)-0))))<|ah (room (ip-((0:Int)-0)).toNat 8)<|ah (cut 0 0 (List.replicate (ip-((0:Int)-0)).toNat (0:Int)).length)<|some (((List.replicate (ip-((0:Int)-0)).toNat (0:Int)).drop 0).take (0-0))else some []
def fa{R:Type}(h0 ex:qL2)(gd pr hn:Int)(nx:(Int×Int)→Option R)(dn:Int→Option R)(rt:qL1→Option R):Option R:=bif decide (hn<gd)then ah (ix hn ex.length)<|ah (ix hn ex.length)<|ah (bw .i64 (pr+((ex.getD hn.toNat []).length:Int)))<|bif decide ((pr+((ex.getD hn.toNat []).length:Int))<0)then none else ah (bw .i64 (hn+1))<|nx ((pr+((ex.getD hn.toNat []).length:Int)),(hn+1))else dn pr
def yi(h0 ex:qL2)(gd:Int)(s0:(Int×Int)):Option (Int⊕qL1):=ar (fun a=>fa h0 ex gd a.1 a.2 (fun a' =>some (.next a')) (fun e=>some (.done e)) (fun r=>some (.ret r))) s0
def qkj:Shp:=⟨[jis,jq2,zgj,jvw,ze8],[]⟩
def qki:Shp:=⟨[jis,jq2],[]⟩
def fb{R:Type}(h5:qL2)(c2 gw:Int)(l1:qL1)(nx:(Int×qL1)→Option R)(dn rt:qL1→Option R):Option R:=bif decide (gw<c2)then ah (ix gw h5.length)<|ah (ix gw h5.length)<|ah (room (l1.length+(h5.getD gw.toNat []).length) 8)<|ah (bw .i64 (gw+1))<|nx ((gw+1),(l1++(h5.getD gw.toNat [])))else dn l1
def yj(h5:qL2)(c2:Int)(s0:(Int×qL1)):Option (qL1⊕qL1):=ar (fun a=>fb h5 c2 a.1 a.2 (fun a' =>some (.next a')) (fun e=>some (.done e)) (fun r=>some (.ret r))) s0
def qkl:Shp:=⟨[(6, .own 0),(25, .d false qT2),zgu,zf1],[qf0]⟩
def qkk:Shp:=⟨[(6, .own 0)],[qf0]⟩
def kq(h0:qL2):Option qL1:=bnd (yi h0 h0 (h0.length:Int) (0,0)) fun oe1=>lk oe1 (fun e1=>bnd (nh e1) fun r2=>bnd (yj h0 (h0.length:Int) (0,r2)) fun oe3=>lk oe3 (fun e3=>some e3) (fun r=>some r)) (fun r=>some r)
def cz{R:Type}(p3:Int)(bo:(List af))(cc b4:Int)(fs:qL1)(ht h9 hf:Int)(f3:qL1)(nx:(Int×Int×qL1)→Option R)(dn:(Int×qL1)→Option R)(rt:Bool→Option R):Option R:=bif decide (h9<ht)then ah (ix h9 fs.length)<|ah (ix h9 fs.length)<|bnd (cm (fs.getD h9.toNat 0) p3 hf f3) fun r3=>ah (decide (r3.2.length=f3.length))<|ah (bw .i64 (h9+1))<|nx ((h9+1),r3.1,r3.2)else dn (hf,f3)
def zg(p3:Int)(bo:(List af))(cc b4:Int)(fs:qL1)(ht:Int)(s0:(Int×Int×qL1)):Option ((Int×qL1)⊕Bool):=ar (fun a=>cz p3 bo cc b4 fs ht a.1 a.2.1 a.2.2 (fun a' =>some (.next a')) (fun e=>some (.done e)) (fun r=>some (.ret r))) s0
def qk4:Shp:=⟨[j9t,j2r,zfx,ze0,zfp,(28, .d true qT1),(29, .d true qT0),zgi],[qt8,qf0]⟩
def qk3:Shp:=⟨[j9t,zfx,ze0,zfp],[qt8,qf0]⟩
def iy{R:Type}(bo:(List af))(cc b4 hf:Int)(f3:qL1)(nx:(Int×Int×qL1)→Option R)(dn:(Int×qL1)→Option R)(rt:Bool→Option R):Option R:=bif decide (b4<cc)then ah (ix b4 bo.length)<|ah (ix b4 bo.length)<|bnd (kq [(bo.getD b4.toNat af.z).2.1,(bo.getD b4.toNat af.z).2.2.1]) fun r2=>bnd (zg b4 bo cc b4 r2 (r2.length:Int) (0,hf,f3)) fun oe4=>lk oe4 (fun e4=>ah (bw .i64 (b4+1))<|nx ((b4+1),e4.1,e4.2)) (fun r=>rt r)else dn (hf,f3)
def jm(bo:(List af))(cc:Int)(s0:(Int×Int×qL1)):Option ((Int×qL1)⊕Bool):=ar (fun a=>iy bo cc a.1 a.2.1 a.2.2 (fun a' =>some (.next a')) (fun e=>some (.done e)) (fun r=>some (.ret r))) s0
def qk6:Shp:=⟨[j9t,zfx,ze0,zfp],[qt8,qf0]⟩
def qk5:Shp:=⟨[j9t],[qt8,qf0]⟩
def fh{R:Type}(k1 n2 hf:Int)(f3:qL1)(nx:(Int×Int×qL1)→Option R)(dn:Unit→Option R)(rt:Bool→Option R):Option R:=bif decide (n2<k1)then bnd (cd n2 hf f3) fun r6=>ah (decide (r6.2.2.length=f3.length))<|bnd (cd 0 r6.2.1 r6.2.2) fun r7=>ah (decide (r7.2.2.length=r6.2.2.length))<|bif (!decide (r6.1=r7.1))then rt false else ah (bw .i64 (n2+1))<|nx ((n2+1),r7.2.1,r7.2.2)else dn ()
def pi(k1:Int)(s0:(Int×Int×qL1)):Option (Unit⊕Bool):=ar (fun a=>fh k1 a.1 a.2.1 a.2.2 (fun a' =>some (.next a')) (fun e=>some (.done e)) (fun r=>some (.ret r))) s0
def qk8:Shp:=⟨[j9t,(44, .d true qT0),(45, .d true qT0)],[qt8,qf0]⟩
def qk7:Shp:=⟨[],[]⟩
def ly(aa:ca):Option Bool:=bif decide ((aa.2.1.length:Int)=0)then some false else bnd (gn aa) fun r1=>bnd (jm aa.2.1 (aa.2.1.length:Int) (0,r1.1,r1.2)) fun oe5=>lk oe5 (fun e5=>bnd (pi (e5.2.length:Int) (0,e5.1,e5.2)) fun oe8=>lk oe8 (fun e8=>some true) (fun r=>some r)) (fun r=>some r)
def qg3(aa:ca):Option Bool:=bif decide ((20:Int)<aa.1)then some true else some (decide ((20:Int)<(aa.2.1.length:Int)))
def x6(ps:af)(hh:Int):Option Int:=bnd (bm ps.2.1 hh) fun r1=>bnd (bm ps.2.2.1 hh) fun r2=>bif r2 then bif (!r1)then some 1 else bif r1 then bif (!r2)then some (-1)else some 0 else some 0 else bif r1 then bif (!r2)then some (-1)else some 0 else some 0
def qd2{R:Type}(hc:qL1)(b6 a4 kn s1:Int)(nx:(Int×Int)→Option R)(dn rt:Int→Option R):Option R:=bif (!decide (s1=0))then ah (!decide (s1=0))<|nx (s1,(Int.tmod kn s1))else dn kn
def qw2(hc:qL1)(b6 a4:Int)(s0:(Int×Int)):Option (Int⊕Int):=ar (fun a=>qd2 hc b6 a4 a.1 a.2 (fun a' =>some (.next a')) (fun e=>some (.done e)) (fun r=>some (.ret r))) s0
def jmz:Shp:=⟨[jq2,q5z,zgb,qu2,jlx],[]⟩
def jmy:Shp:=⟨[jq2,zgb,qu2,jlx],[]⟩
def qd3{R:Type}(hc:qL1)(b6 kn a4:Int)(nx:(Int×Int)→Option R)(dn rt:Int→Option R):Option R:=bif decide (a4<b6)then ah (ix a4 hc.length)<|ah (ix a4 hc.length)<|bif decide ((hc.getD a4.toNat 0)<0)then ah (bw .i64 (0-(hc.getD a4.toNat 0)))<|bnd (qw2 hc b6 a4 (kn,(0-(hc.getD a4.toNat 0)))) fun oe1=>lk oe1 (fun e1=>ah (bw .i64 (a4+1))<|nx (e1,(a4+1))) (fun r=>rt r)else bnd (qw2 hc b6 a4 (kn,(hc.getD a4.toNat 0))) fun oe2=>lk oe2 (fun e2=>ah (bw .i64 (a4+1))<|nx (e2,(a4+1))) (fun r=>rt r)else dn kn
def jbr(hc:qL1)(b6:Int)(s0:(Int×Int)):Option (Int⊕Int):=ar (fun a=>qd3 hc b6 a.1 a.2 (fun a' =>some (.next a')) (fun e=>some (.done e)) (fun r=>some (.ret r))) s0
def jm1:Shp:=⟨[jq2,zgb,qu2,jlx],[]⟩
def jm0:Shp:=⟨[jq2],[]⟩
def qrh(a2:qL1):Option Int:=bnd (jbr a2 (a2.length:Int) (0,0)) fun oe3=>lk oe3 (fun e3=>some e3) (fun r=>some r)
def y9{R:Type}(hc:qL1)(b6 q3 a4:Int)(nx:(Int×Int)→Option R)(dn rt:Int→Option R):Option R:=bif decide (a4<b6)then ah (ix a4 hc.length)<|ah (ix a4 hc.length)<|bif (!decide ((hc.getD a4.toNat 0)=0))then ah (decide (0≤a4))<|ah (bw .i64 (a4+1))<|nx ((yp .or .u64 q3 (qqy .u64 1 a4)),(a4+1))else ah (bw .i64 (a4+1))<|nx (q3,(a4+1))else dn q3
def q57(hc:qL1)(b6:Int)(s0:(Int×Int)):Option (Int⊕Int):=ar (fun a=>y9 hc b6 a.1 a.2 (fun a' =>some (.next a')) (fun e=>some (.done e)) (fun r=>some (.ret r))) s0
def jjq:Shp:=⟨[(3, .d true (.int .u64)),zgb,qu2,jlx],[]⟩
def jjp:Shp:=⟨[(3, .d true (.int .u64))],[]⟩
def ni(a2:qL1):Option Int:=bnd (q57 a2 (a2.length:Int) (0,0)) fun oe1=>lk oe1 (fun e1=>some e1) (fun r=>some r)
def t8{R:Type}(bs bc:qL1)(hs h6:Int)(hg a5:qL2)(h1:Int)(nx:Int→Option R)(dn:Unit→Option R)(rt:(qL2×qL2)→Option R):Option R:=bif decide (h1<h6)then ah (ix h1 hg.length)<|ah (ix h1 hg.length)<|bnd (ni (hg.getD h1.toNat [])) fun r4=>bif decide ((yp .andNot .u64 r4 hs)=0)then rt (a5,hg)else ah (bw .i64 (h1+1))<|nx (h1+1)else dn ()
def qoz(bs bc:qL1)(hs h6:Int)(hg a5:qL2)(s0:Int):Option (Unit⊕(qL2×qL2)):=ar (fun a=>t8 bs bc hs h6 hg a5 a (fun a' =>some (.next a')) (fun e=>some (.done e)) (fun r=>some (.ret r))) s0
def q3f:Shp:=⟨[j2c,zer,ze6,ze1,(53, .own 1),zga,zg0],[zfv,qgq,qgq]⟩
def q3e:Shp:=⟨[j2c,zer,ze6,ze1],[q53,qgq,qgq]⟩
def nj{R:Type}(bs bc:qL1)(hs:Int)(i2:qL2)(op:Int)(a5 bl:qL2)(g0:Int)(hp hq:qL2)(nx:(Int×qL2×qL2)→Option R)(dn rt:(qL2×qL2)→Option R):Option R:=bif decide (g0<op)then ah (ix g0 i2.length)<|ah (ix g0 i2.length)<|bnd (ni (i2.getD g0.toNat [])) fun r6=>bif (!decide ((yp .andNot .u64 hs r6)=0))then ah (ix g0 a5.length)<|ah (ix g0 a5.length)<|ah (room (hp.length+1) 24)<|ah (room (hq.length+1) 24)<|ah (bw .i64 (g0+1))<|nx ((g0+1),(hp++[(a5.getD g0.toNat [])]),(hq++[(i2.getD g0.toNat [])]))else ah (bw .i64 (g0+1))<|nx ((g0+1),hp,hq)else dn (hp,hq)
def qo0(bs bc:qL1)(hs:Int)(i2:qL2)(op:Int)(a5 bl:qL2)(s0:(Int×qL2×qL2)):Option ((qL2×qL2)⊕(qL2×qL2)):=ar (fun a=>nj bs bc hs i2 op a5 bl a.1 a.2.1 a.2.2 (fun a' =>some (.next a')) (fun e=>some (.done e)) (fun r=>some (.ret r))) s0
def q3h:Shp:=⟨[j2c,zer,ze6,ze1,zg6,(69, .d true qT2),(70, .d true qT0),(71, .d true qT0)],[jvz,q2r,qgq,qgq]⟩
def q3g:Shp:=⟨[j2c,zer,ze6,zg6],[jvz,q2r,qgq,qgq]⟩
def qdg(bs bc:qL1)(a5 bl:qL2):Option (qL2×qL2):=bnd (b8 bs) fun r1=>ah (room (r1.length+bc.length) 8)<|bnd (qrh (r1++bc)) fun r2=>bif decide ((1:Int)<r2)then none else bnd (ni bc) fun r3=>bnd (qoz bs bc r3 (bl.length:Int) bl a5 0) fun oe5=>lk oe5 (fun e5=>bnd (qo0 bs bc r3 bl (bl.length:Int) a5 bl (0,[],[])) fun oe7=>lk oe7 (fun e7=>ah (room (e7.1.length+1) 24)<|ah (room (e7.2.length+1) 24)<|some ((e7.1++[bs]),(e7.2++[bc]))) (fun r=>some r)) (fun r=>some r)
def qim{R:Type}(g7:Int)(lp:qL1)(q0:Int)(o1:qL1)(dw bo:Int)(b1:qL1)(nx:(Int×qL1)→Option R)(dn rt:qL1→Option R):Option R:=bif decide (bo<dw)then ah (ix bo lp.length)<|ah (ix bo lp.length)<|ah (bw .i64 (g7*(lp.getD bo.toNat 0)))<|ah (ix bo o1.length)<|ah (ix bo o1.length)<|ah (bw .i64 (q0*(o1.getD bo.toNat 0)))<|ah (bw .i64 ((g7*(lp.getD bo.toNat 0))+(q0*(o1.getD bo.toNat 0))))<|ah (ix bo b1.length)<|ah (ix bo b1.length)<|ah (bw .i64 (bo+1))<|nx ((bo+1),(b1.set bo.toNat ((g7*(lp.getD bo.toNat 0))+(q0*(o1.getD bo.toNat 0)))))else dn b1
def jbz(g7:Int)(lp:qL1)(q0:Int)(o1:qL1)(dw:Int)(s0:(Int×qL1)):Option (qL1⊕qL1):=ar (fun a=>qim g7 lp q0 o1 dw a.1 a.2 (fun a' =>some (.next a')) (fun e=>some (.done e)) (fun r=>some (.ret r))) s0
def jm6:Shp:=⟨[jqp,j2j,zgm,(3, .d false qT1),(9, .own 0),zf7,zet],[qf0]⟩
def jm5:Shp:=⟨[(9, .own 0)],[qf0]⟩
def qg7(g7:Int)(lp:qL1)(q0:Int)(o1:qL1):Option qL1:=ah (qqv (lp.length:Int) (lp.length:Int) 8)<|bnd (jbz g7 lp q0 o1 (lp.length:Int) (0,(List.replicate (lp.length:Int).toNat (0:Int)))) fun oe1=>lk oe1 (fun e1=>some e1) (fun r=>some r)
def sd{R:Type}(m2 f2:Int)(bc:qL1)(a5 bl:qL2)(h7:Int)(bs:qL1)(nx:(Int×qL1)→Option R)(dn:qL1→Option R)(rt:(qL2×qL2×qL1×qL1)→Option R):Option R:=bif decide (h7<f2)then ah (ix h7 bs.length)<|ah (ix h7 bs.length)<|ah (!decide (m2=0))<|ah (bw .i64 (Int.tdiv (bs.getD h7.toNat 0) m2))<|ah (ix h7 bs.length)<|ah (ix h7 bs.length)<|ah (bw .i64 (h7+1))<|nx ((h7+1),(bs.set h7.toNat (Int.tdiv (bs.getD h7.toNat 0) m2)))else dn bs
def qkx(m2 f2:Int)(bc:qL1)(a5 bl:qL2)(s0:(Int×qL1)):Option (qL1⊕(qL2×qL2×qL1×qL1)):=ar (fun a=>sd m2 f2 bc a5 bl a.1 a.2 (fun a' =>some (.next a')) (fun e=>some (.done e)) (fun r=>some (.ret r))) s0
def qy5:Shp:=⟨[j2c,(1, .own 1),(2, .own 2),jnf,zgg,(24, .d true qT0)],[zfw,qf0,qf0,qgq,qgq]⟩
def qy4:Shp:=⟨[j2c,(1, .own 1),(2, .own 2),jnf],[zfw,qf0,qf0,qgq,qgq]⟩
def se{R:Type}(bs:qL1)(m2 sp:Int)(a5 bl:qL2)(lo:Int)(bc k4:qL1)(nx:(Int×qL1×qL1)→Option R)(dn:(qL1×qL1)→Option R)(rt:(qL2×qL2×qL1×qL1)→Option R):Option R:=bif decide (lo<sp)then ah (ix lo bc.length)<|ah (ix lo bc.length)<|ah (!decide (m2=0))<|ah (bw .i64 (Int.tdiv (bc.getD lo.toNat 0) m2))<|ah (ix lo bc.length)<|ah (ix lo bc.length)<|ah (bw .i64 (lo+1))<|nx ((lo+1),(bc.set lo.toNat (Int.tdiv (bc.getD lo.toNat 0) m2)),[])else dn (bc,[])
def qky(bs:qL1)(m2 sp:Int)(a5 bl:qL2)(s0:(Int×qL1×qL1)):Option ((qL1×qL1)⊕(qL2×qL2×qL1×qL1)):=ar (fun a=>se bs m2 sp a5 bl a.1 a.2.1 a.2.2 (fun a' =>some (.next a')) (fun e=>some (.done e)) (fun r=>some (.ret r))) s0
def qy7:Shp:=⟨[j2c,zer,(2, .own 1),jnf,(36, .d true qT0),(37, .d true qT0)],[q2r,qf0,qgq,qgq,jfq]⟩
def qy6:Shp:=⟨[j2c,zer,(2, .own 1)],[q2r,qf0,qgq,qgq,jfq]⟩
def iw{R:Type}(bs bc:qL1)(hs h6:Int)(hg a5:qL2)(h1:Int)(k3 k4:qL1)(nx:(Int×qL1×qL1)→Option R)(dn:(qL1×qL1)→Option R)(rt:(qL2×qL2×qL1×qL1)→Option R):Option R:=bif decide (h1<h6)then ah (ix h1 hg.length)<|ah (ix h1 hg.length)<|bnd (ni (hg.getD h1.toNat [])) fun r6=>bif decide ((yp .andNot .u64 r6 hs)=0)then rt (a5,hg,[],[])else ah (bw .i64 (h1+1))<|nx ((h1+1),[],[])else dn ([],[])
def qkz(bs bc:qL1)(hs h6:Int)(hg a5:qL2)(s0:(Int×qL1×qL1)):Option ((qL1×qL1)⊕(qL2×qL2×qL1×qL1)):=ar (fun a=>iw bs bc hs h6 hg a5 a.1 a.2.1 a.2.2 (fun a' =>some (.next a')) (fun e=>some (.done e)) (fun r=>some (.ret r))) s0
def qy9:Shp:=⟨[j2c,zer,ze6,ze1,(53, .own 1),zga,zg0],[zfv,qgq,qgq,jfq,jfq]⟩
def qy8:Shp:=⟨[j2c,zer,ze6,ze1],[q53,qgq,qgq,jfq,jfq]⟩
def lu{R:Type}(bs bc:qL1)(hs:Int)(i2:qL2)(op:Int)(a5 bl:qL2)(g0:Int)(hp hq:qL2)(k4:qL1)(nx:(Int×qL2×qL2×qL1)→Option R)(dn:(qL2×qL2×qL1)→Option R)(rt:(qL2×qL2×qL1×qL1)→Option R):Option R:=bif decide (g0<op)then ah (ix g0 i2.length)<|ah (ix g0 i2.length)<|bnd (ni (i2.getD g0.toNat [])) fun r8=>bif (!decide ((yp .andNot .u64 hs r8)=0))then ah (ix g0 a5.length)<|ah (ix g0 a5.length)<|ah (room (hp.length+1) 24)<|ah (room (hq.length+1) 24)<|ah (bw .i64 (g0+1))<|nx ((g0+1),(hp++[(a5.getD g0.toNat [])]),(hq++[(i2.getD g0.toNat [])]),[])else ah (bw .i64 (g0+1))<|nx ((g0+1),hp,hq,[])else dn (hp,hq,[])
def qk0(bs bc:qL1)(hs:Int)(i2:qL2)(op:Int)(a5 bl:qL2)(s0:(Int×qL2×qL2×qL1)):Option ((qL2×qL2×qL1)⊕(qL2×qL2×qL1×qL1)):=ar (fun a=>lu bs bc hs i2 op a5 bl a.1 a.2.1 a.2.2.1 a.2.2.2 (fun a' =>some (.next a')) (fun e=>some (.done e)) (fun r=>some (.ret r))) s0
def qzb:Shp:=⟨[j2c,zer,ze6,ze1,zg6,(69, .d true qT2),(70, .d true qT0),(71, .d true qT0)],[jvz,q2r,qgq,qgq,jfq]⟩
def qza:Shp:=⟨[j2c,zer,ze6,zg6],[jvz,q2r,qgq,qgq,jfq]⟩
def zd{R:Type}(bs bc:qL1)(a5 bl:qL2)(k3 k4:qL1)(dn rt:(qL2×qL2×qL1×qL1)→Option R):Option R:=bnd (ni bc) fun r5=>bnd (qkz bs bc r5 (bl.length:Int) bl a5 (0,[],[])) fun oe7=>lk oe7 (fun e7=>bnd (qk0 bs bc r5 bl (bl.length:Int) a5 bl (0,[],[],[])) fun oe9=>lk oe9 (fun e9=>ah (room (e9.1.length+1) 24)<|ah (room (e9.2.1.length+1) 24)<|dn ((e9.1++[bs]),(e9.2.1++[bc]),[],[])) (fun r=>rt r)) (fun r=>rt r)
def t7(bs bc:qL1)(a5 bl:qL2)(k3 k4:qL1):Option ((qL2×qL2×qL1×qL1)⊕(qL2×qL2×qL1×qL1)):=zd bs bc a5 bl k3 k4 (fun e=>some (.inl e)) (fun r=>some (.inr r))
def qzd:Shp:=⟨[j2c,zer,ze6],[q53,qgq,qgq,jfq,jfq]⟩
def qzc:Shp:=⟨[],[q53,qgq,qgq,jfq,jfq]⟩
def zc(bs bc:qL1)(a5 bl:qL2):Option (qL2×qL2×qL1×qL1):=bnd (b8 bs) fun r1=>ah (room (r1.length+bc.length) 8)<|bnd (qrh (r1++bc)) fun r2=>bif decide ((1:Int)<r2)then bnd (qkx r2 (bs.length:Int) bc a5 bl (0,bs)) fun oe3=>lk oe3 (fun e3=>bnd (qky e3 r2 (bc.length:Int) a5 bl (0,bc,[])) fun oe4=>lk oe4 (fun e4=>bnd (t7 e3 e4.1 a5 bl [] []) fun oe10=>lk oe10 (fun e10=>some (e10.1,e10.2.1,[],[])) (fun r=>some r)) (fun r=>some r)) (fun r=>some r)else bnd (t7 bs bc a5 bl [] []) fun oe11=>lk oe11 (fun e11=>some (e11.1,e11.2.1,[],[])) (fun r=>some r)
def fx{R:Type}(hk cc:Int)(a5 bl:qL2)(b4:Int)(hl hm:qL2)(nx:(Int×qL2×qL2)→Option R)(dn:(qL2×qL2)→Option R)(rt:(Bool×qL2×qL2)→Option R):Option R:=bif decide (b4<cc)then ah (ix b4 a5.length)<|ah (ix b4 a5.length)<|ah (ix hk (a5.getD b4.toNat []).length)<|ah (ix hk (a5.getD b4.toNat []).length)<|bif decide (((a5.getD b4.toNat []).getD hk.toNat 0)=0)then ah (ix b4 a5.length)<|ah (ix b4 a5.length)<|ah (ix b4 bl.length)<|ah (ix b4 bl.length)<|bnd (qdg (a5.getD b4.toNat []) (bl.getD b4.toNat []) hl hm) fun r1=>ah (bw .i64 (b4+1))<|nx ((b4+1),r1.1,r1.2)else ah (bw .i64 (b4+1))<|nx ((b4+1),hl,hm)else dn (hl,hm)
def qbv(hk cc:Int)(a5 bl:qL2)(s0:(Int×qL2×qL2)):Option ((qL2×qL2)⊕(Bool×qL2×qL2)):=ar (fun a=>fx hk cc a5 bl a.1 a.2.1 a.2.2 (fun a' =>some (.next a')) (fun e=>some (.done e)) (fun r=>some (.ret r))) s0
def qnl:Shp:=⟨[j2c,qnf,j2f,ze0,zfp],[q2r,jty,qgq,qgq,qgq,qgq]⟩
def qnk:Shp:=⟨[j2c,qnf,j2f],[q2r,jty,qgq,qgq,qgq,qgq]⟩
def d3{R:Type}(hk eu hg h6 sv:Int)(a5 bl:qL2)(hd:Int)(hl hm:qL2)(nx:(Int×qL2×qL2)→Option R)(dn:(qL2×qL2)→Option R)(rt:(Bool×qL2×qL2)→Option R):Option R:=bif decide (hd<sv)then ah (ix eu a5.length)<|ah (ix eu a5.length)<|ah (ix hk (a5.getD eu.toNat []).length)<|ah (ix hk (a5.getD eu.toNat []).length)<|ah (ix hd a5.length)<|ah (ix hd a5.length)<|ah (ix hk (a5.getD hd.toNat []).length)<|ah (ix hk (a5.getD hd.toNat []).length)<|bif decide (((a5.getD eu.toNat []).getD hk.toNat 0)≤0)then ah (bw .i64 (hd+1))<|nx ((hd+1),hl,hm)else bif decide ((0:Int)≤((a5.getD hd.toNat []).getD hk.toNat 0))then ah (bw .i64 (hd+1))<|nx ((hd+1),hl,hm)else ah (bw .i64 (0-((a5.getD hd.toNat []).getD hk.toNat 0)))<|ah (ix eu a5.length)<|ah (ix eu a5.length)<|ah (ix hd a5.length)<|ah (ix hd a5.length)<|bnd (qg7 (0-((a5.getD hd.toNat []).getD hk.toNat 0)) (a5.getD eu.toNat []) ((a5.getD eu.toNat []).getD hk.toNat 0) (a5.getD hd.toNat [])) fun r3=>ah (bw .i64 (0-((a5.getD hd.toNat []).getD hk.toNat 0)))<|ah (ix eu bl.length)<|ah (ix eu bl.length)<|ah (ix hd bl.length)<|ah (ix hd bl.length)<|bnd (qg7 (0-((a5.getD hd.toNat []).getD hk.toNat 0)) (bl.getD eu.toNat []) ((a5.getD eu.toNat []).getD hk.toNat 0) (bl.getD hd.toNat [])) fun r4=>bnd (zc r3 r4 hl hm) fun r5=>bif decide ((40000:Int)<(r5.2.1.length:Int))then rt (false,a5,bl)else ah (bw .i64 (hd+1))<|nx ((hd+1),r5.1,r5.2.1)else dn (hl,hm)
def qbw(hk eu hg h6 sv:Int)(a5 bl:qL2)(s0:(Int×qL2×qL2)):Option ((qL2×qL2)⊕(Bool×qL2×qL2)):=ar (fun a=>d3 hk eu hg h6 sv a5 bl a.1 a.2.1 a.2.2 (fun a' =>some (.next a')) (fun e=>some (.done e)) (fun r=>some (.ret r))) s0
def qnn:Shp:=⟨[j2c,qnf,j2f,qu2,zgz,zga,(61, .d true qT0),(62, .d true qT0)],[q2r,jty,qgq,qgq,qgq,qgq]⟩
def qnm:Shp:=⟨[j2c,qnf,j2f,zgz,zga],[q2r,jty,qgq,qgq,qgq,qgq]⟩
def jj{R:Type}(hk hg:Int)(a5 bl:qL2)(h6:Int)(hl hm:qL2)(nx:(Int×qL2×qL2)→Option R)(dn:(qL2×qL2)→Option R)(rt:(Bool×qL2×qL2)→Option R):Option R:=bif decide (h6<hg)then bnd (qbw hk h6 hg h6 (a5.length:Int) a5 bl (0,hl,hm)) fun oe6=>lk oe6 (fun e6=>ah (bw .i64 (h6+1))<|nx ((h6+1),e6.1,e6.2)) (fun r=>rt r)else dn (hl,hm)
def qbx(hk hg:Int)(a5 bl:qL2)(s0:(Int×qL2×qL2)):Option ((qL2×qL2)⊕(Bool×qL2×qL2)):=ar (fun a=>jj hk hg a5 bl a.1 a.2.1 a.2.2 (fun a' =>some (.next a')) (fun e=>some (.done e)) (fun r=>some (.ret r))) s0
def qnp:Shp:=⟨[j2c,qnf,j2f,zgz,zga],[q2r,jty,qgq,qgq,qgq,qgq]⟩
def qno:Shp:=⟨[j2c,j2f],[q2r,jty,qgq,qgq,qgq,qgq]⟩
def nc(hk:Int)(a5 bl:qL2):Option (Bool×qL2×qL2):=bnd (qbv hk (a5.length:Int) a5 bl (0,[],[])) fun oe2=>lk oe2 (fun e2=>bnd (qbx hk (a5.length:Int) a5 bl (0,e2.1,e2.2)) fun oe7=>lk oe7 (fun e7=>some (true,e7.1,e7.2)) (fun r=>some r)) (fun r=>some r)
def jw(g7:qL2):Option qL2:=jvm g7
def qg4(t3:Int):Option Bool:=some (decide ((1048576:Int)<t3))
def dq{R:Type}(a3:qL1)(b6 a4:Int)(nx:Int→Option R)(dn:Unit→Option R)(rt:Int→Option R):Option R:=bif decide (a4<b6)then ah (ix a4 a3.length)<|ah (ix a4 a3.length)<|bnd (qg4 (a3.getD a4.toNat 0)) fun r1=>bif r1 then rt a4 else ah (bw .i64 (a4+1))<|nx (a4+1)else dn ()
def oc(a3:qL1)(b6 s0:Int):Option (Unit⊕Int):=ar (fun a=>dq a3 b6 a (fun a' =>some (.next a')) (fun e=>some (.done e)) (fun r=>some (.ret r))) s0
def qbm:Shp:=⟨[jua,(1, .fn 133 .nil),qu2,jlx],[]⟩
def qbl:Shp:=⟨[],[]⟩
def jd(a3:qL1):Option Int:=bnd (oc a3 (a3.length:Int) 0) fun oe2=>lk oe2 (fun e2=>some (-1)) (fun r=>some r)
def dm(a3:qL1):Option Bool:=bnd (jd a3) fun r1=>some (decide ((0:Int)≤r1))
def wh{R:Type}(ez kv:qL2)(dw bo:Int)(l3 kt:qL2)(nx:(Int×qL2×qL2)→Option R)(dn:(qL2×qL2)→Option R)(rt:(qL2×Int)→Option R):Option R:=bif decide (bo<dw)then ah (ix bo kv.length)<|ah (ix bo kv.length)<|ah (qqv (ez.length:Int) (ez.length:Int) 8)<|ah (ix bo (List.replicate (ez.length:Int).toNat (0:Int)).length)<|ah (ix bo (List.replicate (ez.length:Int).toNat (0:Int)).length)<|bnd (b8 (kv.getD bo.toNat [])) fun r1=>ah (room (l3.length+1) 24)<|ah (room (kt.length+1) 24)<|ah (bw .i64 (bo+1))<|nx ((bo+1),(l3++[r1]),(kt++[((List.replicate (ez.length:Int).toNat (0:Int)).set bo.toNat 1)]))else dn (l3,kt)
def qrj(ez kv:qL2)(dw:Int)(s0:(Int×qL2×qL2)):Option ((qL2×qL2)⊕(qL2×Int)):=ar (fun a=>wh ez kv dw a.1 a.2.1 a.2.2 (fun a' =>some (.next a')) (fun e=>some (.done e)) (fun r=>some (.ret r))) s0
def q7l:Shp:=⟨[jis,jv0,(14, .d false qT2),zf7,zet],[q53,qgq,qgq]⟩
def q7k:Shp:=⟨[jis,jv0],[q53,qgq,qgq]⟩
def wi{R:Type}(h1 j1:Int)(l3 kt:qL2)(nx:(Int×qL2×qL2)→Option R)(dn:(qL2×qL2)→Option R)(rt:(qL2×Int)→Option R):Option R:=bif decide (j1<h1)then bnd (nc j1 l3 kt) fun r3=>bif (!r3.1)then rt ([],5)else ah (bw .i64 (j1+1))<|nx ((j1+1),r3.2.1,r3.2.2)else dn (l3,kt)
def qrk(h1:Int)(s0:(Int×qL2×qL2)):Option ((qL2×qL2)⊕(qL2×Int)):=ar (fun a=>wi h1 a.1 a.2.1 a.2.2 (fun a' =>some (.next a')) (fun e=>some (.done e)) (fun r=>some (.ret r))) s0
def q7n:Shp:=⟨[jv0,zg0,(56, .d true qT0)],[q53,qgq,qgq]⟩
def q7m:Shp:=⟨[jv0],[q53,qgq,qgq]⟩
def wj{R:Type}(b1 mv:qL2)(h2 pw:Int)(nx:Int→Option R)(dn:Unit→Option R)(rt:(qL2×Int)→Option R):Option R:=bif decide (pw<h2)then ah (ix pw mv.length)<|ah (ix pw mv.length)<|bnd (dm (mv.getD pw.toNat [])) fun r6=>bif r6 then rt ([],6)else ah (bw .i64 (pw+1))<|nx (pw+1)else dn ()
def qrl(b1 mv:qL2)(h2 s0:Int):Option (Unit⊕(qL2×Int)):=ar (fun a=>wj b1 mv h2 a (fun a' =>some (.next a')) (fun e=>some (.done e)) (fun r=>some (.ret r))) s0
def q7p:Shp:=⟨[(9, .d true qT2),(73, .d true qT2),(74, .d true qT0),(75, .d true qT0)],[]⟩
def q7o:Shp:=⟨[(9, .d true qT2)],[]⟩
def qe1{R:Type}(l3 kt:qL2)(dn:Unit→Option R)(rt:(qL2×Int)→Option R):Option R:=bnd (jw kt) fun r5=>ah (decide (r5.length=kt.length))<|bif decide ((1000:Int)<(r5.length:Int))then rt ([],5)else bnd (qrl r5 r5 (r5.length:Int) 0) fun oe7=>lk oe7 (fun e7=>rt (r5,0)) (fun r=>rt r)
def tc(l3 kt:qL2):Option (Unit⊕(qL2×Int)):=qe1 l3 kt (fun e=>some (.inl e)) (fun r=>some (.inr r))
def q7r:Shp:=⟨[jv0],[.cs 135 2 1 (.cons (.d true qT2) (.cons (.own 1) .nil)),qgq]⟩
def q7q:Shp:=⟨[],[]⟩
def za(ez:qL2):Option (qL2×Int):=bnd (qrj ez ez (ez.length:Int) (0,[],[])) fun oe2=>lk oe2 (fun e2=>bif decide ((0:Int)<(ez.length:Int))then ah (ix 0 ez.length)<|ah (ix 0 ez.length)<|bnd (qrk ((ez.getD 0 []).length:Int) (0,e2.1,e2.2)) fun oe4=>lk oe4 (fun e4=>bnd (tc e4.1 e4.2) fun oe8=>lk oe8 (fun e8=>none) (fun r=>some r)) (fun r=>some r)else bnd (tc e2.1 e2.2) fun oe9=>lk oe9 (fun e9=>none) (fun r=>some r)) (fun r=>some r)
def yz{R:Type}(bb dw bo:Int)(fr:(List af))(gj ad:Int)(ab:(List af))(av a0:Int)(e0:qL2)(f2:Int)(dk:qL1)(nx:(Int×qL1)→Option R)(dn:qL1→Option R)(rt:(qL2×Int)→Option R):Option R:=bif decide (f2<gj)then ah (ix f2 fr.length)<|ah (ix f2 fr.length)<|bnd (x6 (fr.getD f2.toNat af.z) bb) fun r3=>ah (room (dk.length+1) 8)<|ah (bw .i64 (f2+1))<|nx ((f2+1),(dk++[r3]))else dn dk
def qu8(bb dw bo:Int)(fr:(List af))(gj ad:Int)(ab:(List af))(av a0:Int)(e0:qL2)(s0:(Int×qL1)):Option (qL1⊕(qL2×Int)):=ar (fun a=>yz bb dw bo fr gj ad ab av a0 e0 a.1 a.2 (fun a' =>some (.next a')) (fun e=>some (.done e)) (fun r=>some (.ret r))) s0
def jbn:Shp:=⟨[q25,jfn,q5z,zg7,zf7,zet,zge,zgt,zgg],[qfz,qgq,qf0]⟩
def jbm:Shp:=⟨[q25,jfn,zg7,zf7,zet],[qfz,qgq,qf0]⟩
def y0{R:Type}(dw ad:Int)(ab:(List af))(av a0 bo:Int)(e0:qL2)(nx:(Int×qL2)→Option R)(dn:qL2→Option R)(rt:(qL2×Int)→Option R):Option R:=bif decide (bo<dw)then bnd (qu8 bo dw bo ab (ab.length:Int) ad ab av a0 e0 (0,[])) fun oe4=>lk oe4 (fun e4=>ah (room (e0.length+1) 24)<|ah (bw .i64 (bo+1))<|nx ((bo+1),(e0++[e4]))) (fun r=>rt r)else dn e0
def qjq(dw ad:Int)(ab:(List af))(av a0:Int)(s0:(Int×qL2)):Option (qL2⊕(qL2×Int)):=ar (fun a=>y0 dw ad ab av a0 a.1 a.2 (fun a' =>some (.next a')) (fun e=>some (.done e)) (fun r=>some (.ret r))) s0
def jbp:Shp:=⟨[q25,jfn,zf7,zet],[qfz,qgq]⟩
def jbo:Shp:=⟨[zfm],[qgq]⟩
def qik(aa:ca):Option (qL2×Int):=bnd (gb aa) fun r1=>bif (!r1)then some ([],1)else bnd (qg3 aa) fun r2=>bif r2 then some ([],5)else bnd (qjq aa.1 aa.1 aa.2.1 aa.2.2.1 aa.2.2.2.1 (0,[])) fun oe5=>lk oe5 (fun e5=>bnd (za e5) fun r6=>some (r6.1,r6.2)) (fun r=>some r)
def m9{R:Type}(dw:(List af))(bo cc f2 ad:Int)(ab:(List af))(av a0:Int)(e0:qL2)(sb:ByteArray)(sf sl:qL1)(h7:Int)(q5:qL1)(nx:(Int×qL1)→Option R)(dn:qL1→Option R)(rt:(qL2×Int)→Option R):Option R:=bif decide (h7<f2)then bnd (x6 (sb,sf,sl,()) h7) fun r3=>ah (room (q5.length+1) 8)<|ah (bw .i64 (h7+1))<|nx ((h7+1),(q5++[r3]))else dn q5
def qg1(dw:(List af))(bo cc f2 ad:Int)(ab:(List af))(av a0:Int)(e0:qL2)(sb:ByteArray)(sf sl:qL1)(s0:(Int×qL1)):Option (qL1⊕(qL2×Int)):=ar (fun a=>m9 dw bo cc f2 ad ab av a0 e0 sb sf sl a.1 a.2 (fun a' =>some (.next a')) (fun e=>some (.done e)) (fun r=>some (.ret r))) s0
def qur:Shp:=⟨[q25,jfn,zg2,(7, .own 3),ze7,zet,ze0,zgg,(24, .d true qT0)],[qfz,qgq,j9u,qf0]⟩
def quq:Shp:=⟨[q25,jfn,(7, .own 2),ze7,zet,ze0],[qfz,qgq,qf0]⟩
def na{R:Type}(dw:(List af))(bo ad:Int)(ab:(List af))(av a0 cc:Int)(e0:qL2)(nx:(Int×qL2)→Option R)(dn:qL2→Option R)(rt:(qL2×Int)→Option R):Option R:=bif decide (cc<bo)then ah (ix cc dw.length)<|ah (ix cc dw.length)<|bnd (qg1 dw bo cc ad ad ab av a0 e0 (dw.getD cc.toNat af.z).1 (dw.getD cc.toNat af.z).2.1 (dw.getD cc.toNat af.z).2.2.1 (0,[])) fun oe4=>lk oe4 (fun e4=>ah (room (e0.length+1) 24)<|ah (bw .i64 (cc+1))<|nx ((cc+1),(e0++[e4]))) (fun r=>rt r)else dn e0
def xk(dw:(List af))(bo ad:Int)(ab:(List af))(av a0:Int)(s0:(Int×qL2)):Option (qL2⊕(qL2×Int)):=ar (fun a=>na dw bo ad ab av a0 a.1 a.2 (fun a' =>some (.next a')) (fun e=>some (.done e)) (fun r=>some (.ret r))) s0
def qut:Shp:=⟨[q25,jfn,ze7,zet,ze0],[qfz,qgq]⟩
def qus:Shp:=⟨[zfm],[qgq]⟩
def t6(aa:ca):Option (qL2×Int):=bnd (gb aa) fun r1=>bif (!r1)then some ([],1)else bnd (qg3 aa) fun r2=>bif r2 then some ([],5)else bnd (xk aa.2.1 (aa.2.1.length:Int) aa.1 aa.2.1 aa.2.2.1 aa.2.2.2.1 (0,[])) fun oe5=>lk oe5 (fun e5=>bnd (za e5) fun r6=>some (r6.1,r6.2)) (fun r=>some r)
def pp{R:Type}(bb oo kx:Int)(k1:(List af))(n2 ad:Int)(ab:(List af))(av a0 b0:Int)(ap:qL2)(nx:(Int×qL2)→Option R)(dn:qL2→Option R)(rt:(Int×qL2)→Option R):Option R:=bif decide (b0<n2)then ah (ix b0 k1.length)<|ah (ix b0 k1.length)<|bnd (bm (k1.getD b0.toNat af.z).2.2.1 bb) fun r2=>bif r2 then ah (ix bb ap.length)<|ah (ix bb ap.length)<|ah (ix b0 (ap.getD bb.toNat []).length)<|ah (ix b0 (ap.getD bb.toNat []).length)<|ah (bw .i64 (((ap.getD bb.toNat []).getD b0.toNat 0)+1))<|ah (ix b0 (ap.getD bb.toNat []).length)<|ah (ix b0 (ap.getD bb.toNat []).length)<|bnd (bm (k1.getD b0.toNat af.z).2.1 bb) fun r3=>bif r3 then ah (ix bb (ap.set bb.toNat ((ap.getD bb.toNat []).set b0.toNat (((ap.getD bb.toNat []).getD b0.toNat 0)+1))).length)<|ah (ix bb (ap.set bb.toNat ((ap.getD bb.toNat []).set b0.toNat (((ap.getD bb.toNat []).getD b0.toNat 0)+1))).length)<|ah (ix b0 ((ap.set bb.toNat ((ap.getD bb.toNat []).set b0.toNat (((ap.getD bb.toNat []).getD b0.toNat 0)+1))).getD bb.toNat []).length)<|ah (ix b0 ((ap.set bb.toNat ((ap.getD bb.toNat []).set b0.toNat (((ap.getD bb.toNat []).getD b0.toNat 0)+1))).getD bb.toNat []).length)<|ah (bw .i64 ((((ap.set bb.toNat ((ap.getD bb.toNat []).set b0.toNat (((ap.getD bb.toNat []).getD b0.toNat 0)+1))).getD bb.toNat []).getD b0.toNat 0)-1))<|ah (ix b0 ((ap.set bb.toNat ((ap.getD bb.toNat []).set b0.toNat (((ap.getD bb.toNat []).getD b0.toNat 0)+1))).getD bb.toNat []).length)<|ah (ix b0 ((ap.set bb.toNat ((ap.getD bb.toNat []).set b0.toNat (((ap.getD bb.toNat []).getD b0.toNat 0)+1))).getD bb.toNat []).length)<|ah (bw .i64 (b0+1))<|nx ((b0+1),((ap.set bb.toNat ((ap.getD bb.toNat []).set b0.toNat (((ap.getD bb.toNat []).getD b0.toNat 0)+1))).set bb.toNat (((ap.set bb.toNat ((ap.getD bb.toNat []).set b0.toNat (((ap.getD bb.toNat []).getD b0.toNat 0)+1))).getD bb.toNat []).set b0.toNat ((((ap.set bb.toNat ((ap.getD bb.toNat []).set b0.toNat (((ap.getD bb.toNat []).getD b0.toNat 0)+1))).getD bb.toNat []).getD b0.toNat 0)-1))))else ah (bw .i64 (b0+1))<|nx ((b0+1),(ap.set bb.toNat ((ap.getD bb.toNat []).set b0.toNat (((ap.getD bb.toNat []).getD b0.toNat 0)+1))))else bnd (bm (k1.getD b0.toNat af.z).2.1 bb) fun r4=>bif r4 then ah (ix bb ap.length)<|ah (ix bb ap.length)<|ah (ix b0 (ap.getD bb.toNat []).length)<|ah (ix b0 (ap.getD bb.toNat []).length)<|ah (bw .i64 (((ap.getD bb.toNat []).getD b0.toNat 0)-1))<|ah (ix b0 (ap.getD bb.toNat []).length)<|ah (ix b0 (ap.getD bb.toNat []).length)<|ah (bw .i64 (b0+1))<|nx ((b0+1),(ap.set bb.toNat ((ap.getD bb.toNat []).set b0.toNat (((ap.getD bb.toNat []).getD b0.toNat 0)-1))))else ah (bw .i64 (b0+1))<|nx ((b0+1),ap)else dn ap
def qiz(bb oo kx:Int)(k1:(List af))(n2 ad:Int)(ab:(List af))(av a0:Int)(s0:(Int×qL2)):Option (qL2⊕(Int×qL2)):=ar (fun a=>pp bb oo kx k1 n2 ad ab av a0 a.1 a.2 (fun a' =>some (.next a')) (fun e=>some (.done e)) (fun r=>some (.ret r))) s0
def qxd:Shp:=⟨[q25,(4, .own 1),q5z,zgw,zgx,(44, .d false (.slice af.ty)),(45, .d true qT0),(46, .d true qT0)],[qfz,q7a]⟩
def qxc:Shp:=⟨[q25,(4, .own 1),zgw,zgx],[qfz,q7a]⟩
def pq{R:Type}(oo ad:Int)(ab:(List af))(av a0 kx:Int)(ap:qL2)(nx:(Int×qL2)→Option R)(dn:qL2→Option R)(rt:(Int×qL2)→Option R):Option R:=bif decide (kx<oo)then ah (qqv (ab.length:Int) (ab.length:Int) 8)<|ah (ix kx ap.length)<|ah (ix kx ap.length)<|bnd (qiz kx oo kx ab (ab.length:Int) ad ab av a0 (0,(ap.set kx.toNat (List.replicate (ab.length:Int).toNat (0:Int))))) fun oe5=>lk oe5 (fun e5=>ah (bw .i64 (kx+1))<|nx ((kx+1),e5)) (fun r=>rt r)else dn ap
def qi0(oo ad:Int)(ab:(List af))(av a0:Int)(s0:(Int×qL2)):Option (qL2⊕(Int×qL2)):=ar (fun a=>pq oo ad ab av a0 a.1 a.2 (fun a' =>some (.next a')) (fun e=>some (.done e)) (fun r=>some (.ret r))) s0
def qxf:Shp:=⟨[q25,(4, .own 1),zgw,zgx],[qfz,q7a]⟩
def qxe:Shp:=⟨[(4, .own 0)],[q7a]⟩
def wm(aa:ca):Option (Int×qL2):=bnd (gb aa) fun r1=>bif (!r1)then some (1,[])else bif decide ((aa.2.1.length:Int)=0)then some (5,[])else bif decide ((20:Int)<(aa.2.1.length:Int))then some (5,[])else bif decide ((20:Int)<aa.1)then some (5,[])else ah (qqv aa.1 aa.1 24)<|bnd (qi0 ((List.replicate aa.1.toNat ([]:qL1)).length:Int) aa.1 aa.2.1 aa.2.2.1 aa.2.2.2.1 (0,(List.replicate aa.1.toNat ([]:qL1)))) fun oe6=>lk oe6 (fun e6=>some (0,e6)) (fun r=>some r)
def ub(aa:Int):Option Bool:=bif decide (aa<(-1048576))then some true else some (decide ((1048576:Int)<aa))
def cj{R:Type}(a3:qL1)(b6 a4:Int)(nx:Int→Option R)(dn:Unit→Option R)(rt:Int→Option R):Option R:=bif decide (a4<b6)then ah (ix a4 a3.length)<|ah (ix a4 a3.length)<|bnd (ub (a3.getD a4.toNat 0)) fun r1=>bif r1 then rt a4 else ah (bw .i64 (a4+1))<|nx (a4+1)else dn ()
def oh(a3:qL1)(b6 s0:Int):Option (Unit⊕Int):=ar (fun a=>cj a3 b6 a (fun a' =>some (.next a')) (fun e=>some (.done e)) (fun r=>some (.ret r))) s0
def qbs:Shp:=⟨[jua,(1, .fn 162 .nil),qu2,jlx],[]⟩
def qbr:Shp:=⟨[],[]⟩
def jf(a3:qL1):Option Int:=bnd (oh a3 (a3.length:Int) 0) fun oe2=>lk oe2 (fun e2=>some (-1)) (fun r=>some r)
def gh(a3:qL1):Option Bool:=bnd (jf a3) fun r1=>some (decide ((0:Int)≤r1))
def zx(a2:qL1):Option Bool:=bnd (gh a2) fun r1=>some (!r1)
def zw(md:qL1)(hh:qL2):Option Bool:=ah (ix 0 1)<|ah (ix 0 hh.length)<|ah (ix 0 hh.length)<|bif (!decide ((md.length:Int)=((hh.getD 0 []).length:Int)))then some true else bnd (zx md) fun r1=>some (!r1)
def ci{R:Type}(a3 f_1c0:qL2)(b6 a4:Int)(nx:Int→Option R)(dn:Unit→Option R)(rt:Int→Option R):Option R:=bif decide (a4<b6)then ah (ix a4 a3.length)<|ah (ix a4 a3.length)<|bnd (zw (a3.getD a4.toNat []) f_1c0) fun r1=>bif r1 then rt a4 else ah (bw .i64 (a4+1))<|nx (a4+1)else dn ()
def oe(a3 f_1c0:qL2)(b6 s0:Int):Option (Unit⊕Int):=ar (fun a=>ci a3 f_1c0 b6 a (fun a' =>some (.next a')) (fun e=>some (.done e)) (fun r=>some (.ret r))) s0
def qbp:Shp:=⟨[jis,(1, .fn 134 (.cons (.rp false qT2) .nil)),qu2,jlx],[]⟩
def qbo:Shp:=⟨[],[]⟩
def je(a3 f_1c0:qL2):Option Int:=bnd (oe a3 f_1c0 (a3.length:Int) 0) fun oe2=>lk oe2 (fun e2=>some (-1)) (fun r=>some r)
def gg(a3 f_1c0:qL2):Option Bool:=bnd (je a3 f_1c0) fun r1=>some (decide ((0:Int)≤r1))
def qgb(ba:qL2):Option Bool:=bif decide ((ba.length:Int)<1)then some false else bif decide ((20:Int)<(ba.length:Int))then some false else ah (ix 0 ba.length)<|ah (ix 0 ba.length)<|bif decide (((ba.getD 0 []).length:Int)<1)then some false else ah (ix 0 ba.length)<|ah (ix 0 ba.length)<|bif decide ((20:Int)<((ba.getD 0 []).length:Int))then some false else bnd (gg ba ba) fun r1=>some (!r1)
def qoa(aa:Int):Option Int:=ah (bw .i64 (0-aa))<|some (max aa (0-aa))
def wl{R:Type}(hz:Int)(ex:qL2)(gd hn:Int)(dw:qL1)(bo q6 cc:Int)(nx:(Int×Int)→Option R)(dn:Int→Option R)(rt:Bool→Option R):Option R:=bif decide (cc<bo)then ah (ix cc dw.length)<|ah (ix cc dw.length)<|bnd (qoa (dw.getD cc.toNat 0)) fun r1=>ah (bw .i64 (q6+r1))<|ah (bw .i64 (cc+1))<|nx ((q6+r1),(cc+1))else dn q6
def qr4(hz:Int)(ex:qL2)(gd hn:Int)(dw:qL1)(bo:Int)(s0:(Int×Int)):Option (Int⊕Bool):=ar (fun a=>wl hz ex gd hn dw bo a.1 a.2 (fun a' =>some (.next a')) (fun e=>some (.done e)) (fun r=>some (.ret r))) s0
def q76:Shp:=⟨[jq2,jnf,zgj,jvw,ze8,(15, .d false qT1),zet,ze0],[]⟩
def q75:Shp:=⟨[jq2,jnf,zgj,jvw,ze8],[]⟩
def qr{R:Type}(ex:qL2)(gd hz hn:Int)(nx:(Int×Int)→Option R)(dn:Unit→Option R)(rt:Bool→Option R):Option R:=bif decide (hn<gd)then ah (ix hn ex.length)<|ah (ix hn ex.length)<|bnd (qr4 hz ex gd hn (ex.getD hn.toNat []) ((ex.getD hn.toNat []).length:Int) (0,0)) fun oe2=>lk oe2 (fun e2=>ah (bw .i64 (hz*(max e2 1)))<|bif decide ((1073741824:Int)<(hz*(max e2 1)))then rt false else ah (bw .i64 (hn+1))<|nx ((hz*(max e2 1)),(hn+1))) (fun r=>rt r)else dn ()
def qr5(ex:qL2)(gd:Int)(s0:(Int×Int)):Option (Unit⊕Bool):=ar (fun a=>qr ex gd a.1 a.2 (fun a' =>some (.next a')) (fun e=>some (.done e)) (fun r=>some (.ret r))) s0
def q78:Shp:=⟨[jq2,zgj,jvw,ze8],[]⟩
def q77:Shp:=⟨[],[]⟩
def qgc(ba:qL2):Option Bool:=bnd (qr5 ba (ba.length:Int) (1,0)) fun oe3=>lk oe3 (fun e3=>some true) (fun r=>some r)
def ib{R:Type}(hj ki:Int)(h3:Nat)(mx:Int)(j2:Nat)(r0 gw fs dd lf l2:Int)(bl:qL1)(bf:Int)(c2:qL2)(nx:(Int×qL2)→Option R)(dn:qL2→Option R)(rt:(Int×Int×qL2×qL1)→Option R):Option R:=bif decide (bf<dd)then ah (ix bf (c2.getD j2 []).length)<|ah (ix bf (c2.getD j2 []).length)<|ah (ix bf (c2.getD h3 []).length)<|ah (ix bf (c2.getD h3 []).length)<|ah (!decide (lf=0))<|ah (ix bf (c2.getD j2 []).length)<|ah (ix bf (c2.getD j2 []).length)<|nx ((IntKind.wrap .i64 (bf+1)),(c2.set j2 ((c2.getD j2 []).set bf.toNat (IntKind.wrap .i64 (Int.tdiv (IntKind.wrap .i64 ((IntKind.wrap .i64 (mx*((c2.getD j2 []).getD bf.toNat 0)))-(IntKind.wrap .i64 (r0*((c2.getD h3 []).getD bf.toNat 0))))) lf)))))else dn c2
def yb(hj ki:Int)(h3:Nat)(mx:Int)(j2:Nat)(r0 gw fs dd lf l2:Int)(bl:qL1)(s0:(Int×qL2)):Option (qL2⊕(Int×Int×qL2×qL1)):=ar (fun a=>ib hj ki h3 mx j2 r0 gw fs dd lf l2 bl a.1 a.2 (fun a' =>some (.next a')) (fun e=>some (.done e)) (fun r=>some (.ret r))) s0
def qj3:Shp:=⟨[j2c,qnf,zgm,(6, .kid 1 0),qu2,(9, .kid 1 0),jvw,(26, .own 1),zf1,zgh,(41, .d true qT0),zf8],[jao,q7a,qf0]⟩
def qj2:Shp:=⟨[j2c,qnf,zgm,(6, .kid 1 0),qu2,(26, .own 1),zf1,zgh],[jao,q7a,qf0]⟩
def ey{R:Type}(hj ki:Int)(h3:Nat)(mx gw lf l2:Int)(bl:qL1)(fs:Int)(c2:qL2)(nx:(Int×qL2)→Option R)(dn:qL2→Option R)(rt:(Int×Int×qL2×qL1)→Option R):Option R:=bif decide (fs<gw)then ah (ix fs c2.length)<|ah (ix fs c2.length)<|bif decide (fs=hj)then nx ((IntKind.wrap .i64 (fs+1)),c2)else ah (ix ki (c2.getD fs.toNat []).length)<|ah (ix ki (c2.getD fs.toNat []).length)<|bnd (yb hj ki h3 mx fs.toNat ((c2.getD fs.toNat []).getD ki.toNat 0) gw fs ((c2.getD fs.toNat []).length:Int) lf l2 bl (0,c2)) fun oe1=>lk oe1 (fun e1=>nx ((IntKind.wrap .i64 (fs+1)),e1)) (fun r=>rt r)else dn c2
def yc(hj ki:Int)(h3:Nat)(mx gw lf l2:Int)(bl:qL1)(s0:(Int×qL2)):Option (qL2⊕(Int×Int×qL2×qL1)):=ar (fun a=>ey hj ki h3 mx gw lf l2 bl a.1 a.2 (fun a' =>some (.next a')) (fun e=>some (.done e)) (fun r=>some (.ret r))) s0
def qj5:Shp:=⟨[j2c,qnf,zgm,(6, .kid 1 0),qu2,(26, .own 1),zf1,zgh],[jao,q7a,qf0]⟩
def qj4:Shp:=⟨[j2c,qu2],[jao,q7a,qf0]⟩
def gp(hj ki lf l2:Int)(a5:qL2)(bl:qL1):Option (Int×Int×qL2×qL1):=ah (ix hj a5.length)<|ah (ix hj a5.length)<|ah (ix ki (a5.getD hj.toNat []).length)<|ah (ix ki (a5.getD hj.toNat []).length)<|bnd (yc hj ki hj.toNat ((a5.getD hj.toNat []).getD ki.toNat 0) (a5.length:Int) lf l2 bl (0,a5)) fun oe2=>lk oe2 (fun e2=>some (((a5.getD hj.toNat []).getD ki.toNat 0),l2,e2,bl)) (fun r=>some r)
def uc{R:Type}(a6:Int)(ms:qL2)(i1:Int)(dc:qL2)(dd:qL1)(bf c3 jc jn:Int)(fi:qL1)(kv:Int)(eg:qL2)(nx:(Int×qL2)→Option R)(dn:qL2→Option R)(rt:az→Option R):Option R:=bif decide (kv<i1)then ah (ix kv ms.length)<|ah (ix kv ms.length)<|bnd (b8 (ms.getD kv.toNat [])) fun r1=>ah (room (eg.length+1) 24)<|nx ((IntKind.wrap .i64 (kv+1)),(eg++[r1]))else dn eg
def qpb(a6:Int)(ms:qL2)(i1:Int)(dc:qL2)(dd:qL1)(bf c3 jc jn:Int)(fi:qL1)(s0:(Int×qL2)):Option (qL2⊕az):=ar (fun a=>uc a6 ms i1 dc dd bf c3 jc jn fi a.1 a.2 (fun a' =>some (.next a')) (fun e=>some (.done e)) (fun r=>some (.ret r))) s0
def q3u:Shp:=⟨[qnf,jv0,j2f,(12, .d false qT2),zgs,(14, .d true qT0)],[qzl,q2w,q7a,qf0]⟩
def q3t:Shp:=⟨[qnf,jv0,j2f],[qzl,q2w,q7a,qf0]⟩
def nr{R:Type}(a6 kk s3:Int)(dc:qL2)(dd:qL1)(bf c3 jc jn:Int)(eg:qL2)(fi:qL1)(ei:Int)(nx dn:Int→Option R)(rt:az→Option R):Option R:=bif decide (ei<(eg.length:Int))then ah (ix ei eg.length)<|ah (ix ei eg.length)<|ah (ix kk (eg.getD ei.toNat []).length)<|ah (ix kk (eg.getD ei.toNat []).length)<|bif decide (((eg.getD ei.toNat []).getD kk.toNat 0)=0)then nx (IntKind.wrap .i64 (ei+1))else dn ei else dn ei
def qpc(a6 kk s3:Int)(dc:qL2)(dd:qL1)(bf c3 jc jn:Int)(eg:qL2)(fi:qL1)(s0:Int):Option (Int⊕az):=ar (fun a=>nr a6 kk s3 dc dd bf c3 jc jn eg fi a (fun a' =>some (.next a')) (fun e=>some (.done e)) (fun r=>some (.ret r))) s0
def q3w:Shp:=⟨[qnf,jv0,j2f,jlx,juc,jvw],[qzl,q2w,q7a,qf0]⟩
def q3v:Shp:=⟨[qnf,jv0,j2f,jlx,juc,jvw],[qzl,q2w,q7a,qf0]⟩
def fk{R:Type}(a6:Int)(dc:qL2)(dd:qL1)(bf c3 kk jc jn:Int)(eg:qL2)(fi:qL1)(nx:(Int×Int×Int×qL2×qL1)→Option R)(dn:(Int×Int×qL2×qL1)→Option R)(rt:az→Option R):Option R:=bif decide (kk<a6)then bif decide ((fi.length:Int)<(eg.length:Int))then bnd (qpc a6 kk (fi.length:Int) dc dd bf c3 jc jn eg fi (fi.length:Int)) fun oe3=>lk oe3 (fun e3=>bif decide (e3=(eg.length:Int))then nx ((IntKind.wrap .i64 (kk+1)),jc,jn,eg,fi)else bif (!decide (e3=(fi.length:Int)))then ah (ix (fi.length:Int) eg.length)<|ah (ix (fi.length:Int) eg.length)<|ah (ix e3 eg.length)<|ah (ix e3 eg.length)<|ah (ix e3 eg.length)<|ah (ix (fi.length:Int) eg.length)<|ah (ix e3 eg.length)<|ah (decide ((eg.length:Nat)=eg.length))<|ah (ix (fi.length:Int) eg.length)<|ah (decide (((fi.length:Int).toNat:Nat)=(fi.length:Int).toNat))<|ah (decide ((e3.toNat:Nat)=e3.toNat))<|bnd (gp (fi.length:Int) kk jc (IntKind.wrap .i64 (jn+1)) ((eg.set e3.toNat (eg.getD (fi.length:Int).toNat [])).set (fi.length:Int).toNat (eg.getD e3.toNat [])) fi) fun r4=>ah (decide (r4.2.2.1.length=((eg.set e3.toNat (eg.getD (fi.length:Int).toNat [])).set (fi.length:Int).toNat (eg.getD e3.toNat [])).length))<|ah (decide (r4.2.2.2.length=fi.length))<|ah (room (r4.2.2.2.length+1) 8)<|nx ((IntKind.wrap .i64 (kk+1)),r4.1,r4.2.1,r4.2.2.1,(r4.2.2.2++[kk]))else bnd (gp (fi.length:Int) kk jc jn eg fi) fun r5=>ah (decide (r5.2.2.1.length=eg.length))<|ah (decide (r5.2.2.2.length=fi.length))<|ah (room (r5.2.2.2.length+1) 8)<|nx ((IntKind.wrap .i64 (kk+1)),r5.1,r5.2.1,r5.2.2.1,(r5.2.2.2++[kk]))) (fun r=>rt r)else dn (jc,jn,eg,fi)else dn (jc,jn,eg,fi)
def qpd(a6:Int)(dc:qL2)(dd:qL1)(bf c3:Int)(s0:(Int×Int×Int×qL2×qL1)):Option ((Int×Int×qL2×qL1)⊕az):=ar (fun a=>fk a6 dc dd bf c3 a.1 a.2.1 a.2.2.1 a.2.2.2.1 a.2.2.2.2 (fun a' =>some (.next a')) (fun e=>some (.done e)) (fun r=>some (.ret r))) s0
def q3y:Shp:=⟨[qnf,jv0,j2f,jlx],[qzl,q2w,q7a,qf0]⟩
def q3x:Shp:=⟨[jv0,j2f],[qzl,q2w,q7a,qf0]⟩
def qdj(ba:qL2)(a6:Int):Option az:=bnd (qpb a6 ba (ba.length:Int) [] [] 0 0 1 0 [] (0,[])) fun oe2=>lk oe2 (fun e2=>bnd (qpd a6 [] [] 0 0 (0,1,0,e2,[])) fun oe6=>lk oe6 (fun e6=>some (e6.2.2.1,e6.2.2.2,e6.1,e6.2.1,())) (fun r=>some r)) (fun r=>some r)
def ya(ba:qL2):Option (Int×Int):=bnd (qgb ba) fun r1=>bif (!r1)then some (0,1)else bnd (qgc ba) fun r2=>bif (!r2)then some (0,6)else ah (ix 0 ba.length)<|ah (ix 0 ba.length)<|bnd (qdj ba ((ba.getD 0 []).length:Int)) fun r3=>some ((r3.2.1.length:Int),0)
def lz(md:qL1)(hh:Int):Option Bool:=ah (ix 0 1)<|bif decide (hh<(md.length:Int))then ah (ix 0 1)<|ah (ix hh md.length)<|ah (ix hh md.length)<|some (decide ((0:Int)<(md.getD hh.toNat 0)))else some false
def d9{R:Type}(a3:qL2)(f_1c0 b6 a4:Int)(nx:Int→Option R)(dn:Unit→Option R)(rt:Int→Option R):Option R:=bif decide (a4<b6)then ah (ix a4 a3.length)<|ah (ix a4 a3.length)<|bnd (lz (a3.getD a4.toNat []) f_1c0) fun r1=>bif r1 then rt a4 else ah (bw .i64 (a4+1))<|nx (a4+1)else dn ()
def pd(a3:qL2)(f_1c0 b6 s0:Int):Option (Unit⊕Int):=ar (fun a=>d9 a3 f_1c0 b6 a (fun a' =>some (.next a')) (fun e=>some (.done e)) (fun r=>some (.ret r))) s0
def qda:Shp:=⟨[jis,(1, .fn 99 (.cons (.rp false qT0) .nil)),qu2,jlx],[]⟩
def qc9:Shp:=⟨[],[]⟩
def ju(a3:qL2)(f_1c0:Int):Option Int:=bnd (pd a3 f_1c0 (a3.length:Int) 0) fun oe2=>lk oe2 (fun e2=>some (-1)) (fun r=>some r)
def d6(a3:qL2)(f_1c0:Int):Option Bool:=bnd (ju a3 f_1c0) fun r1=>some (decide ((0:Int)≤r1))
def gm{R:Type}(nz:qL2)(hc b6:Int)(nx:Int→Option R)(dn:Unit→Option R)(rt:Bool→Option R):Option R:=bif decide (b6<hc)then bnd (d6 nz b6) fun r1=>bif (!r1)then rt false else ah (bw .i64 (b6+1))<|nx (b6+1)else dn ()
def qea(nz:qL2)(hc s0:Int):Option (Unit⊕Bool):=ar (fun a=>gm nz hc a (fun a' =>some (.next a')) (fun e=>some (.done e)) (fun r=>some (.ret r))) s0
def qqp:Shp:=⟨[jis,jnf,qu2],[]⟩
def qqo:Shp:=⟨[],[]⟩
def fg(nz:qL2)(ip:Int):Option Bool:=bnd (qea nz ip 0) fun oe2=>lk oe2 (fun e2=>some true) (fun r=>some r)
def nk(nf:qL2)(hh:ca):Option Bool:=ah (ix 0 1)<|ah (ix 0 1)<|bnd (fg nf hh.1) fun r1=>some r1
def j9(f_0c0:qL2)(f_0c1:ca):Option Bool:=bnd (nk f_0c0 f_0c1) fun r1=>some (!r1)
def nm(nf:qL2)(hh:ca):Option Bool:=ah (ix 0 1)<|ah (ix 0 1)<|bnd (fg nf (hh.2.1.length:Int)) fun r1=>some r1
def kb(f_0c0:qL2)(f_0c1:ca):Option Bool:=bnd (nm f_0c0 f_0c1) fun r1=>some (!r1)
def nn(nf:Int)(hh:ca):Option Bool:=ah (ix 0 1)<|ah (ix 0 1)<|bnd (de hh) fun r1=>ah (bw .i64 ((r1.length:Int)-1))<|some (decide (nf=((r1.length:Int)-1)))
def kc(f_0c0:Int)(f_0c1:ca):Option Bool:=bnd (nn f_0c0 f_0c1) fun r1=>some (!r1)
def cr(s_00c0:qL2)(s_00c10:Int)(s_00c11:(List af))(s_00c12 s_00c13:Int)(s_01c0:qL2)(s_02c0:Int):Option (Int×qL2×Int×(List af)×Int×Int×qL2×Int):=ah (ix 0 3)<|bnd (j9 s_00c0 (s_00c10,s_00c11,s_00c12,s_00c13,())) fun r1=>bif r1 then some (0,s_00c0,s_00c10,s_00c11,s_00c12,s_00c13,s_01c0,s_02c0)else ah (bw .i64 (1:Int))<|ah (ix 1 3)<|bnd (kb s_01c0 (s_00c10,s_00c11,s_00c12,s_00c13,())) fun r2=>bif r2 then some (1,s_00c0,s_00c10,s_00c11,s_00c12,s_00c13,s_01c0,s_02c0)else ah (bw .i64 (2:Int))<|ah (ix 2 3)<|bnd (kc s_02c0 (s_00c10,s_00c11,s_00c12,s_00c13,())) fun r3=>bif r3 then some (2,s_00c0,s_00c10,s_00c11,s_00c12,s_00c13,s_01c0,s_02c0)else ah (bw .i64 (3:Int))<|some ((-1),s_00c0,s_00c10,s_00c11,s_00c12,s_00c13,s_01c0,s_02c0)
def bt(s_00c0:qL2)(s_00c10:Int)(s_00c11:(List af))(s_00c12 s_00c13:Int)(s_01c0:qL2)(s_02c0:Int):Option (Bool×qL2×Int×(List af)×Int×Int×qL2×Int):=bnd (cr s_00c0 s_00c10 s_00c11 s_00c12 s_00c13 s_01c0 s_02c0) fun r1=>some (decide ((0:Int)≤r1.1),r1.2.1,r1.2.2.1,r1.2.2.2.1,r1.2.2.2.2.1,r1.2.2.2.2.2.1,r1.2.2.2.2.2.2.1,r1.2.2.2.2.2.2.2)
def cx(aa:ca):Option (Bool×Int):=bnd (gb aa) fun r1=>bif (!r1)then some (false,1)else bnd (f6 aa) fun r2=>bif (!r2)then some (false,19)else bnd (ly aa) fun r3=>bif (!r3)then some (false,0)else bnd (qik aa) fun r4=>bif (!decide (r4.2=0))then some (false,r4.2)else bnd (t6 aa) fun r5=>bif (!decide (r5.2=0))then some (false,r5.2)else bnd (wm aa) fun r6=>bif (!decide (r6.1=0))then some (false,r6.1)else bnd (ya r6.2) fun r7=>bif (!decide (r7.2=0))then some (false,r7.2)else bnd (bt r4.1 aa.1 aa.2.1 aa.2.2.1 aa.2.2.2.1 r5.1 r7.1) fun r8=>some ((!r8.1),0)
def xj{R:Type}(hc:qL1)(b6 q3 a4:Int)(nx:(Int×Int)→Option R)(dn rt:Int→Option R):Option R:=bif decide (a4<b6)then ah (ix a4 hc.length)<|ah (ix a4 hc.length)<|ah (decide (0≤(hc.getD a4.toNat 0)))<|ah (bw .i64 (a4+1))<|nx ((yp .or .u32 q3 (qqy .u32 1 (hc.getD a4.toNat 0))),(a4+1))else dn q3
def qt1(hc:qL1)(b6:Int)(s0:(Int×Int)):Option (Int⊕Int):=ar (fun a=>xj hc b6 a.1 a.2 (fun a' =>some (.next a')) (fun e=>some (.done e)) (fun r=>some (.ret r))) s0
def jak:Shp:=⟨[(3, .d true (.int .u32)),zgb,qu2,jlx],[]⟩
def jaj:Shp:=⟨[(3, .d true (.int .u32))],[]⟩
def qas(a2:qL1):Option Int:=bnd (qt1 a2 (a2.length:Int) (0,0)) fun oe1=>lk oe1 (fun e1=>some e1) (fun r=>some r)
def s5{R:Type}(dw:(List af))(bo ad:Int)(ab:(List af))(av a0 cc:Int)(gy ap:qL1)(nx:(Int×qL1×qL1)→Option R)(dn:(qL1×qL1)→Option R)(rt:qL1→Option R):Option R:=bif decide (cc<bo)then ah (ix cc dw.length)<|ah (ix cc dw.length)<|bnd (qas (dw.getD cc.toNat af.z).2.1) fun r1=>bnd (qas (dw.getD cc.toNat af.z).2.2.1) fun r2=>ah (room (gy.length+1) 4)<|ah (room (ap.length+1) 4)<|ah (bw .i64 (cc+1))<|nx ((cc+1),(gy++[r1]),(ap++[r2]))else dn (gy,ap)
def qmi(dw:(List af))(bo ad:Int)(ab:(List af))(av a0:Int)(s0:(Int×qL1×qL1)):Option ((qL1×qL1)⊕qL1):=ar (fun a=>s5 dw bo ad ab av a0 a.1 a.2.1 a.2.2 (fun a' =>some (.next a')) (fun e=>some (.done e)) (fun r=>some (.ret r))) s0
def q2d:Shp:=⟨[q25,(3, .nl false (.own 1)),zfn,ze7,zet,ze0],[qfz,jlz,jlz]⟩
def q2c:Shp:=⟨[q25,(3, .nl false (.own 1)),zfn],[qfz,jlz,jlz]⟩
def i3{R:Type}(gy ap:qL1)(hi b0 ad:Int)(ab:(List af))(av a0:Int)(ha:qL1)(j0:Int)(f0:(List Bool))(nx:(Int×(List Bool))→Option R)(dn:(List Bool)→Option R)(rt:qL1→Option R):Option R:=bif decide (j0<b0)then ah (decide (0≤j0))<|bif (!decide ((yp .and .u32 hi (qqy .u32 1 j0))=0))then ah (ix (yp .andNot .u32 hi (qqy .u32 1 j0)) f0.length)<|ah (ix (yp .andNot .u32 hi (qqy .u32 1 j0)) f0.length)<|bif (f0.getD (yp .andNot .u32 hi (qqy .u32 1 j0)).toNat false)then ah (ix hi f0.length)<|ah (ix hi f0.length)<|ah (bw .i64 (j0+1))<|nx ((j0+1),(f0.set hi.toNat true))else ah (bw .i64 (j0+1))<|nx ((j0+1),f0)else ah (bw .i64 (j0+1))<|nx ((j0+1),f0)else dn f0
def qmj(gy ap:qL1)(hi b0 ad:Int)(ab:(List af))(av a0:Int)(ha:qL1)(s0:(Int×(List Bool))):Option ((List Bool)⊕qL1):=ar (fun a=>i3 gy ap hi b0 ad ab av a0 ha a.1 a.2 (fun a' =>some (.next a')) (fun e=>some (.done e)) (fun r=>some (.ret r))) s0
def q2f:Shp:=⟨[q25,jzj,jzk,zft,zfo,zfb,(46, .d true qT0),(47, .d true qT0)],[qfz,qqz,jlz]⟩
def q2e:Shp:=⟨[q25,jzj,jzk,zft,zfo,zfb],[qfz,qqz,jlz]⟩
def s6{R:Type}(gy ap:qL1)(hi mv ad:Int)(ab:(List af))(av a0:Int)(f0:(List Bool))(ha:qL1)(s2:Bool)(h2:Int)(nx:(Bool×Int)→Option R)(dn:Bool→Option R)(rt:qL1→Option R):Option R:=bif decide (h2<mv)then bif s2 then ah (ix h2 ap.length)<|ah (ix h2 ap.length)<|bif decide ((yp .and .u32 (ap.getD h2.toNat 0) hi)=0)then ah (bw .i64 (h2+1))<|nx (true,(h2+1))else ah (ix h2 gy.length)<|ah (ix h2 gy.length)<|ah (bw .i64 (h2+1))<|nx ((!decide ((yp .and .u32 (gy.getD h2.toNat 0) hi)=0)),(h2+1))else ah (bw .i64 (h2+1))<|nx (false,(h2+1))else dn s2
def qmk(gy ap:qL1)(hi mv ad:Int)(ab:(List af))(av a0:Int)(f0:(List Bool))(ha:qL1)(s0:(Bool×Int)):Option (Bool⊕qL1):=ar (fun a=>s6 gy ap hi mv ad ab av a0 f0 ha a.1 a.2 (fun a' =>some (.next a')) (fun e=>some (.done e)) (fun r=>some (.ret r))) s0
def q2h:Shp:=⟨[q25,jzj,jzk,zft,zfo,zfb,(12, .d true .bool),(73, .d true qT0),(74, .d true qT0)],[qfz,qqz,jlz]⟩
def q2g:Shp:=⟨[q25,jzj,jzk,zft,zfo,zfb,(12, .d true .bool)],[qfz,qqz,jlz]⟩
def i4{R:Type}(gy ap:qL1)(ad:Int)(ab:(List af))(av a0 hi:Int)(f0:(List Bool))(ha:qL1)(nx:(Int×(List Bool)×qL1)→Option R)(dn rt:qL1→Option R):Option R:=ah (decide (0≤ad))<|bif decide (hi<(qqy .u32 1 ad))then bnd (qmj gy ap hi ad ad ab av a0 ha (0,f0)) fun oe4=>lk oe4 (fun e4=>ah (ix hi e4.length)<|ah (ix hi e4.length)<|bif (e4.getD hi.toNat false)then nx ((IntKind.wrap .u32 (hi+1)),e4,ha)else bnd (qmk gy ap hi (gy.length:Int) ad ab av a0 e4 ha (true,0)) fun oe5=>lk oe5 (fun e5=>bif e5 then ah (ix hi e4.length)<|ah (ix hi e4.length)<|ah (room (ha.length+1) 4)<|nx ((IntKind.wrap .u32 (hi+1)),(e4.set hi.toNat true),(ha++[hi]))else nx ((IntKind.wrap .u32 (hi+1)),e4,ha)) (fun r=>rt r)) (fun r=>rt r)else dn ha
def qcy(gy ap:qL1)(ad:Int)(ab:(List af))(av a0:Int)(s0:(Int×(List Bool)×qL1)):Option (qL1⊕qL1):=ar (fun a=>i4 gy ap ad ab av a0 a.1 a.2.1 a.2.2 (fun a' =>some (.next a')) (fun e=>some (.done e)) (fun r=>some (.ret r))) s0
def q2j:Shp:=⟨[q25,jzj,jzk,zft,zfo,zfb],[qfz,qqz,jlz]⟩
def q2i:Shp:=⟨[(8, .nl false (.own 0))],[jlz]⟩
def qat(aa:ca):Option qL1:=bnd (qmi aa.2.1 (aa.2.1.length:Int) aa.1 aa.2.1 aa.2.2.1 aa.2.2.2.1 (0,[],[])) fun oe3=>lk oe3 (fun e3=>ah (decide (0≤aa.1))<|ah (qqv (qqy .i64 1 aa.1) (qqy .i64 1 aa.1) 1)<|bnd (qcy e3.1 e3.2 aa.1 aa.2.1 aa.2.2.1 aa.2.2.2.1 (1,(List.replicate (qqy .i64 1 aa.1).toNat (false:Bool)),[])) fun oe6=>lk oe6 (fun e6=>some e6) (fun r=>some r)) (fun r=>some r)
def jv(g7:qL2):Option qL2:=jvm g7
def ma{R:Type}(t0:Int)(b4:qL1)(f1 c1 h5 ad:Int)(ab:(List af))(av a0:Int)(ap:qL2)(c2:Int)(nd:qL1)(nx:(Int×qL1)→Option R)(dn:qL1→Option R)(rt:(Int×qL2)→Option R):Option R:=bif decide (c2<h5)then ah (decide (0≤c2))<|bif decide ((yp .and .u32 (jy2 .u32 t0 c2) 1)=1)then ah (room (nd.length+1) 8)<|ah (bw .i64 (c2+1))<|nx ((c2+1),(nd++[c2]))else ah (bw .i64 (c2+1))<|nx ((c2+1),nd)else dn nd
def qmf(t0:Int)(b4:qL1)(f1 c1 h5 ad:Int)(ab:(List af))(av a0:Int)(ap:qL2)(s0:(Int×qL1)):Option (qL1⊕(Int×qL2)):=ar (fun a=>ma t0 b4 f1 c1 h5 ad ab av a0 ap a.1 a.2 (fun a' =>some (.next a')) (fun e=>some (.done e)) (fun r=>some (.ret r))) s0
def q18:Shp:=⟨[q25,jfn,(6, .d true (.int .u32)),(7, .nl false (.own 2)),zez,ze9,zf0,(25, .d true qT0),zgu],[qfz,qgq,qf0]⟩
def q17:Shp:=⟨[q25,jfn,(7, .nl false (.own 2)),zez,ze9,zf0],[qfz,qgq,qf0]⟩
def s4{R:Type}(b4:qL1)(f1 ad:Int)(ab:(List af))(av a0 c1:Int)(ap:qL2)(nx:(Int×qL2)→Option R)(dn:qL2→Option R)(rt:(Int×qL2)→Option R):Option R:=bif decide (c1<f1)then ah (ix c1 b4.length)<|ah (ix c1 b4.length)<|bnd (qmf (b4.getD c1.toNat 0) b4 f1 c1 ad ad ab av a0 ap (0,[])) fun oe3=>lk oe3 (fun e3=>ah (room (ap.length+1) 24)<|ah (bw .i64 (c1+1))<|nx ((c1+1),(ap++[e3]))) (fun r=>rt r)else dn ap
def qmg(b4:qL1)(f1 ad:Int)(ab:(List af))(av a0:Int)(s0:(Int×qL2)):Option (qL2⊕(Int×qL2)):=ar (fun a=>s4 b4 f1 ad ab av a0 a.1 a.2 (fun a' =>some (.next a')) (fun e=>some (.done e)) (fun r=>some (.ret r))) s0
def q2a:Shp:=⟨[q25,jfn,zez,ze9,zf0],[qfz,qgq]⟩
def q19:Shp:=⟨[zfm],[qgq]⟩
def qar(aa:ca):Option (Int×qL2):=bnd (gb aa) fun r1=>bif (!r1)then some (1,[])else bif decide ((16:Int)<aa.1)then some (13,[])else bnd (qat aa) fun r2=>bnd (qmg r2 (r2.length:Int) aa.1 aa.2.1 aa.2.2.1 aa.2.2.2.1 (0,[])) fun oe4=>lk oe4 (fun e4=>bnd (jv e4) fun r5=>ah (decide (r5.length=e4.length))<|some (0,r5)) (fun r=>some r)
def xl(a3:qL1)(hh:ca):Option Bool:=ah (ix 0 1)<|bnd (bm a3 hh.2.2.1) fun r1=>some (!r1)
def d7{R:Type}(a3:qL2)(f_1c0:ca)(b6 a4:Int)(nx:Int→Option R)(dn:Unit→Option R)(rt:Int→Option R):Option R:=bif decide (a4<b6)then ah (ix a4 a3.length)<|ah (ix a4 a3.length)<|bnd (xl (a3.getD a4.toNat []) f_1c0) fun r1=>bif r1 then rt a4 else ah (bw .i64 (a4+1))<|nx (a4+1)else dn ()
def o8(a3:qL2)(f_1c0:ca)(b6 s0:Int):Option (Unit⊕Int):=ar (fun a=>d7 a3 f_1c0 b6 a (fun a' =>some (.next a')) (fun e=>some (.done e)) (fun r=>some (.ret r))) s0
def qc4:Shp:=⟨[jis,(1, .fn 66 (.cons (.rp false ca.ty) .nil)),qu2,jlx],[]⟩
def qc3:Shp:=⟨[],[]⟩
def js(a3:qL2)(f_1c0:ca):Option Int:=bnd (o8 a3 f_1c0 (a3.length:Int) 0) fun oe2=>lk oe2 (fun e2=>some (-1)) (fun r=>some r)
def d4(a3:qL2)(f_1c0:ca):Option Bool:=bnd (js a3 f_1c0) fun r1=>some (decide ((0:Int)≤r1))
def jz(aa:ca):Option (Bool×Int):=bnd (t9 aa) fun r1=>bif (!decide (r1.2=0))then some (false,r1.2)else bnd (f6 aa) fun r2=>bif (!r2)then some (false,19)else bnd (cx r1.1) fun r3=>bif (!decide (r3.2=0))then some (false,r3.2)else bif (!r3.1)then some (false,r3.2)else bnd (qar r1.1) fun r4=>bif (!decide (r4.1=0))then some (false,r4.1)else bnd (d4 r4.2 aa) fun r5=>some ((!r5),0)
def qvc(aa:ca):Option (Bool×Int):=bnd (gb aa) fun r1=>bif (!r1)then some (false,1)else bnd (f6 aa) fun r2=>some (r2,0)
def qrz:Option Bool:=bnd (qef ⟨#[97]⟩ [0] [1]) fun r1=>bnd (qef ⟨#[98]⟩ [0] [2]) fun r2=>bnd (qef ⟨#[99]⟩ [1] [3]) fun r3=>bnd (qef ⟨#[100]⟩ [2] [3]) fun r4=>bnd (qef ⟨#[97]⟩ [0] [1,2]) fun r5=>bnd (qef ⟨#[98]⟩ [1] [3]) fun r6=>bnd (qef ⟨#[99]⟩ [2] [3]) fun r7=>bnd (qfp (4,[r1.1,r2.1,r3.1,r4.1],0,3,())) fun r8=>bnd (jz (4,[r1.1,r2.1,r3.1,r4.1],0,3,())) fun r9=>bnd (jz (4,[r5.1,r6.1,r7.1],0,3,())) fun r10=>bnd (qvc (4,[r5.1,r6.1,r7.1],0,3,())) fun r11=>bif decide (r8.1=0)then bif decide ((r8.2.length:Int)=4)then ah (ix 0 r8.2.length)<|ah (ix 0 r8.2.length)<|bnd (iu (r8.2.getD 0 ae.z).2.1 [0,1]) fun r12=>bif r12 then bif decide (r9.2=0)then bif r9.1 then bif decide (r10.2=0)then bif (!r10.1)then bif decide (r11.2=0)then some r11.1 else some false else some false else some false else some false else some false else some false else some false else some false
def qdh(ps:af):Option Bool:=bif decide ((60:Int)<(ps.2.1.length:Int))then some true else bif decide ((60:Int)<(ps.2.2.1.length:Int))then some true else some (decide ((100:Int)<(ByteArray.size ps.1:Int)))
def ck{R:Type}(a3:(List af))(b6 a4:Int)(nx:Int→Option R)(dn:Unit→Option R)(rt:Int→Option R):Option R:=bif decide (a4<b6)then ah (ix a4 a3.length)<|ah (ix a4 a3.length)<|bnd (qdh (a3.getD a4.toNat af.z)) fun r1=>bif r1 then rt a4 else ah (bw .i64 (a4+1))<|nx (a4+1)else dn ()
def gc(a3:(List af))(b6 s0:Int):Option (Unit⊕Int):=ar (fun a=>ck a3 b6 a (fun a' =>some (.next a')) (fun e=>some (.done e)) (fun r=>some (.ret r))) s0
def qj:Shp:=⟨[(0, .d false (.slice af.ty)),(1, .fn 40 .nil),qu2,jlx],[]⟩
def qi:Shp:=⟨[],[]⟩
def dj(a3:(List af)):Option Int:=bnd (gc a3 (a3.length:Int) 0) fun oe2=>lk oe2 (fun e2=>some (-1)) (fun r=>some r)
def bg(a3:(List af)):Option Bool:=bnd (dj a3) fun r1=>some (decide ((0:Int)≤r1))
def qiu(aa:ca):Option Bool:=bif decide ((12:Int)<aa.1)then bif decide (aa.1≤40)then some true else bif decide ((12:Int)<(aa.2.1.length:Int))then bif decide ((aa.2.1.length:Int)<60)then some true else bif decide ((80:Int)<(aa.2.1.length:Int))then some true else bnd (bg aa.2.1) fun r1=>some r1 else bif decide ((80:Int)<(aa.2.1.length:Int))then some true else bnd (bg aa.2.1) fun r2=>some r2 else bif decide ((12:Int)<(aa.2.1.length:Int))then bif decide ((aa.2.1.length:Int)<60)then some true else bif decide ((80:Int)<(aa.2.1.length:Int))then some true else bnd (bg aa.2.1) fun r3=>some r3 else bif decide ((80:Int)<(aa.2.1.length:Int))then some true else bnd (bg aa.2.1) fun r4=>some r4
def qad(hw:Int):Option Bool:=bif decide ((97:Int)≤hw)then bif decide (hw≤122)then some true else bif decide ((65:Int)≤hw)then some (decide (hw≤90))else some false else bif decide ((65:Int)≤hw)then some (decide (hw≤90))else some false
def qt{R:Type}(a3:ByteArray)(b2:Int)(nx:Int→Option R)(dn:Unit→Option R)(rt:Bool→Option R):Option R:=bif decide (b2<(ByteArray.size a3:Int))then ah (ix b2 (ByteArray.size a3))<|bnd (qad (((ByteArray.data a3).getD b2.toNat 0).toNat:Int)) fun r2=>bif (!r2)then bif decide ((48:Int)≤(((ByteArray.data a3).getD b2.toNat 0).toNat:Int))then bif (!(decide ((((ByteArray.data a3).getD b2.toNat 0).toNat:Int)≤57)))then bif (!decide ((((ByteArray.data a3).getD b2.toNat 0).toNat:Int)=95))then bif (!decide ((((ByteArray.data a3).getD b2.toNat 0).toNat:Int)=45))then bif (!decide ((((ByteArray.data a3).getD b2.toNat 0).toNat:Int)=46))then rt false else ah (bw .i64 (b2+1))<|nx (b2+1)else ah (bw .i64 (b2+1))<|nx (b2+1)else ah (bw .i64 (b2+1))<|nx (b2+1)else ah (bw .i64 (b2+1))<|nx (b2+1)else bif (!decide ((((ByteArray.data a3).getD b2.toNat 0).toNat:Int)=95))then bif (!decide ((((ByteArray.data a3).getD b2.toNat 0).toNat:Int)=45))then bif (!decide ((((ByteArray.data a3).getD b2.toNat 0).toNat:Int)=46))then rt false else ah (bw .i64 (b2+1))<|nx (b2+1)else ah (bw .i64 (b2+1))<|nx (b2+1)else ah (bw .i64 (b2+1))<|nx (b2+1)else ah (bw .i64 (b2+1))<|nx (b2+1)else dn ()
def qse(a3:ByteArray)(s0:Int):Option (Unit⊕Bool):=ar (fun a=>qt a3 a (fun a' =>some (.next a')) (fun e=>some (.done e)) (fun r=>some (.ret r))) s0
def q8j:Shp:=⟨[(0, .d true .str),jq2],[]⟩
def q8i:Shp:=⟨[],[]⟩
def qge(a3:ByteArray):Option Bool:=bif decide ((ByteArray.size a3:Int)<1)then some false else bif decide ((40:Int)<(ByteArray.size a3:Int))then some false else ah (ix 0 (ByteArray.size a3))<|bnd (qad (((ByteArray.data a3).getD 0 0).toNat:Int)) fun r1=>bif (!r1)then some false else bnd (qse a3 1) fun oe3=>lk oe3 (fun e3=>some true) (fun r=>some r)
def ln{R:Type}(aa:Int)(es:qL1)(a1:Int)(nx:Int→Option R)(dn:Unit→Option R)(rt:Bool→Option R):Option R:=bif decide (a1<(es.length:Int))then ah (ix a1 es.length)<|ah (ix a1 es.length)<|bif decide ((es.getD a1.toNat 0)<0)then rt false else ah (ix a1 es.length)<|ah (ix a1 es.length)<|bif decide (aa≤(es.getD a1.toNat 0))then rt false else bif decide ((0:Int)<a1)then ah (bw .i64 (a1-1))<|ah (ix (a1-1) es.length)<|ah (ix (a1-1) es.length)<|ah (ix a1 es.length)<|ah (ix a1 es.length)<|bif decide ((es.getD a1.toNat 0)≤(es.getD (a1-1).toNat 0))then rt false else ah (bw .i64 (a1+1))<|nx (a1+1)else ah (bw .i64 (a1+1))<|nx (a1+1)else dn ()
def qsw(aa:Int)(es:qL1)(s0:Int):Option (Unit⊕Bool):=ar (fun a=>ln aa es a (fun a' =>some (.next a')) (fun e=>some (.done e)) (fun r=>some (.ret r))) s0
def q85:Shp:=⟨[jqp,j2j,q5z],[]⟩
def q84:Shp:=⟨[],[]⟩
def qa(aa:Int)(es:qL1):Option Bool:=bnd (qsw aa es 0) fun oe1=>lk oe1 (fun e1=>some true) (fun r=>some r)
def qah{R:Type}(ad:Int)(ab:(List af))(av a0 b2:Int)(nx:Int→Option R)(dn:Unit→Option R)(rt:Bool→Option R):Option R:=bif decide (b2<(ab.length:Int))then ah (ix b2 ab.length)<|ah (ix b2 ab.length)<|bif (!(ByteArray.toList (ab.getD b2.toNat af.z).1==ByteArray.toList ⟨#[]⟩))then bnd (qge (ab.getD b2.toNat af.z).1) fun r1=>bif (!r1)then rt false else bnd (qa ad (ab.getD b2.toNat af.z).2.1) fun r2=>bif (!r2)then rt false else bnd (qa ad (ab.getD b2.toNat af.z).2.2.1) fun r3=>bif (!r3)then rt false else ah (bw .i64 (b2+1))<|nx (b2+1)else bnd (qa ad (ab.getD b2.toNat af.z).2.1) fun r4=>bif (!r4)then rt false else bnd (qa ad (ab.getD b2.toNat af.z).2.2.1) fun r5=>bif (!r5)then rt false else ah (bw .i64 (b2+1))<|nx (b2+1)else dn ()
def qv8(ad:Int)(ab:(List af))(av a0 s0:Int):Option (Unit⊕Bool):=ar (fun a=>qah ad ab av a0 a (fun a' =>some (.next a')) (fun e=>some (.done e)) (fun r=>some (.ret r))) s0
def jd6:Shp:=⟨[q25,jq2],[qfz]⟩
def jd5:Shp:=⟨[],[]⟩
def l5(aa:ca):Option Bool:=bif decide (aa.1<1)then some false else bif decide ((40:Int)<aa.1)then some false else bif decide ((60:Int)<(aa.2.1.length:Int))then some false else bif decide (aa.2.2.1<0)then some false else bif decide (aa.1≤aa.2.2.1)then some false else bif decide (aa.2.2.2.1<0)then some false else bif decide (aa.1≤aa.2.2.2.1)then some false else bnd (qv8 aa.1 aa.2.1 aa.2.2.1 aa.2.2.2.1 0) fun oe6=>lk oe6 (fun e6=>some true) (fun r=>some r)
def qgh{R:Type}(a2:qL1)(ho a1:Int)(nx:Int→Option R)(dn:Unit→Option R)(rt:Bool→Option R):Option R:=bif decide (a1<(a2.length:Int))then ah (ix a1 a2.length)<|ah (ix a1 a2.length)<|bif decide ((a2.getD a1.toNat 0)=ho)then rt true else ah (bw .i64 (a1+1))<|nx (a1+1)else dn ()
def q6l(a2:qL1)(ho s0:Int):Option (Unit⊕Bool):=ar (fun a=>qgh a2 ho a (fun a' =>some (.next a')) (fun e=>some (.done e)) (fun r=>some (.ret r))) s0
def jkx:Shp:=⟨[jua,qnf,q5z],[]⟩
def jkw:Shp:=⟨[],[]⟩
def fm(a2:qL1)(ho:Int):Option Bool:=bnd (q6l a2 ho 0) fun oe1=>lk oe1 (fun e1=>some false) (fun r=>some r)
def xg{R:Type}(bk cv:qL1)(a1:Int)(nx:Int→Option R)(dn:Unit→Option R)(rt:Bool→Option R):Option R:=bif decide (a1<(bk.length:Int))then ah (ix a1 bk.length)<|ah (ix a1 bk.length)<|bnd (fm cv (bk.getD a1.toNat 0)) fun r1=>bif r1 then rt true else ah (bw .i64 (a1+1))<|nx (a1+1)else dn ()
def qtt(bk cv:qL1)(s0:Int):Option (Unit⊕Bool):=ar (fun a=>xg bk cv a (fun a' =>some (.next a')) (fun e=>some (.done e)) (fun r=>some (.ret r))) s0
def q92:Shp:=⟨[jua,j2j,q5z],[]⟩
def q91:Shp:=⟨[],[]⟩
def qgn(bk cv:qL1):Option Bool:=bnd (qtt bk cv 0) fun oe2=>lk oe2 (fun e2=>some false) (fun r=>some r)
def nt{R:Type}(bk cv:qL1)(a1:Int)(nx:Int→Option R)(dn:Unit→Option R)(rt:Bool→Option R):Option R:=bif decide (a1<(bk.length:Int))then ah (ix a1 bk.length)<|ah (ix a1 bk.length)<|ah (ix a1 cv.length)<|ah (ix a1 cv.length)<|bif (!decide ((bk.getD a1.toNat 0)=(cv.getD a1.toNat 0)))then rt false else ah (bw .i64 (a1+1))<|nx (a1+1)else dn ()
def qpk(bk cv:qL1)(s0:Int):Option (Unit⊕Bool):=ar (fun a=>nt bk cv a (fun a' =>some (.next a')) (fun e=>some (.done e)) (fun r=>some (.ret r))) s0
def q4h:Shp:=⟨[jua,j2j,q5z],[]⟩
def q4g:Shp:=⟨[],[]⟩
def qdk(bk cv:qL1):Option Bool:=bif (!decide ((bk.length:Int)=(cv.length:Int)))then some false else bnd (qpk bk cv 0) fun oe1=>lk oe1 (fun e1=>some true) (fun r=>some r)
def qek{R:Type}(b2 ad:Int)(ab:(List af))(av a0 pa:Int)(nx:Int→Option R)(dn:Unit→Option R)(rt:Bool→Option R):Option R:=bif decide (pa<b2)then ah (ix b2 ab.length)<|ah (ix b2 ab.length)<|ah (ix pa ab.length)<|ah (ix pa ab.length)<|bnd (qgn (ab.getD b2.toNat af.z).2.1 (ab.getD pa.toNat af.z).2.1) fun r1=>bif r1 then bnd (qdk (ab.getD b2.toNat af.z).2.1 (ab.getD pa.toNat af.z).2.1) fun r2=>bif (!r2)then rt false else ah (bw .i64 (pa+1))<|nx (pa+1)else ah (bw .i64 (pa+1))<|nx (pa+1)else dn ()
def jex(b2 ad:Int)(ab:(List af))(av a0 s0:Int):Option (Unit⊕Bool):=ar (fun a=>qek b2 ad ab av a0 a (fun a' =>some (.next a')) (fun e=>some (.done e)) (fun r=>some (.ret r))) s0
def joj:Shp:=⟨[q25,jq2,j2r],[qfz]⟩
def joi:Shp:=⟨[q25,jq2],[qfz]⟩
def qel{R:Type}(ad:Int)(ab:(List af))(av a0 b2:Int)(nx:Int→Option R)(dn:Unit→Option R)(rt:Bool→Option R):Option R:=bif decide (b2<(ab.length:Int))then bnd (jex b2 ad ab av a0 0) fun oe3=>lk oe3 (fun e3=>ah (bw .i64 (b2+1))<|nx (b2+1)) (fun r=>rt r)else dn ()
def jey(ad:Int)(ab:(List af))(av a0 s0:Int):Option (Unit⊕Bool):=ar (fun a=>qel ad ab av a0 a (fun a' =>some (.next a')) (fun e=>some (.done e)) (fun r=>some (.ret r))) s0
def jol:Shp:=⟨[q25,jq2],[qfz]⟩
def jok:Shp:=⟨[],[]⟩
def qma(aa:ca):Option Bool:=bnd (jey aa.1 aa.2.1 aa.2.2.1 aa.2.2.2.1 0) fun oe4=>lk oe4 (fun e4=>some true) (fun r=>some r)
def xh{R:Type}(gx:Bool)(cy:Int)(hx:qL1)(eq:Int)(ec:(List af))(f4 ga:Int)(hv:Bool)(b3:Int)(g5:(List Bool))(nx:(Bool×Int×(List Bool))→Option R)(dn:(Bool×(List Bool))→Option R)(rt:(List Bool)→Option R):Option R:=bif decide (b3<(hx.length:Int))then ah (ix b3 hx.length)<|ah (ix b3 hx.length)<|ah (bw .i64 (eq+cy))<|ah (ix (hx.getD b3.toNat 0) g5.length)<|ah (ix (hx.getD b3.toNat 0) g5.length)<|ah (ix (eq+cy) g5.length)<|ah (ix (eq+cy) g5.length)<|bif (!((g5.getD (hx.getD b3.toNat 0).toNat false)==(g5.getD (eq+cy).toNat false)))then ah (ix (hx.getD b3.toNat 0) g5.length)<|ah (ix (hx.getD b3.toNat 0) g5.length)<|ah (ix (eq+cy) (g5.set (hx.getD b3.toNat 0).toNat true).length)<|ah (ix (eq+cy) (g5.set (hx.getD b3.toNat 0).toNat true).length)<|ah (bw .i64 (b3+1))<|nx (true,(b3+1),((g5.set (hx.getD b3.toNat 0).toNat true).set (eq+cy).toNat true))else ah (bw .i64 (b3+1))<|nx (hv,(b3+1),g5)else dn (hv,g5)
def qh1(gx:Bool)(cy:Int)(hx:qL1)(eq:Int)(ec:(List af))(f4 ga:Int)(s0:(Bool×Int×(List Bool))):Option ((Bool×(List Bool))⊕(List Bool)):=ar (fun a=>xh gx cy hx eq ec f4 ga a.1 a.2.1 a.2.2 (fun a' =>some (.next a')) (fun e=>some (.done e)) (fun r=>some (.ret r))) s0
def q97:Shp:=⟨[j5e,j9t,zft,zey,juc,(11, .d true qT1),zgf],[qfz,qqz]⟩
def q96:Shp:=⟨[j5e,j9t,zft,zey,juc],[qfz,qqz]⟩
def qfi{R:Type}(gx hv:Bool)(cy:Int)(hx:qL1)(eq:Int)(ec:(List af))(f4 ga:Int)(g5:(List Bool))(dn:(Bool×(List Bool))→Option R)(rt:(List Bool)→Option R):Option R:=bnd (qh1 gx cy hx eq ec f4 ga (hv,0,g5)) fun oe1=>lk oe1 (fun e1=>dn (e1.1,e1.2)) (fun r=>rt r)
def qaq(gx hv:Bool)(cy:Int)(hx:qL1)(eq:Int)(ec:(List af))(f4 ga:Int)(g5:(List Bool)):Option ((Bool×(List Bool))⊕(List Bool)):=qfi gx hv cy hx eq ec f4 ga g5 (fun e=>some (.inl e)) (fun r=>some (.inr r))
def jad:Shp:=⟨[j5e,j9t,zft,zey,juc,(11, .d true qT1)],[qfz,qqz]⟩
def jac:Shp:=⟨[j5e,j9t,zft,zey,juc],[qfz,qqz]⟩
def qy{R:Type}(gx:Bool)(eq:Int)(ec:(List af))(f4 ga:Int)(hv:Bool)(cy:Int)(g5:(List Bool))(nx:(Bool×Int×(List Bool))→Option R)(dn:(Bool×(List Bool))→Option R)(rt:(List Bool)→Option R):Option R:=bif decide (cy<(ec.length:Int))then ah (ix cy ec.length)<|ah (ix cy ec.length)<|ah (room (0+(ec.getD cy.toNat af.z).2.1.length) 8)<|bif gx then ah (room (([]++(ec.getD cy.toNat af.z).2.1).length+(ec.getD cy.toNat af.z).2.2.1.length) 8)<|bnd (qaq gx hv cy (([]++(ec.getD cy.toNat af.z).2.1)++(ec.getD cy.toNat af.z).2.2.1) eq ec f4 ga g5) fun oe2=>lk oe2 (fun e2=>ah (bw .i64 (cy+1))<|nx (e2.1,(cy+1),e2.2)) (fun r=>rt r)else bnd (qaq gx hv cy ([]++(ec.getD cy.toNat af.z).2.1) eq ec f4 ga g5) fun oe3=>lk oe3 (fun e3=>ah (bw .i64 (cy+1))<|nx (e3.1,(cy+1),e3.2)) (fun r=>rt r)else dn (hv,g5)
def qh2(gx:Bool)(eq:Int)(ec:(List af))(f4 ga:Int)(s0:(Bool×Int×(List Bool))):Option ((Bool×(List Bool))⊕(List Bool)):=ar (fun a=>qy gx eq ec f4 ga a.1 a.2.1 a.2.2 (fun a' =>some (.next a')) (fun e=>some (.done e)) (fun r=>some (.ret r))) s0
def q99:Shp:=⟨[j5e,j9t,zft,zey,juc],[qfz,qqz]⟩
def q98:Shp:=⟨[j5e,j9t,zft,zey],[qfz,qqz]⟩
def qfh{R:Type}(gx:Bool)(eq:Int)(ec:(List af))(f4 ga:Int)(hv:Bool)(g5:(List Bool))(nx:(Bool×(List Bool))→Option R)(dn rt:(List Bool)→Option R):Option R:=bif hv then bnd (qh2 gx eq ec f4 ga (false,0,g5)) fun oe4=>lk oe4 (fun e4=>nx (e4.1,e4.2)) (fun r=>rt r)else dn g5
def qtw(gx:Bool)(eq:Int)(ec:(List af))(f4 ga:Int)(s0:(Bool×(List Bool))):Option ((List Bool)⊕(List Bool)):=ar (fun a=>qfh gx eq ec f4 ga a.1 a.2 (fun a' =>some (.next a')) (fun e=>some (.done e)) (fun r=>some (.ret r))) s0
def jab:Shp:=⟨[j5e,j9t,zft,zey],[qfz,qqz]⟩
def jaa:Shp:=⟨[zf6],[qqz]⟩
def uq(aa:ca)(ik:Int)(gx:Bool):Option (List Bool):=ah (bw .i64 (aa.1+(aa.2.1.length:Int)))<|ah (qqv (aa.1+(aa.2.1.length:Int)) (aa.1+(aa.2.1.length:Int)) 1)<|ah (ix ik (List.replicate (aa.1+(aa.2.1.length:Int)).toNat (false:Bool)).length)<|ah (ix ik (List.replicate (aa.1+(aa.2.1.length:Int)).toNat (false:Bool)).length)<|bnd (qtw gx aa.1 aa.2.1 aa.2.2.1 aa.2.2.2.1 (true,((List.replicate (aa.1+(aa.2.1.length:Int)).toNat (false:Bool)).set ik.toNat true))) fun oe5=>lk oe5 (fun e5=>some e5) (fun r=>some r)
def kj{R:Type}(gy:(List Bool))(ad:Int)(ab:(List af))(av a0 ev:Int)(nx:Int→Option R)(dn:Unit→Option R)(rt:Bool→Option R):Option R:=bif decide (ev<(gy.length:Int))then ah (ix ev gy.length)<|ah (ix ev gy.length)<|bif (!(gy.getD ev.toNat false))then rt false else ah (bw .i64 (ev+1))<|nx (ev+1)else dn ()
def qao(gy:(List Bool))(ad:Int)(ab:(List af))(av a0 s0:Int):Option (Unit⊕Bool):=ar (fun a=>kj gy ad ab av a0 a (fun a' =>some (.next a')) (fun e=>some (.done e)) (fun r=>some (.ret r))) s0
def qx6:Shp:=⟨[q25,(3, .d true (.slice .bool)),j2r],[qfz]⟩
def qx5:Shp:=⟨[q25],[qfz]⟩
def xf(aa:ca):Option Bool:=bnd (uq aa 0 true) fun r1=>bnd (qao r1 aa.1 aa.2.1 aa.2.2.1 aa.2.2.2.1 0) fun oe2=>lk oe2 (fun e2=>some (decide ((0:Int)<(aa.2.1.length:Int)))) (fun r=>some r)
def qej(aa:ca):Option Bool:=bif decide ((20:Int)<aa.1)then some true else some (decide ((20:Int)<(aa.2.1.length:Int)))
def qhx(aa o2:Int):Option qL1:=ah (qqv aa aa 8)<|ah (ix o2 (List.replicate aa.toNat (0:Int)).length)<|ah (ix o2 (List.replicate aa.toNat (0:Int)).length)<|some ((List.replicate aa.toNat (0:Int)).set o2.toNat 1)
def qgm{R:Type}(a2:qL1)(o2 a1:Int)(nx:Int→Option R)(dn:Unit→Option R)(rt:Bool→Option R):Option R:=bif decide (a1<(a2.length:Int))then ah (ix a1 a2.length)<|ah (ix a1 a2.length)<|bif decide ((a2.getD a1.toNat 0)=o2)then rt true else ah (bw .i64 (a1+1))<|nx (a1+1)else dn ()
def q60(a2:qL1)(o2 s0:Int):Option (Unit⊕Bool):=ar (fun a=>qgm a2 o2 a (fun a' =>some (.next a')) (fun e=>some (.done e)) (fun r=>some (.ret r))) s0
def jk7:Shp:=⟨[jua,qnf,q5z],[]⟩
def jk6:Shp:=⟨[],[]⟩
def ql3(a2:qL1)(o2:Int):Option Bool:=bnd (q60 a2 o2 0) fun oe1=>lk oe1 (fun e1=>some false) (fun r=>some r)
def qs9(ps:af)(hh:Int):Option Int:=bnd (ql3 ps.2.1 hh) fun r1=>bnd (ql3 ps.2.2.1 hh) fun r2=>bif r2 then bif (!r1)then some 1 else bif r1 then bif (!r2)then some (-1)else some 0 else some 0 else bif r1 then bif (!r2)then some (-1)else some 0 else some 0
def lq{R:Type}(bk cv:qL1)(a1:Int)(nx:Int→Option R)(dn:Unit→Option R)(rt:Bool→Option R):Option R:=bif decide (a1<(bk.length:Int))then ah (ix a1 bk.length)<|ah (ix a1 bk.length)<|bif (!decide ((bk.getD a1.toNat 0)=0))then ah (ix a1 cv.length)<|ah (ix a1 cv.length)<|bif decide ((cv.getD a1.toNat 0)=0)then rt false else ah (bw .i64 (a1+1))<|nx (a1+1)else ah (bw .i64 (a1+1))<|nx (a1+1)else dn ()
def qtn(bk cv:qL1)(s0:Int):Option (Unit⊕Bool):=ar (fun a=>lq bk cv a (fun a' =>some (.next a')) (fun e=>some (.done e)) (fun r=>some (.ret r))) s0
def q9y:Shp:=⟨[jua,j2j,q5z],[]⟩
def q9x:Shp:=⟨[],[]⟩
def qd(bk cv:qL1):Option Bool:=bnd (qtn bk cv 0) fun oe1=>lk oe1 (fun e1=>some true) (fun r=>some r)
def qgl{R:Type}(a2:(List ae))(p6 os:qL1)(a1:Int)(nx:Int→Option R)(dn:Unit→Option R)(rt:(List ae)→Option R):Option R:=bif decide (a1<(a2.length:Int))then ah (ix a1 a2.length)<|ah (ix a1 a2.length)<|bnd (qd (a2.getD a1.toNat ae.z).2.1 os) fun r1=>bif r1 then rt a2 else ah (bw .i64 (a1+1))<|nx (a1+1)else dn ()
def q6x(a2:(List ae))(p6 os:qL1)(s0:Int):Option (Unit⊕(List ae)):=ar (fun a=>qgl a2 p6 os a (fun a' =>some (.next a')) (fun e=>some (.done e)) (fun r=>some (.ret r))) s0
def jk2:Shp:=⟨[ze2,zf4,q5z],[qkq,q7j]⟩
def jk1:Shp:=⟨[ze2,zf4],[qkq,q7j]⟩
def qam{R:Type}(a2:(List ae))(p6 os:qL1)(eu:Int)(et:(List ae))(nx:(Int×(List ae))→Option R)(dn rt:(List ae)→Option R):Option R:=bif decide (eu<(a2.length:Int))then ah (ix eu a2.length)<|ah (ix eu a2.length)<|bnd (qd os (a2.getD eu.toNat ae.z).2.1) fun r3=>bif (!r3)then ah (ix eu a2.length)<|ah (ix eu a2.length)<|ah (room (et.length+1) 48)<|ah (bw .i64 (eu+1))<|nx ((eu+1),(et++[(a2.getD eu.toNat ae.z)]))else ah (bw .i64 (eu+1))<|nx ((eu+1),et)else dn et
def q6y(a2:(List ae))(p6 os:qL1)(s0:(Int×(List ae))):Option ((List ae)⊕(List ae)):=ar (fun a=>qam a2 p6 os a.1 a.2 (fun a' =>some (.next a')) (fun e=>some (.done e)) (fun r=>some (.ret r))) s0
def jk4:Shp:=⟨[qyj,j9t,ze4,qu2],[q7j,qkq]⟩
def jk3:Shp:=⟨[j9t,ze4],[q7j,qkq]⟩
def ql2(ho:ae)(a2:(List ae)):Option (List ae):=bnd (q6x a2 ho.1 ho.2.1 0) fun oe2=>lk oe2 (fun e2=>bnd (q6y a2 ho.1 ho.2.1 (0,[])) fun oe4=>lk oe4 (fun e4=>ah (room (e4.length+1) 48)<|some (e4++[ho])) (fun r=>some r)) (fun r=>some r)
def xq(aa:Int):Option Int:=bif decide (aa<0)then ah (bw .i64 ((0:Int)-aa))<|some ((0:Int)-aa)else some aa
def qag{R:Type}(bk cv:Int)(nx:(Int×Int)→Option R)(dn rt:Int→Option R):Option R:=bif (!decide (cv=0))then ah (!decide (cv=0))<|nx (cv,(Int.tmod bk cv))else dn bk
def q6j(s0:(Int×Int)):Option (Int⊕Int):=ar (fun a=>qag a.1 a.2 (fun a' =>some (.next a')) (fun e=>some (.done e)) (fun r=>some (.ret r))) s0
def jku:Shp:=⟨[jqp,qnf],[]⟩
def jkt:Shp:=⟨[jqp],[]⟩
def quj(bk cv:Int):Option Int:=bnd (q6j (bk,cv)) fun oe1=>lk oe1 (fun e1=>some e1) (fun r=>some r)
def pu{R:Type}(g7:qL1)(kn ev:Int)(nx:(Int×Int)→Option R)(dn:Int→Option R)(rt:qL1→Option R):Option R:=bif decide (ev<(g7.length:Int))then ah (ix ev g7.length)<|ah (ix ev g7.length)<|bnd (xq (g7.getD ev.toNat 0)) fun r1=>bnd (quj kn r1) fun r2=>ah (bw .i64 (ev+1))<|nx (r2,(ev+1))else dn kn
def qi3(g7:qL1)(s0:(Int×Int)):Option (Int⊕qL1):=ar (fun a=>pu g7 a.1 a.2 (fun a' =>some (.next a')) (fun e=>some (.done e)) (fun r=>some (.ret r))) s0
def qxk:Shp:=⟨[jua,jq2,j2r],[]⟩
def qxj:Shp:=⟨[jua,jq2],[]⟩
def px{R:Type}(g7:qL1)(kn b5:Int)(ch:qL1)(nx:(Int×qL1)→Option R)(dn rt:qL1→Option R):Option R:=bif decide (b5<(g7.length:Int))then ah (ix b5 g7.length)<|ah (ix b5 g7.length)<|ah (!decide (kn=0))<|ah (bw .i64 (Int.tdiv (g7.getD b5.toNat 0) kn))<|ah (ix b5 ch.length)<|ah (ix b5 ch.length)<|ah (bw .i64 (b5+1))<|nx ((b5+1),(ch.set b5.toNat (Int.tdiv (g7.getD b5.toNat 0) kn)))else dn ch
def qi4(g7:qL1)(kn:Int)(s0:(Int×qL1)):Option (qL1⊕qL1):=ar (fun a=>px g7 kn a.1 a.2 (fun a' =>some (.next a')) (fun e=>some (.done e)) (fun r=>some (.ret r))) s0
def qxm:Shp:=⟨[jua,jq2,(5, .own 0),jnf],[qf0]⟩
def qxl:Shp:=⟨[(5, .own 0)],[qf0]⟩
def wq(g7:qL1):Option qL1:=bnd (qi3 g7 (0,0)) fun oe3=>lk oe3 (fun e3=>ah (room (0+g7.length) 8)<|bif decide ((1:Int)<e3)then bnd (qi4 g7 e3 (0,([]++g7))) fun oe4=>lk oe4 (fun e4=>some e4) (fun r=>some r)else some ([]++g7)) (fun r=>some r)
def uk{R:Type}(ho k2:Int)(j3 ka k5 lc p4 p5:qL1)(g4:Int)(lv:qL1)(nx:(Int×qL1)→Option R)(dn:qL1→Option R)(rt:ae→Option R):Option R:=bif decide (g4<(j3.length:Int))then ah (ix g4 j3.length)<|ah (ix g4 j3.length)<|ah (bw .i64 (ho*(j3.getD g4.toNat 0)))<|ah (ix g4 k5.length)<|ah (ix g4 k5.length)<|ah (bw .i64 (k2*(k5.getD g4.toNat 0)))<|ah (bw .i64 ((ho*(j3.getD g4.toNat 0))+(k2*(k5.getD g4.toNat 0))))<|ah (room (lv.length+1) 8)<|ah (bw .i64 (g4+1))<|nx ((g4+1),(lv++[((ho*(j3.getD g4.toNat 0))+(k2*(k5.getD g4.toNat 0)))]))else dn lv
def qpx(ho k2:Int)(j3 ka k5 lc p4 p5:qL1)(s0:(Int×qL1)):Option (qL1⊕ae):=ar (fun a=>uk ho k2 j3 ka k5 lc p4 p5 a.1 a.2 (fun a' =>some (.next a')) (fun e=>some (.done e)) (fun r=>some (.ret r))) s0
def q42:Shp:=⟨[qnf,jq2,jv0,(6, .ptr 1),(8, .ptr 2),ze5,jvw],[jb9,jb9,q7j,qf0]⟩
def q41:Shp:=⟨[qnf,jq2,jv0,(6, .ptr 1),(8, .ptr 2),ze5],[jb9,jb9,q7j,qf0]⟩
def ul{R:Type}(ho k2:Int)(j3 ka k5 lc p4 p5:qL1)(eb:Int)(lv:qL1)(nx:(Int×qL1)→Option R)(dn:qL1→Option R)(rt:ae→Option R):Option R:=bif decide (eb<(ka.length:Int))then ah (ix eb ka.length)<|ah (ix eb ka.length)<|ah (bw .i64 (ho*(ka.getD eb.toNat 0)))<|ah (ix eb lc.length)<|ah (ix eb lc.length)<|ah (bw .i64 (k2*(lc.getD eb.toNat 0)))<|ah (bw .i64 ((ho*(ka.getD eb.toNat 0))+(k2*(lc.getD eb.toNat 0))))<|ah (room (lv.length+1) 8)<|ah (bw .i64 (eb+1))<|nx ((eb+1),(lv++[((ho*(ka.getD eb.toNat 0))+(k2*(lc.getD eb.toNat 0)))]))else dn lv
def qpy(ho k2:Int)(j3 ka k5 lc p4 p5:qL1)(s0:(Int×qL1)):Option (qL1⊕ae):=ar (fun a=>ul ho k2 j3 ka k5 lc p4 p5 a.1 a.2 (fun a' =>some (.next a')) (fun e=>some (.done e)) (fun r=>some (.ret r))) s0
def q44:Shp:=⟨[qnf,jq2,jv0,(6, .ptr 1),(8, .ptr 2),ze5,ze8],[jb9,jb9,q7j,qf0]⟩
def q43:Shp:=⟨[jv0,zgr,(9, .nl false (.own 2))],[jb9,q7j,qf0]⟩
def v7(bk:ae)(ho:Int)(sz:ae)(k2:Int):Option ae:=bnd (qpx ho k2 bk.1 bk.2.1 sz.1 sz.2.1 [] [] (0,[])) fun oe1=>lk oe1 (fun e1=>bnd (qpy ho k2 bk.1 bk.2.1 sz.1 sz.2.1 [] [] (0,e1)) fun oe2=>lk oe2 (fun e2=>bnd (wq e2) fun r3=>ah (cut 0 (bk.1.length:Int) r3.length)<|ah (cut (bk.1.length:Int) (r3.length:Int) r3.length)<|some (((r3.drop 0).take ((bk.1.length:Int).toNat-0)),((r3.drop (bk.1.length:Int).toNat).take ((r3.length:Int).toNat-(bk.1.length:Int).toNat)),())) (fun r=>some r)) (fun r=>some r)
def kg{R:Type}(a2:(List ae))(a6 gr ih:Int)(hb:(List ae))(nx:(Int×(List ae))→Option R)(dn:(List ae)→Option R)(rt:((List ae)×Bool×qL1)→Option R):Option R:=bif decide (ih<(a2.length:Int))then ah (ix ih a2.length)<|ah (ix ih a2.length)<|ah (ix gr (a2.getD ih.toNat ae.z).1.length)<|ah (ix gr (a2.getD ih.toNat ae.z).1.length)<|bif decide (((a2.getD ih.toNat ae.z).1.getD gr.toNat 0)=0)then ah (ix ih a2.length)<|ah (ix ih a2.length)<|bnd (ql2 (a2.getD ih.toNat ae.z) hb) fun r1=>ah (bw .i64 (ih+1))<|nx ((ih+1),r1)else ah (bw .i64 (ih+1))<|nx ((ih+1),hb)else dn hb
def qjc(a2:(List ae))(a6 gr:Int)(s0:(Int×(List ae))):Option ((List ae)⊕((List ae)×Bool×qL1)):=ar (fun a=>kg a2 a6 gr a.1 a.2 (fun a' =>some (.next a')) (fun e=>some (.done e)) (fun r=>some (.ret r))) s0
def qxw:Shp:=⟨[qyj,qnf,jnf,zf6,jlx],[qkq]⟩
def qxv:Shp:=⟨[qyj,qnf,jnf,zf6],[qkq]⟩
def kh{R:Type}(a2:(List ae))(a6 gr cy ei:Int)(sw:Bool)(hb:(List ae))(dn:(List ae)→Option R)(rt:((List ae)×Bool×qL1)→Option R):Option R:=bif sw then ah (ix cy a2.length)<|ah (ix cy a2.length)<|ah (ix ei a2.length)<|ah (ix ei a2.length)<|ah (ix gr (a2.getD ei.toNat ae.z).1.length)<|ah (ix gr (a2.getD ei.toNat ae.z).1.length)<|ah (bw .i64 (0-((a2.getD ei.toNat ae.z).1.getD gr.toNat 0)))<|ah (ix ei a2.length)<|ah (ix ei a2.length)<|ah (ix cy a2.length)<|ah (ix cy a2.length)<|ah (ix gr (a2.getD cy.toNat ae.z).1.length)<|ah (ix gr (a2.getD cy.toNat ae.z).1.length)<|bnd (v7 (a2.getD cy.toNat ae.z) (0-((a2.getD ei.toNat ae.z).1.getD gr.toNat 0)) (a2.getD ei.toNat ae.z) ((a2.getD cy.toNat ae.z).1.getD gr.toNat 0)) fun r3=>bnd (ql2 r3 hb) fun r4=>dn r4 else dn hb
def l9(a2:(List ae))(a6 gr cy ei:Int)(sw:Bool)(hb:(List ae)):Option ((List ae)⊕((List ae)×Bool×qL1)):=kh a2 a6 gr cy ei sw hb (fun e=>some (.inl e)) (fun r=>some (.inr r))
def qx4:Shp:=⟨[qyj,qnf,jnf,zf6,juc,jvw,(68, .d true .bool)],[qkq]⟩
def qx3:Shp:=⟨[qyj,qnf,jnf,zf6,juc,jvw],[qkq]⟩
def g9{R:Type}(a2:(List ae))(a6 gr cy ei:Int)(hb:(List ae))(nx:(Int×(List ae))→Option R)(dn:(List ae)→Option R)(rt:((List ae)×Bool×qL1)→Option R):Option R:=bif decide (ei<(a2.length:Int))then ah (ix cy a2.length)<|ah (ix cy a2.length)<|ah (ix gr (a2.getD cy.toNat ae.z).1.length)<|ah (ix gr (a2.getD cy.toNat ae.z).1.length)<|bif decide ((0:Int)<((a2.getD cy.toNat ae.z).1.getD gr.toNat 0))then ah (ix ei a2.length)<|ah (ix ei a2.length)<|ah (ix gr (a2.getD ei.toNat ae.z).1.length)<|ah (ix gr (a2.getD ei.toNat ae.z).1.length)<|bnd (l9 a2 a6 gr cy ei (decide (((a2.getD ei.toNat ae.z).1.getD gr.toNat 0)<0)) hb) fun oe5=>lk oe5 (fun e5=>ah (bw .i64 (ei+1))<|nx ((ei+1),e5)) (fun r=>rt r)else bnd (l9 a2 a6 gr cy ei false hb) fun oe6=>lk oe6 (fun e6=>ah (bw .i64 (ei+1))<|nx ((ei+1),e6)) (fun r=>rt r)else dn hb
def qjd(a2:(List ae))(a6 gr cy:Int)(s0:(Int×(List ae))):Option ((List ae)⊕((List ae)×Bool×qL1)):=ar (fun a=>g9 a2 a6 gr cy a.1 a.2 (fun a' =>some (.next a')) (fun e=>some (.done e)) (fun r=>some (.ret r))) s0
def qxy:Shp:=⟨[qyj,qnf,jnf,zf6,juc,jvw],[qkq]⟩
def qxx:Shp:=⟨[qyj,qnf,jnf,zf6,juc],[qkq]⟩
def qb{R:Type}(a2:(List ae))(a6 gr cy:Int)(hb:(List ae))(nx:(Int×(List ae))→Option R)(dn:(List ae)→Option R)(rt:((List ae)×Bool×qL1)→Option R):Option R:=bif decide (cy<(a2.length:Int))then bnd (qjd a2 a6 gr cy (0,hb)) fun oe7=>lk oe7 (fun e7=>bif decide ((20000:Int)<(e7.length:Int))then rt ([],false,[])else ah (bw .i64 (cy+1))<|nx ((cy+1),e7)) (fun r=>rt r)else dn hb
def qje(a2:(List ae))(a6 gr:Int)(s0:(Int×(List ae))):Option ((List ae)⊕((List ae)×Bool×qL1)):=ar (fun a=>qb a2 a6 gr a.1 a.2 (fun a' =>some (.next a')) (fun e=>some (.done e)) (fun r=>some (.ret r))) s0
def qx0:Shp:=⟨[qyj,qnf,jnf,zf6,juc],[qkq]⟩
def qxz:Shp:=⟨[qnf,jnf,zf6],[qkq]⟩
def qc{R:Type}(a6:Int)(a2:(List ae))(gr:Int)(k0:qL1)(nx:((List ae)×Int×qL1)→Option R)(dn:((List ae)×qL1)→Option R)(rt:((List ae)×Bool×qL1)→Option R):Option R:=bif decide (gr<a6)then bnd (qjc a2 a6 gr (0,[])) fun oe2=>lk oe2 (fun e2=>bnd (qje a2 a6 gr (0,e2)) fun oe8=>lk oe8 (fun e8=>ah (bw .i64 (gr+1))<|nx (e8,(gr+1),[])) (fun r=>rt r)) (fun r=>rt r)else dn (a2,[])
def qjf(a6:Int)(s0:((List ae)×Int×qL1)):Option (((List ae)×qL1)⊕((List ae)×Bool×qL1)):=ar (fun a=>qc a6 a.1 a.2.1 a.2.2 (fun a' =>some (.next a')) (fun e=>some (.done e)) (fun r=>some (.ret r))) s0
def qx2:Shp:=⟨[qyj,qnf,jnf],[jfq]⟩
def qx1:Shp:=⟨[qyj],[jfq]⟩
def i7(a6:Int)(a2:(List ae)):Option ((List ae)×Bool×qL1):=bnd (qjf a6 (a2,0,[])) fun oe9=>lk oe9 (fun e9=>some (e9.1,true,[])) (fun r=>some r)
def v8{R:Type}(bk cv:qL1)(a1:Int)(nx:Int→Option R)(dn:Unit→Option R)(rt:Bool→Option R):Option R:=bif decide (a1<(bk.length:Int))then ah (ix a1 bk.length)<|ah (ix a1 bk.length)<|ah (ix a1 cv.length)<|ah (ix a1 cv.length)<|bif (!decide ((bk.getD a1.toNat 0)=(cv.getD a1.toNat 0)))then ah (ix a1 bk.length)<|ah (ix a1 bk.length)<|ah (ix a1 cv.length)<|ah (ix a1 cv.length)<|rt (decide ((bk.getD a1.toNat 0)<(cv.getD a1.toNat 0)))else ah (bw .i64 (a1+1))<|nx (a1+1)else dn ()
def q1j(bk cv:qL1)(s0:Int):Option (Unit⊕Bool):=ar (fun a=>v8 bk cv a (fun a' =>some (.next a')) (fun e=>some (.done e)) (fun r=>some (.ret r))) s0
def jgq:Shp:=⟨[jua,j2j,q5z],[]⟩
def jgp:Shp:=⟨[],[]⟩
def qok(bk cv:qL1):Option Bool:=bnd (q1j bk cv 0) fun oe1=>lk oe1 (fun e1=>some false) (fun r=>some r)
def xe{R:Type}(a2:(List ae))(ap:qL2)(a1 q2:Int)(nx:Int→Option R)(dn:Unit→Option R)(rt:(qL2×Int)→Option R):Option R:=ah (ix a1 a2.length)<|ah (ix a1 a2.length)<|bif decide (q2<((a2.getD a1.toNat ae.z).2.1.length:Int))then ah (ix a1 a2.length)<|ah (ix a1 a2.length)<|ah (ix q2 (a2.getD a1.toNat ae.z).2.1.length)<|ah (ix q2 (a2.getD a1.toNat ae.z).2.1.length)<|bif decide ((1048576:Int)<((a2.getD a1.toNat ae.z).2.1.getD q2.toNat 0))then rt ([],6)else ah (bw .i64 (q2+1))<|nx (q2+1)else dn ()
def qtj(a2:(List ae))(ap:qL2)(a1 s0:Int):Option (Unit⊕(qL2×Int)):=ar (fun a=>xe a2 ap a1 a (fun a' =>some (.next a')) (fun e=>some (.done e)) (fun r=>some (.ret r))) s0
def q9s:Shp:=⟨[qyj,j9x,q5z,jnf],[]⟩
def q9r:Shp:=⟨[qyj,j9x,q5z],[]⟩
def qw{R:Type}(a2:(List ae))(ap:qL2)(a1 m0:Int)(nx dn:Int→Option R)(rt:(qL2×Int)→Option R):Option R:=bif decide (m0<(ap.length:Int))then ah (ix m0 ap.length)<|ah (ix m0 ap.length)<|ah (ix a1 a2.length)<|ah (ix a1 a2.length)<|bnd (qok (ap.getD m0.toNat []) (a2.getD a1.toNat ae.z).2.1) fun r2=>bif r2 then ah (bw .i64 (m0+1))<|nx (m0+1)else dn m0 else dn m0
def qhw(a2:(List ae))(ap:qL2)(a1 s0:Int):Option (Int⊕(qL2×Int)):=ar (fun a=>qw a2 ap a1 a (fun a' =>some (.next a')) (fun e=>some (.done e)) (fun r=>some (.ret r))) s0
def q9u:Shp:=⟨[qyj,j9x,q5z,qu2],[]⟩
def q9t:Shp:=⟨[qyj,j9x,q5z,qu2],[]⟩
def qx{R:Type}(a2:(List ae))(ap:qL2)(a1:Int)(nx:(qL2×Int)→Option R)(dn:qL2→Option R)(rt:(qL2×Int)→Option R):Option R:=bif decide (a1<(a2.length:Int))then bnd (qtj a2 ap a1 0) fun oe1=>lk oe1 (fun e1=>bnd (qhw a2 ap a1 0) fun oe3=>lk oe3 (fun e3=>ah (cut 0 e3 ap.length)<|ah (room (ap.take e3.toNat).length 24)<|ah (ix a1 a2.length)<|ah (ix a1 a2.length)<|ah (room ((ap.take e3.toNat).length+1) 24)<|ah (cut e3 ap.length ap.length)<|ah (room (((ap.take e3.toNat)++[(a2.getD a1.toNat ae.z).2.1]).length+(ap.drop e3.toNat).length) 24)<|ah (bw .i64 (a1+1))<|nx ((((ap.take e3.toNat)++[(a2.getD a1.toNat ae.z).2.1])++(ap.drop e3.toNat)),(a1+1))) (fun r=>rt r)) (fun r=>rt r)else dn ap
def qtk(a2:(List ae))(s0:(qL2×Int)):Option (qL2⊕(qL2×Int)):=ar (fun a=>qx a2 a.1 a.2 (fun a' =>some (.next a')) (fun e=>some (.done e)) (fun r=>some (.ret r))) s0
def q9w:Shp:=⟨[qyj,j9x,q5z],[]⟩
def q9v:Shp:=⟨[j9x],[]⟩
def qan(a2:(List ae)):Option (qL2×Int):=bif decide ((1000:Int)<(a2.length:Int))then some ([],5)else bnd (qtk a2 ([],0)) fun oe4=>lk oe4 (fun e4=>some (e4,0)) (fun r=>some r)
def xc{R:Type}(bb ad:Int)(ab:(List af))(av a0:Int)(kr:(List ae))(p7:qL1)(c4:Int)(o0:qL1)(nx:(Int×qL1)→Option R)(dn:qL1→Option R)(rt:(qL2×Int)→Option R):Option R:=bif decide (c4<(ab.length:Int))then ah (ix c4 ab.length)<|ah (ix c4 ab.length)<|bnd (qs9 (ab.getD c4.toNat af.z) bb) fun r4=>ah (room (o0.length+1) 8)<|ah (bw .i64 (c4+1))<|nx ((c4+1),(o0++[r4]))else dn o0
def qta(bb ad:Int)(ab:(List af))(av a0:Int)(kr:(List ae))(p7:qL1)(s0:(Int×qL1)):Option (qL1⊕(qL2×Int)):=ar (fun a=>xc bb ad ab av a0 kr p7 a.1 a.2 (fun a' =>some (.next a')) (fun e=>some (.done e)) (fun r=>some (.ret r))) s0
def q9l:Shp:=⟨[q25,jfn,q5z,zg2,qu2],[qfz,qkq,j13,qf0]⟩
def q9k:Shp:=⟨[q25,jfn,q5z,zg2],[qfz,qkq,j13,qf0]⟩
def xd{R:Type}(ad:Int)(ab:(List af))(av a0 bb:Int)(kr:(List ae))(nx:(Int×(List ae))→Option R)(dn:(List ae)→Option R)(rt:(qL2×Int)→Option R):Option R:=bif decide (bb<ad)then bnd (qhx ad bb) fun r3=>bnd (qta bb ad ab av a0 kr r3 (0,[])) fun oe5=>lk oe5 (fun e5=>ah (room (kr.length+1) 48)<|ah (bw .i64 (bb+1))<|nx ((bb+1),(kr++[(e5,r3,())]))) (fun r=>rt r)else dn kr
def qhr(ad:Int)(ab:(List af))(av a0:Int)(s0:(Int×(List ae))):Option ((List ae)⊕(qL2×Int)):=ar (fun a=>xd ad ab av a0 a.1 a.2 (fun a' =>some (.next a')) (fun e=>some (.done e)) (fun r=>some (.ret r))) s0
def q9n:Shp:=⟨[q25,jfn,q5z],[qfz,qkq]⟩
def q9m:Shp:=⟨[q25,jfn],[qfz,qkq]⟩
def qgk(aa:ca):Option (qL2×Int):=bnd (l5 aa) fun r1=>bif (!r1)then some ([],1)else bnd (qej aa) fun r2=>bif r2 then some ([],5)else bnd (qhr aa.1 aa.2.1 aa.2.2.1 aa.2.2.2.1 (0,[])) fun oe6=>lk oe6 (fun e6=>bnd (i7 (aa.2.1.length:Int) e6) fun r7=>bif (!r7.2.1)then some ([],5)else bnd (qan r7.1) fun r8=>some (r8.1,r8.2)) (fun r=>some r)
def l7{R:Type}(n1 ad:Int)(ab:(List af))(av a0:Int)(kr:(List ae))(p7:qL1)(mx:Int)(o0:qL1)(nx:(Int×qL1)→Option R)(dn:qL1→Option R)(rt:(qL2×Int)→Option R):Option R:=bif decide (mx<ad)then ah (ix n1 ab.length)<|ah (ix n1 ab.length)<|bnd (qs9 (ab.getD n1.toNat af.z) mx) fun r4=>ah (room (o0.length+1) 8)<|ah (bw .i64 (mx+1))<|nx ((mx+1),(o0++[r4]))else dn o0
def qfx(n1 ad:Int)(ab:(List af))(av a0:Int)(kr:(List ae))(p7:qL1)(s0:(Int×qL1)):Option (qL1⊕(qL2×Int)):=ar (fun a=>l7 n1 ad ab av a0 kr p7 a.1 a.2 (fun a' =>some (.next a')) (fun e=>some (.done e)) (fun r=>some (.ret r))) s0
def qtd:Shp:=⟨[q25,jfn,q5z,zg2,qu2],[qfz,qkq,j13,qf0]⟩
def qtc:Shp:=⟨[q25,jfn,q5z,zg2],[qfz,qkq,j13,qf0]⟩
def l8{R:Type}(ad:Int)(ab:(List af))(av a0 n1:Int)(kr:(List ae))(nx:(Int×(List ae))→Option R)(dn:(List ae)→Option R)(rt:(qL2×Int)→Option R):Option R:=bif decide (n1<(ab.length:Int))then bnd (qhx (ab.length:Int) n1) fun r3=>bnd (qfx n1 ad ab av a0 kr r3 (0,[])) fun oe5=>lk oe5 (fun e5=>ah (room (kr.length+1) 48)<|ah (bw .i64 (n1+1))<|nx ((n1+1),(kr++[(e5,r3,())]))) (fun r=>rt r)else dn kr
def vc(ad:Int)(ab:(List af))(av a0:Int)(s0:(Int×(List ae))):Option ((List ae)⊕(qL2×Int)):=ar (fun a=>l8 ad ab av a0 a.1 a.2 (fun a' =>some (.next a')) (fun e=>some (.done e)) (fun r=>some (.ret r))) s0
def qtf:Shp:=⟨[q25,jfn,q5z],[qfz,qkq]⟩
def qte:Shp:=⟨[q25,jfn],[qfz,qkq]⟩
def su(aa:ca):Option (qL2×Int):=bnd (l5 aa) fun r1=>bif (!r1)then some ([],1)else bnd (qej aa) fun r2=>bif r2 then some ([],5)else bnd (vc aa.1 aa.2.1 aa.2.2.1 aa.2.2.2.1 (0,[])) fun oe6=>lk oe6 (fun e6=>bnd (i7 aa.1 e6) fun r7=>bif (!r7.2.1)then some ([],5)else bnd (qan r7.1) fun r8=>some (r8.1,r8.2)) (fun r=>some r)
def p0{R:Type}(bb ad:Int)(ab:(List af))(av a0:Int)(ap:qL2)(c4:Int)(dk:qL1)(nx:(Int×qL1)→Option R)(dn:qL1→Option R)(rt:(Int×qL2)→Option R):Option R:=bif decide (c4<(ab.length:Int))then ah (ix c4 ab.length)<|ah (ix c4 ab.length)<|bnd (fm (ab.getD c4.toNat af.z).2.2.1 bb) fun r2=>bif r2 then ah (ix c4 dk.length)<|ah (ix c4 dk.length)<|ah (bw .i64 ((dk.getD c4.toNat 0)+1))<|ah (ix c4 dk.length)<|ah (ix c4 dk.length)<|ah (ix c4 ab.length)<|ah (ix c4 ab.length)<|bnd (fm (ab.getD c4.toNat af.z).2.1 bb) fun r3=>bif r3 then ah (ix c4 (dk.set c4.toNat ((dk.getD c4.toNat 0)+1)).length)<|ah (ix c4 (dk.set c4.toNat ((dk.getD c4.toNat 0)+1)).length)<|ah (bw .i64 (((dk.set c4.toNat ((dk.getD c4.toNat 0)+1)).getD c4.toNat 0)-1))<|ah (ix c4 (dk.set c4.toNat ((dk.getD c4.toNat 0)+1)).length)<|ah (ix c4 (dk.set c4.toNat ((dk.getD c4.toNat 0)+1)).length)<|ah (bw .i64 (c4+1))<|nx ((c4+1),((dk.set c4.toNat ((dk.getD c4.toNat 0)+1)).set c4.toNat (((dk.set c4.toNat ((dk.getD c4.toNat 0)+1)).getD c4.toNat 0)-1)))else ah (bw .i64 (c4+1))<|nx ((c4+1),(dk.set c4.toNat ((dk.getD c4.toNat 0)+1)))else ah (ix c4 ab.length)<|ah (ix c4 ab.length)<|bnd (fm (ab.getD c4.toNat af.z).2.1 bb) fun r4=>bif r4 then ah (ix c4 dk.length)<|ah (ix c4 dk.length)<|ah (bw .i64 ((dk.getD c4.toNat 0)-1))<|ah (ix c4 dk.length)<|ah (ix c4 dk.length)<|ah (bw .i64 (c4+1))<|nx ((c4+1),(dk.set c4.toNat ((dk.getD c4.toNat 0)-1)))else ah (bw .i64 (c4+1))<|nx ((c4+1),dk)else dn dk
def qi8(bb ad:Int)(ab:(List af))(av a0:Int)(ap:qL2)(s0:(Int×qL1)):Option (qL1⊕(Int×qL2)):=ar (fun a=>p0 bb ad ab av a0 ap a.1 a.2 (fun a' =>some (.next a')) (fun e=>some (.done e)) (fun r=>some (.ret r))) s0
def qxp:Shp:=⟨[q25,jfn,q5z,zg7,qu2],[qfz,qgq,qf0]⟩
def qxo:Shp:=⟨[q25,jfn,q5z,zg7],[qfz,qgq,qf0]⟩
def p8{R:Type}(ad:Int)(ab:(List af))(av a0 bb:Int)(ap:qL2)(nx:(Int×qL2)→Option R)(dn:qL2→Option R)(rt:(Int×qL2)→Option R):Option R:=bif decide (bb<ad)then ah (qqv (ab.length:Int) (ab.length:Int) 8)<|bnd (qi8 bb ad ab av a0 ap (0,(List.replicate (ab.length:Int).toNat (0:Int)))) fun oe5=>lk oe5 (fun e5=>ah (room (ap.length+1) 24)<|ah (bw .i64 (bb+1))<|nx ((bb+1),(ap++[e5]))) (fun r=>rt r)else dn ap
def qi9(ad:Int)(ab:(List af))(av a0:Int)(s0:(Int×qL2)):Option (qL2⊕(Int×qL2)):=ar (fun a=>p8 ad ab av a0 a.1 a.2 (fun a' =>some (.next a')) (fun e=>some (.done e)) (fun r=>some (.ret r))) s0
def qxr:Shp:=⟨[q25,jfn,q5z],[qfz,qgq]⟩
def qxq:Shp:=⟨[zfm],[qgq]⟩
def wx(aa:ca):Option (Int×qL2):=bnd (l5 aa) fun r1=>bif (!r1)then some (1,[])else bif decide ((aa.2.1.length:Int)<1)then some (5,[])else bif decide ((20:Int)<(aa.2.1.length:Int))then some (5,[])else bif decide ((20:Int)<aa.1)then some (5,[])else bnd (qi9 aa.1 aa.2.1 aa.2.2.1 aa.2.2.2.1 (0,[])) fun oe6=>lk oe6 (fun e6=>some (0,e6)) (fun r=>some r)
def lm{R:Type}(lr:qL1)(b2:Int)(nx:Int→Option R)(dn:Unit→Option R)(rt:Bool→Option R):Option R:=bif decide (b2<(lr.length:Int))then ah (ix b2 lr.length)<|ah (ix b2 lr.length)<|bif decide ((lr.getD b2.toNat 0)<(-1048576))then rt false else ah (ix b2 lr.length)<|ah (ix b2 lr.length)<|bif decide ((1048576:Int)<(lr.getD b2.toNat 0))then rt false else ah (bw .i64 (b2+1))<|nx (b2+1)else dn ()
def qsh(lr:qL1)(s0:Int):Option (Unit⊕Bool):=ar (fun a=>lm lr a (fun a' =>some (.next a')) (fun e=>some (.done e)) (fun r=>some (.ret r))) s0
def q8n:Shp:=⟨[jua,jq2],[]⟩
def q8m:Shp:=⟨[],[]⟩
def qgf(lr:qL1):Option Bool:=bif decide ((lr.length:Int)<1)then some false else bif decide ((20:Int)<(lr.length:Int))then some false else bnd (qsh lr 0) fun oe1=>lk oe1 (fun e1=>some true) (fun r=>some r)
def nv{R:Type}(ba:qL2)(b2:Int)(nx:Int→Option R)(dn:Unit→Option R)(rt:Bool→Option R):Option R:=bif decide (b2<(ba.length:Int))then ah (ix b2 ba.length)<|ah (ix b2 ba.length)<|ah (ix 0 ba.length)<|ah (ix 0 ba.length)<|bif (!decide (((ba.getD b2.toNat []).length:Int)=((ba.getD 0 []).length:Int)))then rt false else ah (ix b2 ba.length)<|ah (ix b2 ba.length)<|bnd (qgf (ba.getD b2.toNat [])) fun r1=>bif (!r1)then rt false else ah (bw .i64 (b2+1))<|nx (b2+1)else dn ()
def qv5(ba:qL2)(s0:Int):Option (Unit⊕Bool):=ar (fun a=>nv ba a (fun a' =>some (.next a')) (fun e=>some (.done e)) (fun r=>some (.ret r))) s0
def jdy:Shp:=⟨[jis,jq2],[]⟩
def jdx:Shp:=⟨[],[]⟩
def qi7(ba:qL2):Option Bool:=bif decide ((ba.length:Int)<1)then some false else bif decide ((20:Int)<(ba.length:Int))then some false else bnd (qv5 ba 0) fun oe2=>lk oe2 (fun e2=>some true) (fun r=>some r)
def qaf{R:Type}(ba:qL2)(pl ev tt q1:Int)(nx:(Int×Int)→Option R)(dn:Int→Option R)(rt:Bool→Option R):Option R:=ah (ix ev ba.length)<|ah (ix ev ba.length)<|bif decide (q1<((ba.getD ev.toNat []).length:Int))then ah (ix ev ba.length)<|ah (ix ev ba.length)<|ah (ix q1 (ba.getD ev.toNat []).length)<|ah (ix q1 (ba.getD ev.toNat []).length)<|bnd (xq ((ba.getD ev.toNat []).getD q1.toNat 0)) fun r1=>ah (bw .i64 (tt+r1))<|ah (bw .i64 (q1+1))<|nx ((tt+r1),(q1+1))else dn tt
def qv2(ba:qL2)(pl ev:Int)(s0:(Int×Int)):Option (Int⊕Bool):=ar (fun a=>qaf ba pl ev a.1 a.2 (fun a' =>some (.next a')) (fun e=>some (.done e)) (fun r=>some (.ret r))) s0
def jdt:Shp:=⟨[jis,jq2,j2r,q5z,jnf],[]⟩
def jds:Shp:=⟨[jis,jq2,j2r,q5z],[]⟩
def nu{R:Type}(ba:qL2)(pl ev:Int)(nx:(Int×Int)→Option R)(dn:Unit→Option R)(rt:Bool→Option R):Option R:=bif decide (ev<(ba.length:Int))then bnd (qv2 ba pl ev (0,0)) fun oe2=>lk oe2 (fun e2=>bif decide ((0:Int)<e2)then ah (bw .i64 (pl*e2))<|bif decide ((1073741824:Int)<(pl*e2))then rt false else ah (bw .i64 (ev+1))<|nx ((pl*e2),(ev+1))else bif decide ((1073741824:Int)<pl)then rt false else ah (bw .i64 (ev+1))<|nx (pl,(ev+1))) (fun r=>rt r)else dn ()
def qv3(ba:qL2)(s0:(Int×Int)):Option (Unit⊕Bool):=ar (fun a=>nu ba a.1 a.2 (fun a' =>some (.next a')) (fun e=>some (.done e)) (fun r=>some (.ret r))) s0
def jdv:Shp:=⟨[jis,jq2,j2r],[]⟩
def jdu:Shp:=⟨[],[]⟩
def qi6(ba:qL2):Option Bool:=bnd (qv3 ba (1,0)) fun oe3=>lk oe3 (fun e3=>some true) (fun r=>some r)
def wu{R:Type}(ba:qL2)(ea:Int)(dc:qL2)(dd:qL1)(bf c3 g2 g3:Int)(ef:qL1)(b5:Int)(bd:qL2)(nx:(Int×qL2)→Option R)(dn:qL2→Option R)(rt:az→Option R):Option R:=bif decide (b5<(ba.length:Int))then ah (ix b5 ba.length)<|ah (ix b5 ba.length)<|ah (room (0+(ba.getD b5.toNat []).length) 8)<|ah (room (bd.length+1) 24)<|nx ((IntKind.wrap .i64 (b5+1)),(bd++[([]++(ba.getD b5.toNat []))]))else dn bd
def qsj(ba:qL2)(ea:Int)(dc:qL2)(dd:qL1)(bf c3 g2 g3:Int)(ef:qL1)(s0:(Int×qL2)):Option (qL2⊕az):=ar (fun a=>wu ba ea dc dd bf c3 g2 g3 ef a.1 a.2 (fun a' =>some (.next a')) (fun e=>some (.done e)) (fun r=>some (.ret r))) s0
def q8q:Shp:=⟨[jis,qnf,jv0,j2f,jnf],[qgw,qh4,q7a,qf0]⟩
def q8p:Shp:=⟨[jis,qnf,jv0,j2f],[qgw,qh4,q7a,qf0]⟩
def qu{R:Type}(ba:qL2)(ea g6 hu:Int)(dc:qL2)(dd:qL1)(bf c3 g2 g3:Int)(bd:qL2)(ef:qL1)(pm:Int)(nx dn:Int→Option R)(rt:az→Option R):Option R:=bif decide (pm<(ba.length:Int))then ah (ix pm bd.length)<|ah (ix pm bd.length)<|ah (ix g6 (bd.getD pm.toNat []).length)<|ah (ix g6 (bd.getD pm.toNat []).length)<|bif decide (((bd.getD pm.toNat []).getD g6.toNat 0)=0)then nx (IntKind.wrap .i64 (pm+1))else dn pm else dn pm
def qsk(ba:qL2)(ea g6 hu:Int)(dc:qL2)(dd:qL1)(bf c3 g2 g3:Int)(bd:qL2)(ef:qL1)(s0:Int):Option (Int⊕az):=ar (fun a=>qu ba ea g6 hu dc dd bf c3 g2 g3 bd ef a (fun a' =>some (.next a')) (fun e=>some (.done e)) (fun r=>some (.ret r))) s0
def q8s:Shp:=⟨[jis,qnf,jv0,j2f,qu2,jlx,juc],[qgw,qh4,q7a,qf0]⟩
def q8r:Shp:=⟨[jis,qnf,jv0,j2f,qu2,jlx,juc],[qgw,qh4,q7a,qf0]⟩
def wv{R:Type}(ba:qL2)(ea g6 hu ob eb sa:Int)(dc:qL2)(dd:qL1)(bf c3 g2 g3:Int)(ef:qL1)(kp:Int)(bd:qL2)(nx:(Int×qL2)→Option R)(dn:qL2→Option R)(rt:az→Option R):Option R:=ah (ix 0 ba.length)<|ah (ix 0 ba.length)<|bif decide (kp<((ba.getD 0 []).length:Int))then ah (ix eb bd.length)<|ah (ix eb bd.length)<|ah (ix eb bd.length)<|ah (ix eb bd.length)<|ah (ix kp (bd.getD eb.toNat []).length)<|ah (ix kp (bd.getD eb.toNat []).length)<|ah (ix hu bd.length)<|ah (ix hu bd.length)<|ah (ix kp (bd.getD hu.toNat []).length)<|ah (ix kp (bd.getD hu.toNat []).length)<|ah (!decide (g2=0))<|ah (ix kp (bd.getD eb.toNat []).length)<|ah (ix kp (bd.getD eb.toNat []).length)<|nx ((IntKind.wrap .i64 (kp+1)),(bd.set eb.toNat ((bd.getD eb.toNat []).set kp.toNat (IntKind.wrap .i64 (Int.tdiv (IntKind.wrap .i64 ((IntKind.wrap .i64 (ob*((bd.getD eb.toNat []).getD kp.toNat 0)))-(IntKind.wrap .i64 (sa*((bd.getD hu.toNat []).getD kp.toNat 0))))) g2)))))else dn bd
def qsl(ba:qL2)(ea g6 hu ob eb sa:Int)(dc:qL2)(dd:qL1)(bf c3 g2 g3:Int)(ef:qL1)(s0:(Int×qL2)):Option (qL2⊕az):=ar (fun a=>wv ba ea g6 hu ob eb sa dc dd bf c3 g2 g3 ef a.1 a.2 (fun a' =>some (.next a')) (fun e=>some (.done e)) (fun r=>some (.ret r))) s0
def q8u:Shp:=⟨[jis,qnf,jv0,j2f,qu2,jlx,jvw,ze8,zgf,zgs],[qgw,qh4,q7a,qf0]⟩
def q8t:Shp:=⟨[jis,qnf,jv0,j2f,qu2,jlx,jvw,ze8],[qgw,qh4,q7a,qf0]⟩
def qv{R:Type}(ba:qL2)(ea g6 hu ob:Int)(dc:qL2)(dd:qL1)(bf c3 g2 g3:Int)(ef:qL1)(eb:Int)(bd:qL2)(nx:(Int×qL2)→Option R)(dn:qL2→Option R)(rt:az→Option R):Option R:=bif decide (eb<(ba.length:Int))then bif decide (eb=hu)then nx ((IntKind.wrap .i64 (eb+1)),bd)else ah (ix eb bd.length)<|ah (ix eb bd.length)<|ah (ix g6 (bd.getD eb.toNat []).length)<|ah (ix g6 (bd.getD eb.toNat []).length)<|bnd (qsl ba ea g6 hu ob eb ((bd.getD eb.toNat []).getD g6.toNat 0) dc dd bf c3 g2 g3 ef (0,bd)) fun oe3=>lk oe3 (fun e3=>nx ((IntKind.wrap .i64 (eb+1)),e3)) (fun r=>rt r)else dn bd
def qsm(ba:qL2)(ea g6 hu ob:Int)(dc:qL2)(dd:qL1)(bf c3 g2 g3:Int)(ef:qL1)(s0:(Int×qL2)):Option (qL2⊕az):=ar (fun a=>qv ba ea g6 hu ob dc dd bf c3 g2 g3 ef a.1 a.2 (fun a' =>some (.next a')) (fun e=>some (.done e)) (fun r=>some (.ret r))) s0
def q8w:Shp:=⟨[jis,qnf,jv0,j2f,qu2,jlx,jvw,ze8],[qgw,qh4,q7a,qf0]⟩
def q8v:Shp:=⟨[jis,qnf,jv0,j2f,qu2,jvw],[qgw,qh4,q7a,qf0]⟩
def qe8{R:Type}(ba:qL2)(ea g6 hu:Int)(dc:qL2)(dd:qL1)(bf c3 g2 g3:Int)(bd:qL2)(ef:qL1)(dn:(Int×qL2×qL1)→Option R)(rt:az→Option R):Option R:=ah (ix hu bd.length)<|ah (ix hu bd.length)<|ah (ix g6 (bd.getD hu.toNat []).length)<|ah (ix g6 (bd.getD hu.toNat []).length)<|bnd (qsm ba ea g6 hu ((bd.getD hu.toNat []).getD g6.toNat 0) dc dd bf c3 g2 g3 ef (0,bd)) fun oe4=>lk oe4 (fun e4=>ah (room (ef.length+1) 8)<|dn (((bd.getD hu.toNat []).getD g6.toNat 0),e4,(ef++[g6]))) (fun r=>rt r)
def qae(ba:qL2)(ea g6 hu:Int)(dc:qL2)(dd:qL1)(bf c3 g2 g3:Int)(bd:qL2)(ef:qL1):Option ((Int×qL2×qL1)⊕az):=qe8 ba ea g6 hu dc dd bf c3 g2 g3 bd ef (fun e=>some (.inl e)) (fun r=>some (.inr r))
def q80:Shp:=⟨[jis,qnf,jv0,j2f,qu2,jlx],[qgw,qh4,q7a,qf0]⟩
def q8z:Shp:=⟨[jis,qnf,jv0,j2f,qu2],[qgw,qh4,q7a,qf0]⟩
def i6{R:Type}(ba:qL2)(ea:Int)(dc:qL2)(dd:qL1)(bf c3 g6 g2 g3:Int)(bd:qL2)(ef:qL1)(nx:(Int×Int×Int×qL2×qL1)→Option R)(dn:(Int×Int×qL2×qL1)→Option R)(rt:az→Option R):Option R:=bif decide (g6<ea)then bnd (qsk ba ea g6 (ef.length:Int) dc dd bf c3 g2 g3 bd ef (ef.length:Int)) fun oe2=>lk oe2 (fun e2=>bif decide ((ba.length:Int)≤e2)then nx ((IntKind.wrap .i64 (g6+1)),g2,g3,bd,ef)else bif (!decide (e2=(ef.length:Int)))then ah (ix (ef.length:Int) bd.length)<|ah (ix (ef.length:Int) bd.length)<|ah (ix e2 bd.length)<|ah (ix e2 bd.length)<|ah (ix e2 bd.length)<|ah (ix (ef.length:Int) bd.length)<|ah (ix e2 bd.length)<|ah (decide ((bd.length:Nat)=bd.length))<|ah (ix (ef.length:Int) bd.length)<|ah (decide (((ef.length:Int).toNat:Nat)=(ef.length:Int).toNat))<|ah (decide ((e2.toNat:Nat)=e2.toNat))<|bnd (qae ba ea g6 (ef.length:Int) dc dd bf c3 g2 (IntKind.wrap .i64 ((0:Int)-g3)) ((bd.set e2.toNat (bd.getD (ef.length:Int).toNat [])).set (ef.length:Int).toNat (bd.getD e2.toNat [])) ef) fun oe5=>lk oe5 (fun e5=>nx ((IntKind.wrap .i64 (g6+1)),e5.1,(IntKind.wrap .i64 ((0:Int)-g3)),e5.2.1,e5.2.2)) (fun r=>rt r)else bnd (qae ba ea g6 (ef.length:Int) dc dd bf c3 g2 g3 bd ef) fun oe6=>lk oe6 (fun e6=>nx ((IntKind.wrap .i64 (g6+1)),e6.1,g3,e6.2.1,e6.2.2)) (fun r=>rt r)) (fun r=>rt r)else dn (g2,g3,bd,ef)
def qsn(ba:qL2)(ea:Int)(dc:qL2)(dd:qL1)(bf c3:Int)(s0:(Int×Int×Int×qL2×qL1)):Option ((Int×Int×qL2×qL1)⊕az):=ar (fun a=>i6 ba ea dc dd bf c3 a.1 a.2.1 a.2.2.1 a.2.2.2.1 a.2.2.2.2 (fun a' =>some (.next a')) (fun e=>some (.done e)) (fun r=>some (.ret r))) s0
def q8y:Shp:=⟨[jis,qnf,jv0,j2f,qu2],[qgw,qh4,q7a,qf0]⟩
def q8x:Shp:=⟨[jv0,j2f],[qgw,qh4,q7a,qf0]⟩
def qgg(ba:qL2)(ea:Int):Option az:=bnd (qsj ba ea [] [] 0 0 1 1 [] (0,[])) fun oe1=>lk oe1 (fun e1=>bnd (qsn ba ea [] [] 0 0 (0,1,1,e1,[])) fun oe7=>lk oe7 (fun e7=>some (e7.2.2.1,e7.2.2.2,e7.1,e7.2.1,())) (fun r=>some r)) (fun r=>some r)
def qcs(ba:qL2):Option (Int×Int):=bnd (qi7 ba) fun r1=>bif (!r1)then some (0,1)else bnd (qi6 ba) fun r2=>bif (!r2)then some (0,6)else ah (ix 0 ba.length)<|ah (ix 0 ba.length)<|bnd (qgg ba ((ba.getD 0 []).length:Int)) fun r3=>some ((r3.2.1.length:Int),0)
def uo{R:Type}(a2:qL2)(ip a1:Int)(tr:Bool)(cb:Int)(nx:(Bool×Int)→Option R)(dn rt:Bool→Option R):Option R:=bif decide (cb<(a2.length:Int))then ah (ix cb a2.length)<|ah (ix cb a2.length)<|ah (ix a1 (a2.getD cb.toNat []).length)<|ah (ix a1 (a2.getD cb.toNat []).length)<|bif decide ((0:Int)<((a2.getD cb.toNat []).getD a1.toNat 0))then ah (bw .i64 (cb+1))<|nx (true,(cb+1))else ah (bw .i64 (cb+1))<|nx (tr,(cb+1))else dn tr
def qp5(a2:qL2)(ip a1:Int)(s0:(Bool×Int)):Option (Bool⊕Bool):=ar (fun a=>uo a2 ip a1 a.1 a.2 (fun a' =>some (.next a')) (fun e=>some (.done e)) (fun r=>some (.ret r))) s0
def q5f:Shp:=⟨[jis,qnf,q5z,(6, .d true .bool),qu2],[]⟩
def q5e:Shp:=⟨[jis,qnf,q5z,(6, .d true .bool)],[]⟩
def n8{R:Type}(a2:qL2)(ip a1:Int)(nx:Int→Option R)(dn:Unit→Option R)(rt:Bool→Option R):Option R:=bif decide (a1<ip)then bnd (qp5 a2 ip a1 (false,0)) fun oe1=>lk oe1 (fun e1=>bif (!e1)then rt false else ah (bw .i64 (a1+1))<|nx (a1+1)) (fun r=>rt r)else dn ()
def qp6(a2:qL2)(ip s0:Int):Option (Unit⊕Bool):=ar (fun a=>n8 a2 ip a (fun a' =>some (.next a')) (fun e=>some (.done e)) (fun r=>some (.ret r))) s0
def q5h:Shp:=⟨[jis,qnf,q5z],[]⟩
def q5g:Shp:=⟨[],[]⟩
def v9(a2:qL2)(ip:Int):Option Bool:=bnd (qp6 a2 ip 0) fun oe2=>lk oe2 (fun e2=>some true) (fun r=>some r)
def um{R:Type}(h4:(List Bool))(dt:Int)(be:(List af))(ej ep:Int)(dc dd:qL1)(b5:Int)(n6 m1:qL1)(nx:(Int×qL1×qL1)→Option R)(dn:(qL1×qL1)→Option R)(rt:ae→Option R):Option R:=bif decide (b5<(h4.length:Int))then ah (ix b5 h4.length)<|ah (ix b5 h4.length)<|bif (h4.getD b5.toNat false)then bif decide (b5<dt)then ah (room (n6.length+1) 8)<|ah (bw .i64 (b5+1))<|nx ((b5+1),(n6++[b5]),m1)else ah (ix b5 h4.length)<|ah (ix b5 h4.length)<|bif (h4.getD b5.toNat false)then ah (bw .i64 (b5-dt))<|ah (room (m1.length+1) 8)<|ah (bw .i64 (b5+1))<|nx ((b5+1),n6,(m1++[(b5-dt)]))else ah (bw .i64 (b5+1))<|nx ((b5+1),n6,m1)else ah (ix b5 h4.length)<|ah (ix b5 h4.length)<|bif (h4.getD b5.toNat false)then ah (bw .i64 (b5-dt))<|ah (room (m1.length+1) 8)<|ah (bw .i64 (b5+1))<|nx ((b5+1),n6,(m1++[(b5-dt)]))else ah (bw .i64 (b5+1))<|nx ((b5+1),n6,m1)else dn (n6,m1)
def qp3(h4:(List Bool))(dt:Int)(be:(List af))(ej ep:Int)(dc dd:qL1)(s0:(Int×qL1×qL1)):Option ((qL1×qL1)⊕ae):=ar (fun a=>um h4 dt be ej ep dc dd a.1 a.2.1 a.2.2 (fun a' =>some (.next a')) (fun e=>some (.done e)) (fun r=>some (.ret r))) s0
def q5c:Shp:=⟨[(1, .d false (.slice .bool)),ze3,(4, .ptr 1),(5, .ptr 2),jnf],[qfz,zfa, .cs 69 2 1 (.cons (.own 3) (.cons (.own 4) .nil)),qf0,qf0]⟩
def q5b:Shp:=⟨[jv0,j2f],[zfa, .cs 69 2 1 (.cons (.own 2) (.cons (.own 3) .nil)),qf0,qf0]⟩
def qdu(aa:ca)(h4:(List Bool)):Option ae:=bnd (qp3 h4 aa.1 aa.2.1 aa.2.2.1 aa.2.2.2.1 [] [] (0,[],[])) fun oe1=>lk oe1 (fun e1=>some (e1.1,e1.2,())) (fun r=>some r)
def sx{R:Type}(a1:Int)(pv:(List Bool))(ad:Int)(ab:(List af))(av a0:Int)(ap:(List ae))(cb:Int)(gt:(List Bool))(nx:(Int×(List Bool))→Option R)(dn:(List Bool)→Option R)(rt:(List ae)→Option R):Option R:=bif decide (cb<(pv.length:Int))then ah (ix cb gt.length)<|ah (ix cb gt.length)<|bif (gt.getD cb.toNat false)then ah (ix cb gt.length)<|ah (ix cb gt.length)<|ah (bw .i64 (cb+1))<|nx ((cb+1),(gt.set cb.toNat true))else ah (ix cb pv.length)<|ah (ix cb pv.length)<|ah (ix cb gt.length)<|ah (ix cb gt.length)<|ah (bw .i64 (cb+1))<|nx ((cb+1),(gt.set cb.toNat (pv.getD cb.toNat false)))else dn gt
def ql4(a1:Int)(pv:(List Bool))(ad:Int)(ab:(List af))(av a0:Int)(ap:(List ae))(s0:(Int×(List Bool))):Option ((List Bool)⊕(List ae)):=ar (fun a=>sx a1 pv ad ab av a0 ap a.1 a.2 (fun a' =>some (.next a')) (fun e=>some (.done e)) (fun r=>some (.ret r))) s0
def q1o:Shp:=⟨[q25,(3, .own 1),zfn,q5z,zgq,qu2],[qfz,qqz,jzm]⟩
def q1n:Shp:=⟨[q25,(3, .own 1),zfn,q5z,zgq],[qfz,qqz,jzm]⟩
def sy{R:Type}(ad:Int)(ab:(List af))(av a0 a1:Int)(gt:(List Bool))(ap:(List ae))(nx:(Int×(List Bool)×(List ae))→Option R)(dn rt:(List ae)→Option R):Option R:=bif decide (a1<(gt.length:Int))then ah (ix a1 gt.length)<|ah (ix a1 gt.length)<|bif (gt.getD a1.toNat false)then ah (bw .i64 (a1+1))<|nx ((a1+1),gt,ap)else bnd (uq (ad,ab,av,a0,()) a1 false) fun r1=>bnd (ql4 a1 r1 ad ab av a0 ap (0,gt)) fun oe2=>lk oe2 (fun e2=>bnd (qdu (ad,ab,av,a0,()) r1) fun r3=>ah (room (ap.length+1) 48)<|ah (bw .i64 (a1+1))<|nx ((a1+1),e2,(ap++[r3]))) (fun r=>rt r)else dn ap
def ql5(ad:Int)(ab:(List af))(av a0:Int)(s0:(Int×(List Bool)×(List ae))):Option ((List ae)⊕(List ae)):=ar (fun a=>sy ad ab av a0 a.1 a.2.1 a.2.2 (fun a' =>some (.next a')) (fun e=>some (.done e)) (fun r=>some (.ret r))) s0
def q1q:Shp:=⟨[q25,(3, .own 1),zfn,q5z],[qfz,qqz,jzm]⟩
def q1p:Shp:=⟨[zfm],[jzm]⟩
def tn(aa:ca):Option (List ae):=ah (bw .i64 (aa.1+(aa.2.1.length:Int)))<|ah (qqv (aa.1+(aa.2.1.length:Int)) (aa.1+(aa.2.1.length:Int)) 1)<|bnd (ql5 aa.1 aa.2.1 aa.2.2.1 aa.2.2.2.1 (0,(List.replicate (aa.1+(aa.2.1.length:Int)).toNat (false:Bool)),[])) fun oe4=>lk oe4 (fun e4=>some e4) (fun r=>some r)
def qap(aa:ca):Option (Bool×Int):=bnd (xf aa) fun r1=>bif (!r1)then some (false,0)else bnd (qgk aa) fun r2=>bif (!decide (r2.2=0))then some (false,r2.2)else bnd (su aa) fun r3=>bif (!decide (r3.2=0))then some (false,r3.2)else bnd (wx aa) fun r4=>bnd (qcs r4.2) fun r5=>bif (!decide (r5.2=0))then some (false,r5.2)else bnd (v9 r2.1 aa.1) fun r6=>bif r6 then bnd (v9 r3.1 (aa.2.1.length:Int)) fun r7=>bif r7 then bnd (tn aa) fun r8=>ah (bw .i64 ((r8.length:Int)-1))<|some (decide (r5.1=((r8.length:Int)-1)),0)else some (false,0)else some (false,0)
def j7(aa:ca):Option (Bool×Int):=bnd (l5 aa) fun r1=>bif (!r1)then some (false,1)else bnd (qma aa) fun r2=>bif (!r2)then some (false,19)else bnd (qap aa) fun r3=>some (r3.1,r3.2)
def tl{R:Type}(b5 cb dt:Int)(be:(List af))(ej ep nb:Int)(ch:qL1)(nx:(Int×qL1)→Option R)(dn rt:qL1→Option R):Option R:=ah (ix cb be.length)<|ah (ix cb be.length)<|bif decide (nb<((be.getD cb.toNat af.z).2.2.1.length:Int))then ah (ix cb be.length)<|ah (ix cb be.length)<|ah (ix nb (be.getD cb.toNat af.z).2.2.1.length)<|ah (ix nb (be.getD cb.toNat af.z).2.2.1.length)<|bnd (fm ch ((be.getD cb.toNat af.z).2.2.1.getD nb.toNat 0)) fun r2=>bif (!r2)then ah (ix cb be.length)<|ah (ix cb be.length)<|ah (ix nb (be.getD cb.toNat af.z).2.2.1.length)<|ah (ix nb (be.getD cb.toNat af.z).2.2.1.length)<|ah (room (ch.length+1) 8)<|ah (bw .i64 (nb+1))<|nx ((nb+1),(ch++[((be.getD cb.toNat af.z).2.2.1.getD nb.toNat 0)]))else ah (bw .i64 (nb+1))<|nx ((nb+1),ch)else dn ch
def qj9(b5 cb dt:Int)(be:(List af))(ej ep:Int)(s0:(Int×qL1)):Option (qL1⊕qL1):=ar (fun a=>tl b5 cb dt be ej ep a.1 a.2 (fun a' =>some (.next a')) (fun e=>some (.done e)) (fun r=>some (.ret r))) s0
def jd9:Shp:=⟨[ze3,zg1,jnf,qu2,jlx],[qfz,qf0]⟩
def jd8:Shp:=⟨[ze3,zg1,jnf,qu2],[qfz,qf0]⟩
def tm{R:Type}(b5 dt:Int)(be:(List af))(ej ep cb:Int)(ch:qL1)(nx:(Int×qL1)→Option R)(dn rt:qL1→Option R):Option R:=bif decide (cb<(be.length:Int))then ah (ix cb be.length)<|ah (ix cb be.length)<|ah (ix b5 ch.length)<|ah (ix b5 ch.length)<|bnd (fm (be.getD cb.toNat af.z).2.1 (ch.getD b5.toNat 0)) fun r1=>bif (!r1)then ah (bw .i64 (cb+1))<|nx ((cb+1),ch)else bnd (qj9 b5 cb dt be ej ep (0,ch)) fun oe3=>lk oe3 (fun e3=>ah (bw .i64 (cb+1))<|nx ((cb+1),e3)) (fun r=>rt r)else dn ch
def qka(b5 dt:Int)(be:(List af))(ej ep:Int)(s0:(Int×qL1)):Option (qL1⊕qL1):=ar (fun a=>tm b5 dt be ej ep a.1 a.2 (fun a' =>some (.next a')) (fun e=>some (.done e)) (fun r=>some (.ret r))) s0
def jeb:Shp:=⟨[ze3,zg1,jnf,qu2],[qfz,qf0]⟩
def jea:Shp:=⟨[ze3,zg1,jnf],[qfz,qf0]⟩
def qai{R:Type}(dt:Int)(be:(List af))(ej ep b5:Int)(ch:qL1)(nx:(Int×qL1)→Option R)(dn rt:qL1→Option R):Option R:=bif decide (b5<(ch.length:Int))then bnd (qka b5 dt be ej ep (0,ch)) fun oe4=>lk oe4 (fun e4=>ah (bw .i64 (b5+1))<|nx ((b5+1),e4)) (fun r=>rt r)else dn ch
def qwd(dt:Int)(be:(List af))(ej ep:Int)(s0:(Int×qL1)):Option (qL1⊕qL1):=ar (fun a=>qai dt be ej ep a.1 a.2 (fun a' =>some (.next a')) (fun e=>some (.done e)) (fun r=>some (.ret r))) s0
def jed:Shp:=⟨[ze3,zg1,jnf],[qfz,qf0]⟩
def jec:Shp:=⟨[(5, .own 0)],[qf0]⟩
def qei(aa:ca)(ik:Int):Option qL1:=bnd (qwd aa.1 aa.2.1 aa.2.2.1 aa.2.2.2.1 (0,[ik])) fun oe5=>lk oe5 (fun e5=>some e5) (fun r=>some r)
def uh{R:Type}(ad:Int)(ab:(List af))(av a0 c1:Int)(fr:(List af))(gj f2 q8 q9 ra ev:Int)(p1:(List af))(nx:(Int×(List af))→Option R)(dn:(List af)→Option R)(rt:ca→Option R):Option R:=bif decide (ev<(ab.length:Int))then ah (ix ev ab.length)<|ah (ix ev ab.length)<|ah (room (0+(ab.getD ev.toNat af.z).2.2.1.length) 8)<|ah (room (0+(ab.getD ev.toNat af.z).2.1.length) 8)<|ah (room (p1.length+1) 64)<|ah (bw .i64 (ev+1))<|nx ((ev+1),(p1++[((ab.getD ev.toNat af.z).1,([]++(ab.getD ev.toNat af.z).2.2.1),([]++(ab.getD ev.toNat af.z).2.1),())]))else dn p1
def qpm(ad:Int)(ab:(List af))(av a0 c1:Int)(fr:(List af))(gj f2 q8 q9 ra:Int)(s0:(Int×(List af))):Option ((List af)⊕ca):=ar (fun a=>uh ad ab av a0 c1 fr gj f2 q8 q9 ra a.1 a.2 (fun a' =>some (.next a')) (fun e=>some (.done e)) (fun r=>some (.ret r))) s0
def q4k:Shp:=⟨[q25,(2, .ptr 1),(3, .ptr 2),j2r],[qfz,qov,jry,zew]⟩
def q4j:Shp:=⟨[ze3,zf4],[qov, .cs 24 4 1 (.cons (.d true qT0) (.cons (.own 2) (.cons (.d true qT0) (.cons (.d true qT0) .nil)))),zew]⟩
def qdl(aa:ca):Option ca:=bnd (qpm aa.1 aa.2.1 aa.2.2.1 aa.2.2.2.1 0 [] 0 0 aa.1 aa.2.2.2.1 aa.2.2.1 (0,[])) fun oe1=>lk oe1 (fun e1=>some (aa.1,e1,aa.2.2.2.1,aa.2.2.1,())) (fun r=>some r)
def qdm{R:Type}(bk cv:qL1)(a1:Int)(nx:Int→Option R)(dn:Unit→Option R)(rt:Bool→Option R):Option R:=bif decide (a1<(bk.length:Int))then ah (ix a1 bk.length)<|ah (ix a1 bk.length)<|bnd (fm cv (bk.getD a1.toNat 0)) fun r1=>bif r1 then rt true else ah (bw .i64 (a1+1))<|nx (a1+1)else dn ()
def q06(bk cv:qL1)(s0:Int):Option (Unit⊕Bool):=ar (fun a=>qdm bk cv a (fun a' =>some (.next a')) (fun e=>some (.done e)) (fun r=>some (.ret r))) s0
def jgh:Shp:=⟨[jua,j2j,q5z],[]⟩
def jgg:Shp:=⟨[],[]⟩
def qhq(bk cv:qL1):Option Bool:=bnd (q06 bk cv 0) fun oe2=>lk oe2 (fun e2=>some false) (fun r=>some r)
def l6{R:Type}(i0 ke:qL1)(ad:Int)(ab:(List af))(av a0 a1:Int)(nx:Int→Option R)(dn:Unit→Option R)(rt:Bool→Option R):Option R:=bif decide (a1<ad)then bnd (fm i0 a1) fun r5=>bif (!r5)then rt false else bnd (fm ke a1) fun r6=>bif (!r6)then rt false else ah (bw .i64 (a1+1))<|nx (a1+1)else dn ()
def qlx(i0 ke:qL1)(ad:Int)(ab:(List af))(av a0 s0:Int):Option (Unit⊕Bool):=ar (fun a=>l6 i0 ke ad ab av a0 a (fun a' =>some (.next a')) (fun e=>some (.done e)) (fun r=>some (.ret r))) s0
def q00:Shp:=⟨[q25,zg4,zg5,q5z],[qfz]⟩
def q0z:Shp:=⟨[q25,zg4,zg5],[qfz]⟩
def sr{R:Type}(i0 ke:qL1)(ad:Int)(ab:(List af))(av a0 b5:Int)(nx:Int→Option R)(dn:Unit→Option R)(rt:Bool→Option R):Option R:=bif decide (b5<(ab.length:Int))then ah (ix b5 ab.length)<|ah (ix b5 ab.length)<|bnd (fm (ab.getD b5.toNat af.z).2.2.1 av) fun r8=>bif r8 then rt false else bnd (fm (ab.getD b5.toNat af.z).2.1 a0) fun r9=>bif r9 then rt false else bnd (qhq (ab.getD b5.toNat af.z).2.1 i0) fun r10=>bif (!r10)then rt false else bnd (qhq (ab.getD b5.toNat af.z).2.2.1 ke) fun r11=>bif (!r11)then rt false else ah (bw .i64 (b5+1))<|nx (b5+1)else dn ()
def qly(i0 ke:qL1)(ad:Int)(ab:(List af))(av a0 s0:Int):Option (Unit⊕Bool):=ar (fun a=>sr i0 ke ad ab av a0 a (fun a' =>some (.next a')) (fun e=>some (.done e)) (fun r=>some (.ret r))) s0
def q02:Shp:=⟨[q25,zg4,zg5,jnf],[qfz]⟩
def q01:Shp:=⟨[],[]⟩
def ny(aa:ca):Option Bool:=bnd (l5 aa) fun r1=>bif (!r1)then some false else bif decide (aa.2.2.1=aa.2.2.2.1)then some false else bnd (qei aa aa.2.2.1) fun r2=>bnd (qdl aa) fun r3=>bnd (qei r3 aa.2.2.2.1) fun r4=>bnd (qlx r2 r4 aa.1 aa.2.1 aa.2.2.1 aa.2.2.2.1 0) fun oe7=>lk oe7 (fun e7=>bnd (qly r2 r4 aa.1 aa.2.1 aa.2.2.1 aa.2.2.2.1 0) fun oe12=>lk oe12 (fun e12=>some true) (fun r=>some r)) (fun r=>some r)
def qjh(aa:ca):Option (ca×Int):=bnd (l5 aa) fun r1=>bif (!r1)then some ((0,[],0,0,()),1)else bnd (ny aa) fun r2=>bif (!r2)then some ((0,[],0,0,()),19)else bif decide ((60:Int)≤(aa.2.1.length:Int))then some ((0,[],0,0,()),5)else ah (room aa.2.1.length 64)<|ah (room (aa.2.1.length+1) 64)<|some ((aa.1,(aa.2.1++[(⟨#[]⟩,[aa.2.2.2.1],[aa.2.2.1],())]),aa.2.2.1,aa.2.2.2.1,()),0)
def qdq{R:Type}(aa rs:Int)(py:qL1)(nx:(Int×Int×qL1)→Option R)(dn rt:qL1→Option R):Option R:=bif decide ((0:Int)<aa)then ah (!decide ((2:Int)=0))<|bif decide ((Int.tmod aa 2)=1)then ah (room (py.length+1) 8)<|ah (!decide ((2:Int)=0))<|ah (bw .i64 (Int.tdiv aa 2))<|ah (bw .i64 (rs+1))<|nx ((Int.tdiv aa 2),(rs+1),(py++[rs]))else ah (!decide ((2:Int)=0))<|ah (bw .i64 (Int.tdiv aa 2))<|ah (bw .i64 (rs+1))<|nx ((Int.tdiv aa 2),(rs+1),py)else dn py
def q1a(s0:(Int×Int×qL1)):Option (qL1⊕qL1):=ar (fun a=>qdq a.1 a.2.1 a.2.2 (fun a' =>some (.next a')) (fun e=>some (.done e)) (fun r=>some (.ret r))) s0
def jgk:Shp:=⟨[jqp,(3, .nl false (.own 0)),j2r],[qf0]⟩
def jgj:Shp:=⟨[(3, .nl false (.own 0))],[qf0]⟩
def qoh(aa:Int):Option qL1:=bnd (q1a (aa,0,[])) fun oe1=>lk oe1 (fun e1=>some e1) (fun r=>some r)
def xa{R:Type}(bk cv:qL1)(a1:Int)(nx:Int→Option R)(dn:Unit→Option R)(rt:Bool→Option R):Option R:=bif decide (a1<(bk.length:Int))then ah (ix a1 bk.length)<|ah (ix a1 bk.length)<|bnd (fm cv (bk.getD a1.toNat 0)) fun r1=>bif r1 then rt true else ah (bw .i64 (a1+1))<|nx (a1+1)else dn ()
def qs3(bk cv:qL1)(s0:Int):Option (Unit⊕Bool):=ar (fun a=>xa bk cv a (fun a' =>some (.next a')) (fun e=>some (.done e)) (fun r=>some (.ret r))) s0
def q9i:Shp:=⟨[jua,j2j,q5z],[]⟩
def q9h:Shp:=⟨[],[]⟩
def uj(bk cv:qL1):Option Bool:=bnd (qs3 bk cv 0) fun oe2=>lk oe2 (fun e2=>some false) (fun r=>some r)
def ss{R:Type}(es:qL1)(dt:Int)(be:(List af))(ej ep a1:Int)(nx:Int→Option R)(dn:Unit→Option R)(rt:Bool→Option R):Option R:=bif decide (a1<(be.length:Int))then ah (ix a1 be.length)<|ah (ix a1 be.length)<|bnd (uj (be.getD a1.toNat af.z).2.2.1 es) fun r1=>bif r1 then ah (ix a1 be.length)<|ah (ix a1 be.length)<|bnd (uj (be.getD a1.toNat af.z).2.1 es) fun r2=>bif (!r2)then rt false else ah (bw .i64 (a1+1))<|nx (a1+1)else ah (bw .i64 (a1+1))<|nx (a1+1)else dn ()
def ql0(es:qL1)(dt:Int)(be:(List af))(ej ep s0:Int):Option (Unit⊕Bool):=ar (fun a=>ss es dt be ej ep a (fun a' =>some (.next a')) (fun e=>some (.done e)) (fun r=>some (.ret r))) s0
def q09:Shp:=⟨[j2j,ze3,q5z],[qfz]⟩
def q08:Shp:=⟨[],[]⟩
def n4(aa:ca)(es:qL1):Option Bool:=bnd (ql0 es aa.1 aa.2.1 aa.2.2.1 aa.2.2.2.1 0) fun oe3=>lk oe3 (fun e3=>some true) (fun r=>some r)
def qdr(a2:qL1)(g1:Int):Option qL1:=ah (cut 0 g1 a2.length)<|ah (bw .i64 (g1+1))<|ah (cut (g1+1) a2.length a2.length)<|ah (room (0+(a2.take g1.toNat).length) 8)<|ah (room (([]++(a2.take g1.toNat)).length+(a2.drop (g1+1).toNat).length) 8)<|some (([]++(a2.take g1.toNat))++(a2.drop (g1+1).toNat))
def wy{R:Type}(ch:qL1)(eu dt:Int)(be:(List af))(ej ep:Int)(i8:qL1)(ts:Bool)(lt:Int)(nx:(Bool×Int)→Option R)(dn:Bool→Option R)(rt:qL1→Option R):Option R:=bif decide (lt<(be.length:Int))then bif ts then ah (ix lt be.length)<|ah (ix lt be.length)<|ah (ix eu ch.length)<|ah (ix eu ch.length)<|bnd (fm (be.getD lt.toNat af.z).2.2.1 (ch.getD eu.toNat 0)) fun r1=>bif (!r1)then ah (bw .i64 (lt+1))<|nx (true,(lt+1))else ah (ix lt be.length)<|ah (ix lt be.length)<|bnd (uj (be.getD lt.toNat af.z).2.1 ch) fun r2=>ah (bw .i64 (lt+1))<|nx (r2,(lt+1))else ah (bw .i64 (lt+1))<|nx (false,(lt+1))else dn ts
def qsz(ch:qL1)(eu dt:Int)(be:(List af))(ej ep:Int)(i8:qL1)(s0:(Bool×Int)):Option (Bool⊕qL1):=ar (fun a=>wy ch eu dt be ej ep i8 a.1 a.2 (fun a' =>some (.next a')) (fun e=>some (.done e)) (fun r=>some (.ret r))) s0
def q9b:Shp:=⟨[ze3,zf9,ze4,qu2,zey,juc],[qfz,qf0]⟩
def q9a:Shp:=⟨[ze3,zf9,ze4,qu2,zey],[qfz,qf0]⟩
def wz{R:Type}(ch:qL1)(dt:Int)(be:(List af))(ej ep eu:Int)(i8:qL1)(nx:(Int×qL1)→Option R)(dn rt:qL1→Option R):Option R:=bif decide (eu<(ch.length:Int))then bnd (qsz ch eu dt be ej ep i8 (true,0)) fun oe3=>lk oe3 (fun e3=>bif e3 then ah (ix eu ch.length)<|ah (ix eu ch.length)<|ah (room (i8.length+1) 8)<|ah (bw .i64 (eu+1))<|nx ((eu+1),(i8++[(ch.getD eu.toNat 0)]))else ah (bw .i64 (eu+1))<|nx ((eu+1),i8)) (fun r=>rt r)else dn i8
def qs0(ch:qL1)(dt:Int)(be:(List af))(ej ep:Int)(s0:(Int×qL1)):Option (qL1⊕qL1):=ar (fun a=>wz ch dt be ej ep a.1 a.2 (fun a' =>some (.next a')) (fun e=>some (.done e)) (fun r=>some (.ret r))) s0
def q9d:Shp:=⟨[ze3,zf9,ze4,qu2],[qfz,qf0]⟩
def q9c:Shp:=⟨[ze3,zf9,ze4],[qfz,qf0]⟩
def w9{R:Type}(dt:Int)(be:(List af))(ej ep:Int)(ch:qL1)(nx:qL1→Option R)(dn:Unit→Option R)(rt:qL1→Option R):Option R:=bnd (qs0 ch dt be ej ep (0,[])) fun oe4=>lk oe4 (fun e4=>bif decide ((e4.length:Int)=(ch.length:Int))then rt e4 else nx e4) (fun r=>rt r)
def qs1(dt:Int)(be:(List af))(ej ep:Int)(s0:qL1):Option (Unit⊕qL1):=ar (fun a=>w9 dt be ej ep a (fun a' =>some (.next a')) (fun e=>some (.done e)) (fun r=>some (.ret r))) s0
def q9f:Shp:=⟨[ze3,zf9],[qfz]⟩
def q9e:Shp:=⟨[],[]⟩
def qal(aa:ca)(es:qL1):Option qL1:=bnd (qs1 aa.1 aa.2.1 aa.2.2.1 aa.2.2.2.1 es) fun oe5=>lk oe5 (fun e5=>none) (fun r=>some r)
def n7{R:Type}(es:qL1)(dt:Int)(be:(List af))(ej ep a1:Int)(nx:Int→Option R)(dn:Unit→Option R)(rt:Bool→Option R):Option R:=bif decide (a1<(es.length:Int))then bnd (qdr es a1) fun r2=>bnd (qal (dt,be,ej,ep,()) r2) fun r3=>bif decide ((0:Int)<(r3.length:Int))then rt false else ah (bw .i64 (a1+1))<|nx (a1+1)else dn ()
def qfe(es:qL1)(dt:Int)(be:(List af))(ej ep s0:Int):Option (Unit⊕Bool):=ar (fun a=>n7 es dt be ej ep a (fun a' =>some (.next a')) (fun e=>some (.done e)) (fun r=>some (.ret r))) s0
def q4x:Shp:=⟨[j2j,ze3,q5z],[qfz]⟩
def q4w:Shp:=⟨[],[]⟩
def v6(aa:ca)(es:qL1):Option Bool:=bif decide ((es.length:Int)=0)then some false else bnd (n4 aa es) fun r1=>bif (!r1)then some false else bnd (qfe es aa.1 aa.2.1 aa.2.2.1 aa.2.2.2.1 0) fun oe4=>lk oe4 (fun e4=>some true) (fun r=>some r)
def rv{R:Type}(bk cv:qL1)(a1:Int)(nx:Int→Option R)(dn:Unit→Option R)(rt:Bool→Option R):Option R:=bif decide (a1<(bk.length:Int))then bif decide (a1<(cv.length:Int))then ah (ix a1 bk.length)<|ah (ix a1 bk.length)<|ah (ix a1 cv.length)<|ah (ix a1 cv.length)<|bif (!decide ((bk.getD a1.toNat 0)=(cv.getD a1.toNat 0)))then ah (ix a1 bk.length)<|ah (ix a1 bk.length)<|ah (ix a1 cv.length)<|ah (ix a1 cv.length)<|rt (decide ((bk.getD a1.toNat 0)<(cv.getD a1.toNat 0)))else ah (bw .i64 (a1+1))<|nx (a1+1)else dn ()else dn ()
def q1c(bk cv:qL1)(s0:Int):Option (Unit⊕Bool):=ar (fun a=>rv bk cv a (fun a' =>some (.next a')) (fun e=>some (.done e)) (fun r=>some (.ret r))) s0
def jgn:Shp:=⟨[jua,j2j,q5z],[]⟩
def jgm:Shp:=⟨[jua,j2j],[]⟩
def qoi(bk cv:qL1):Option Bool:=bnd (q1c bk cv 0) fun oe1=>lk oe1 (fun e1=>some (decide ((bk.length:Int)<(cv.length:Int)))) (fun r=>some r)
def ui{R:Type}(ad:Int)(ab:(List af))(av a0 hy a1:Int)(nx:(Int×Int)→Option R)(dn:Int→Option R)(rt:(qL2×Int)→Option R):Option R:=bif decide (a1<ad)then ah (bw .i64 ((2:Int)*hy))<|ah (bw .i64 (a1+1))<|nx (((2:Int)*hy),(a1+1))else dn hy
def qps(ad:Int)(ab:(List af))(av a0:Int)(s0:(Int×Int)):Option (Int⊕(qL2×Int)):=ar (fun a=>ui ad ab av a0 a.1 a.2 (fun a' =>some (.next a')) (fun e=>some (.done e)) (fun r=>some (.ret r))) s0
def q4q:Shp:=⟨[q25,j2r,q5z],[qfz]⟩
def q4p:Shp:=⟨[q25,j2r],[qfz]⟩
def n5{R:Type}(hy:Int)(et:qL2)(cb:Int)(ti:qL1)(ad:Int)(ab:(List af))(av a0 cy:Int)(nx dn:Int→Option R)(rt:(qL2×Int)→Option R):Option R:=bif decide (cy<(et.length:Int))then ah (ix cy et.length)<|ah (ix cy et.length)<|bnd (qoi (et.getD cy.toNat []) ti) fun r5=>bif r5 then ah (bw .i64 (cy+1))<|nx (cy+1)else dn cy else dn cy
def qfc(hy:Int)(et:qL2)(cb:Int)(ti:qL1)(ad:Int)(ab:(List af))(av a0 s0:Int):Option (Int⊕(qL2×Int)):=ar (fun a=>n5 hy et cb ti ad ab av a0 a (fun a' =>some (.next a')) (fun e=>some (.done e)) (fun r=>some (.ret r))) s0
def q4s:Shp:=⟨[q25,j2r,zgn,qu2,zgo,juc],[qfz]⟩
def q4r:Shp:=⟨[q25,j2r,zgn,qu2,zgo,juc],[qfz]⟩
def j4{R:Type}(hy ad:Int)(ab:(List af))(av a0:Int)(et:qL2)(cb:Int)(nx:(qL2×Int)→Option R)(dn:qL2→Option R)(rt:(qL2×Int)→Option R):Option R:=bif decide (cb<hy)then bnd (qoh cb) fun r2=>bnd (n4 (ad,ab,av,a0,()) r2) fun r3=>bif (!r3)then ah (bw .i64 (cb+1))<|nx (et,(cb+1))else bnd (v6 (ad,ab,av,a0,()) r2) fun r4=>bif (!r4)then ah (bw .i64 (cb+1))<|nx (et,(cb+1))else bnd (qfc hy et cb r2 ad ab av a0 0) fun oe6=>lk oe6 (fun e6=>ah (cut e6 et.length et.length)<|ah (room (0+(et.drop e6.toNat).length) 24)<|ah (cut 0 e6 et.length)<|ah (room (0+(et.take e6.toNat).length) 24)<|ah (room (([]++(et.take e6.toNat)).length+1) 24)<|ah (room ((([]++(et.take e6.toNat))++[r2]).length+([]++(et.drop e6.toNat)).length) 24)<|ah (bw .i64 (cb+1))<|nx (((([]++(et.take e6.toNat))++[r2])++([]++(et.drop e6.toNat))),(cb+1))) (fun r=>rt r)else dn et
def qfd(hy ad:Int)(ab:(List af))(av a0:Int)(s0:(qL2×Int)):Option (qL2⊕(qL2×Int)):=ar (fun a=>j4 hy ad ab av a0 a.1 a.2 (fun a' =>some (.next a')) (fun e=>some (.done e)) (fun r=>some (.ret r))) s0
def q4u:Shp:=⟨[q25,j2r,zgn,qu2],[qfz]⟩
def q4t:Shp:=⟨[zgn],[]⟩
def qdn(aa:ca):Option (qL2×Int):=bif decide ((16:Int)<aa.1)then some ([],13)else bnd (qps aa.1 aa.2.1 aa.2.2.1 aa.2.2.2.1 (1,0)) fun oe1=>lk oe1 (fun e1=>bnd (qfd e1 aa.1 aa.2.1 aa.2.2.1 aa.2.2.2.1 ([],1)) fun oe7=>lk oe7 (fun e7=>some (e7,0)) (fun r=>some r)) (fun r=>some r)
def tp{R:Type}(nd:qL2)(ad:Int)(ab:(List af))(av a0 ih:Int)(nx:Int→Option R)(dn:Unit→Option R)(rt:(Bool×Int)→Option R):Option R:=bif decide (ih<(nd.length:Int))then ah (ix ih nd.length)<|ah (ix ih nd.length)<|bnd (fm (nd.getD ih.toNat []) av) fun r5=>bif (!r5)then rt (false,0)else ah (bw .i64 (ih+1))<|nx (ih+1)else dn ()
def qkg(nd:qL2)(ad:Int)(ab:(List af))(av a0 s0:Int):Option (Unit⊕(Bool×Int)):=ar (fun a=>tp nd ad ab av a0 a (fun a' =>some (.next a')) (fun e=>some (.done e)) (fun r=>some (.ret r))) s0
def je1:Shp:=⟨[q25,(7, .d true qT2),jlx],[qov]⟩
def je0:Shp:=⟨[],[]⟩
def qjj(aa:ca):Option (Bool×Int):=bnd (qjh aa) fun r1=>bif (!decide (r1.2=0))then some (false,r1.2)else bnd (qma aa) fun r2=>bif (!r2)then some (false,19)else bnd (qap r1.1) fun r3=>bif (!decide (r3.2=0))then some (false,r3.2)else bif (!r3.1)then some (false,r3.2)else bnd (qdn r1.1) fun r4=>bif (!decide (r4.2=0))then some (false,r4.2)else bnd (qkg r4.1 aa.1 aa.2.1 aa.2.2.1 aa.2.2.2.1 0) fun oe6=>lk oe6 (fun e6=>some (true,0)) (fun r=>some r)
def th(aa:ca):Option Bool:=bnd (qrz) fun r1=>bif (!r1)then some false else bnd (qiu aa) fun r2=>bif r2 then some true else bnd (cx aa) fun r3=>bnd (j7 aa) fun r4=>bnd (jz aa) fun r5=>bnd (qjj aa) fun r6=>bif (r3.1==r4.1)then bif decide (r3.2=r4.2)then bif (r5.1==r6.1)then some (decide (r5.2=r6.2))else some false else some false else some false
end Go.Proofs.YtclbndfjhjladaaGreat
