/-
  The functions compute what their models say. Made by program (mg3.py) out of the translation.
-/
import Derived.Test.YtclbndfjhjladaaGreatZ6Md
import Derived.Test.YtclbndfjhjladaaGreatZ6Tt
set_option linter.all false
set_option maxRecDepth 100000
namespace Go.Proofs.YtclbndfjhjladaaGreat
open Go.K Go.M
noncomputable section
def jj9:Shp:=⟨[(0, .d true ab.ty)],[.arr 0 (.fz true) [] qT0, .arr 0 (.fz true) [] qT0]⟩
abbrev jxs:Ctx ((ab×qL1×qL1)):=⟨11,tt,false,false,[false,false],em [],ew [],ca 11 tt [false,false] [.cell 6 64] jj9 (fun x=>(x.1.1,x.2.1,x.2.2.1))⟩
theorem jxr:CtxM Tryz.prog jxs:=fa fits bt m0
abbrev jn2:Mdl:=(bn (.cons (.d false .str) (.cons (.own 0) (.cons (.own 1) .nil))) [.arr 3 (.fz true) [0] qT0, .arr 3 (.fz true) [0] qT0] [false,false] 1 jj9 (B:=(ab×qL1×qL1)) (fun b=>((b.1,()),(b.2.1,b.2.2,()))) (fun a=>qow a.1.1 a.2.1 a.2.2.1))
theorem jr6:MdlOK Tryz.prog 38 jn2:=ey Tryz.func38 rfl jxr .z s0
def q5m:Shp:=⟨[(0, .d true .bool)],[]⟩
abbrev jpz:Ctx (Bool):=⟨17,tt,false,false,[],em [],ew [],ca 17 tt [] [.tmp 2] q5m (fun x=>x.1.1)⟩
theorem jpy:CtxM Tryz.prog jpz:=fa fits bt m0
abbrev qyh:Mdl:=(bn (.cons (.d false (.int .u8)) .nil) [] [] 1 q5m (B:=Bool) (fun b=>((b,()),(()))) (fun a=>qox a.1.1))
theorem q2l:MdlOK Tryz.prog 128 qyh:=ey Tryz.func128 rfl jpy .z s0
def jfd:Shp:=⟨[(0, .d true .bool)],[]⟩
abbrev jug:Ctx (Bool):=⟨25,tt,false,false,[],em [(128,qyh)],ew [],ca 25 tt [] [.tmp 2] jfd (fun x=>x.1.1)⟩
theorem juf:CtxM Tryz.prog jug:=fa fits bt (mC q2l m0)
abbrev jkt:Mdl:=(bn (.cons (.d false (.int .u8)) .nil) [] [] 1 jfd (B:=Bool) (fun b=>((b,()),(()))) (fun a=>q4i a.1.1))
theorem jp0:MdlOK Tryz.prog 129 jkt:=ey Tryz.func129 rfl juf .z s0
def q5l:Shp:=⟨[(0, .d true .bool)],[]⟩
abbrev q9f:Ctx (Bool):=⟨29,tt,false,false,[],em [(128,qyh),(129,jkt)],ew [aw _ 29 [] jkr (C:=(ByteArray×Int)) (S:=Int) (fun x=>((x.1.1,x.1.2.1),x.1.2.2.1)) jkq (CE:=Unit) (E:=Unit) (fun c e=>((()),(()))) (fun c=>()) (fun{R} c a nx dn rt=>qb3 c.1 c.2 a nx dn rt)],ca 29 tt [] [.tmp 2] q5l (fun x=>x.1.1)⟩
theorem q9d:CtxM Tryz.prog q9f:=fa fits bt (mC q2l (mC jp0 m0))
theorem jms:bj Tryz.prog q9f 0 (lc 0 Tryz.f84 75):=lp rfl q9d .z s0 (fun c a=>((c.1,c.2,a,()),(()))) (fun y=>((),()))
abbrev q9e:Mdl:=(bn (.cons (.d false .str) .nil) [] [] 1 q5l (B:=Bool) (fun b=>((b,()),(()))) (fun a=>qs0 a.1.1))
theorem jks:MdlOK Tryz.prog 84 q9e:=ey Tryz.func84 rfl q9d (.two .z (.two .z (.two (.two .z (.s 0)) .z))) (sC jms s0)
def q2t:Shp:=⟨[(0, .d true .bool)],[]⟩
abbrev q5t:Ctx (Bool):=⟨36,tt,false,false,[],em [],ew [aw _ 36 [] jg1 (C:=(qL1×qL1×Int×Int×(List ab)×Int×Int)) (S:=Int) (fun x=>((x.1.1,x.1.2.2.1,x.1.2.2.2.1,x.2.1.1,x.2.1.2.1,x.2.1.2.2.1,x.2.1.2.2.2.1),x.1.2.2.2.2.1)) jg0 (CE:=Unit) (E:=Unit) (fun c e=>((()),(()))) (fun c=>()) (fun{R} c a nx dn rt=>rm c.1 c.2.1 c.2.2.1 c.2.2.2.1 c.2.2.2.2.1 c.2.2.2.2.2.1 c.2.2.2.2.2.2 a nx dn rt)],ca 36 tt [] [.tmp 4] q2t (fun x=>x.1.1)⟩
theorem q5r:CtxM Tryz.prog q5t:=fa fits bt m0
theorem jk4:bj Tryz.prog q5t 0 (lc 0 Tryz.f85 37):=lp rfl q5r .z s0 (fun c a=>((c.1,(),c.2.1,c.2.2.1,a,()),((c.2.2.2.1,c.2.2.2.2.1,c.2.2.2.2.2.1,c.2.2.2.2.2.2,()),()))) (fun y=>((),()))
abbrev q5s:Mdl:=(bn (.cons (.d false ff.ty) (.cons (.d false qT1) .nil)) [] [] 1 q2t (B:=Bool) (fun b=>((b,()),(()))) (fun a=>pe a.1.1 a.1.2.1))
theorem jg2:MdlOK Tryz.prog 85 q5s:=ey Tryz.func85 rfl q5r (.two .z (.two (.two .z (.s 0)) .z)) (sC jk4 s0)
def q5q:Shp:=⟨[(0, .d true .bool)],[]⟩
abbrev q9p:Ctx (Bool):=⟨62,tt,false,false,[],em [(84,q9e),(85,q5s)],ew [aw _ 62 [] jkz (C:=((List ab)×Int×Int×(List ab)×Int×Int)) (S:=Int) (fun x=>((x.1.2.1,x.1.2.2.1,x.2.1.1,x.2.1.2.1,x.2.1.2.2.1,x.2.1.2.2.2.1),x.1.2.2.2.1)) jky (CE:=(Int×(List ab)×Int×Int)) (E:=Unit) (fun c e=>(((),()),((c.1,c.2.1,c.2.2.1,c.2.2.2,()),()))) (fun c=>(c.2.2.1,c.2.2.2.1,c.2.2.2.2.1,c.2.2.2.2.2)) (fun{R} c a nx dn rt=>qi1 c.1 c.2.1 c.2.2.1 c.2.2.2.1 c.2.2.2.2.1 c.2.2.2.2.2 a nx dn rt)],ca 62 tt [] [.tmp 2] q5q (fun x=>x.1.1)⟩
theorem q9o:CtxM Tryz.prog q9p:=fa fits bt (mC jks (mC jg2 m0))
theorem jmt:bj Tryz.prog q9p 0 (lc 0 Tryz.f41 75):=lp rfl q9o .z s0 (fun c a=>(((),c.1,c.2.1,a,()),((c.2.2.1,c.2.2.2.1,c.2.2.2.2.1,c.2.2.2.2.2,()),()))) (fun y=>((y.2.1.1,y.2.1.2.1,y.2.1.2.2.1,y.2.1.2.2.2.1),()))
abbrev jw:Mdl:=(bn (.cons (.d false ff.ty) .nil) [] [] 1 q5q (B:=Bool) (fun b=>((b,()),(()))) (fun a=>jo a.1.1))
theorem ir:MdlOK Tryz.prog 41 jw:=ey Tryz.func41 rfl q9o (.two .z (.two .z (.two (.two .z (.s 0)) .z))) (sC jmt s0)
def qgs:Shp:=⟨[(0, .ptr 0)],[.cs 103 2 1 (.cons (.d true qT0) (.cons (.own 1) .nil)), .arr 3 (.fz true) [0] qT0]⟩
abbrev qit:Ctx ((Int×qL1)):=⟨33,tt,false,false,[],em [],ew [aw _ 33 [] qty (C:=(Int×Int)) (S:=(Int×qL1)) (fun x=>((x.1.2.1,x.2.1.1),(x.1.2.2.1,x.2.2.1))) qtx (CE:=Int) (E:=qL1) (fun c e=>(((),()),((c,(),()),e,()))) (fun c=>c.2) (fun{R} c a nx dn rt=>qeo c.1 c.2 a.1 a.2 nx dn rt)],ca 33 tt [] [.tmp 2] qgs (fun x=>(x.2.1.1,x.2.2.1))⟩
theorem qis:CtxM Tryz.prog qit:=fa fits bt m0
theorem qvb:bj Tryz.prog qit 0 (lc 0 Tryz.f87 75):=lp rfl qis .z s0 (fun c a=>(((),c.1,a.1,()),((c.2,(),()),a.2,()))) (fun y=>(y.2.1.1,y.2.2.1))
abbrev zc:Mdl:=(bn (.cons (.d false ff.ty) .nil) [] [] 1 qgs (B:=(Int×qL1)) (fun b=>(((),()),((b.1,(),()),b.2,()))) (fun a=>qat a.1.1))
theorem qep:MdlOK Tryz.prog 87 zc:=ey Tryz.func87 rfl qis (.two .z (.two (.d [0,1,0,4,0,16,48,124,252,511,1023,2047] [] []) (.two (.two .z (.s 0)) .z))) (sC qvb s0)
def qdw:Shp:=⟨[(0, .d true qT0)],[.cs 103 2 1 (.cons (.d true qT0) (.cons (.own 1) .nil)), .arr 3 (.fz true) [0] qT0]⟩
abbrev qen:Ctx ((Int×Int×qL1)):=⟨41,tt,false,false,[true,true],em [],ew [aw _ 41 [true,true] qrl (C:=Int) (S:=(Int×qL1)) (fun x=>(x.2.1.1,(x.1.2.1,x.2.2.1))) qrk (CE:=Int) (E:=(Int×qL1)) (fun c e=>((e.1,()),((c,(),()),e.2,()))) (fun c=>c) (fun{R} c a nx dn rt=>qby c a.1 a.2 nx dn rt)],ca 41 tt [true,true] [.tmp 4] qdw (fun x=>(x.1.1,x.2.1.1,x.2.2.1))⟩
theorem qem:CtxM Tryz.prog qen:=fa fits bt m0
theorem qr6:bj Tryz.prog qen 0 (lc 0 Tryz.f89 17):=lp rfl qem (.two .z (.one (.two (.d [0,1,3,7,0,0,32,96,224,0,512,1536,3584,0,15872,32256,65504,131040,262143,524287] [19] []) .z))) s0 (fun c a=>(((),a.1,()),((c,(),()),a.2,()))) (fun y=>(y.2.1.1,(y.1.1,y.2.2.1)))
abbrev m5:Mdl:=(bn (.cons (.ptr 0) (.cons (.d false qT0) .nil)) [.cs 103 2 1 (.cons (.d false qT0) (.cons (.own 1) .nil)), .arr 3 (.fz true) [0] qT0] [true,true] 1 qdw (B:=(Int×Int×qL1)) (fun b=>((b.1,()),((b.2.1,(),()),b.2.2,()))) (fun a=>gz a.1.2.1 a.2.1.1 a.2.2.1))
theorem p5:MdlOK Tryz.prog 89 m5:=ey Tryz.func89 rfl qem (.two .z (.two (.s 0) .z)) (sC qr6 s0)
def qbz:Shp:=⟨[],[.cs 103 2 1 (.cons (.d true qT0) (.cons (.own 1) .nil)), .arr 3 (.fz true) [0] qT0]⟩
abbrev qr8:Ctx ((Int×qL1)):=⟨30,tt,false,false,[true,true],em [(89,m5)],ew [],ca 30 tt [true,true] [] qbz (fun x=>(x.2.1.1,x.2.2.1))⟩
theorem qr7:CtxM Tryz.prog qr8:=fa fits bt (mC p5 m0)
abbrev ri:Mdl:=(bn (.cons (.ptr 0) (.cons (.d false qT0) (.cons (.d false qT0) .nil))) [.cs 103 2 1 (.cons (.d false qT0) (.cons (.own 1) .nil)), .arr 3 (.fz true) [0] qT0] [true,true] 0 qbz (B:=(Int×qL1)) (fun b=>((()),((b.1,(),()),b.2,()))) (fun a=>td a.1.2.1 a.1.2.2.1 a.2.1.1 a.2.2.1))
theorem qa2:MdlOK Tryz.prog 88 ri:=ey Tryz.func88 rfl qr7 (.two (.d [0,0,3,0,0,16,48,112,0,496,1023,2047,4095] [2,10,11,12] []) .z) s0
def qmb:Shp:=⟨[(0, .nl false (.own 0))],[.arr 69 .own [3,3] be.ty]⟩
abbrev m9:Ctx ((List be)):=⟨99,tt,false,false,[],em [(87,zc),(88,ri),(89,m5)],ew [aw _ 99 [] qxv (C:=(Int×(List ab)×Int×Int×qL1×Int×Int×(List ab)×Int×Int)) (S:=(Int×Int×qL1)) (fun x=>((x.1.2.2.1,x.1.2.2.2.1,x.1.2.2.2.2.1,x.1.2.2.2.2.2.1,x.1.2.2.2.2.2.2.1,x.1.2.2.2.2.2.2.2.1,x.2.1.1,x.2.1.2.1,x.2.1.2.2.1,x.2.1.2.2.2.1),(x.1.2.2.2.2.2.2.2.2.1,x.2.2.1.1,x.2.2.2.1))) qxu (CE:=((List ab)×Int×Int×Int×(List ab)×Int×Int)) (E:=(Int×qL1)) (fun c e=>(((),(),c.1,c.2.1,c.2.2.1,()),((c.2.2.2.1,c.2.2.2.2.1,c.2.2.2.2.2.1,c.2.2.2.2.2.2,()),(e.1,(),()),e.2,()))) (fun c=>(c.2.1,c.2.2.1,c.2.2.2.1,c.2.2.2.2.2.2.1,c.2.2.2.2.2.2.2.1,c.2.2.2.2.2.2.2.2.1,c.2.2.2.2.2.2.2.2.2)) (fun{R} c a nx dn rt=>qik c.1 c.2.1 c.2.2.1 c.2.2.2.1 c.2.2.2.2.1 c.2.2.2.2.2.1 c.2.2.2.2.2.2.1 c.2.2.2.2.2.2.2.1 c.2.2.2.2.2.2.2.2.1 c.2.2.2.2.2.2.2.2.2 a.1 a.2.1 a.2.2 nx dn rt),aw _ 99 [] qxx (C:=((List ab)×Int×Int×(List ab)×Int×Int)) (S:=(Int×Int×qL1)) (fun x=>((x.1.2.2.1,x.1.2.2.2.1,x.2.1.1,x.2.1.2.1,x.2.1.2.2.1,x.2.1.2.2.2.1),(x.1.2.2.2.2.1,x.2.2.1.1,x.2.2.2.1))) qxw (CE:=(Int×(List ab)×Int×Int)) (E:=(Int×qL1)) (fun c e=>(((),(),()),((c.1,c.2.1,c.2.2.1,c.2.2.2,()),(e.1,(),()),e.2,()))) (fun c=>(c.2.2.1,c.2.2.2.1,c.2.2.2.2.1,c.2.2.2.2.2)) (fun{R} c a nx dn rt=>qil c.1 c.2.1 c.2.2.1 c.2.2.2.1 c.2.2.2.2.1 c.2.2.2.2.2 a.1 a.2.1 a.2.2 nx dn rt),ne _ 99 [] qx1 (A:=(Int×Int×Int×Int×Int×(List ab)×Int×Int×Int×(List (Int×Int))×(List be)×qL1)) (fun x=>(x.1.2.2.2.2.1,x.1.2.2.2.2.2.1,x.1.2.2.2.2.2.2.1,x.1.2.2.2.2.2.2.2.1,x.2.1.1,x.2.1.2.1,x.2.1.2.2.1,x.2.1.2.2.2.1,x.2.2.1.1,x.2.2.2.1,x.2.2.2.2.1,x.2.2.2.2.2.1)) qx0 (CE:=(Int×Int×Int×(List ab)×Int×Int×Int×(List (Int×Int))×qL1)) (E:=(List be)) (fun c e=>(((),(),(),(),c.1,c.2.1,()),((c.2.2.1,c.2.2.2.1,c.2.2.2.2.1,c.2.2.2.2.2.1,()),(c.2.2.2.2.2.2.1,(),()),c.2.2.2.2.2.2.2.1,e,c.2.2.2.2.2.2.2.2,()))) (fun c=>(c.2.2.1,c.2.2.2.1,c.2.2.2.2.1,c.2.2.2.2.2.1,c.2.2.2.2.2.2.1,c.2.2.2.2.2.2.2.1,c.2.2.2.2.2.2.2.2.1,c.2.2.2.2.2.2.2.2.2.1,c.2.2.2.2.2.2.2.2.2.2.2)) (fun{R} c dn rt=>qin c.1 c.2.1 c.2.2.1 c.2.2.2.1 c.2.2.2.2.1 c.2.2.2.2.2.1 c.2.2.2.2.2.2.1 c.2.2.2.2.2.2.2.1 c.2.2.2.2.2.2.2.2.1 c.2.2.2.2.2.2.2.2.2.1 c.2.2.2.2.2.2.2.2.2.2.1 c.2.2.2.2.2.2.2.2.2.2.2 dn rt),aw _ 99 [] qxz (C:=(Int×Int×(List ab)×Int×Int)) (S:=(Int×Int×(List (Int×Int))×(List be)×qL1)) (fun x=>((x.1.2.2.2.2.1,x.2.1.1,x.2.1.2.1,x.2.1.2.2.1,x.2.1.2.2.2.1),(x.1.2.2.2.2.2.1,x.2.2.1.1,x.2.2.2.1,x.2.2.2.2.1,x.2.2.2.2.2.1))) qxy (CE:=Unit) (E:=(List be)) (fun c e=>(((),()),(e,()))) (fun c=>()) (fun{R} c a nx dn rt=>qim c.1 c.2.1 c.2.2.1 c.2.2.2.1 c.2.2.2.2 a.1 a.2.1 a.2.2.1 a.2.2.2.1 a.2.2.2.2 nx dn rt)],ca 99 tt [] [.tmp 2] qmb (fun x=>x.2.1)⟩
theorem m8:CtxM Tryz.prog m9:=fa fits bt (mC qep (mC qa2 (mC p5 m0)))
theorem q0w:bj Tryz.prog m9 2 (jc Tryz.f43 255583):=jn rfl m8 (.two .z (.two (.d [0,0,0,0,12,28,60,0,128,508,3,2047,4095] [9,12] []) (.d [0,0,0,0,12,28,60,0,0,256,896,1920,4092,3,16383,32767] [12,15] []))) s0 (fun c=>(((),(),(),(),c.1,c.2.1,c.2.2.1,c.2.2.2.1,()),((c.2.2.2.2.1,c.2.2.2.2.2.1,c.2.2.2.2.2.2.1,c.2.2.2.2.2.2.2.1,()),(c.2.2.2.2.2.2.2.2.1,(),()),c.2.2.2.2.2.2.2.2.2.1,c.2.2.2.2.2.2.2.2.2.2.1,c.2.2.2.2.2.2.2.2.2.2.2,()))) (fun y=>((y.1.2.2.2.2.1,y.1.2.2.2.2.2.1,y.2.1.1,y.2.1.2.1,y.2.1.2.2.1,y.2.1.2.2.2.1,y.2.2.1.1,y.2.2.2.1,y.2.2.2.2.2.1),y.2.2.2.2.1))
theorem q0u:bj Tryz.prog m9 0 (lc 2 Tryz.f43 19659):=lp rfl m8 .z s0 (fun c a=>(((),(),c.1,c.2.1,c.2.2.1,c.2.2.2.1,c.2.2.2.2.1,c.2.2.2.2.2.1,a.1,()),((c.2.2.2.2.2.2.1,c.2.2.2.2.2.2.2.1,c.2.2.2.2.2.2.2.2.1,c.2.2.2.2.2.2.2.2.2,()),(a.2.1,(),()),a.2.2,()))) (fun y=>((y.1.2.2.1,y.1.2.2.2.1,y.1.2.2.2.2.1,y.2.1.1,y.2.1.2.1,y.2.1.2.2.1,y.2.1.2.2.2.1),(y.2.2.1.1,y.2.2.2.1)))
theorem q0x:bj Tryz.prog m9 3 (lc 4 Tryz.f43 607):=lp rfl m8 (.two .z (.two .z (.two (.one (.two .z (.two .z (.two .z (.two .z (.s 2)))))) .z))) (sC q0w s0) (fun c a=>(((),(),(),(),c.1,a.1,()),((c.2.1,c.2.2.1,c.2.2.2.1,c.2.2.2.2,()),(a.2.1,(),()),a.2.2.1,a.2.2.2.1,a.2.2.2.2,()))) (fun y=>((),y.2.1))
theorem q0v:bj Tryz.prog m9 1 (lc 0 Tryz.f43 75):=lp rfl m8 (.two .z (.two .z (.two (.one (.two .z (.two .z (.s 0)))) .z))) (sC q0u s0) (fun c a=>(((),(),c.1,c.2.1,a.1,()),((c.2.2.1,c.2.2.2.1,c.2.2.2.2.1,c.2.2.2.2.2,()),(a.2.1,(),()),a.2.2,()))) (fun y=>((y.2.1.1,y.2.1.2.1,y.2.1.2.2.1,y.2.1.2.2.2.1),(y.2.2.1.1,y.2.2.2.1)))
abbrev qb0:Mdl:=(bn (.cons (.d false ff.ty) .nil) [] [] 1 qmb (B:=(List be)) (fun b=>(((),()),(b,()))) (fun a=>qd2 a.1.1))
theorem qio:MdlOK Tryz.prog 43 qb0:=ey Tryz.func43 rfl m8 (.two .z (.two .z (.two (.two .z (.s 1)) (.two .z (.two .z (.two (.two .z (.s 3)) .z)))))) (sC q0v (sC q0x s0))
def ql9:Shp:=⟨[(0, .nl false (.own 0)),(1, .d true qT0)],[.arr 69 .own [3,3] be.ty]⟩
abbrev q10:Ctx ((Int×(List be))):=⟨9,tt,false,false,[],em [(41,jw),(43,qb0)],ew [],ca 9 tt [] [.tmp 2, .tmp 3] ql9 (fun x=>(x.1.2.1,x.2.1))⟩
theorem q1z:CtxM Tryz.prog q10:=fa fits bt (mC ir (mC qio m0))
abbrev qok:Mdl:=(bn (.cons (.d false ff.ty) .nil) [] [] 2 ql9 (B:=(Int×(List be))) (fun b=>(((),b.1,()),(b.2,()))) (fun a=>qqb a.1.1))
theorem qxr:MdlOK Tryz.prog 11 qok:=ey Tryz.func11 rfl q1z .z s0
def qj4:Shp:=⟨[(0, .d true qT0)],[]⟩
abbrev qmq:Ctx (Int):=⟨19,tt,false,false,[],em [],ew [aw _ 19 [] qw2 (C:=(qL1×Int×Int)) (S:=Int) (fun x=>((x.1.1,x.1.2.1,x.1.2.2.1),x.1.2.2.2.1)) qw1 (CE:=Unit) (E:=Unit) (fun c e=>((()),(()))) (fun c=>()) (fun{R} c a nx dn rt=>n5 c.1 c.2.1 c.2.2 a nx dn rt)],ca 19 tt [] [.tmp 4] qj4 (fun x=>x.1.1)⟩
theorem qmo:CtxM Tryz.prog qmq:=fa fits bt m0
theorem qyr:bj Tryz.prog qmq 0 (lc 0 Tryz.f80 37):=lp rfl qmo .z s0 (fun c a=>((c.1,c.2.1,c.2.2,a,()),(()))) (fun y=>((),()))
abbrev qmp:Mdl:=(bn (.cons (.d false qT1) (.cons (.d false qT0) .nil)) [] [] 1 qj4 (B:=Int) (fun b=>((b,()),(()))) (fun a=>qb7 a.1.1 a.1.2.1))
theorem qw3:MdlOK Tryz.prog 80 qmp:=ey Tryz.func80 rfl qmo (.two .z (.two (.two .z (.s 0)) .z)) (sC qyr s0)
def qdx:Shp:=⟨[(0, .d true .bool)],[]⟩
abbrev quk:Ctx (Bool):=⟨9,tt,false,false,[],em [(80,qmp)],ew [],ca 9 tt [] [.tmp 4] qdx (fun x=>x.1.1)⟩
theorem quj:CtxM Tryz.prog quk:=fa fits bt (mC qw3 m0)
abbrev db:Mdl:=(bn (.cons (.d false qT1) (.cons (.d false qT0) .nil)) [] [] 1 qdx (B:=Bool) (fun b=>((b,()),(()))) (fun a=>ce a.1.1 a.1.2.1))
theorem di:MdlOK Tryz.prog 35 db:=ey Tryz.func35 rfl quj .z s0
def qs7:Shp:=⟨[(0, .d true .bool)],[]⟩
abbrev jdg:Ctx (Bool):=⟨8,tt,false,false,[],em [],ew [],ca 8 tt [] [.tmp 3] qs7 (fun x=>x.1.1)⟩
theorem jdf:CtxM Tryz.prog jdg:=fa fits bt m0
abbrev qv3:Mdl:=(bn (.cons (.d false qT0) (.cons (.rp false (.slice .bool)) .nil)) [] [] 1 qs7 (B:=Bool) (fun b=>((b,()),(()))) (fun a=>qzr a.1.1 a.1.2.1))
theorem q7c:MdlOK Tryz.prog 130 qv3:=ey Tryz.func130 rfl jdf .z s0
def v9:Shp:=⟨[(0, .d true qT0)],[]⟩
abbrev yf:Ctx (Int):=⟨19,tt,false,false,[],em [(130,qv3)],ew [aw _ 19 [] qlf (C:=(qL1×(List Bool)×Int)) (S:=Int) (fun x=>((x.1.1,x.1.2.1.1,x.1.2.2.1),x.1.2.2.2.1)) qle (CE:=Unit) (E:=Unit) (fun c e=>((()),(()))) (fun c=>()) (fun{R} c a nx dn rt=>tw c.1 c.2.1 c.2.2 a nx dn rt)],ca 19 tt [] [.tmp 4] v9 (fun x=>x.1.1)⟩
theorem yd:CtxM Tryz.prog yf:=fa fits bt (mC q7c m0)
theorem qnb:bj Tryz.prog yf 0 (lc 0 Tryz.f79 37):=lp rfl yd .z s0 (fun c a=>((c.1,(c.2.1,()),c.2.2,a,()),(()))) (fun y=>((),()))
abbrev ye:Mdl:=(bn (.cons (.d false qT1) (.cons (.fn 130 (.cons (.rp false (.slice .bool)) .nil)) .nil)) [] [] 1 v9 (B:=Int) (fun b=>((b,()),(()))) (fun a=>qac a.1.1 a.1.2.1.1))
theorem qlg:MdlOK Tryz.prog 79 ye:=ey Tryz.func79 rfl yd (.two .z (.two (.two .z (.s 0)) .z)) (sC qnb s0)
def qu:Shp:=⟨[(0, .d true .bool)],[]⟩
abbrev qjm:Ctx (Bool):=⟨9,tt,false,false,[],em [(79,ye)],ew [],ca 9 tt [] [.tmp 4] qu (fun x=>x.1.1)⟩
theorem qjl:CtxM Tryz.prog qjm:=fa fits bt (mC qlg m0)
abbrev sg:Mdl:=(bn (.cons (.d false qT1) (.cons (.fn 130 (.cons (.rp false (.slice .bool)) .nil)) .nil)) [] [] 1 qu (B:=Bool) (fun b=>((b,()),(()))) (fun a=>l7 a.1.1 a.1.2.1.1))
theorem qfr:MdlOK Tryz.prog 32 sg:=ey Tryz.func32 rfl qjl .z s0
def qzq:Shp:=⟨[(0, .own 0),(1, .own 1)],[.arr 4 (.fz true) [0] .bool, .arr 4 (.fz true) [0] .bool]⟩
abbrev qi3:Ctx (((List Bool)×(List Bool))):=⟨69,tt,false,false,[],em [(32,sg)],ew [aw _ 69 [] jda (C:=(Bool×Bool×(List ab)×Int×Int×qL1×Int×Int×(List ab)×Int×Int×(List Bool))) (S:=(Int×(List Bool))) (fun x=>((x.1.1,x.1.2.2.2.2.1,x.1.2.2.2.2.2.1,x.1.2.2.2.2.2.2.1,x.1.2.2.2.2.2.2.2.1,x.1.2.2.2.2.2.2.2.2.1,x.1.2.2.2.2.2.2.2.2.2.1,x.2.1.1,x.2.1.2.1,x.2.1.2.2.1,x.2.1.2.2.2.1,x.2.2.2.1),(x.1.2.2.2.2.2.2.2.2.2.2.1,x.2.2.2.2.1))) jc9 (CE:=(Bool×Bool×(List ab)×Int×Int×Int×(List ab)×Int×Int×(List Bool))) (E:=(List Bool)) (fun c e=>((c.1,(),(),(),c.2.1,c.2.2.1,c.2.2.2.1,c.2.2.2.2.1,()),((c.2.2.2.2.2.1,c.2.2.2.2.2.2.1,c.2.2.2.2.2.2.2.1,c.2.2.2.2.2.2.2.2.1,()),((),()),c.2.2.2.2.2.2.2.2.2,e,()))) (fun c=>(c.1,c.2.1,c.2.2.1,c.2.2.2.1,c.2.2.2.2.1,c.2.2.2.2.2.2.2.1,c.2.2.2.2.2.2.2.2.1,c.2.2.2.2.2.2.2.2.2.1,c.2.2.2.2.2.2.2.2.2.2.1,c.2.2.2.2.2.2.2.2.2.2.2)) (fun{R} c a nx dn rt=>qv0 c.1 c.2.1 c.2.2.1 c.2.2.2.1 c.2.2.2.2.1 c.2.2.2.2.2.1 c.2.2.2.2.2.2.1 c.2.2.2.2.2.2.2.1 c.2.2.2.2.2.2.2.2.1 c.2.2.2.2.2.2.2.2.2.1 c.2.2.2.2.2.2.2.2.2.2.1 c.2.2.2.2.2.2.2.2.2.2.2 a.1 a.2 nx dn rt),aw _ 69 [] jdc (C:=(Bool×(List ab)×Int×Int×(List ab)×Int×Int)) (S:=(Bool×Int×(List Bool)×(List Bool))) (fun x=>((x.1.1,x.1.2.2.2.2.2.1,x.1.2.2.2.2.2.2.1,x.2.1.1,x.2.1.2.1,x.2.1.2.2.1,x.2.1.2.2.2.1),(x.1.2.2.2.2.1,x.1.2.2.2.2.2.2.2.1,x.2.2.2.1,x.2.2.2.2.1))) jdb (CE:=(Bool×Int×(List ab)×Int×Int)) (E:=(Bool×(List Bool)×(List Bool))) (fun c e=>((c.1,(),(),(),e.1,()),((c.2.1,c.2.2.1,c.2.2.2.1,c.2.2.2.2,()),((),()),e.2.1,e.2.2,()))) (fun c=>(c.1,c.2.2.2.1,c.2.2.2.2.1,c.2.2.2.2.2.1,c.2.2.2.2.2.2)) (fun{R} c a nx dn rt=>qv1 c.1 c.2.1 c.2.2.1 c.2.2.2.1 c.2.2.2.2.1 c.2.2.2.2.2.1 c.2.2.2.2.2.2 a.1 a.2.1 a.2.2.1 a.2.2.2 nx dn rt),aw _ 69 [] jde (C:=(Bool×Int×(List ab)×Int×Int)) (S:=(Bool×(List Bool)×(List Bool))) (fun x=>((x.1.1,x.2.1.1,x.2.1.2.1,x.2.1.2.2.1,x.2.1.2.2.2.1),(x.1.2.2.2.2.1,x.2.2.2.1,x.2.2.2.2.1))) jdd (CE:=Unit) (E:=((List Bool)×(List Bool))) (fun c e=>(((),(),()),(((),()),e.1,e.2,()))) (fun c=>()) (fun{R} c a nx dn rt=>qv2 c.1 c.2.1 c.2.2.1 c.2.2.2.1 c.2.2.2.2 a.1 a.2.1 a.2.2 nx dn rt)],ca 69 tt [] [.tmp 6, .tmp 7] qzq (fun x=>(x.2.1,x.2.2.1))⟩
theorem qi2:CtxM Tryz.prog qi3:=fa fits bt (mC qfr m0)
theorem jg5:bj Tryz.prog qi3 0 (lc 4 Tryz.f90 41838231):=lp rfl qi2 .z s0 (fun c a=>((c.1,(),(),(),c.2.1,c.2.2.1,c.2.2.2.1,c.2.2.2.2.1,c.2.2.2.2.2.1,c.2.2.2.2.2.2.1,a.1,()),((c.2.2.2.2.2.2.2.1,c.2.2.2.2.2.2.2.2.1,c.2.2.2.2.2.2.2.2.2.1,c.2.2.2.2.2.2.2.2.2.2.1,()),((),()),c.2.2.2.2.2.2.2.2.2.2.2,a.2,()))) (fun y=>((y.1.1,y.1.2.2.2.2.1,y.1.2.2.2.2.2.1,y.1.2.2.2.2.2.2.1,y.1.2.2.2.2.2.2.2.1,y.2.1.1,y.2.1.2.1,y.2.1.2.2.1,y.2.1.2.2.2.1,y.2.2.2.1),y.2.2.2.2.1))
theorem jg6:bj Tryz.prog qi3 1 (lc 2 Tryz.f90 9879):=lp rfl qi2 (.two .z (.two .z (.two (.one (.two .z (.two (.d [0,1,0,4,3,31] [] []) (.two .z (.two .z (.two .z (.two .z (.s 0)))))))) .z))) (sC jg5 s0) (fun c a=>((c.1,(),(),(),a.1,c.2.1,c.2.2.1,a.2.1,()),((c.2.2.2.1,c.2.2.2.2.1,c.2.2.2.2.2.1,c.2.2.2.2.2.2,()),((),()),a.2.2.1,a.2.2.2,()))) (fun y=>((y.1.1,y.2.1.1,y.2.1.2.1,y.2.1.2.2.1,y.2.1.2.2.2.1),(y.1.2.2.2.2.1,y.2.2.2.1,y.2.2.2.2.1)))
theorem jg7:bj Tryz.prog qi3 2 (lc 0 Tryz.f90 151):=lp rfl qi2 (.two .z (.one (.two .z (.two .z (.s 1))))) (sC jg6 s0) (fun c a=>((c.1,(),(),(),a.1,()),((c.2.1,c.2.2.1,c.2.2.2.1,c.2.2.2.2,()),((),()),a.2.1,a.2.2,()))) (fun y=>((),(y.2.2.1,y.2.2.2.1)))
abbrev q2u:Mdl:=(bn (.cons (.d false ff.ty) (.cons (.d false qT0) (.cons (.d false .bool) .nil))) [] [] 2 qzq (B:=((List Bool)×(List Bool))) (fun b=>(((),(),()),(b.1,b.2,()))) (fun a=>qt9 a.1.1 a.1.2.1 a.1.2.2.1))
theorem jdh:MdlOK Tryz.prog 90 q2u:=ey Tryz.func90 rfl qi2 (.two .z (.two (.d [0,1,3,0,8,24,56,0,135,511] [8] []) (.two .z (.two (.two .z (.s 2)) .z)))) (sC jg7 s0)
def qe1:Shp:=⟨[(0, .d true qT0)],[]⟩
abbrev qg2:Ctx (Int):=⟨19,tt,false,false,[],em [],ew [aw _ 19 [] qse (C:=((List Bool)×Bool×Int)) (S:=Int) (fun x=>((x.1.1,x.1.2.1,x.1.2.2.1),x.1.2.2.2.1)) qsd (CE:=Unit) (E:=Unit) (fun c e=>((()),(()))) (fun c=>()) (fun{R} c a nx dn rt=>qdy c.1 c.2.1 c.2.2 a nx dn rt)],ca 19 tt [] [.tmp 4] qe1 (fun x=>x.1.1)⟩
theorem qg0:CtxM Tryz.prog qg2:=fa fits bt m0
theorem qum:bj Tryz.prog qg2 0 (lc 0 Tryz.f73 37):=lp rfl qg0 .z s0 (fun c a=>((c.1,c.2.1,c.2.2,a,()),(()))) (fun y=>((),()))
abbrev qg1:Mdl:=(bn (.cons (.d false (.slice .bool)) (.cons (.d false .bool) .nil)) [] [] 1 qe1 (B:=Int) (fun b=>((b,()),(()))) (fun a=>qj2 a.1.1 a.1.2.1))
theorem qsf:MdlOK Tryz.prog 73 qg1:=ey Tryz.func73 rfl qg0 (.two .z (.two (.two .z (.s 0)) .z)) (sC qum s0)
def qba:Shp:=⟨[(0, .d true .bool)],[]⟩
abbrev qr3:Ctx (Bool):=⟨9,tt,false,false,[],em [(73,qg1)],ew [],ca 9 tt [] [.tmp 4] qba (fun x=>x.1.1)⟩
theorem qr2:CtxM Tryz.prog qr3:=fa fits bt (mC qsf m0)
abbrev qb6:Mdl:=(bn (.cons (.d false (.slice .bool)) (.cons (.d false .bool) .nil)) [] [] 1 qba (B:=Bool) (fun b=>((b,()),(()))) (fun a=>jd a.1.1 a.1.2.1))
theorem qpz:MdlOK Tryz.prog 27 qb6:=ey Tryz.func27 rfl qr2 .z s0
def qvx:Shp:=⟨[(0, .d true .bool)],[]⟩
abbrev qpo:Ctx (Bool):=⟨65,tt,false,false,[],em [(41,jw),(35,db),(90,q2u),(27,qb6)],ew [aw _ 65 [] q9r (C:=((List ab)×Int×Int×(List ab)×Int×Int)) (S:=Int) (fun x=>((x.1.2.1,x.1.2.2.1,x.2.1.1,x.2.1.2.1,x.2.1.2.2.1,x.2.1.2.2.2.1),x.1.2.2.2.1)) q9q (CE:=(Int×(List ab)×Int×Int)) (E:=Unit) (fun c e=>(((),()),((c.1,c.2.1,c.2.2.1,c.2.2.2,()),()))) (fun c=>(c.2.2.1,c.2.2.2.1,c.2.2.2.2.1,c.2.2.2.2.2)) (fun{R} c a nx dn rt=>qs3 c.1 c.2.1 c.2.2.1 c.2.2.2.1 c.2.2.2.2.1 c.2.2.2.2.2 a nx dn rt),aw _ 65 [] q9t (C:=((List Bool)×Int×Int×(List ab)×Int×Int)) (S:=Int) (fun x=>((x.1.2.1,x.1.2.2.1,x.2.1.1,x.2.1.2.1,x.2.1.2.2.1,x.2.1.2.2.2.1),x.1.2.2.2.1)) q9s (CE:=Unit) (E:=Unit) (fun c e=>((()),(()))) (fun c=>()) (fun{R} c a nx dn rt=>qs4 c.1 c.2.1 c.2.2.1 c.2.2.2.1 c.2.2.2.2.1 c.2.2.2.2.2 a nx dn rt)],ca 65 tt [] [.tmp 2] qvx (fun x=>x.1.1)⟩
theorem qpn:CtxM Tryz.prog qpo:=fa fits bt (mC ir (mC di (mC jdh (mC qpz m0))))
theorem jc2:bj Tryz.prog qpo 1 (lc 2 Tryz.f44 151):=lp rfl qpn .z s0 (fun c a=>(((),c.1,c.2.1,a,()),((c.2.2.1,c.2.2.2.1,c.2.2.2.2.1,c.2.2.2.2.2,()),()))) (fun y=>((),()))
theorem jc1:bj Tryz.prog qpo 0 (lc 0 Tryz.f44 75):=lp rfl qpn .z s0 (fun c a=>(((),c.1,c.2.1,a,()),((c.2.2.1,c.2.2.2.1,c.2.2.2.2.1,c.2.2.2.2.2,()),()))) (fun y=>((y.2.1.1,y.2.1.2.1,y.2.1.2.2.1,y.2.1.2.2.2.1),()))
abbrev qzm:Mdl:=(bn (.cons (.d false ff.ty) .nil) [] [] 1 qvx (B:=Bool) (fun b=>((b,()),(()))) (fun a=>q2p a.1.1))
theorem q9u:MdlOK Tryz.prog 44 qzm:=ey Tryz.func44 rfl qpn (.two .z (.two .z (.two (.two .z (.s 0)) (.two (.two .z (.s 1)) .z)))) (sC jc1 (sC jc2 s0))
def qew:Shp:=⟨[(0, .own 0)],[.arr 3 (.fz true) [0] qT0]⟩
abbrev qwr:Ctx (qL1):=⟨8,tt,false,false,[],em [],ew [],ca 8 tt [] [.tmp 2] qew (fun x=>x.2.1)⟩
theorem qwp:CtxM Tryz.prog qwr:=fa fits bt m0
abbrev qwq:Mdl:=(bn (.cons (.nl false (.d false qT1)) .nil) [] [] 1 qew (B:=qL1) (fun b=>(((),()),(b,()))) (fun a=>qjd a.1.1))
theorem qr9:MdlOK Tryz.prog 45 qwq:=ey Tryz.func45 rfl qwp .z s0
def te:Shp:=⟨[(0, .own 0)],[.arr 3 (.fz true) [0] qT0]⟩
abbrev qwu:Ctx (qL1):=⟨8,tt,false,false,[],em [],ew [],ca 8 tt [] [.tmp 2] te (fun x=>x.2.1)⟩
theorem qws:CtxM Tryz.prog qwu:=fa fits bt m0
abbrev qwt:Mdl:=(bn (.cons (.nl true (.d false qT1)) .nil) [] [] 1 te (B:=qL1) (fun b=>(((),()),(b,()))) (fun a=>pf a.1.1))
theorem qsa:MdlOK Tryz.prog 45 qwt:=ey Tryz.func45 rfl qws .z s0
abbrev gk:Mdl:=(bn (.cons (.d false qT1) .nil) [] [] 1 te (fun(b:qL1)=>(((),()),(b,()))) (fun(a:((qL1×Unit)×(Unit)))=>dh a.1.1))
theorem g9:MdlOK Tryz.prog 45 gk:=by
 refine jxz (j2j _ _) qr9 qsa (by kernel_rfl) (fun a b h=>⟨?_,h⟩);obtain⟨⟨xs,u1⟩,u2⟩:=a;cases xs with
 |nil=>exact h
 |cons x l=>
  have e:decide ((((x::l).length:Nat):Int)=0)=false:=decide_eq_false (by simp only[List.length_cons];omega);simp only[dh,pf]at h;simp only[qjd,e,cond_false];exact h
def qre:Shp:=⟨[(0, .d true ff.ty),(1, .d true qT0)],[]⟩
abbrev qsq:Ctx ((ff×Int)):=⟨60,tt,false,false,[],em [(41,jw),(44,qzm),(45,gk)],ew [aw _ 60 [] q4t (C:=((List ab)×Int×Int×(List ab)×Int×Int×Int×(List ab)×Int×Int×Int×Int×Int)) (S:=(Int×(List ab))) (fun x=>((x.1.2.2.2.1,x.1.2.2.2.2.1,x.2.1.1,x.2.1.2.1,x.2.1.2.2.1,x.2.1.2.2.2.1,x.2.2.1.1,x.2.2.1.2.1,x.2.2.1.2.2.1,x.2.2.1.2.2.2.1,x.2.2.2.1.1,x.2.2.2.1.2.2.1,x.2.2.2.1.2.2.2.1),(x.1.2.2.2.2.2.1,x.2.2.2.2.1))) q4s (CE:=(Int×(List ab)×Int×Int×Int×(List ab)×Int×Int×Int×Int×Int)) (E:=(List ab)) (fun c e=>(((),(),(),()),((c.1,c.2.1,c.2.2.1,c.2.2.2.1,()),(c.2.2.2.2.1,c.2.2.2.2.2.1,c.2.2.2.2.2.2.1,c.2.2.2.2.2.2.2.1,()),(c.2.2.2.2.2.2.2.2.1,(),c.2.2.2.2.2.2.2.2.2.1,c.2.2.2.2.2.2.2.2.2.2,()),e,()))) (fun c=>(c.2.2.1,c.2.2.2.1,c.2.2.2.2.1,c.2.2.2.2.2.1,c.2.2.2.2.2.2.1,c.2.2.2.2.2.2.2.1,c.2.2.2.2.2.2.2.2.1,c.2.2.2.2.2.2.2.2.2.1,c.2.2.2.2.2.2.2.2.2.2.1,c.2.2.2.2.2.2.2.2.2.2.2.1,c.2.2.2.2.2.2.2.2.2.2.2.2)) (fun{R} c a nx dn rt=>qqa c.1 c.2.1 c.2.2.1 c.2.2.2.1 c.2.2.2.2.1 c.2.2.2.2.2.1 c.2.2.2.2.2.2.1 c.2.2.2.2.2.2.2.1 c.2.2.2.2.2.2.2.2.1 c.2.2.2.2.2.2.2.2.2.1 c.2.2.2.2.2.2.2.2.2.2.1 c.2.2.2.2.2.2.2.2.2.2.2.1 c.2.2.2.2.2.2.2.2.2.2.2.2 a.1 a.2 nx dn rt)],ca 60 tt [] [.cell 2 24, .tmp 3] qre (fun x=>(x.1.1,x.1.2.1))⟩
theorem qso:CtxM Tryz.prog qsq:=fa fits bt (mC ir (mC q9u (mC g9 m0)))
theorem q6t:bj Tryz.prog qsq 0 (lc 1 Tryz.f12 303):=lp rfl qso (.two .z (.two .z (.two (.one (.two .z (.d [0,1,0,4,0,16,48,0,128,496,1020,2044,4095,8191,16383] [12,14] []))) .z))) s0 (fun c a=>(((),(),(),c.1,c.2.1,a.1,()),((c.2.2.1,c.2.2.2.1,c.2.2.2.2.1,c.2.2.2.2.2.1,()),(c.2.2.2.2.2.2.1,c.2.2.2.2.2.2.2.1,c.2.2.2.2.2.2.2.2.1,c.2.2.2.2.2.2.2.2.2.1,()),(c.2.2.2.2.2.2.2.2.2.2.1,(),c.2.2.2.2.2.2.2.2.2.2.2.1,c.2.2.2.2.2.2.2.2.2.2.2.2,()),a.2,()))) (fun y=>((y.2.1.1,y.2.1.2.1,y.2.1.2.2.1,y.2.1.2.2.2.1,y.2.2.1.1,y.2.2.1.2.1,y.2.2.1.2.2.1,y.2.2.1.2.2.2.1,y.2.2.2.1.1,y.2.2.2.1.2.2.1,y.2.2.2.1.2.2.2.1),y.2.2.2.2.1))
abbrev qsp:Mdl:=(bn (.cons (.d false ff.ty) .nil) [] [] 2 qre (B:=(ff×Int)) (fun b=>((b.1,b.2,()),(()))) (fun a=>quz a.1.1))
theorem q4u:MdlOK Tryz.prog 12 qsp:=ey Tryz.func12 rfl qso (.two .z (.two .z (.two .z (.two .z (.two (.two .z (.s 0)) .z))))) (sC q6t s0)
def qmh:Shp:=⟨[(0, .d true .bool)],[]⟩
abbrev q19:Ctx (Bool):=⟨8,tt,false,false,[],em [(35,db)],ew [],ca 8 tt [] [.tmp 3] qmh (fun x=>x.1.1)⟩
theorem q18:CtxM Tryz.prog q19:=fa fits bt (mC di m0)
abbrev qos:Mdl:=(bn (.cons (.d false qT0) (.cons (.rp false ab.ty) .nil)) [] [] 1 qmh (B:=Bool) (fun b=>((b,()),(()))) (fun a=>u7 a.1.1 a.1.2.1))
theorem qx8:MdlOK Tryz.prog 86 qos:=ey Tryz.func86 rfl q18 .z s0
def y5:Shp:=⟨[(0, .d true qT0)],[]⟩
abbrev qal:Ctx (Int):=⟨19,tt,false,false,[],em [(86,qos)],ew [aw _ 19 [] qnp (C:=(qL1×ab×Int)) (S:=Int) (fun x=>((x.1.1,x.1.2.1.1,x.1.2.2.1),x.1.2.2.2.1)) qno (CE:=Unit) (E:=Unit) (fun c e=>((()),(()))) (fun c=>()) (fun{R} c a nx dn rt=>i4 c.1 c.2.1 c.2.2 a nx dn rt)],ca 19 tt [] [.tmp 4] y5 (fun x=>x.1.1)⟩
theorem qaj:CtxM Tryz.prog qal:=fa fits bt (mC qx8 m0)
theorem qo7:bj Tryz.prog qal 0 (lc 0 Tryz.f79 37):=lp rfl qaj .z s0 (fun c a=>((c.1,(c.2.1,()),c.2.2,a,()),(()))) (fun y=>((),()))
abbrev qak:Mdl:=(bn (.cons (.d false qT1) (.cons (.fn 86 (.cons (.rp false ab.ty) .nil)) .nil)) [] [] 1 y5 (B:=Int) (fun b=>((b,()),(()))) (fun a=>pi a.1.1 a.1.2.1.1))
theorem qnq:MdlOK Tryz.prog 79 qak:=ey Tryz.func79 rfl qaj (.two .z (.two (.two .z (.s 0)) .z)) (sC qo7 s0)
def sr:Shp:=⟨[(0, .d true .bool)],[]⟩
abbrev qk1:Ctx (Bool):=⟨9,tt,false,false,[],em [(79,qak)],ew [],ca 9 tt [] [.tmp 4] sr (fun x=>x.1.1)⟩
theorem qk0:CtxM Tryz.prog qk1:=fa fits bt (mC qnq m0)
abbrev tq:Mdl:=(bn (.cons (.d false qT1) (.cons (.fn 86 (.cons (.rp false ab.ty) .nil)) .nil)) [] [] 1 sr (B:=Bool) (fun b=>((b,()),(()))) (fun a=>iz a.1.1 a.1.2.1.1))
theorem qg6:MdlOK Tryz.prog 32 tq:=ey Tryz.func32 rfl qk0 .z s0
def qj1:Shp:=⟨[(0, .d true .bool)],[]⟩
abbrev qmm:Ctx (Bool):=⟨26,tt,false,false,[],em [],ew [aw _ 26 [] qw0 (C:=(qL1×qL1×Int)) (S:=Int) (fun x=>((x.1.1,x.1.2.1,x.1.2.2.1),x.1.2.2.2.1)) qwz (CE:=Unit) (E:=Unit) (fun c e=>((()),(()))) (fun c=>()) (fun{R} c a nx dn rt=>kj c.1 c.2.1 c.2.2 a nx dn rt)],ca 26 tt [] [.tmp 4] qj1 (fun x=>x.1.1)⟩
theorem qml:CtxM Tryz.prog qmm:=fa fits bt m0
theorem qyp:bj Tryz.prog qmm 0 (lc 0 Tryz.f26 75):=lp rfl qml (.two .z (.two .z (.two (.one (.two .z (.two (.d [0,0,3,7,0,0,48,112,255] [] []) .z))) .z))) s0 (fun c a=>((c.1,c.2.1,c.2.2,a,()),(()))) (fun y=>((),()))
abbrev qm:Mdl:=(bn (.cons (.d false qT1) (.cons (.d false qT1) .nil)) [] [] 1 qj1 (B:=Bool) (fun b=>((b,()),(()))) (fun a=>kh a.1.1 a.1.2.1))
theorem vy:MdlOK Tryz.prog 26 qm:=ey Tryz.func26 rfl qml (.two .z (.two .z (.two (.two .z (.s 0)) .z))) (sC qyp s0)
def qqh:Shp:=⟨[(0, .d true .bool)],[]⟩
abbrev qfk:Ctx (Bool):=⟨38,tt,false,false,[],em [(32,tq),(26,qm)],ew [aw _ 38 [] q15 (C:=((List ab)×Int×Int×(List ab)×Int×Int×(List ab)×Int×Int×ByteArray×qL1×qL1)) (S:=Int) (fun x=>((x.1.2.2.1,x.1.2.2.2.1,x.1.2.2.2.2.1,x.1.2.2.2.2.2.1,x.1.2.2.2.2.2.2.1,x.2.1.1,x.2.1.2.1,x.2.1.2.2.1,x.2.1.2.2.2.1,x.2.2.1.1,x.2.2.1.2.1,x.2.2.1.2.2.1),x.1.2.2.2.2.2.2.2.1)) q14 (CE:=((List ab)×Int×Int×Int×(List ab)×Int×Int)) (E:=Unit) (fun c e=>(((),c.1,c.2.1,c.2.2.1,()),((c.2.2.2.1,c.2.2.2.2.1,c.2.2.2.2.2.1,c.2.2.2.2.2.2,()),()))) (fun c=>(c.1,c.2.1,c.2.2.1,c.2.2.2.2.2.1,c.2.2.2.2.2.2.1,c.2.2.2.2.2.2.2.1,c.2.2.2.2.2.2.2.2.1)) (fun{R} c a nx dn rt=>na c.1 c.2.1 c.2.2.1 c.2.2.2.1 c.2.2.2.2.1 c.2.2.2.2.2.1 c.2.2.2.2.2.2.1 c.2.2.2.2.2.2.2.1 c.2.2.2.2.2.2.2.2.1 c.2.2.2.2.2.2.2.2.2.1 c.2.2.2.2.2.2.2.2.2.2.1 c.2.2.2.2.2.2.2.2.2.2.2 a nx dn rt),aw _ 38 [] q17 (C:=((List ab)×Int×Int×(List ab)×Int×Int)) (S:=Int) (fun x=>((x.1.2.1,x.1.2.2.1,x.2.1.1,x.2.1.2.1,x.2.1.2.2.1,x.2.1.2.2.2.1),x.1.2.2.2.1)) q16 (CE:=Unit) (E:=Unit) (fun c e=>((()),(()))) (fun c=>()) (fun{R} c a nx dn rt=>nc c.1 c.2.1 c.2.2.1 c.2.2.2.1 c.2.2.2.2.1 c.2.2.2.2.2 a nx dn rt)],ca 38 tt [] [.tmp 2] qqh (fun x=>x.1.1)⟩
theorem qfj:CtxM Tryz.prog qfk:=fa fits bt (mC qg6 (mC vy m0))
theorem q4y:bj Tryz.prog qfk 0 (lc 2 Tryz.f42 9829):=lp rfl qfj .z s0 (fun c a=>(((),(),c.1,c.2.1,c.2.2.1,c.2.2.2.1,c.2.2.2.2.1,a,()),((c.2.2.2.2.2.1,c.2.2.2.2.2.2.1,c.2.2.2.2.2.2.2.1,c.2.2.2.2.2.2.2.2.1,()),(c.2.2.2.2.2.2.2.2.2.1,c.2.2.2.2.2.2.2.2.2.2.1,c.2.2.2.2.2.2.2.2.2.2.2,()),()))) (fun y=>((y.1.2.1,y.1.2.2.1,y.1.2.2.2.1,y.2.1.1,y.2.1.2.1,y.2.1.2.2.1,y.2.1.2.2.2.1),()))
theorem q4z:bj Tryz.prog qfk 1 (lc 0 Tryz.f42 37):=lp rfl qfj (.two .z (.two .z (.two (.one (.two .z (.two .z (.s 0)))) .z))) (sC q4y s0) (fun c a=>(((),c.1,c.2.1,a,()),((c.2.2.1,c.2.2.2.1,c.2.2.2.2.1,c.2.2.2.2.2,()),()))) (fun y=>((),()))
abbrev p6:Mdl:=(bn (.cons (.d false ff.ty) .nil) [] [] 1 qqh (B:=Bool) (fun b=>((b,()),(()))) (fun a=>jm a.1.1))
theorem rx:MdlOK Tryz.prog 42 p6:=ey Tryz.func42 rfl qfj (.two .z (.two (.two .z (.s 1)) .z)) (sC q4z s0)
def qmn:Shp:=⟨[(0, .own 0)],[.arr 3 (.fz true) [0] qT0]⟩
abbrev q36:Ctx (qL1):=⟨27,tt,false,false,[],em [],ew [],ca 27 tt [] [.tmp 4] qmn (fun x=>x.2.1)⟩
theorem q35:CtxM Tryz.prog q36:=fa fits bt m0
abbrev qo4:Mdl:=(bn (.cons (.e) (.cons (.d false qT0) .nil)) [] [] 1 qmn (B:=qL1) (fun b=>(((),()),(b,()))) (fun a=>qqo a.1.2.1))
theorem qyq:MdlOK Tryz.prog 131 qo4:=ey Tryz.func131 rfl q35 .z s0
def qgz:Shp:=⟨[(0, .own 0)],[.arr 3 (.fz true) [0] qT0]⟩
abbrev zm:Ctx (qL1):=⟨36,tt,false,false,[],em [(131,qo4)],ew [aw _ 36 [] quf (C:=(qL2×qL2×Int)) (S:=(Int×Int)) (fun x=>((x.1.1,x.1.2.2.1,x.1.2.2.2.1),(x.1.2.1,x.1.2.2.2.2.1))) que (CE:=qL2) (E:=Int) (fun c e=>((c,e,()),(()))) (fun c=>c.1) (fun{R} c a nx dn rt=>qez c.1 c.2.1 c.2.2 a.1 a.2 nx dn rt),aw _ 36 [] quh (C:=(qL2×Int)) (S:=(Int×qL1)) (fun x=>((x.1.2.1,x.1.2.2.1),(x.1.2.2.2.1,x.2.1))) qug (CE:=Unit) (E:=qL1) (fun c e=>(((),()),(e,()))) (fun c=>()) (fun{R} c a nx dn rt=>qe0 c.1 c.2 a.1 a.2 nx dn rt)],ca 36 tt [] [.tmp 2] qgz (fun x=>x.2.1)⟩
theorem zl:CtxM Tryz.prog zm:=fa fits bt (mC qyq m0)
theorem qwy:bj Tryz.prog zm 1 (lc 2 Tryz.f92 303):=lp rfl zl .z s0 (fun c a=>(((),c.1,c.2,a.1,()),(a.2,()))) (fun y=>((),y.2.1))
theorem qwx:bj Tryz.prog zm 0 (lc 0 Tryz.f92 75):=lp rfl zl .z s0 (fun c a=>((c.1,a.1,c.2.1,c.2.2,a.2,()),(()))) (fun y=>(y.1.1,y.1.2.1))
abbrev qje:Mdl:=(bn (.cons (.d false qT2) .nil) [] [] 1 qgz (B:=qL1) (fun b=>(((),()),(b,()))) (fun a=>qmk a.1.1))
theorem qui:MdlOK Tryz.prog 92 qje:=ey Tryz.func92 rfl zl (.two .z (.two .z (.two (.two .z (.s 0)) (.two .z (.two (.two .z (.s 1)) .z))))) (sC qwx (sC qwy s0))
def qip:Shp:=⟨[(0, .d true .bool)],[]⟩
abbrev ql:Ctx (Bool):=⟨55,tt,false,false,[],em [(87,zc),(92,qje),(88,ri),(89,m5)],ew [aw _ 55 [] qu2 (C:=(Int×(List ab)×Int×Int×qL1×Int)) (S:=(Int×Int×qL1)) (fun x=>((x.1.2.1,x.1.2.2.1,x.1.2.2.2.1,x.1.2.2.2.2.1,x.1.2.2.2.2.2.1,x.1.2.2.2.2.2.2.1),(x.1.2.2.2.2.2.2.2.1,x.2.1.1,x.2.2.1))) qu1 (CE:=((List ab)×Int×Int)) (E:=(Int×qL1)) (fun c e=>(((),c.1,c.2.1,c.2.2,()),((e.1,(),()),e.2,()))) (fun c=>(c.2.1,c.2.2.1,c.2.2.2.1)) (fun{R} c a nx dn rt=>qgp c.1 c.2.1 c.2.2.1 c.2.2.2.1 c.2.2.2.2.1 c.2.2.2.2.2 a.1 a.2.1 a.2.2 nx dn rt),aw _ 55 [] qu4 (C:=((List ab)×Int)) (S:=(Int×Int×qL1)) (fun x=>((x.1.2.1,x.1.2.2.1),(x.1.2.2.2.1,x.2.1.1,x.2.2.1))) qu3 (CE:=Unit) (E:=(Int×qL1)) (fun c e=>(((),()),((e.1,(),()),e.2,()))) (fun c=>()) (fun{R} c a nx dn rt=>qgq c.1 c.2 a.1 a.2.1 a.2.2 nx dn rt),aw _ 55 [] qu6 (C:=Int) (S:=(Int×Int×qL1)) (fun x=>(x.1.2.1,(x.1.2.2.1,x.2.1.1,x.2.2.1))) qu5 (CE:=Unit) (E:=Unit) (fun c e=>((()),(()))) (fun c=>()) (fun{R} c a nx dn rt=>qgr c a.1 a.2.1 a.2.2 nx dn rt)],ca 55 tt [] [.tmp 2] qip (fun x=>x.1.1)⟩
theorem qk:CtxM Tryz.prog ql:=fa fits bt (mC qep (mC qui (mC qa2 (mC p5 m0))))
theorem qx5:bj Tryz.prog ql 0 (lc 2 Tryz.f52 39319):=lp rfl qk .z s0 (fun c a=>(((),c.1,c.2.1,c.2.2.1,c.2.2.2.1,c.2.2.2.2.1,c.2.2.2.2.2,a.1,()),((a.2.1,(),()),a.2.2,()))) (fun y=>((y.1.2.1,y.1.2.2.1,y.1.2.2.2.1),(y.2.1.1,y.2.2.1)))
theorem qx7:bj Tryz.prog ql 2 (lc 4 Tryz.f52 303):=lp rfl qk .z s0 (fun c a=>(((),c,a.1,()),((a.2.1,(),()),a.2.2,()))) (fun y=>((),()))
theorem qx6:bj Tryz.prog ql 1 (lc 0 Tryz.f52 151):=lp rfl qk (.two .z (.two .z (.two (.one (.two .z (.two .z (.s 0)))) .z))) (sC qx5 s0) (fun c a=>(((),c.1,c.2,a.1,()),((a.2.1,(),()),a.2.2,()))) (fun y=>((),(y.2.1.1,y.2.2.1)))
abbrev qmd:Mdl:=(bn (.cons (.d false ff.ty) .nil) [] [] 1 qip (B:=Bool) (fun b=>((b,()),(()))) (fun a=>qop a.1.1))
theorem qu7:MdlOK Tryz.prog 52 qmd:=ey Tryz.func52 rfl qk (.two .z (.two .z (.two .z (.two (.two .z (.s 1)) (.two (.two .z (.s 2)) .z))))) (sC qx6 (sC qx7 s0))
def q78:Shp:=⟨[(0, .d true .bool)],[]⟩
abbrev jrn:Ctx (Bool):=⟨12,tt,false,false,[],em [],ew [],ca 12 tt [] [.tmp 2] q78 (fun x=>x.1.1)⟩
theorem jrm:CtxM Tryz.prog jrn:=fa fits bt m0
abbrev q1t:Mdl:=(bn (.cons (.d false ff.ty) .nil) [] [] 1 q78 (B:=Bool) (fun b=>((b,()),(()))) (fun a=>q6q a.1.1))
theorem q49:MdlOK Tryz.prog 93 q1t:=ey Tryz.func93 rfl jrm .z s0
def q48:Shp:=⟨[(0, .d true qT0)],[]⟩
abbrev jo9:Ctx (Int):=⟨27,tt,false,false,[],em [(35,db)],ew [],ca 27 tt [] [.tmp 4] q48 (fun x=>x.1.1)⟩
theorem jo8:CtxM Tryz.prog jo9:=fa fits bt (mC di m0)
abbrev qxi:Mdl:=(bn (.cons (.d false ab.ty) (.cons (.d false qT0) .nil)) [] [] 1 q48 (B:=Int) (fun b=>((b,()),(()))) (fun a=>q1r a.1.1 a.1.2.1))
theorem q1s:MdlOK Tryz.prog 94 qxi:=ey Tryz.func94 rfl jo8 (.two .z (.two (.d [0,1,0,7,0,16,0,127,255,511] [] []) .z)) s0
def jje:Shp:=⟨[(0, .d true qT0)],[]⟩
abbrev jbs:Ctx (Int):=⟨24,tt,false,false,[],em [],ew [aw _ 24 [] jrj (C:=(qL1×Int×Int)) (S:=(Int×Int)) (fun x=>((x.1.2.2.1,x.1.2.2.2.1,x.1.2.2.2.2.1),(x.1.1,x.1.2.1))) jri (CE:=(qL1×Int×Int)) (E:=Int) (fun c e=>((e,c.1,c.2.1,c.2.2,()),(()))) (fun c=>(c.1,c.2.1,c.2.2)) (fun{R} c a nx dn rt=>je3 c.1 c.2.1 c.2.2 a.1 a.2 nx dn rt),aw _ 24 [] jrl (C:=(qL1×Int)) (S:=(Int×Int)) (fun x=>((x.1.2.1,x.1.2.2.1),(x.1.1,x.1.2.2.2.1))) jrk (CE:=Unit) (E:=Int) (fun c e=>((e,()),(()))) (fun c=>()) (fun{R} c a nx dn rt=>je4 c.1 c.2 a.1 a.2 nx dn rt)],ca 24 tt [] [.tmp 2] jje (fun x=>x.1.1)⟩
theorem jbq:CtxM Tryz.prog jbs:=fa fits bt m0
theorem jt0:bj Tryz.prog jbs 0 (lc 2 Tryz.f182 19659):=lp rfl jbq (.two .z (.one (.d [0,0,0,6,3,31] [] []))) s0 (fun c a=>((a.1,a.2,c.1,c.2.1,c.2.2,()),(()))) (fun y=>((y.1.2.1,y.1.2.2.1,y.1.2.2.2.1),y.1.1))
theorem jt1:bj Tryz.prog jbs 1 (lc 0 Tryz.f182 75):=lp rfl jbq (.two .z (.two .z (.two (.one (.two .z (.two .z (.s 0)))) .z))) (sC jt0 s0) (fun c a=>((a.1,c.1,c.2,a.2,()),(()))) (fun y=>((),y.1.1))
abbrev jbr:Mdl:=(bn (.cons (.d false qT1) .nil) [] [] 1 jje (B:=Int) (fun b=>((b,()),(()))) (fun a=>jjc a.1.1))
theorem je5:MdlOK Tryz.prog 182 jbr:=ey Tryz.func182 rfl jbq (.two .z (.two .z (.two (.two .z (.s 1)) .z))) (sC jt1 s0)
def je6:Shp:=⟨[(0, .d true (.int .u64))],[]⟩
abbrev jjg:Ctx (Int):=⟨21,tt,false,false,[],em [],ew [aw _ 21 [] jpb (C:=(qL1×Int)) (S:=(Int×Int)) (fun x=>((x.1.2.1,x.1.2.2.1),(x.1.1,x.1.2.2.2.1))) jpa (CE:=Unit) (E:=Int) (fun c e=>((e,()),(()))) (fun c=>()) (fun{R} c a nx dn rt=>q79 c.1 c.2 a.1 a.2 nx dn rt)],ca 21 tt [] [.tmp 2] je6 (fun x=>x.1.1)⟩
theorem jjf:CtxM Tryz.prog jjg:=fa fits bt m0
theorem jrp:bj Tryz.prog jjg 0 (lc 0 Tryz.f183 75):=lp rfl jjf .z s0 (fun c a=>((a.1,c.1,c.2,a.2,()),(()))) (fun y=>((),y.1.1))
abbrev q6r:Mdl:=(bn (.cons (.d false qT1) .nil) [] [] 1 je6 (B:=Int) (fun b=>((b,()),(()))) (fun a=>qmt a.1.1))
theorem q8a:MdlOK Tryz.prog 183 q6r:=ey Tryz.func183 rfl jjf (.two .z (.two .z (.two (.two .z (.s 0)) .z))) (sC jrp s0)
def qy6:Shp:=⟨[],[.cs 135 2 1 (.cons (.own 1) (.cons (.own 2) .nil)), .arr 48 (.fz true) [3] qT1, .arr 48 (.fz true) [3] qT1]⟩
abbrev qrc:Ctx ((qL2×qL2)):=⟨116,tt,false,false,[true,false,false],em [(45,gk),(182,jbr),(183,q6r)],ew [aw _ 116 [true,false,false] jb3 (C:=(qL1×qL1×Int×Int×qL2×qL2)) (S:=Int) (fun x=>((x.1.2.1,x.1.2.2.1,x.1.2.2.2.1,x.1.2.2.2.2.2.1,x.2.2.1,x.2.2.2.1),x.1.2.2.2.2.2.2.1)) jb2 (CE:=(qL1×qL1×Int×qL2×qL2)) (E:=Unit) (fun c e=>(((),c.1,c.2.1,c.2.2.1,()),(((),(),()),c.2.2.2.1,c.2.2.2.2,()))) (fun c=>(c.1,c.2.1,c.2.2.1,c.2.2.2.2.2,c.2.2.2.2.1)) (fun{R} c a nx dn rt=>qux c.1 c.2.1 c.2.2.1 c.2.2.2.1 c.2.2.2.2.1 c.2.2.2.2.2 a nx dn rt),aw _ 116 [true,false,false] jb5 (C:=(qL1×qL1×Int×qL2×Int×qL2×qL2)) (S:=(Int×qL2×qL2)) (fun x=>((x.1.2.1,x.1.2.2.1,x.1.2.2.2.1,x.1.2.2.2.2.2.1,x.1.2.2.2.2.2.2.1,x.2.1.1,x.2.1.2.1),(x.1.2.2.2.2.2.2.2.1,x.2.2.2.1,x.2.2.2.2.1))) jb4 (CE:=(qL1×qL1×qL2×qL2)) (E:=(qL2×qL2)) (fun c e=>(((),c.1,c.2.1,(),()),((c.2.2.1,c.2.2.2,()),((),(),()),e.1,e.2,()))) (fun c=>(c.1,c.2.1,c.2.2.2.2.2.1,c.2.2.2.2.2.2)) (fun{R} c a nx dn rt=>quy c.1 c.2.1 c.2.2.1 c.2.2.2.1 c.2.2.2.2.1 c.2.2.2.2.2.1 c.2.2.2.2.2.2 a.1 a.2.1 a.2.2 nx dn rt)],ca 116 tt [true,false,false] [] qy6 (fun x=>(x.2.2.1,x.2.2.2.1))⟩
theorem qrb:CtxM Tryz.prog qrc:=fa fits bt (mC g9 (mC je5 (mC q8a m0)))
theorem jgg:bj Tryz.prog qrc 1 (lc 6 Tryz.f160 303):=lp rfl qrb (.two .z (.two .z (.two (.one (.two .z (.two .z (.two (.d [0,1,0,4,12,28,0,124,252,508,1023,0,2048,0,8192,32767,8191,131071,262143,524287] [10,15,17,19] []) .z)))) .z))) s0 (fun c a=>(((),c.1,c.2.1,c.2.2.1,(),c.2.2.2.1,c.2.2.2.2.1,a.1,()),((c.2.2.2.2.2.1,c.2.2.2.2.2.2,()),((),(),()),a.2.1,a.2.2,()))) (fun y=>((y.1.2.1,y.1.2.2.1,y.2.1.1,y.2.1.2.1),(y.2.2.2.1,y.2.2.2.2.1)))
theorem jgf:bj Tryz.prog qrc 0 (lc 4 Tryz.f160 75):=lp rfl qrb .z s0 (fun c a=>(((),c.1,c.2.1,c.2.2.1,(),c.2.2.2.1,a,()),(((),(),()),c.2.2.2.2.1,c.2.2.2.2.2,()))) (fun y=>((y.1.2.1,y.1.2.2.1,y.1.2.2.2.1,y.2.2.1,y.2.2.2.1),()))
abbrev q1y:Mdl:=(bn (.cons (.ptr 0) (.cons (.d true qT1) (.cons (.d true qT1) .nil))) [.cs 135 2 1 (.cons (.own 1) (.cons (.own 2) .nil)), .arr 48 (.fz true) [3] qT1, .arr 48 (.fz true) [3] qT1] [true,false,false] 0 qy6 (B:=(qL2×qL2)) (fun b=>((()),(((),(),()),b.1,b.2,()))) (fun a=>q5a a.1.2.1 a.1.2.2.1 a.2.2.1 a.2.2.2.1))
theorem jb6:MdlOK Tryz.prog 160 q1y:=ey Tryz.func160 rfl qrb (.two .z (.two .z (.two (.two .z (.s 0)) (.two .z (.two (.two .z (.s 1)) (.d [0,0,0,4,0,16,60,0,128,0,512,2044,4093,8189,16381,32767,65535,131071] [6,11,14,17] [])))))) (sC jgf (sC jgg s0))
def jjp:Shp:=⟨[(0, .own 0)],[.arr 3 (.fz true) [0] qT0]⟩
abbrev jnx:Ctx (qL1):=⟨37,tt,false,false,[],em [],ew [aw _ 37 [] jrr (C:=(Int×qL1×Int×qL1×Int)) (S:=(Int×qL1)) (fun x=>((x.1.1,x.1.2.1,x.1.2.2.1,x.1.2.2.2.1,x.1.2.2.2.2.2.1),(x.1.2.2.2.2.2.2.1,x.2.1))) jrq (CE:=Unit) (E:=qL1) (fun c e=>(((),()),(e,()))) (fun c=>()) (fun{R} c a nx dn rt=>je7 c.1 c.2.1 c.2.2.1 c.2.2.2.1 c.2.2.2.2 a.1 a.2 nx dn rt)],ca 37 tt [] [.tmp 8] jjp (fun x=>x.2.1)⟩
theorem jnv:CtxM Tryz.prog jnx:=fa fits bt m0
theorem jt3:bj Tryz.prog jnx 0 (lc 0 Tryz.f161 75):=lp rfl jnv (.two .z (.two .z (.two (.one (.two .z (.d [0,0,0,0,0,24,56,124,0,0,0,1536,3584,7936,16380,32767,65535] [16] []))) .z))) s0 (fun c a=>((c.1,c.2.1,c.2.2.1,c.2.2.2.1,(),c.2.2.2.2,a.1,()),(a.2,()))) (fun y=>((),y.2.1))
abbrev jnw:Mdl:=(bn (.cons (.d false qT0) (.cons (.d false qT1) (.cons (.d false qT0) (.cons (.d false qT1) .nil)))) [] [] 1 jjp (B:=qL1) (fun b=>(((),()),(b,()))) (fun a=>jjo a.1.1 a.1.2.1 a.1.2.2.1 a.1.2.2.2.1))
theorem jrs:MdlOK Tryz.prog 161 jnw:=ey Tryz.func161 rfl jnv (.two .z (.two .z (.two (.two .z (.s 0)) .z))) (sC jt3 s0)
def quv:Shp:=⟨[],[.cs 135 2 1 (.cons (.own 1) (.cons (.own 2) .nil)), .arr 48 (.fz true) [3] qT1, .arr 48 (.fz true) [3] qT1, .arr 0 (.fz true) [] qT0, .arr 0 (.fz true) [] qT0]⟩
abbrev rk:Ctx ((qL2×qL2×qL1×qL1)):=⟨116,tt,false,false,[true,false,false,false,false],em [(45,gk),(182,jbr),(183,q6r)],ew [aw _ 116 [true,false,false,false,false] q8d (C:=(Int×Int×qL1×qL2×qL2)) (S:=(Int×qL1)) (fun x=>((x.1.2.2.2.1,x.1.2.2.2.2.1,x.2.2.2.1,x.2.2.2.2.1,x.2.2.2.2.2.1),(x.1.2.2.2.2.2.1,x.2.2.1))) q8c (CE:=(Int×qL1×qL2×qL2)) (E:=qL1) (fun c e=>(((),(),(),c.1,()),(((),(),()),e,c.2.1,c.2.2.1,c.2.2.2,()))) (fun c=>(c.1,c.2.2.1,c.2.2.2.1,c.2.2.2.2)) (fun{R} c a nx dn rt=>qsj c.1 c.2.1 c.2.2.1 c.2.2.2.1 c.2.2.2.2 a.1 a.2 nx dn rt),aw _ 116 [true,false,false,false,false] q8f (C:=(qL1×Int×Int×qL2×qL2)) (S:=(Int×qL1×qL1)) (fun x=>((x.1.2.1,x.1.2.2.2.1,x.1.2.2.2.2.1,x.2.2.2.1,x.2.2.2.2.1),(x.1.2.2.2.2.2.1,x.2.2.1,x.2.2.2.2.2.1))) q8e (CE:=(qL1×qL2×qL2)) (E:=(qL1×qL1)) (fun c e=>(((),c.1,(),()),(((),(),()),e.1,c.2.1,c.2.2,e.2,()))) (fun c=>(c.1,c.2.2.2.1,c.2.2.2.2)) (fun{R} c a nx dn rt=>qsk c.1 c.2.1 c.2.2.1 c.2.2.2.1 c.2.2.2.2 a.1 a.2.1 a.2.2 nx dn rt),aw _ 116 [true,false,false,false,false] q8h (C:=(qL1×qL1×Int×Int×qL2×qL2)) (S:=(Int×qL1×qL1)) (fun x=>((x.1.2.1,x.1.2.2.1,x.1.2.2.2.1,x.1.2.2.2.2.2.1,x.2.2.1,x.2.2.2.1),(x.1.2.2.2.2.2.2.1,x.2.2.2.2.1,x.2.2.2.2.2.1))) q8g (CE:=(qL1×qL1×Int×qL2×qL2)) (E:=(qL1×qL1)) (fun c e=>(((),c.1,c.2.1,c.2.2.1,()),(((),(),()),c.2.2.2.1,c.2.2.2.2,e.1,e.2,()))) (fun c=>(c.1,c.2.1,c.2.2.1,c.2.2.2.2.2,c.2.2.2.2.1)) (fun{R} c a nx dn rt=>qsl c.1 c.2.1 c.2.2.1 c.2.2.2.1 c.2.2.2.2.1 c.2.2.2.2.2 a.1 a.2.1 a.2.2 nx dn rt),aw _ 116 [true,false,false,false,false] q8j (C:=(qL1×qL1×Int×qL2×Int×qL2×qL2)) (S:=(Int×qL2×qL2×qL1)) (fun x=>((x.1.2.1,x.1.2.2.1,x.1.2.2.2.1,x.1.2.2.2.2.2.1,x.1.2.2.2.2.2.2.1,x.2.1.1,x.2.1.2.1),(x.1.2.2.2.2.2.2.2.1,x.2.2.2.1,x.2.2.2.2.1,x.2.2.2.2.2.1))) q8i (CE:=(qL1×qL1×qL2×qL2)) (E:=(qL2×qL2×qL1)) (fun c e=>(((),c.1,c.2.1,(),()),((c.2.2.1,c.2.2.2,()),((),(),()),e.1,e.2.1,e.2.2,()))) (fun c=>(c.1,c.2.1,c.2.2.2.2.2.1,c.2.2.2.2.2.2)) (fun{R} c a nx dn rt=>qsm c.1 c.2.1 c.2.2.1 c.2.2.2.1 c.2.2.2.2.1 c.2.2.2.2.2.1 c.2.2.2.2.2.2 a.1 a.2.1 a.2.2.1 a.2.2.2 nx dn rt),ne _ 116 [true,false,false,false,false] q8l (A:=(qL1×qL1×qL2×qL2×qL1×qL1)) (fun x=>(x.1.2.1,x.1.2.2.1,x.2.2.1,x.2.2.2.1,x.2.2.2.2.1,x.2.2.2.2.2.1)) q8k (CE:=Unit) (E:=(qL2×qL2×qL1×qL1)) (fun c e=>((()),(((),(),()),e.1,e.2.1,e.2.2.1,e.2.2.2,()))) (fun c=>()) (fun{R} c dn rt=>qsn c.1 c.2.1 c.2.2.1 c.2.2.2.1 c.2.2.2.2.1 c.2.2.2.2.2 dn rt)],ca 116 tt [true,false,false,false,false] [] quv (fun x=>(x.2.2.1,x.2.2.2.1,x.2.2.2.2.1,x.2.2.2.2.2.1))⟩
theorem rj:CtxM Tryz.prog rk:=fa fits bt (mC g9 (mC je5 (mC q8a m0)))
theorem jbx:bj Tryz.prog rk 0 (lc 0 Tryz.f160 294):=lp rfl rj .z s0 (fun c a=>(((),(),(),c.1,c.2.1,a.1,()),(((),(),()),a.2,c.2.2.1,c.2.2.2.1,c.2.2.2.2,()))) (fun y=>((y.1.2.2.2.1,y.2.2.2.1,y.2.2.2.2.1,y.2.2.2.2.2.1),y.2.2.1))
theorem jby:bj Tryz.prog rk 1 (lc 2 Tryz.f160 310):=lp rfl rj .z s0 (fun c a=>(((),c.1,(),c.2.1,c.2.2.1,a.1,()),(((),(),()),a.2.1,c.2.2.2.1,c.2.2.2.2,a.2.2,()))) (fun y=>((y.1.2.1,y.2.2.2.1,y.2.2.2.2.1),(y.2.2.1,y.2.2.2.2.2.1)))
theorem jb0:bj Tryz.prog rk 3 (lc 6 Tryz.f160 303):=lp rfl rj (.two .z (.two .z (.two (.one (.two .z (.two .z (.two (.d [0,1,0,4,12,28,0,124,252,508,1023,0,2048,0,8192,32767,8191,131071,262143,524287] [10,15,17,19] []) .z)))) .z))) s0 (fun c a=>(((),c.1,c.2.1,c.2.2.1,(),c.2.2.2.1,c.2.2.2.2.1,a.1,()),((c.2.2.2.2.2.1,c.2.2.2.2.2.2,()),((),(),()),a.2.1,a.2.2.1,a.2.2.2,()))) (fun y=>((y.1.2.1,y.1.2.2.1,y.2.1.1,y.2.1.2.1),(y.2.2.2.1,y.2.2.2.2.1,y.2.2.2.2.2.1)))
theorem jbz:bj Tryz.prog rk 2 (lc 4 Tryz.f160 75):=lp rfl rj .z s0 (fun c a=>(((),c.1,c.2.1,c.2.2.1,(),c.2.2.2.1,a.1,()),(((),(),()),c.2.2.2.2.1,c.2.2.2.2.2,a.2.1,a.2.2,()))) (fun y=>((y.1.2.1,y.1.2.2.1,y.1.2.2.2.1,y.2.2.1,y.2.2.2.1),(y.2.2.2.2.1,y.2.2.2.2.2.1)))
theorem jb1:bj Tryz.prog rk 4 (jc Tryz.f160 3):=jn rfl rj (.two .z (.two (.two .z (.s 2)) (.two .z (.two (.two .z (.s 3)) (.d [0,0,0,4,0,16,60,0,128,0,512,2044,4093,8189,16381,32767,65535,131071] [6,11,14,17] []))))) (sC jbz (sC jb0 s0)) (fun c=>(((),c.1,c.2.1,()),(((),(),()),c.2.2.1,c.2.2.2.1,c.2.2.2.2.1,c.2.2.2.2.2,()))) (fun y=>((),(y.2.2.1,y.2.2.2.1,y.2.2.2.2.1,y.2.2.2.2.2.1)))
abbrev qy5:Mdl:=(bn (.cons (.ptr 0) (.cons (.own 1) (.cons (.own 2) .nil))) [.cs 135 2 1 (.cons (.own 3) (.cons (.own 4) .nil)), .arr 3 (.fz true) [0] qT0, .arr 3 (.fz true) [0] qT0, .arr 48 (.fz true) [3] qT1, .arr 48 (.fz true) [3] qT1] [true,false,false,false,false] 0 quv (B:=(qL2×qL2×qL1×qL1)) (fun b=>((()),(((),(),()),b.1,b.2.1,b.2.2.1,b.2.2.2,()))) (fun a=>q1x a.2.2.1 a.2.2.2.1 a.2.2.2.2.1 a.2.2.2.2.2.1))
theorem q8m:MdlOK Tryz.prog 160 qy5:=ey Tryz.func160 rfl rj (.two (.two .z (.two .z (.two (.two (.two .z (.s 0)) (.two .z (.s 1))) .z))) (.s 4)) (sC jbx (sC jby (sC jb1 s0)))
def ql8:Shp:=⟨[(0, .d true .bool)],[.cs 135 2 1 (.cons (.own 1) (.cons (.own 2) .nil)), .arr 48 (.fz true) [3] qT1, .arr 48 (.fz true) [3] qT1]⟩
abbrev rv:Ctx ((Bool×qL2×qL2)):=⟨142,tt,false,false,[true,false,false],em [(160,q1y),(160,qy5),(161,jnw)],ew [aw _ 142 [true,false,false] qxl (C:=(Int×Int×qL2×qL2)) (S:=(Int×qL2×qL2)) (fun x=>((x.1.2.1,x.1.2.2.2.1,x.2.2.2.1,x.2.2.2.2.1),(x.1.2.2.2.2.1,x.2.2.2.2.2.1,x.2.2.2.2.2.2.1))) qxk (CE:=(Int×qL2×qL2)) (E:=(qL2×qL2)) (fun c e=>(((),c.1,(),()),(((),(),()),((),(),()),c.2.1,c.2.2,e.1,e.2,()))) (fun c=>(c.1,c.2.2.1,c.2.2.2)) (fun{R} c a nx dn rt=>qig c.1 c.2.1 c.2.2.1 c.2.2.2 a.1 a.2.1 a.2.2 nx dn rt),aw _ 142 [true,false,false] qxn (C:=(Int×Int×Int×Int×Int×qL2×qL2)) (S:=(Int×qL2×qL2)) (fun x=>((x.1.2.1,x.1.2.2.2.1,x.1.2.2.2.2.1,x.1.2.2.2.2.2.1,x.1.2.2.2.2.2.2.1,x.2.2.2.1,x.2.2.2.2.1),(x.1.2.2.2.2.2.2.2.1,x.2.2.2.2.2.1,x.2.2.2.2.2.2.1))) qxm (CE:=(Int×Int×Int×qL2×qL2)) (E:=(qL2×qL2)) (fun c e=>(((),c.1,(),c.2.1,c.2.2.1,()),(((),(),()),((),(),()),c.2.2.2.1,c.2.2.2.2,e.1,e.2,()))) (fun c=>(c.1,c.2.2.1,c.2.2.2.1,c.2.2.2.2.2.1,c.2.2.2.2.2.2)) (fun{R} c a nx dn rt=>qih c.1 c.2.1 c.2.2.1 c.2.2.2.1 c.2.2.2.2.1 c.2.2.2.2.2.1 c.2.2.2.2.2.2 a.1 a.2.1 a.2.2 nx dn rt),aw _ 142 [true,false,false] qxp (C:=(Int×Int×qL2×qL2)) (S:=(Int×qL2×qL2)) (fun x=>((x.1.2.1,x.1.2.2.2.1,x.2.2.2.1,x.2.2.2.2.1),(x.1.2.2.2.2.1,x.2.2.2.2.2.1,x.2.2.2.2.2.2.1))) qxo (CE:=(qL2×qL2)) (E:=(qL2×qL2)) (fun c e=>(((),(),()),(((),(),()),((),(),()),c.1,c.2,e.1,e.2,()))) (fun c=>(c.2.2.1,c.2.2.2)) (fun{R} c a nx dn rt=>qii c.1 c.2.1 c.2.2.1 c.2.2.2 a.1 a.2.1 a.2.2 nx dn rt)],ca 142 tt [true,false,false] [.tmp 4] ql8 (fun x=>(x.1.1,x.2.2.1,x.2.2.2.1))⟩
theorem ru:CtxM Tryz.prog rv:=fa fits bt (mC jb6 (mC q8m (mC jrs m0)))
theorem q0o:bj Tryz.prog rv 1 (lc 4 Tryz.f132 39319):=lp rfl ru (.two .z (.two .z (.two (.one (.two .z (.two (.d [0,1,3,7,0,31,63,0,255,511,0,1024,3072,7168,0,31744,64512,0,261120,523264,1023,2097151] [] []) (.two .z (.two (.d [0,0,2,0,8,24,56,0,248,504,0,0,2048,6144,14336,0,63488,129024,262142,0,524288,0,2097152,6291456,14680064,0,65011712,132120576,0,0,536870912,1610612736,3758096384,0,16642998272,33822867456,68719476734,137438953471] [37] []) .z))))) .z))) s0 (fun c a=>(((),c.1,(),c.2.1,c.2.2.1,c.2.2.2.1,c.2.2.2.2.1,a.1,()),(((),(),()),((),(),()),c.2.2.2.2.2.1,c.2.2.2.2.2.2,a.2.1,a.2.2,()))) (fun y=>((y.1.2.1,y.1.2.2.2.1,y.1.2.2.2.2.1,y.2.2.2.1,y.2.2.2.2.1),(y.2.2.2.2.2.1,y.2.2.2.2.2.2.1)))
theorem q0p:bj Tryz.prog rv 2 (lc 2 Tryz.f132 151):=lp rfl ru (.two .z (.two .z (.two (.one (.two .z (.two .z (.s 1)))) .z))) (sC q0o s0) (fun c a=>(((),c.1,(),c.2.1,a.1,()),(((),(),()),((),(),()),c.2.2.1,c.2.2.2,a.2.1,a.2.2,()))) (fun y=>((y.2.2.2.1,y.2.2.2.2.1),(y.2.2.2.2.2.1,y.2.2.2.2.2.2.1)))
theorem q0n:bj Tryz.prog rv 0 (lc 0 Tryz.f132 75):=lp rfl ru (.two .z (.two .z (.two (.one (.two .z (.two .z (.two (.d [0,0,2,6,14,0,62,126,0,256,768,1792,0,7936,16128,32767] [15] []) .z)))) .z))) s0 (fun c a=>(((),c.1,(),c.2.1,a.1,()),(((),(),()),((),(),()),c.2.2.1,c.2.2.2,a.2.1,a.2.2,()))) (fun y=>((y.1.2.1,y.2.2.2.1,y.2.2.2.2.1),(y.2.2.2.2.2.1,y.2.2.2.2.2.2.1)))
abbrev qoj:Mdl:=(bn (.cons (.ptr 0) (.cons (.d false qT0) .nil)) [.cs 135 2 1 (.cons (.own 1) (.cons (.own 2) .nil)), .arr 48 (.fz true) [3] qT1, .arr 48 (.fz true) [3] qT1] [true,false,false] 1 ql8 (B:=(Bool×qL2×qL2)) (fun b=>((b.1,()),(((),(),()),b.2.1,b.2.2,()))) (fun a=>qp9 a.1.2.1 a.2.2.1 a.2.2.2.1))
theorem qxq:MdlOK Tryz.prog 132 qoj:=ey Tryz.func132 rfl ru (.two .z (.two .z (.two (.two .z (.s 0)) (.two (.two .z (.s 2)) .z)))) (sC q0n (sC q0p s0))
def q7z:Shp:=⟨[(0, .d true qT0)],[]⟩
abbrev jex:Ctx (Int):=⟨25,tt,false,false,[],em [],ew [ne _ 25 [] jme (A:=(Int×Int)) (fun x=>(x.1.1,x.1.2.1)) jmd (CE:=Unit) (E:=Unit) (fun c e=>((()),(()))) (fun c=>()) (fun{R} c dn rt=>q46 c.1 c.2 dn rt)],ca 25 tt [] [.tmp 2] q7z (fun x=>x.1.1)⟩
theorem jev:CtxM Tryz.prog jex:=fa fits bt m0
theorem jox:bj Tryz.prog jex 0 (jc Tryz.f178 15):=jn rfl jev .z s0 (fun c=>((c.1,c.2,()),(()))) (fun y=>((),()))
abbrev jew:Mdl:=(bn (.cons (.d false (.int .u64)) .nil) [] [] 1 q7z (B:=Int) (fun b=>((b,()),(()))) (fun a=>jiv a.1.1))
theorem jmf:MdlOK Tryz.prog 178 jew:=ey Tryz.func178 rfl jev (.two .z (.two .z (.two .z (.s 0)))) (sC jox s0)
def jiw:Shp:=⟨[(0, .d true qT0)],[]⟩
abbrev jw0:Ctx (Int):=⟨8,tt,false,false,[],em [(178,jew)],ew [],ca 8 tt [] [.tmp 2] jiw (fun x=>x.1.1)⟩
theorem jwz:CtxM Tryz.prog jw0:=fa fits bt (mC jmf m0)
abbrev q4f:Mdl:=(bn (.cons (.d false (.int .u64)) .nil) [] [] 1 jiw (B:=Int) (fun b=>((b,()),(()))) (fun a=>qup a.1.1))
theorem q1f:MdlOK Tryz.prog 148 q4f:=ey Tryz.func148 rfl jwz .z s0
def qyy:Shp:=⟨[(0, .d true .bool)],[]⟩
abbrev ji1:Ctx (Bool):=⟨6,tt,false,false,[],em [],ew [],ca 6 tt [] [.tmp 2] qyy (fun x=>x.1.1)⟩
theorem ji0:CtxM Tryz.prog ji1:=fa fits bt m0
abbrev q1h:Mdl:=(bn (.cons (.d false qT0) .nil) [] [] 1 qyy (B:=Bool) (fun b=>((b,()),(()))) (fun a=>tc a.1.1))
theorem jbk:MdlOK Tryz.prog 179 q1h:=ey Tryz.func179 rfl ji0 .z s0
def qsh:Shp:=⟨[(0, .d true qT0)],[]⟩
abbrev jbj:Ctx (Int):=⟨20,tt,false,false,[],em [(179,q1h)],ew [],ca 20 tt [] [.tmp 4] qsh (fun x=>x.1.1)⟩
theorem jbi:CtxM Tryz.prog jbj:=fa fits bt (mC jbk m0)
abbrev quq:Mdl:=(bn (.cons (.d false qT0) (.cons (.d false qT0) .nil)) [] [] 1 qsh (B:=Int) (fun b=>((b,()),(()))) (fun a=>qe6 a.1.1 a.1.2.1))
theorem q6k:MdlOK Tryz.prog 149 quq:=ey Tryz.func149 rfl jbi .z s0
def qey:Shp:=⟨[(0, .d true qT0)],[]⟩
abbrev qgy:Ctx (Int):=⟨36,tt,false,false,[],em [(149,quq)],ew [aw _ 36 [] qsc (C:=(qL1×qL1×qL1×Int)) (S:=Int) (fun x=>((x.1.1,x.1.2.1,x.1.2.2.1,x.1.2.2.2.1),x.1.2.2.2.2.1)) qsb (CE:=(qL1×qL1)) (E:=Unit) (fun c e=>((c.1,c.2,()),(()))) (fun c=>(c.1,c.2.1)) (fun{R} c a nx dn rt=>eu c.1 c.2.1 c.2.2.1 c.2.2.2 a nx dn rt)],ca 36 tt [] [.tmp 4] qey (fun x=>x.1.1)⟩
theorem qgx:CtxM Tryz.prog qgy:=fa fits bt (mC q6k m0)
theorem qud:bj Tryz.prog qgy 0 (lc 0 Tryz.f110 37):=lp rfl qgx .z s0 (fun c a=>((c.1,c.2.1,c.2.2.1,c.2.2.2,a,()),(()))) (fun y=>((y.1.1,y.1.2.1),()))
abbrev dl:Mdl:=(bn (.cons (.d false qT1) (.cons (.d false qT1) .nil)) [] [] 1 qey (B:=Int) (fun b=>((b,()),(()))) (fun a=>bp a.1.1 a.1.2.1))
theorem dz:MdlOK Tryz.prog 110 dl:=ey Tryz.func110 rfl qgx (.two .z (.two (.two .z (.s 0)) .z)) (sC qud s0)
def oc:Shp:=⟨[],[.arr 48 (.fz true) [3] qT1]⟩
abbrev jk:Ctx (qL2):=⟨53,tt,false,false,[true],em [(110,dl)],ew [aw _ 53 [true] qck (C:=(Int×Int×Int)) (S:=(Int×qL2)) (fun x=>((x.1.2.1,x.1.2.2.1,x.1.2.2.2.2.1),(x.1.2.2.2.2.2.1,x.2.1))) qcj (CE:=(Int×Int×Int)) (E:=qL2) (fun c e=>(((),c.1,c.2.1,(()),c.2.2,()),(e,()))) (fun c=>(c.1,c.2.1,c.2.2)) (fun{R} c a nx dn rt=>nh c.1 c.2.1 c.2.2 a.1 a.2 nx dn rt),aw _ 53 [true] qcm (C:=(Int×Int)) (S:=(Int×qL2)) (fun x=>((x.1.2.1,x.1.2.2.1),(x.1.2.2.2.2.1,x.2.1))) qcl (CE:=Unit) (E:=qL2) (fun c e=>((()),(e,()))) (fun c=>()) (fun{R} c a nx dn rt=>ni c.1 c.2 a.1 a.2 nx dn rt)],ca 53 tt [true] [] oc (fun x=>x.2.1)⟩
theorem jj:CtxM Tryz.prog jk:=fa fits bt (mC dz m0)
theorem qdh:bj Tryz.prog jk 0 (lc 2 Tryz.f169 585):=lp rfl jj (.two (.two (.d [0,0,3,7,15,15,15,111,239,15,15,1039,3599,7695,16383,32767,65535] [] []) .z) (.two (.one (.d [0,0,0,0,8,0,0,64,224,480,0,0,3072,7168,16355,32739,65535,131071] [15,17] [])) .z)) s0 (fun c a=>(((),c.1,c.2.1,(()),c.2.2,a.1,()),(a.2,()))) (fun y=>((y.1.2.1,y.1.2.2.1,y.1.2.2.2.2.1),y.2.1))
theorem qdi:bj Tryz.prog jk 1 (lc 0 Tryz.f169 9):=lp rfl jj (.two .z (.two (.one (.two .z (.s 0))) .z)) (sC qdh s0) (fun c a=>(((),c.1,c.2,(()),a.1,()),(a.2,()))) (fun y=>((),y.2.1))
abbrev o8:Mdl:=(bn (.cons (.own 0) (.cons (.d false qT0) (.cons (.d false qT0) (.cons (.fn 110 .nil) .nil)))) [.arr 48 (.fz true) [3] qT1] [true] 0 oc (B:=qL2) (fun b=>((()),(b,()))) (fun a=>pp a.1.2.1 a.1.2.2.1 a.2.1))
theorem qcn:MdlOK Tryz.prog 169 o8:=ey Tryz.func169 rfl jj (.two .z (.s 1)) (sC qdi s0)
def s9:Shp:=⟨[],[.arr 48 (.fz true) [3] qT1]⟩
abbrev mi:Ctx (qL2):=⟨82,tt,false,false,[true],em [(110,dl)],ew [ne _ 82 [true] qh7 (A:=(Int×Int×Int×Int×qL2)) (fun x=>(x.1.2.1,x.1.2.2.1,x.1.2.2.2.2.1,x.1.2.2.2.2.2.1,x.2.1)) qh6 (CE:=(Int×Int×Int)) (E:=qL2) (fun c e=>(((),c.1,c.2.1,(()),c.2.2,()),(e,()))) (fun c=>(c.1,c.2.1,c.2.2.2.1)) (fun{R} c dn rt=>rg c.1 c.2.1 c.2.2.1 c.2.2.2.1 c.2.2.2.2 dn rt),aw _ 82 [true] qh5 (C:=(Int×Int)) (S:=(Int×qL2)) (fun x=>((x.1.2.1,x.1.2.2.1),(x.1.2.2.2.2.1,x.2.1))) qh4 (CE:=Unit) (E:=qL2) (fun c e=>((()),(e,()))) (fun c=>()) (fun{R} c a nx dn rt=>rf c.1 c.2 a.1 a.2 nx dn rt)],ca 82 tt [true] [] s9 (fun x=>x.2.1)⟩
theorem mh:CtxM Tryz.prog mi:=fa fits bt (mC dz m0)
theorem qku:bj Tryz.prog mi 0 (jc Tryz.f186 241):=jn rfl mh (.two (.two (.d [0,0,0,0,12,30,62,0,0,0,768,1920,3968,8191,16383,32767] [] []) .z) (.two (.d [0,0,0,6,0,0,0,96,0,0,0,1536,3840,7936,0,0,0,98304,245760,507904,1048335,2096911,4194303,8388607] [21,23] []) .z)) s0 (fun c=>(((),c.1,c.2.1,(()),c.2.2.1,c.2.2.2.1,()),(c.2.2.2.2,()))) (fun y=>((y.1.2.1,y.1.2.2.1,y.1.2.2.2.2.1),y.2.1))
theorem qkv:bj Tryz.prog mi 1 (lc 0 Tryz.f186 9):=lp rfl mh (.one (.two .z (.two .z (.two (.two (.d [0,1,0,7,15,31,31,31,31,415,991,2015,31,31,31,24607,57375,127007,258079,524287,1048575,2097151] [] []) .z) (.s 0))))) (sC qku s0) (fun c a=>(((),c.1,c.2,(()),a.1,()),(a.2,()))) (fun y=>((),y.2.1))
abbrev ub:Mdl:=(bn (.cons (.own 0) (.cons (.d false qT0) (.cons (.d false qT0) (.cons (.d false qT0) (.cons (.fn 110 .nil) .nil))))) [.arr 48 (.fz true) [3] qT1] [true] 0 s9 (B:=qL2) (fun b=>((()),(b,()))) (fun a=>mw a.1.2.1 a.1.2.2.1 a.1.2.2.2.1 a.2.1))
theorem qh8:MdlOK Tryz.prog 186 ub:=ey Tryz.func186 rfl mh (.two .z (.s 1)) (sC qkv s0)
def sw:Shp:=⟨[],[.arr 48 (.fz true) [3] qT1]⟩
abbrev me:Ctx (qL2):=⟨60,tt,false,false,[true],em [(186,ub)],ew [aw _ 60 [true] qhe (C:=(Int×Int×Int)) (S:=(Int×qL2)) (fun x=>((x.1.2.2.1,x.1.2.2.2.1,x.1.2.2.2.2.1),(x.1.2.2.2.2.2.1,x.2.1))) qhd (CE:=(Int×Int×Int)) (E:=qL2) (fun c e=>(((),(()),c.1,c.2.1,c.2.2,()),(e,()))) (fun c=>(c.1,c.2.1,c.2.2)) (fun{R} c a nx dn rt=>q4 c.1 c.2.1 c.2.2 a.1 a.2 nx dn rt),aw _ 60 [true] qhg (C:=(Int×Int)) (S:=(Int×qL2)) (fun x=>((x.1.2.2.1,x.1.2.2.2.1),(x.1.2.2.2.2.1,x.2.1))) qhf (CE:=Unit) (E:=qL2) (fun c e=>((()),(e,()))) (fun c=>()) (fun{R} c a nx dn rt=>q5 c.1 c.2 a.1 a.2 nx dn rt)],ca 60 tt [true] [] sw (fun x=>x.2.1)⟩
theorem mc:CtxM Tryz.prog me:=fa fits bt (mC qh8 m0)
theorem qkb:bj Tryz.prog me 0 (lc 0 Tryz.f170 151):=lp rfl mc .z s0 (fun c a=>(((),(()),c.1,c.2.1,c.2.2,a.1,()),(a.2,()))) (fun y=>((y.1.2.2.1,y.1.2.2.2.1,y.1.2.2.2.2.1),y.2.1))
theorem qkc:bj Tryz.prog me 1 (lc 2 Tryz.f170 159):=lp rfl mc (.two .z (.two (.one (.two (.d [0,0,0,0,0,24,0,0,0,384,960,1984,0,0,12288,28672,65475,131011,262143,524287] [17,19] []) .z)) .z)) s0 (fun c a=>(((),(()),c.1,c.2,a.1,()),(a.2,()))) (fun y=>((),y.2.1))
abbrev t5:Mdl:=(bn (.cons (.own 0) (.cons (.d false qT0) (.cons (.d false qT0) (.cons (.fn 110 .nil) .nil)))) [.arr 48 (.fz true) [3] qT1] [true] 0 sw (B:=qL2) (fun b=>((()),(b,()))) (fun a=>wo a.1.2.1 a.1.2.2.1 a.2.1))
theorem qhh:MdlOK Tryz.prog 170 t5:=ey Tryz.func170 rfl mc (.two .z (.two .z (.two .z (.two (.two .z (.s 0)) (.two .z (.s 1)))))) (sC qkb (sC qkc s0))
def qg3:Shp:=⟨[(0, .d true (.int .u64))],[]⟩
abbrev qyt:Ctx (Int):=⟨7,tt,false,false,[],em [(148,q4f)],ew [],ca 7 tt [] [.tmp 2] qg3 (fun x=>x.1.1)⟩
theorem qys:CtxM Tryz.prog qyt:=fa fits bt (mC q1f m0)
abbrev zt:Mdl:=(bn (.cons (.d false qT0) .nil) [] [] 1 qg3 (B:=Int) (fun b=>((b,()),(()))) (fun a=>mq a.1.1))
theorem qe4:MdlOK Tryz.prog 187 zt:=ey Tryz.func187 rfl qys .z s0
def qkw:Shp:=⟨[(0, .d true (.int .u64))],[.cs 172 1 1 (.cons (.d true (.int .u64)) .nil)]⟩
abbrev q07:Ctx ((Int×Int)):=⟨33,tt,false,false,[true],em [],ew [],ca 33 tt [true] [.tmp 2] qkw (fun x=>(x.1.1,x.2.1.1))⟩
theorem q06:CtxM Tryz.prog q07:=fa fits bt m0
abbrev qaw:Mdl:=(bn (.cons (.ptr 0) .nil) [.cs 172 1 1 (.cons (.d false (.int .u64)) .nil)] [true] 1 qkw (B:=(Int×Int)) (fun b=>((b.1,()),((b.2,()),()))) (fun a=>ta a.2.1.1))
theorem qg4:MdlOK Tryz.prog 188 qaw:=ey Tryz.func188 rfl q06 (.two .z (.two (.d [0,1,3,0,8,24,56,127,255,511] [9] []) (.two (.d [0,1,3,0,8,24,56,127,255,511] [9] []) (.two (.d [0,1,3,0,8,24,56,127,255,511] [9] []) .z)))) s0
def n8:Shp:=⟨[],[.arr 48 (.fz true) [3] qT1]⟩
abbrev o5:Ctx (qL2):=⟨67,tt,false,false,[true],em [(187,zt),(188,qaw)],ew [aw _ 67 [true] qcc (C:=(Int×Int×Int)) (S:=(Int×qL2×Int)) (fun x=>((x.1.2.1,x.1.2.2.1,x.1.2.2.2.2.1),(x.1.2.2.2.2.2.1,x.2.1,x.2.2.1.1))) qcb (CE:=Unit) (E:=qL2) (fun c e=>((()),(e,()))) (fun c=>()) (fun{R} c a nx dn rt=>ng c.1 c.2.1 c.2.2 a.1 a.2.1 a.2.2 nx dn rt)],ca 67 tt [true] [] n8 (fun x=>x.2.1)⟩
theorem o3:CtxM Tryz.prog o5:=fa fits bt (mC qe4 (mC qg4 m0))
theorem qdc:bj Tryz.prog o5 0 (lc 0 Tryz.f171 315):=lp rfl o3 (.two .z (.two (.one (.two .z (.two .z (.d [0,0,0,0,0,24,0,0,0,384,960,1984,0,0,12288,28672,65475,131011,262143,524287] [17,19] [])))) .z)) s0 (fun c a=>(((),c.1,c.2.1,(),c.2.2,a.1,()),(a.2.1,(a.2.2,()),()))) (fun y=>((),y.2.1))
abbrev o4:Mdl:=(bn (.cons (.own 0) (.cons (.d false qT0) (.cons (.d false qT0) (.cons (.fn 110 .nil) .nil)))) [.arr 48 (.fz true) [3] qT1] [true] 0 n8 (B:=qL2) (fun b=>((()),(b,()))) (fun a=>pm a.1.2.1 a.1.2.2.1 a.2.1))
theorem qcd:MdlOK Tryz.prog 171 o4:=ey Tryz.func171 rfl o3 (.two .z (.two .z (.two (.two .z (.two .z (.two .z (.s 0)))) .z))) (sC qdc s0)
def wx:Shp:=⟨[(0, .d true qT0),(1, .d true qT0)],[.cs 3 1 1 (.cons (.d true qT0) .nil)]⟩
abbrev qph:Ctx ((Int×Int×Int)):=⟨32,tt,false,false,[true],em [(110,dl)],ew [],ca 32 tt [true] [.tmp 10, .tmp 11] wx (fun x=>(x.1.1,x.1.2.1,x.2.1.1))⟩
theorem qpg:CtxM Tryz.prog qph:=fa fits bt (mC dz m0)
abbrev za:Mdl:=(bn (.cons (.d false qT2) (.cons (.d false qT0) (.cons (.d false qT0) (.cons (.ptr 0) (.cons (.fn 110 .nil) .nil))))) [.cs 3 1 1 (.cons (.d false qT0) .nil)] [true] 2 wx (B:=(Int×Int×Int)) (fun b=>((b.1,b.2.1,()),((b.2.2,()),()))) (fun a=>jz a.1.1 a.1.2.1 a.1.2.2.1 a.2.1.1))
theorem ql0:MdlOK Tryz.prog 192 za:=ey Tryz.func192 rfl qpg (.two .z (.two (.two (.d [0,0,0,6,14,0,0,96,224,511,1023] [] []) .z) .z)) s0
def wu:Shp:=⟨[(0, .d true qT0)],[.cs 3 1 1 (.cons (.d true qT0) .nil)]⟩
abbrev qpd:Ctx ((Int×Int)):=⟨41,tt,false,false,[true],em [(192,za)],ew [],ca 41 tt [true] [.tmp 12] wu (fun x=>(x.1.1,x.2.1.1))⟩
theorem qpc:CtxM Tryz.prog qpd:=fa fits bt (mC ql0 m0)
abbrev nn:Mdl:=(bn (.cons (.d false qT2) (.cons (.d false qT0) (.cons (.d false qT0) (.cons (.d false qT0) (.cons (.ptr 0) (.cons (.fn 110 .nil) .nil)))))) [.cs 3 1 1 (.cons (.d false qT0) .nil)] [true] 1 wu (B:=(Int×Int)) (fun b=>((b.1,()),((b.2,()),()))) (fun a=>jy a.1.1 a.1.2.1 a.1.2.2.1 a.1.2.2.2.1 a.2.1.1))
theorem t7:MdlOK Tryz.prog 190 nn:=ey Tryz.func190 rfl qpc .z s0
def nk:Shp:=⟨[(0, .d true qT0)],[.cs 3 1 1 (.cons (.d true qT0) .nil)]⟩
abbrev qdm:Ctx ((Int×Int)):=⟨18,tt,false,false,[true],em [(190,nn)],ew [],ca 18 tt [true] [.tmp 8] nk (fun x=>(x.1.1,x.2.1.1))⟩
theorem qdl:CtxM Tryz.prog qdm:=fa fits bt (mC t7 m0)
abbrev og:Mdl:=(bn (.cons (.d false qT2) (.cons (.d false qT0) (.cons (.ptr 0) (.cons (.fn 110 .nil) .nil)))) [.cs 3 1 1 (.cons (.d false qT0) .nil)] [true] 1 nk (B:=(Int×Int)) (fun b=>((b.1,()),((b.2,()),()))) (fun a=>fu a.1.1 a.1.2.1 a.2.1.1))
theorem qbf:MdlOK Tryz.prog 189 og:=ey Tryz.func189 rfl qdl .z s0
def po:Shp:=⟨[(0, .d true qT0),(1, .d true qT0)],[]⟩
abbrev qe:Ctx ((Int×Int)):=⟨63,tt,false,false,[],em [(189,og),(190,nn)],ew [ne _ 63 [] qd9 (A:=(Int×Int)) (fun x=>(x.1.2.1,x.2.1.1)) qd8 (CE:=Unit) (E:=Unit) (fun c e=>((()),(()))) (fun c=>()) (fun{R} c dn rt=>o6 c.1 c.2 dn rt)],ca 63 tt [] [.tmp 8, .tmp 9] po (fun x=>(x.1.1,x.1.2.1))⟩
theorem qc:CtxM Tryz.prog qe:=fa fits bt (mC qbf (mC t7 m0))
theorem qe3:bj Tryz.prog qe 0 (jc Tryz.f172 255):=jn rfl qc .z s0 (fun c=>(((),c.1,()),((c.2,()),()))) (fun y=>((),()))
abbrev qd:Mdl:=(bn (.cons (.d false qT2) (.cons (.d false qT0) (.cons (.d false qT0) (.cons (.fn 110 .nil) .nil)))) [] [] 2 po (B:=(Int×Int)) (fun b=>((b.1,b.2,()),(()))) (fun a=>kz a.1.1 a.1.2.1 a.1.2.2.1))
theorem qea:MdlOK Tryz.prog 172 qd:=ey Tryz.func172 rfl qc (.two .z (.two .z (.two .z (.two .z (.two .z (.two .z (.two .z (.s 0)))))))) (sC qe3 s0)
def pc:Shp:=⟨[],[.arr 48 (.fz true) [3] qT1]⟩
abbrev px:Ctx (qL2):=⟨34,tt,false,false,[true],em [],ew [aw _ 34 [true] qdr (C:=Unit) (S:=(Int×Int×qL2)) (fun x=>((),(x.1.2.1,x.1.2.2.1,x.2.1))) qdq (CE:=Unit) (E:=qL2) (fun c e=>((()),(e,()))) (fun c=>()) (fun{R} c a nx dn rt=>oj a.1 a.2.1 a.2.2 nx dn rt)],ca 34 tt [true] [] pc (fun x=>x.2.1)⟩
theorem pu:CtxM Tryz.prog px:=fa fits bt m0
theorem qed:bj Tryz.prog px 0 (lc 0 Tryz.f173 19):=lp rfl pu (.two .z (.one (.two (.d [0,0,0,0,0,0,48,112,0,0,768,1792,4083,8179,16383,32767] [13,15] []) .z))) s0 (fun c a=>(((),a.1,a.2.1,()),(a.2.2,()))) (fun y=>((),y.2.1))
abbrev pw:Mdl:=(bn (.cons (.own 0) (.cons (.d false qT0) (.cons (.d false qT0) (.cons (.fn 110 .nil) .nil)))) [.arr 48 (.fz true) [3] qT1] [true] 0 pc (B:=qL2) (fun b=>((()),(b,()))) (fun a=>kb a.1.2.1 a.1.2.2.1 a.2.1))
theorem qds:MdlOK Tryz.prog 173 pw:=ey Tryz.func173 rfl pu (.two .z (.two .z (.s 0))) (sC qed s0)
def ko:Shp:=⟨[(0, .d true .bool)],[.arr 48 (.fz true) [3] qT1]⟩
abbrev cq:Ctx ((Bool×qL2)):=⟨141,tt,false,false,[true],em [(110,dl)],ew [aw _ 141 [true] ut (C:=(Int×Int×Int×qL2)) (S:=Int) (fun x=>((x.1.2.1,x.1.2.2.1,x.1.2.2.2.2.2.1,x.2.1),x.1.2.2.2.2.1)) us (CE:=(Int×Int×Int×qL2)) (E:=Int) (fun c e=>(((),c.1,c.2.1,(()),e,c.2.2.1,()),(c.2.2.2,()))) (fun c=>(c.1,c.2.1,c.2.2.1,c.2.2.2)) (fun{R} c a nx dn rt=>j5 c.1 c.2.1 c.2.2.1 c.2.2.2 a nx dn rt),aw _ 141 [true] uv (C:=(Int×Int×Int×Int)) (S:=(Int×qL2)) (fun x=>((x.1.2.1,x.1.2.2.1,x.1.2.2.2.2.1,x.1.2.2.2.2.2.1),(x.1.2.2.2.2.2.2.1,x.2.1))) uu (CE:=(Int×Int×Int×Int)) (E:=qL2) (fun c e=>(((),c.1,c.2.1,(()),c.2.2.1,c.2.2.2,()),(e,()))) (fun c=>(c.1,c.2.1,c.2.2.1,c.2.2.2)) (fun{R} c a nx dn rt=>j6 c.1 c.2.1 c.2.2.1 c.2.2.2 a.1 a.2 nx dn rt),aw _ 141 [true] uy (C:=(Int×Int×Int×Int)) (S:=(Int×qL2)) (fun x=>((x.1.2.1,x.1.2.2.1,x.1.2.2.2.2.1,x.1.2.2.2.2.2.1),(x.1.2.2.2.2.2.2.1,x.2.1))) uw (CE:=(Int×Int×Int×Int)) (E:=qL2) (fun c e=>(((),c.1,c.2.1,(()),c.2.2.1,c.2.2.2,()),(e,()))) (fun c=>(c.1,c.2.1,c.2.2.1,c.2.2.2)) (fun{R} c a nx dn rt=>j7 c.1 c.2.1 c.2.2.1 c.2.2.2 a.1 a.2 nx dn rt),ne _ 141 [true] u5 (A:=(Int×Int×Int×Int×qL2)) (fun x=>(x.1.2.1,x.1.2.2.1,x.1.2.2.2.2.1,x.1.2.2.2.2.2.1,x.2.1)) u4 (CE:=(Int×Int×Int×Int)) (E:=qL2) (fun c e=>(((),c.1,c.2.1,(()),c.2.2.1,c.2.2.2,()),(e,()))) (fun c=>(c.1,c.2.1,c.2.2.1,c.2.2.2.1)) (fun{R} c dn rt=>j9 c.1 c.2.1 c.2.2.1 c.2.2.2.1 c.2.2.2.2 dn rt),aw _ 141 [true] u3 (C:=(Int×Int)) (S:=(Int×Int×qL2)) (fun x=>((x.1.2.1,x.1.2.2.1),(x.1.2.2.2.2.1,x.1.2.2.2.2.2.1,x.2.1))) uz (CE:=Unit) (E:=qL2) (fun c e=>((()),(e,()))) (fun c=>()) (fun{R} c a nx dn rt=>j8 c.1 c.2 a.1 a.2.1 a.2.2 nx dn rt)],ca 141 tt [true] [.tmp 8] ko (fun x=>(x.1.1,x.2.1))⟩
theorem cp:CtxM Tryz.prog cq:=fa fits bt (mC dz m0)
theorem xj:bj Tryz.prog cq 1 (lc 4 Tryz.f174 613963):=lp rfl cp (.two .z (.two (.one (.two (.two (.d [0,0,0,6,14,0,0,64,224,480,1023,2047,4095] [] []) .z) (.d [0,0,0,0,8,0,0,64,224,480,0,0,3072,7168,16355,32739,65535,131071] [15,17] []))) .z)) s0 (fun c a=>(((),c.1,c.2.1,(()),c.2.2.1,c.2.2.2,a.1,()),(a.2,()))) (fun y=>((y.1.2.1,y.1.2.2.1,y.1.2.2.2.2.1,y.1.2.2.2.2.2.1),y.2.1))
theorem xk:bj Tryz.prog cq 2 (lc 6 Tryz.f174 622155):=lp rfl cp (.two .z (.two (.one (.two (.two (.d [0,0,0,6,14,0,0,64,224,480,1023,2047,4095] [] []) .z) (.d [0,0,0,0,8,0,0,64,224,480,0,0,3072,7168,16355,32739,65535,131071] [15,17] []))) .z)) s0 (fun c a=>(((),c.1,c.2.1,(()),c.2.2.1,c.2.2.2,a.1,()),(a.2,()))) (fun y=>((y.1.2.1,y.1.2.2.1,y.1.2.2.2.2.1,y.1.2.2.2.2.2.1),y.2.1))
theorem xl:bj Tryz.prog cq 3 (jc Tryz.f174 32331):=jn rfl cp (.two .z (.two (.two .z (.s 2)) .z)) (sC xk s0) (fun c=>(((),c.1,c.2.1,(()),c.2.2.1,c.2.2.2.1,()),(c.2.2.2.2,()))) (fun y=>((y.1.2.1,y.1.2.2.1,y.1.2.2.2.2.1,y.1.2.2.2.2.2.1),y.2.1))
theorem xh:bj Tryz.prog cq 0 (lc 2 Tryz.f174 4171):=lp rfl cp (.two (.two (.d [0,0,3,7,15,15,15,111,239,15,15,1039,3599,7695,16383,32767,65535,131071] [] []) .z) .z) s0 (fun c a=>(((),c.1,c.2.1,(()),a,c.2.2.1,()),(c.2.2.2,()))) (fun y=>((y.1.2.1,y.1.2.2.1,y.1.2.2.2.2.2.1,y.2.1),y.1.2.2.2.2.1))
theorem xm:bj Tryz.prog cq 4 (lc 0 Tryz.f174 75):=lp rfl cp (.two .z (.two (.one (.two (.s 0) (.two .z (.two .z (.two (.d [0,0,0,0,8,0,0,64,224,480,0,0,3072,7168,16355,32739,65535,131071] [15,17] []) (.two (.two .z (.two (.two .z (.s 1)) .z)) (.s 3))))))) .z)) (sC xh (sC xj (sC xl s0))) (fun c a=>(((),c.1,c.2,(()),a.1,a.2.1,()),(a.2.2,()))) (fun y=>((),y.2.1))
abbrev lf:Mdl:=(bn (.cons (.own 0) (.cons (.d false qT0) (.cons (.d false qT0) (.cons (.fn 110 .nil) .nil)))) [.arr 48 (.fz true) [3] qT1] [true] 1 ko (B:=(Bool×qL2)) (fun b=>((b.1,()),(b.2,()))) (fun a=>ll a.1.2.1 a.1.2.2.1 a.2.1))
theorem u6:MdlOK Tryz.prog 174 lf:=ey Tryz.func174 rfl cp (.two .z (.two .z (.two (.two .z (.s 4)) .z))) (sC xm s0)
def ns:Shp:=⟨[(0, .d true qT0)],[.arr 48 (.fz true) [3] qT1]⟩
abbrev fo:Ctx ((Int×qL2)):=⟨90,tt,false,false,[true],em [(110,dl)],ew [aw _ 90 [true] qbo (C:=(Int×Int×qL2)) (S:=Int) (fun x=>((x.1.2.1,x.1.2.2.2.2.1,x.2.1),x.1.2.2.2.1)) qbn (CE:=(Int×Int×qL2)) (E:=Int) (fun c e=>(((),c.1,(()),e,c.2.1,()),(c.2.2,()))) (fun c=>(c.1,c.2.1,c.2.2)) (fun{R} c a nx dn rt=>my c.1 c.2.1 c.2.2 a nx dn rt),aw _ 90 [true] qbq (C:=(Int×Int×qL2)) (S:=Int) (fun x=>((x.1.2.1,x.1.2.2.2.1,x.2.1),x.1.2.2.2.2.1)) qbp (CE:=(Int×Int×qL2)) (E:=Int) (fun c e=>(((),c.1,(()),c.2.1,e,()),(c.2.2,()))) (fun c=>(c.1,c.2.1,c.2.2)) (fun{R} c a nx dn rt=>mz c.1 c.2.1 c.2.2 a nx dn rt),aw _ 90 [true] qbs (C:=Int) (S:=(Int×Int×qL2)) (fun x=>(x.1.2.1,(x.1.2.2.2.1,x.1.2.2.2.2.1,x.2.1))) qbr (CE:=Unit) (E:=(Int×qL2)) (fun c e=>((e.1,()),(e.2,()))) (fun c=>()) (fun{R} c a nx dn rt=>m3 c a.1 a.2.1 a.2.2 nx dn rt)],ca 90 tt [true] [.tmp 10] ns (fun x=>(x.1.1,x.2.1))⟩
theorem fm:CtxM Tryz.prog fo:=fa fits bt (mC dz m0)
theorem qcv:bj Tryz.prog fo 1 (lc 4 Tryz.f175 2183):=lp rfl fm (.two (.two (.d [0,0,3,7,15,15,15,111,239,15,15,1551,3599,8191,16383,32767] [] []) .z) .z) s0 (fun c a=>(((),c.1,(()),c.2.1,a,()),(c.2.2,()))) (fun y=>((y.1.2.1,y.1.2.2.2.1,y.2.1),y.1.2.2.2.2.1))
theorem qcu:bj Tryz.prog fo 0 (lc 2 Tryz.f175 1031):=lp rfl fm (.two (.two (.d [0,0,3,7,15,15,15,111,239,15,15,1551,3599,8191,16383,32767,65535] [] []) .z) .z) s0 (fun c a=>(((),c.1,(()),a,c.2.1,()),(c.2.2,()))) (fun y=>((y.1.2.1,y.1.2.2.2.2.1,y.2.1),y.1.2.2.2.1))
theorem qcw:bj Tryz.prog fo 2 (lc 0 Tryz.f175 71):=lp rfl fm (.one (.two (.s 0) (.two (.s 1) (.two .z (.two (.d [0,0,0,0,0,0,48,112,0,0,768,1792,4083,8179,16383,32767] [13,15] []) .z))))) (sC qcu (sC qcv s0)) (fun c a=>(((),c,(()),a.1,a.2.1,()),(a.2.2,()))) (fun y=>((),(y.1.1,y.2.1)))
abbrev oi:Mdl:=(bn (.cons (.own 0) (.cons (.d false qT0) (.cons (.d false qT0) (.cons (.d false qT0) (.cons (.fn 110 .nil) .nil))))) [.arr 48 (.fz true) [3] qT1] [true] 1 ns (B:=(Int×qL2)) (fun b=>((b.1,()),(b.2,()))) (fun a=>bw a.1.2.1 a.1.2.2.1 a.1.2.2.2.1 a.2.1))
theorem qbt:MdlOK Tryz.prog 175 oi:=ey Tryz.func175 rfl fm (.two .z (.two (.d [0,0,0,0,0,0,48,112,0,0,768,1792,4083,8179,16383,32767] [13,15] []) (.two .z (.two (.s 2) .z)))) (sC qcw s0)
def rc:Shp:=⟨[(0, .d true qT0),(1, .d true .bool)],[.arr 48 (.fz true) [3] qT1]⟩
abbrev du:Ctx ((Int×Bool×qL2)):=⟨178,tt,false,false,[true],em [(110,dl)],ew [aw _ 178 [true] qf9 (C:=(Int×Int×qL2)) (S:=Int) (fun x=>((x.1.2.1,x.1.2.2.2.2.1,x.2.1),x.1.2.2.2.1)) qf8 (CE:=(Int×Int×qL2)) (E:=Int) (fun c e=>(((),c.1,(()),e,c.2.1,()),(c.2.2,()))) (fun c=>(c.1,c.2.1,c.2.2)) (fun{R} c a nx dn rt=>qf c.1 c.2.1 c.2.2 a nx dn rt),aw _ 178 [true] qgb (C:=(Int×Int×qL2)) (S:=Int) (fun x=>((x.1.2.1,x.1.2.2.2.1,x.2.1),x.1.2.2.2.2.1)) qga (CE:=(Int×Int×qL2)) (E:=Int) (fun c e=>(((),c.1,(()),c.2.1,e,()),(c.2.2,()))) (fun c=>(c.1,c.2.1,c.2.2)) (fun{R} c a nx dn rt=>qg c.1 c.2.1 c.2.2 a nx dn rt),aw _ 178 [true] qgd (C:=(Int×Int×qL2)) (S:=Int) (fun x=>((x.1.2.1,x.1.2.2.2.2.1,x.2.1),x.1.2.2.2.1)) qgc (CE:=(Int×Int×qL2)) (E:=Int) (fun c e=>(((),c.1,(()),e,c.2.1,()),(c.2.2,()))) (fun c=>(c.1,c.2.1,c.2.2)) (fun{R} c a nx dn rt=>qh c.1 c.2.1 c.2.2 a nx dn rt),aw _ 178 [true] qgf (C:=(Int×Int×qL2)) (S:=Int) (fun x=>((x.1.2.1,x.1.2.2.2.1,x.2.1),x.1.2.2.2.2.1)) qge (CE:=(Int×Int×qL2)) (E:=Int) (fun c e=>(((),c.1,(()),c.2.1,e,()),(c.2.2,()))) (fun c=>(c.1,c.2.1,c.2.2)) (fun{R} c a nx dn rt=>qi c.1 c.2.1 c.2.2 a nx dn rt),aw _ 178 [true] qgh (C:=Int) (S:=(Int×Int×qL2)) (fun x=>(x.1.2.1,(x.1.2.2.2.1,x.1.2.2.2.2.1,x.2.1))) qgg (CE:=Int) (E:=(Int×qL2)) (fun c e=>(((),c,e.1,()),(e.2,()))) (fun c=>c) (fun{R} c a nx dn rt=>qj c a.1 a.2.1 a.2.2 nx dn rt)],ca 178 tt [true] [.tmp 10, .tmp 11] rc (fun x=>(x.1.1,x.1.2.1,x.2.1))⟩
theorem dr:CtxM Tryz.prog du:=fa fits bt (mC dz m0)
theorem qhv:bj Tryz.prog du 3 (lc 8 Tryz.f176 139775):=lp rfl dr (.two (.two (.d [0,0,3,7,15,15,15,111,239,15,15,1551,3599,8191,16383,32767,65535] [] []) .z) .z) s0 (fun c a=>(((),c.1,(()),c.2.1,a,()),(c.2.2,()))) (fun y=>((y.1.2.1,y.1.2.2.2.1,y.2.1),y.1.2.2.2.2.1))
theorem qhu:bj Tryz.prog du 2 (lc 6 Tryz.f176 66047):=lp rfl dr (.two (.two (.d [0,0,3,7,15,15,15,111,239,15,15,1551,3599,8191,16383,32767] [] []) .z) .z) s0 (fun c a=>(((),c.1,(()),a,c.2.1,()),(c.2.2,()))) (fun y=>((y.1.2.1,y.1.2.2.2.2.1,y.2.1),y.1.2.2.2.1))
theorem qhw:bj Tryz.prog du 4 (lc 4 Tryz.f176 4607):=lp rfl dr (.one (.two (.s 2) (.two (.s 3) (.two .z (.two (.d [0,0,0,0,0,0,48,112,0,0,768,1792,4083,8179,16383,32767] [13,15] []) .z))))) (sC qhu (sC qhv s0)) (fun c a=>(((),c,(()),a.1,a.2.1,()),(a.2.2,()))) (fun y=>(y.1.2.1,(y.1.2.2.1,y.2.1)))
theorem qht:bj Tryz.prog du 1 (lc 2 Tryz.f176 143):=lp rfl dr (.two (.two (.d [0,0,3,7,15,15,15,111,239,15,15,1551,3599,8191,16383,32767,65535] [] []) .z) .z) s0 (fun c a=>(((),c.1,(()),c.2.1,a,()),(c.2.2,()))) (fun y=>((y.1.2.1,y.1.2.2.2.1,y.2.1),y.1.2.2.2.2.1))
theorem qhs:bj Tryz.prog du 0 (lc 0 Tryz.f176 71):=lp rfl dr (.two (.two (.d [0,0,3,7,15,15,15,111,239,15,15,1551,3599,8191,16383,32767] [] []) .z) .z) s0 (fun c a=>(((),c.1,(()),a,c.2.1,()),(c.2.2,()))) (fun y=>((y.1.2.1,y.1.2.2.2.2.1,y.2.1),y.1.2.2.2.1))
abbrev sy:Mdl:=(bn (.cons (.own 0) (.cons (.d false qT0) (.cons (.d false qT0) (.cons (.d false qT0) (.cons (.fn 110 .nil) .nil))))) [.arr 48 (.fz true) [3] qT1] [true] 2 rc (B:=(Int×Bool×qL2)) (fun b=>((b.1,b.2.1,()),(b.2.2,()))) (fun a=>t8 a.1.2.1 a.1.2.2.1 a.1.2.2.2.1 a.2.1))
theorem qgi:MdlOK Tryz.prog 176 sy:=ey Tryz.func176 rfl dr (.two .z (.two (.d [0,0,0,0,0,0,48,112,0,0,768,1792,4083,8179,16383,32767] [13,15] []) (.two .z (.two (.s 0) (.two (.s 1) (.two (.two .z (.two (.two (.d [0,0,0,0,0,0,48,112,0,0,768,1792,4083,8179,16383,32767] [13,15] []) .z) .z)) (.two (.d [0,0,0,0,0,0,48,112,0,0,768,1792,4083,8179,16383,32767] [13,15] []) (.two .z (.two .z (.two (.s 4) (.two (.d [0,0,0,0,0,0,48,112,0,0,768,1792,4083,8179,16383,32767] [13,15] []) .z))))))))))) (sC qhs (sC qht (sC qhw s0)))
def ci:Shp:=⟨[],[.arr 48 (.fz true) [3] qT1]⟩
abbrev ja(rec:((Unit×Int×Int×Int×(Unit)×Unit)×(qL2×Unit))→Option qL2):Ctx (qL2):=⟨148,tt,false,false,[true],em [(169,o8),(170,t5),(171,o4),(172,qd),(173,pw),(174,lf),(110,dl),(175,oi),(176,sy),(147,(bn (.cons (.own 0) (.cons (.d false qT0) (.cons (.d false qT0) (.cons (.d false qT0) (.cons (.fn 110 .nil) .nil))))) [.arr 48 (.fz true) [3] qT1] [true] 0 ci (B:=qL2) (fun b=>((()),(b,()))) rec))],ew [ne _ 148 [true] qkn (A:=(Int×Int×Int×Bool×Bool×Int×Int×Bool×qL2)) (fun x=>(x.1.2.1,x.1.2.2.1,x.1.2.2.2.1,x.1.2.2.2.2.2.1,x.1.2.2.2.2.2.2.1,x.1.2.2.2.2.2.2.2.1,x.1.2.2.2.2.2.2.2.2.1,x.1.2.2.2.2.2.2.2.2.2.1,x.2.1)) qkm (CE:=(Int×Int×Int×Bool×Bool×Int×Int)) (E:=qL2) (fun c e=>(((),c.1,c.2.1,c.2.2.1,(()),c.2.2.2.1,c.2.2.2.2.1,c.2.2.2.2.2.1,c.2.2.2.2.2.2,()),(e,()))) (fun c=>(c.1,c.2.1,c.2.2.1,c.2.2.2.1,c.2.2.2.2.1,c.2.2.2.2.2.1,c.2.2.2.2.2.2.1)) (fun{R} c dn rt=>s5 rec c.1 c.2.1 c.2.2.1 c.2.2.2.1 c.2.2.2.2.1 c.2.2.2.2.2.1 c.2.2.2.2.2.2.1 c.2.2.2.2.2.2.2.1 c.2.2.2.2.2.2.2.2 dn rt),ne _ 148 [true] qkp (A:=(Int×Int×Int×Int×Int×qL2)) (fun x=>(x.1.2.1,x.1.2.2.1,x.1.2.2.2.1,x.1.2.2.2.2.2.1,x.1.2.2.2.2.2.2.1,x.2.1)) qko (CE:=Int) (E:=(Int×Int×Bool×Bool×qL2)) (fun c e=>(((),e.1,e.2.1,c,(()),e.2.2.1,e.2.2.2.1,()),(e.2.2.2.2,()))) (fun c=>c.2.2.1) (fun{R} c dn rt=>s6 rec c.1 c.2.1 c.2.2.1 c.2.2.2.1 c.2.2.2.2.1 c.2.2.2.2.2 dn rt),aw _ 148 [true] qkl (C:=Unit) (S:=(Int×Int×Int×Bool×Bool×qL2)) (fun x=>((),(x.1.2.1,x.1.2.2.1,x.1.2.2.2.1,x.1.2.2.2.2.2.1,x.1.2.2.2.2.2.2.1,x.2.1))) qkk (CE:=Unit) (E:=Unit) (fun c e=>((()),(()))) (fun c=>()) (fun{R} c a nx dn rt=>s4 rec a.1 a.2.1 a.2.2.1 a.2.2.2.1 a.2.2.2.2.1 a.2.2.2.2.2 nx dn rt)],ca 148 tt [true] [] ci (fun x=>x.2.1)⟩
theorem i9(rec:((Unit×Int×Int×Int×(Unit)×Unit)×(qL2×Unit))→Option qL2)(hrec:MdlOK Tryz.prog 147 (bn (.cons (.own 0) (.cons (.d false qT0) (.cons (.d false qT0) (.cons (.d false qT0) (.cons (.fn 110 .nil) .nil))))) [.arr 48 (.fz true) [3] qT1] [true] 0 ci (B:=qL2) (fun b=>((()),(b,()))) rec)):CtxM Tryz.prog (ja rec):=fa fits bt (mC qcn (mC qhh (mC qcd (mC qea (mC qds (mC u6 (mC dz (mC qbt (mC qgi (mC hrec m0))))))))))
theorem ql5(rec:((Unit×Int×Int×Int×(Unit)×Unit)×(qL2×Unit))→Option qL2)(hrec:MdlOK Tryz.prog 147 (bn (.cons (.own 0) (.cons (.d false qT0) (.cons (.d false qT0) (.cons (.d false qT0) (.cons (.fn 110 .nil) .nil))))) [.arr 48 (.fz true) [3] qT1] [true] 0 ci (B:=qL2) (fun b=>((()),(b,()))) rec)):bj Tryz.prog (ja rec) 0 (jc Tryz.f147 14307):=jn rfl (i9 rec hrec) .z s0 (fun c=>(((),c.1,c.2.1,c.2.2.1,(()),c.2.2.2.1,c.2.2.2.2.1,c.2.2.2.2.2.1,c.2.2.2.2.2.2.1,c.2.2.2.2.2.2.2.1,()),(c.2.2.2.2.2.2.2.2,()))) (fun y=>((y.1.2.1,y.1.2.2.1,y.1.2.2.2.1,y.1.2.2.2.2.2.1,y.1.2.2.2.2.2.2.1,y.1.2.2.2.2.2.2.2.1,y.1.2.2.2.2.2.2.2.2.1),y.2.1))
theorem ql6(rec:((Unit×Int×Int×Int×(Unit)×Unit)×(qL2×Unit))→Option qL2)(hrec:MdlOK Tryz.prog 147 (bn (.cons (.own 0) (.cons (.d false qT0) (.cons (.d false qT0) (.cons (.d false qT0) (.cons (.fn 110 .nil) .nil))))) [.arr 48 (.fz true) [3] qT1] [true] 0 ci (B:=qL2) (fun b=>((()),(b,()))) rec)):bj Tryz.prog (ja rec) 1 (jc Tryz.f147 16355):=jn rfl (i9 rec hrec) .z s0 (fun c=>(((),c.1,c.2.1,c.2.2.1,(()),c.2.2.2.1,c.2.2.2.2.1,()),(c.2.2.2.2.2,()))) (fun y=>(y.1.2.2.2.1,(y.1.2.1,y.1.2.2.1,y.1.2.2.2.2.2.1,y.1.2.2.2.2.2.2.1,y.2.1)))
theorem ql7(rec:((Unit×Int×Int×Int×(Unit)×Unit)×(qL2×Unit))→Option qL2)(hrec:MdlOK Tryz.prog 147 (bn (.cons (.own 0) (.cons (.d false qT0) (.cons (.d false qT0) (.cons (.d false qT0) (.cons (.fn 110 .nil) .nil))))) [.arr 48 (.fz true) [3] qT1] [true] 0 ci (B:=qL2) (fun b=>((()),(b,()))) rec)):bj Tryz.prog (ja rec) 2 (lc 0 Tryz.f147 19):=lp rfl (i9 rec hrec) (.one (.two .z (.two .z (.two .z (.two .z (.two .z (.two .z (.two (.two .z (.s 0)) (.two (.two (.d [0,1,3,7,7,7,39,119,247,7,7,1543,3591,8191,16383,32767,65535] [] []) .z) (.s 1)))))))))) (sC (ql5 rec hrec) (sC (ql6 rec hrec) s0)) (fun c a=>(((),a.1,a.2.1,a.2.2.1,(()),a.2.2.2.1,a.2.2.2.2.1,()),(a.2.2.2.2.2,()))) (fun y=>((),()))
abbrev xp:Mdl:=(bn (.cons (.own 0) (.cons (.d false qT0) (.cons (.d false qT0) (.cons (.d false qT0) (.cons (.fn 110 .nil) .nil))))) [.arr 48 (.fz true) [3] qT1] [true] 0 ci (B:=qL2) (fun b=>((()),(b,()))) (fun(a:((Unit×Int×Int×Int×(Unit)×Unit)×(qL2×Unit)))=>xq a))
theorem qhy(rec:((Unit×Int×Int×Int×(Unit)×Unit)×(qL2×Unit))→Option qL2)(hrec:MdlOK Tryz.prog 147 (bn (.cons (.own 0) (.cons (.d false qT0) (.cons (.d false qT0) (.cons (.d false qT0) (.cons (.fn 110 .nil) .nil))))) [.arr 48 (.fz true) [3] qT1] [true] 0 ci (B:=qL2) (fun b=>((()),(b,()))) rec)):MdlOK Tryz.prog 147 (bn (.cons (.own 0) (.cons (.d false qT0) (.cons (.d false qT0) (.cons (.d false qT0) (.cons (.fn 110 .nil) .nil))))) [.arr 48 (.fz true) [3] qT1] [true] 0 ci (B:=qL2) (fun b=>((()),(b,()))) ((fun(rec:((Unit×Int×Int×Int×(Unit)×Unit)×(qL2×Unit))→Option qL2) (a:((Unit×Int×Int×Int×(Unit)×Unit)×(qL2×Unit)))=>mu rec a.1.2.1 a.1.2.2.1 a.1.2.2.2.1 a.2.1) rec)):=ey Tryz.func147 rfl (i9 rec hrec) (.two .z (.two .z (.s 2))) (sC (ql7 rec hrec) s0)
theorem qkq:MdlOK Tryz.prog 147 xp:=j0f (c:=jbe Tryz.f147) (l:=(.cons (.own 0) (.cons (.d false qT0) (.cons (.d false qT0) (.cons (.d false qT0) (.cons (.fn 110 .nil) .nil)))))) (objs:=[.arr 48 (.fz true) [3] qT1]) (kp:=[true]) (k:=0) (sh:=ci) (mk:=(fun b=>((()),(b,())))) (F:=(fun(rec:((Unit×Int×Int×Int×(Unit)×Unit)×(qL2×Unit))→Option qL2) (a:((Unit×Int×Int×Int×(Unit)×Unit)×(qL2×Unit)))=>mu rec a.1.2.1 a.1.2.2.1 a.1.2.2.2.1 a.2.1)) Tryz.func147 (by rfl) (by kernel_rfl) (by kernel_rfl) qhy
def y8:Shp:=⟨[],[.arr 48 (.fz true) [3] qT1]⟩
abbrev qp3:Ctx (qL2):=⟨14,tt,false,false,[true],em [(148,q4f),(147,xp)],ew [],ca 14 tt [true] [] y8 (fun x=>x.2.1)⟩
theorem qp2:CtxM Tryz.prog qp3:=fa fits bt (mC q1f (mC qkq m0))
abbrev qaq:Mdl:=(bn (.cons (.own 0) (.cons (.fn 110 .nil) .nil)) [.arr 48 (.fz true) [3] qT1] [true] 0 y8 (B:=qL2) (fun b=>((()),(b,()))) (fun a=>qbd a.2.1))
theorem qnv:MdlOK Tryz.prog 108 qaq:=ey Tryz.func108 rfl qp2 .z s0
def quu:Shp:=⟨[(0, .d true .bool)],[]⟩
abbrev jgc:Ctx (Bool):=⟨5,tt,false,false,[],em [],ew [],ca 5 tt [] [.tmp 2] quu (fun x=>x.1.1)⟩
theorem jgb:CtxM Tryz.prog jgc:=fa fits bt m0
abbrev qy3:Mdl:=(bn (.cons (.d false qT0) .nil) [] [] 1 quu (B:=Bool) (fun b=>((b,()),(()))) (fun a=>q1w a.1.1))
theorem q8b:MdlOK Tryz.prog 133 qy3:=ey Tryz.func133 rfl jgb .z s0
def wa:Shp:=⟨[(0, .d true qT0)],[]⟩
abbrev yi:Ctx (Int):=⟨19,tt,false,false,[],em [(133,qy3)],ew [aw _ 19 [] qli (C:=(qL1×Int)) (S:=Int) (fun x=>((x.1.1,x.1.2.2.1),x.1.2.2.2.1)) qlh (CE:=Unit) (E:=Unit) (fun c e=>((()),(()))) (fun c=>()) (fun{R} c a nx dn rt=>tx c.1 c.2 a nx dn rt)],ca 19 tt [] [.tmp 4] wa (fun x=>x.1.1)⟩
theorem yg:CtxM Tryz.prog yi:=fa fits bt (mC q8b m0)
theorem qnd:bj Tryz.prog yi 0 (lc 0 Tryz.f79 37):=lp rfl yg .z s0 (fun c a=>((c.1,(()),c.2,a,()),(()))) (fun y=>((),()))
abbrev yh:Mdl:=(bn (.cons (.d false qT1) (.cons (.fn 133 .nil) .nil)) [] [] 1 wa (B:=Int) (fun b=>((b,()),(()))) (fun a=>qad a.1.1))
theorem qlj:MdlOK Tryz.prog 79 yh:=ey Tryz.func79 rfl yg (.two .z (.two (.two .z (.s 0)) .z)) (sC qnd s0)
def qv:Shp:=⟨[(0, .d true .bool)],[]⟩
abbrev qjo:Ctx (Bool):=⟨9,tt,false,false,[],em [(79,yh)],ew [],ca 9 tt [] [.tmp 4] qv (fun x=>x.1.1)⟩
theorem qjn:CtxM Tryz.prog qjo:=fa fits bt (mC qlj m0)
abbrev si:Mdl:=(bn (.cons (.d false qT1) (.cons (.fn 133 .nil) .nil)) [] [] 1 qv (B:=Bool) (fun b=>((b,()),(()))) (fun a=>tl a.1.1))
theorem qfs:MdlOK Tryz.prog 32 si:=ey Tryz.func32 rfl qjn .z s0
def q1u:Shp:=⟨[(0, .d true qT2),(1, .d true qT0)],[]⟩
abbrev qei:Ctx ((qL2×Int)):=⟨83,tt,false,false,[],em [(45,gk),(132,qoj),(108,qaq),(32,si)],ew [aw _ 83 [] jf4 (C:=(qL2×qL2×Int)) (S:=(Int×qL2×qL2)) (fun x=>((x.1.1,x.1.2.2.1,x.1.2.2.2.1),(x.1.2.2.2.2.1,x.2.2.1,x.2.2.2.1))) jf3 (CE:=qL2) (E:=(qL2×qL2)) (fun c e=>((c,(),()),(((),(),()),e.1,e.2,()))) (fun c=>c.1) (fun{R} c a nx dn rt=>qyz c.1 c.2.1 c.2.2 a.1 a.2.1 a.2.2 nx dn rt),aw _ 83 [] jf6 (C:=Int) (S:=(Int×qL2×qL2)) (fun x=>(x.1.2.1,(x.1.2.2.1,x.2.2.1,x.2.2.2.1))) jf5 (CE:=Unit) (E:=(qL2×qL2)) (fun c e=>(((),()),(((),(),()),e.1,e.2,()))) (fun c=>()) (fun{R} c a nx dn rt=>qy0 c a.1 a.2.1 a.2.2 nx dn rt),aw _ 83 [] jf8 (C:=(qL2×qL2×Int)) (S:=Int) (fun x=>((x.1.1,x.1.2.1,x.1.2.2.1),x.1.2.2.2.1)) jf7 (CE:=qL2) (E:=Unit) (fun c e=>((c,()),(()))) (fun c=>c.1) (fun{R} c a nx dn rt=>qy1 c.1 c.2.1 c.2.2 a nx dn rt),ne _ 83 [] jga (A:=(qL2×qL2)) (fun x=>(x.2.1.1,x.2.2.1)) jf9 (CE:=Unit) (E:=Unit) (fun c e=>((()),(()))) (fun c=>()) (fun{R} c dn rt=>qy2 c.1 c.2 dn rt)],ca 83 tt [] [.tmp 2, .tmp 3] q1u (fun x=>(x.1.1,x.1.2.1))⟩
theorem qeh:CtxM Tryz.prog qei:=fa fits bt (mC g9 (mC qxq (mC qnv (mC qfs m0))))
theorem jjm:bj Tryz.prog qei 2 (lc 4 Tryz.f95 2431):=lp rfl qeh .z s0 (fun c a=>((c.1,c.2.1,c.2.2,a,()),(()))) (fun y=>(y.1.1,()))
theorem jjl:bj Tryz.prog qei 1 (lc 2 Tryz.f95 599):=lp rfl qeh .z s0 (fun c a=>(((),c,a.1,()),(((),(),()),a.2.1,a.2.2,()))) (fun y=>((),(y.2.2.1,y.2.2.2.1)))
theorem jjk:bj Tryz.prog qei 0 (lc 0 Tryz.f95 75):=lp rfl qeh (.two .z (.two .z (.two (.one (.two .z (.two .z (.two .z (.d [0,0,0,4,12,28,0,64,192,508,0,1024,3072,7168,0,16384,65532,131069,262141,524285,1048575,2097151,4194303] [9,16,19,22] []))))) .z))) s0 (fun c a=>((c.1,(),c.2.1,c.2.2,a.1,()),(((),(),()),a.2.1,a.2.2,()))) (fun y=>(y.1.1,(y.2.2.1,y.2.2.2.1)))
theorem jjn:bj Tryz.prog qei 3 (jc Tryz.f95 31):=jn rfl qeh (.two .z (.two .z (.two .z (.two (.two .z (.s 2)) .z)))) (sC jjm s0) (fun c=>(((),()),((c.1,(),()),c.2,()))) (fun y=>((),()))
abbrev qtp:Mdl:=(bn (.cons (.d false qT2) .nil) [] [] 2 q1u (B:=(qL2×Int)) (fun b=>((b.1,b.2,()),(()))) (fun a=>qxj a.1.1))
theorem qy4:MdlOK Tryz.prog 95 qtp:=ey Tryz.func95 rfl qeh (.two .z (.two .z (.two (.two .z (.s 0)) (.two (.two .z (.two (.two .z (.s 1)) .z)) (.s 3))))) (sC jjk (sC jjl (sC jjn s0)))
def q47:Shp:=⟨[(0, .d true qT2),(1, .d true qT0)],[]⟩
abbrev qxh:Ctx ((qL2×Int)):=⟨43,tt,false,false,[],em [(41,jw),(93,q1t),(94,qxi),(95,qtp)],ew [aw _ 43 [] ji8 (C:=(Int×Int×Int×(List ab)×Int×Int×(List ab)×Int×Int×qL2)) (S:=(Int×qL1)) (fun x=>((x.1.2.2.1,x.1.2.2.2.2.1,x.1.2.2.2.2.2.1,x.1.2.2.2.2.2.2.1,x.1.2.2.2.2.2.2.2.1,x.2.1.1,x.2.1.2.1,x.2.1.2.2.1,x.2.1.2.2.2.1,x.2.2.1),(x.1.2.2.2.2.2.2.2.2.1,x.2.2.2.1))) ji7 (CE:=(Int×Int×Int×(List ab)×Int×Int×qL2)) (E:=qL1) (fun c e=>(((),(),(),c.1,c.2.1,()),((c.2.2.1,c.2.2.2.1,c.2.2.2.2.1,c.2.2.2.2.2.1,()),c.2.2.2.2.2.2,e,()))) (fun c=>(c.2.1,c.2.2.1,c.2.2.2.2.2.1,c.2.2.2.2.2.2.1,c.2.2.2.2.2.2.2.1,c.2.2.2.2.2.2.2.2.1,c.2.2.2.2.2.2.2.2.2)) (fun{R} c a nx dn rt=>q1p c.1 c.2.1 c.2.2.1 c.2.2.2.1 c.2.2.2.2.1 c.2.2.2.2.2.1 c.2.2.2.2.2.2.1 c.2.2.2.2.2.2.2.1 c.2.2.2.2.2.2.2.2.1 c.2.2.2.2.2.2.2.2.2 a.1 a.2 nx dn rt),aw _ 43 [] jja (C:=(Int×Int×(List ab)×Int×Int)) (S:=(Int×qL2)) (fun x=>((x.1.2.2.1,x.2.1.1,x.2.1.2.1,x.2.1.2.2.1,x.2.1.2.2.2.1),(x.1.2.2.2.1,x.2.2.1))) ji9 (CE:=Unit) (E:=qL2) (fun c e=>(((),()),(e,()))) (fun c=>()) (fun{R} c a nx dn rt=>q1q c.1 c.2.1 c.2.2.1 c.2.2.2.1 c.2.2.2.2 a.1 a.2 nx dn rt)],ca 43 tt [] [.tmp 2, .tmp 3] q47 (fun x=>(x.1.1,x.1.2.1))⟩
theorem qxg:CtxM Tryz.prog qxh:=fa fits bt (mC ir (mC q49 (mC q1s (mC qy4 m0))))
theorem jmj:bj Tryz.prog qxh 0 (lc 2 Tryz.f53 308015):=lp rfl qxg .z s0 (fun c a=>(((),(),c.1,(),c.2.1,c.2.2.1,c.2.2.2.1,c.2.2.2.2.1,a.1,()),((c.2.2.2.2.2.1,c.2.2.2.2.2.2.1,c.2.2.2.2.2.2.2.1,c.2.2.2.2.2.2.2.2.1,()),c.2.2.2.2.2.2.2.2.2,a.2,()))) (fun y=>((y.1.2.2.2.1,y.1.2.2.2.2.1,y.2.1.1,y.2.1.2.1,y.2.1.2.2.1,y.2.1.2.2.2.1,y.2.2.1),y.2.2.2.1))
theorem jmk:bj Tryz.prog qxh 1 (lc 0 Tryz.f53 303):=lp rfl qxg (.two .z (.two .z (.two (.one (.two .z (.two .z (.two (.two .z (.s 0)) .z)))) .z))) (sC jmj s0) (fun c a=>(((),(),c.1,a.1,()),((c.2.1,c.2.2.1,c.2.2.2.1,c.2.2.2.2,()),a.2,()))) (fun y=>((),y.2.1))
abbrev q77:Mdl:=(bn (.cons (.d false ff.ty) .nil) [] [] 2 q47 (B:=(qL2×Int)) (fun b=>((b.1,b.2,()),(()))) (fun a=>je2 a.1.1))
theorem jjb:MdlOK Tryz.prog 53 q77:=ey Tryz.func53 rfl qxg (.two .z (.two .z (.two .z (.two .z (.two (.two .z (.s 1)) .z))))) (sC jmk s0)
def qra:Shp:=⟨[(0, .d true qT2),(1, .d true qT0)],[]⟩
abbrev qif:Ctx ((qL2×Int)):=⟨43,tt,false,false,[],em [(41,jw),(93,q1t),(94,qxi),(95,qtp)],ew [aw _ 43 [] q4o (C:=((List ab)×Int×Int×Int×Int×(List ab)×Int×Int×qL2×ByteArray×qL1×qL1)) (S:=(Int×qL1)) (fun x=>((x.1.2.2.2.2.1,x.1.2.2.2.2.2.1,x.1.2.2.2.2.2.2.1,x.1.2.2.2.2.2.2.2.1,x.2.1.1,x.2.1.2.1,x.2.1.2.2.1,x.2.1.2.2.2.1,x.2.2.1,x.2.2.2.1.1,x.2.2.2.1.2.1,x.2.2.2.1.2.2.1),(x.1.2.2.2.2.2.2.2.2.1,x.2.2.2.2.1))) q4n (CE:=((List ab)×Int×Int×Int×(List ab)×Int×Int×qL2)) (E:=qL1) (fun c e=>(((),(),(),c.1,c.2.1,c.2.2.1,()),((c.2.2.2.1,c.2.2.2.2.1,c.2.2.2.2.2.1,c.2.2.2.2.2.2.1,()),c.2.2.2.2.2.2.2,e,()))) (fun c=>(c.1,c.2.1,c.2.2.1,c.2.2.2.2.1,c.2.2.2.2.2.1,c.2.2.2.2.2.2.1,c.2.2.2.2.2.2.2.1,c.2.2.2.2.2.2.2.2.1)) (fun{R} c a nx dn rt=>qp7 c.1 c.2.1 c.2.2.1 c.2.2.2.1 c.2.2.2.2.1 c.2.2.2.2.2.1 c.2.2.2.2.2.2.1 c.2.2.2.2.2.2.2.1 c.2.2.2.2.2.2.2.2.1 c.2.2.2.2.2.2.2.2.2.1 c.2.2.2.2.2.2.2.2.2.2.1 c.2.2.2.2.2.2.2.2.2.2.2 a.1 a.2 nx dn rt),aw _ 43 [] q4q (C:=((List ab)×Int×Int×(List ab)×Int×Int)) (S:=(Int×qL2)) (fun x=>((x.1.2.2.1,x.1.2.2.2.1,x.2.1.1,x.2.1.2.1,x.2.1.2.2.1,x.2.1.2.2.2.1),(x.1.2.2.2.2.1,x.2.2.1))) q4p (CE:=Unit) (E:=qL2) (fun c e=>(((),()),(e,()))) (fun c=>()) (fun{R} c a nx dn rt=>qp8 c.1 c.2.1 c.2.2.1 c.2.2.2.1 c.2.2.2.2.1 c.2.2.2.2.2 a.1 a.2 nx dn rt)],ca 43 tt [] [.tmp 2, .tmp 3] qra (fun x=>(x.1.1,x.1.2.1))⟩
theorem qie:CtxM Tryz.prog qif:=fa fits bt (mC ir (mC q49 (mC q1s (mC qy4 m0))))
theorem q6o:bj Tryz.prog qif 0 (lc 2 Tryz.f54 308015):=lp rfl qie .z s0 (fun c a=>(((),(),(),(),c.1,c.2.1,c.2.2.1,c.2.2.2.1,a.1,()),((c.2.2.2.2.1,c.2.2.2.2.2.1,c.2.2.2.2.2.2.1,c.2.2.2.2.2.2.2.1,()),c.2.2.2.2.2.2.2.2.1,(c.2.2.2.2.2.2.2.2.2.1,c.2.2.2.2.2.2.2.2.2.2.1,c.2.2.2.2.2.2.2.2.2.2.2,()),a.2,()))) (fun y=>((y.1.2.2.2.1,y.1.2.2.2.2.1,y.1.2.2.2.2.2.1,y.2.1.1,y.2.1.2.1,y.2.1.2.2.1,y.2.1.2.2.2.1,y.2.2.1),y.2.2.2.1))
theorem q6p:bj Tryz.prog qif 1 (lc 0 Tryz.f54 303):=lp rfl qie (.two .z (.two .z (.two (.one (.two .z (.two .z (.two (.two .z (.s 0)) .z)))) .z))) (sC q6o s0) (fun c a=>(((),(),c.1,c.2.1,a.1,()),((c.2.2.1,c.2.2.2.1,c.2.2.2.2.1,c.2.2.2.2.2,()),a.2,()))) (fun y=>((),y.2.1))
abbrev qsi:Mdl:=(bn (.cons (.d false ff.ty) .nil) [] [] 2 qra (B:=(qL2×Int)) (fun b=>((b.1,b.2,()),(()))) (fun a=>qut a.1.1))
theorem q4r:MdlOK Tryz.prog 54 qsi:=ey Tryz.func54 rfl qie (.two .z (.two .z (.two .z (.two .z (.two (.two .z (.s 1)) .z))))) (sC q6p s0)
def qs2:Shp:=⟨[(0, .own 0),(1, .d true qT0)],[.arr 48 .own [3] qT1]⟩
abbrev qmz:Ctx ((Int×qL2)):=⟨80,tt,false,false,[],em [(41,jw),(35,db)],ew [aw _ 80 [] q66 (C:=(Int×Int×Int×(List ab)×Int×Int×(List ab)×Int×Int)) (S:=(Int×qL2)) (fun x=>((x.1.2.2.1,x.1.2.2.2.1,x.1.2.2.2.2.1,x.1.2.2.2.2.2.1,x.1.2.2.2.2.2.2.1,x.2.1.1,x.2.1.2.1,x.2.1.2.2.1,x.2.1.2.2.2.1),(x.1.2.2.2.2.2.2.2.1,x.2.2.1))) q65 (CE:=(Int×Int×Int×(List ab)×Int×Int)) (E:=qL2) (fun c e=>(((),(),c.1,c.2.1,()),((c.2.2.1,c.2.2.2.1,c.2.2.2.2.1,c.2.2.2.2.2,()),e,()))) (fun c=>(c.2.1,c.2.2.1,c.2.2.2.2.2.1,c.2.2.2.2.2.2.1,c.2.2.2.2.2.2.2.1,c.2.2.2.2.2.2.2.2)) (fun{R} c a nx dn rt=>qru c.1 c.2.1 c.2.2.1 c.2.2.2.1 c.2.2.2.2.1 c.2.2.2.2.2.1 c.2.2.2.2.2.2.1 c.2.2.2.2.2.2.2.1 c.2.2.2.2.2.2.2.2 a.1 a.2 nx dn rt),aw _ 80 [] q68 (C:=(Int×Int×(List ab)×Int×Int)) (S:=(Int×qL2)) (fun x=>((x.1.2.2.1,x.2.1.1,x.2.1.2.1,x.2.1.2.2.1,x.2.1.2.2.2.1),(x.1.2.2.2.1,x.2.2.1))) q67 (CE:=Unit) (E:=qL2) (fun c e=>(((),()),(e,()))) (fun c=>()) (fun{R} c a nx dn rt=>qrv c.1 c.2.1 c.2.2.1 c.2.2.2.1 c.2.2.2.2 a.1 a.2 nx dn rt)],ca 80 tt [] [.tmp 2, .tmp 3] qs2 (fun x=>(x.1.2.1,x.2.1))⟩
theorem qmy:CtxM Tryz.prog qmz:=fa fits bt (mC ir (mC di m0))
theorem q9m:bj Tryz.prog qmz 0 (lc 3 Tryz.f55 80279):=lp rfl qmy .z s0 (fun c a=>(((),(),c.1,c.2.1,c.2.2.1,c.2.2.2.1,c.2.2.2.2.1,a.1,()),((c.2.2.2.2.2.1,c.2.2.2.2.2.2.1,c.2.2.2.2.2.2.2.1,c.2.2.2.2.2.2.2.2,()),a.2,()))) (fun y=>((y.1.2.2.1,y.1.2.2.2.1,y.2.1.1,y.2.1.2.1,y.2.1.2.2.1,y.2.1.2.2.2.1),y.2.2.1))
theorem q9n:bj Tryz.prog qmz 1 (lc 1 Tryz.f55 151):=lp rfl qmy (.two .z (.two .z (.two (.one (.two .z (.two .z (.two .z (.s 0))))) .z))) (sC q9m s0) (fun c a=>(((),(),c.1,a.1,()),((c.2.1,c.2.2.1,c.2.2.2.1,c.2.2.2.2,()),a.2,()))) (fun y=>((),y.2.1))
abbrev qvw:Mdl:=(bn (.cons (.d false ff.ty) .nil) [] [] 2 qs2 (B:=(Int×qL2)) (fun b=>(((),b.1,()),(b.2,()))) (fun a=>qzl a.1.1))
theorem q69:MdlOK Tryz.prog 55 qvw:=ey Tryz.func55 rfl qmy (.two .z (.two .z (.two .z (.two (.two .z (.s 1)) .z)))) (sC q9n s0)
def qrr:Shp:=⟨[(0, .d true .bool)],[]⟩
abbrev q89:Ctx (Bool):=⟨9,tt,false,false,[],em [],ew [],ca 9 tt [] [.tmp 2] qrr (fun x=>x.1.1)⟩
theorem q88:CtxM Tryz.prog q89:=fa fits bt m0
abbrev qsy:Mdl:=(bn (.cons (.d false qT0) .nil) [] [] 1 qrr (B:=Bool) (fun b=>((b,()),(()))) (fun a=>qvm a.1.1))
theorem q43:MdlOK Tryz.prog 162 qsy:=ey Tryz.func162 rfl q88 .z s0
def wi:Shp:=⟨[(0, .d true qT0)],[]⟩
abbrev yv:Ctx (Int):=⟨19,tt,false,false,[],em [(162,qsy)],ew [aw _ 19 [] qlu (C:=(qL1×Int)) (S:=Int) (fun x=>((x.1.1,x.1.2.2.1),x.1.2.2.2.1)) qlt (CE:=Unit) (E:=Unit) (fun c e=>((()),(()))) (fun c=>()) (fun{R} c a nx dn rt=>t3 c.1 c.2 a nx dn rt)],ca 19 tt [] [.tmp 4] wi (fun x=>x.1.1)⟩
theorem yt:CtxM Tryz.prog yv:=fa fits bt (mC q43 m0)
theorem qnj:bj Tryz.prog yv 0 (lc 0 Tryz.f79 37):=lp rfl yt .z s0 (fun c a=>((c.1,(()),c.2,a,()),(()))) (fun y=>((),()))
abbrev yu:Mdl:=(bn (.cons (.d false qT1) (.cons (.fn 162 .nil) .nil)) [] [] 1 wi (B:=Int) (fun b=>((b,()),(()))) (fun a=>qaf a.1.1))
theorem qlv:MdlOK Tryz.prog 79 yu:=ey Tryz.func79 rfl yt (.two .z (.two (.two .z (.s 0)) .z)) (sC qnj s0)
def qy:Shp:=⟨[(0, .d true .bool)],[]⟩
abbrev qju:Ctx (Bool):=⟨9,tt,false,false,[],em [(79,yu)],ew [],ca 9 tt [] [.tmp 4] qy (fun x=>x.1.1)⟩
theorem qjt:CtxM Tryz.prog qju:=fa fits bt (mC qlv m0)
abbrev sm:Mdl:=(bn (.cons (.d false qT1) (.cons (.fn 162 .nil) .nil)) [] [] 1 qy (B:=Bool) (fun b=>((b,()),(()))) (fun a=>tn a.1.1))
theorem qfv:MdlOK Tryz.prog 32 sm:=ey Tryz.func32 rfl qjt .z s0
def qvl:Shp:=⟨[(0, .d true .bool)],[]⟩
abbrev jgm:Ctx (Bool):=⟨6,tt,false,false,[],em [(32,sm)],ew [],ca 6 tt [] [.tmp 2] qvl (fun x=>x.1.1)⟩
theorem jgl:CtxM Tryz.prog jgm:=fa fits bt (mC qfv m0)
abbrev qzf:Mdl:=(bn (.cons (.d false qT1) .nil) [] [] 1 qvl (B:=Bool) (fun b=>((b,()),(()))) (fun a=>q2h a.1.1))
theorem q9a:MdlOK Tryz.prog 135 qzf:=ey Tryz.func135 rfl jgl .z s0
def qvk:Shp:=⟨[(0, .d true .bool)],[]⟩
abbrev jgj:Ctx (Bool):=⟨16,tt,false,false,[],em [(135,qzf)],ew [],ca 16 tt [] [.tmp 3] qvk (fun x=>x.1.1)⟩
theorem jgi:CtxM Tryz.prog jgj:=fa fits bt (mC q9a m0)
abbrev qze:Mdl:=(bn (.cons (.d false qT1) (.cons (.rp false qT2) .nil)) [] [] 1 qvk (B:=Bool) (fun b=>((b,()),(()))) (fun a=>q2g a.1.1 a.1.2.1))
theorem q86:MdlOK Tryz.prog 134 qze:=ey Tryz.func134 rfl jgi .z s0
def wc:Shp:=⟨[(0, .d true qT0)],[]⟩
abbrev yl:Ctx (Int):=⟨19,tt,false,false,[],em [(134,qze)],ew [aw _ 19 [] qll (C:=(qL2×qL2×Int)) (S:=Int) (fun x=>((x.1.1,x.1.2.1.1,x.1.2.2.1),x.1.2.2.2.1)) qlk (CE:=Unit) (E:=Unit) (fun c e=>((()),(()))) (fun c=>()) (fun{R} c a nx dn rt=>tz c.1 c.2.1 c.2.2 a nx dn rt)],ca 19 tt [] [.tmp 4] wc (fun x=>x.1.1)⟩
theorem yj:CtxM Tryz.prog yl:=fa fits bt (mC q86 m0)
theorem qnf:bj Tryz.prog yl 0 (lc 0 Tryz.f111 37):=lp rfl yj .z s0 (fun c a=>((c.1,(c.2.1,()),c.2.2,a,()),(()))) (fun y=>((),()))
abbrev yk:Mdl:=(bn (.cons (.d false qT2) (.cons (.fn 134 (.cons (.rp false qT2) .nil)) .nil)) [] [] 1 wc (B:=Int) (fun b=>((b,()),(()))) (fun a=>qae a.1.1 a.1.2.1.1))
theorem qlm:MdlOK Tryz.prog 111 yk:=ey Tryz.func111 rfl yj (.two .z (.two (.two .z (.s 0)) .z)) (sC qnf s0)
def qw:Shp:=⟨[(0, .d true .bool)],[]⟩
abbrev qjq:Ctx (Bool):=⟨9,tt,false,false,[],em [(111,yk)],ew [],ca 9 tt [] [.tmp 4] qw (fun x=>x.1.1)⟩
theorem qjp:CtxM Tryz.prog qjq:=fa fits bt (mC qlm m0)
abbrev sj:Mdl:=(bn (.cons (.d false qT2) (.cons (.fn 134 (.cons (.rp false qT2) .nil)) .nil)) [] [] 1 qw (B:=Bool) (fun b=>((b,()),(()))) (fun a=>tm a.1.1 a.1.2.1.1))
theorem qft:MdlOK Tryz.prog 65 sj:=ey Tryz.func65 rfl qjp .z s0
def q2f:Shp:=⟨[(0, .d true .bool)],[]⟩
abbrev jmq:Ctx (Bool):=⟨29,tt,false,false,[],em [(65,sj)],ew [],ca 29 tt [] [.tmp 2] q2f (fun x=>x.1.1)⟩
theorem jmp:CtxM Tryz.prog jmq:=fa fits bt (mC qft m0)
abbrev q5h:Mdl:=(bn (.cons (.d false qT2) .nil) [] [] 1 q2f (B:=Bool) (fun b=>((b,()),(()))) (fun a=>q85 a.1.1))
theorem jgk:MdlOK Tryz.prog 96 q5h:=ey Tryz.func96 rfl jmp .z s0
def q87:Shp:=⟨[(0, .d true qT0)],[]⟩
abbrev jsc:Ctx (Int):=⟨7,tt,false,false,[],em [],ew [],ca 7 tt [] [.tmp 2] q87 (fun x=>x.1.1)⟩
theorem jsb:CtxM Tryz.prog jsc:=fa fits bt m0
abbrev jfc:Mdl:=(bn (.cons (.d false qT0) .nil) [] [] 1 q87 (B:=Int) (fun b=>((b,()),(()))) (fun a=>jkf a.1.1))
theorem jmr:MdlOK Tryz.prog 136 jfc:=ey Tryz.func136 rfl jsb .z s0
def q2j:Shp:=⟨[(0, .d true .bool)],[]⟩
abbrev qt8:Ctx (Bool):=⟨33,tt,false,false,[],em [(136,jfc)],ew [aw _ 33 [] jgu (C:=(Int×qL2×Int×Int×qL1×Int)) (S:=(Int×Int)) (fun x=>((x.1.1,x.1.2.2.1,x.1.2.2.2.1,x.1.2.2.2.2.1,x.1.2.2.2.2.2.1,x.1.2.2.2.2.2.2.1),(x.1.2.1,x.1.2.2.2.2.2.2.2.1))) jgt (CE:=(Int×qL2×Int×Int)) (E:=Int) (fun c e=>((c.1,e,c.2.1,c.2.2.1,c.2.2.2,()),(()))) (fun c=>(c.1,c.2.1,c.2.2.1,c.2.2.2.1)) (fun{R} c a nx dn rt=>qzh c.1 c.2.1 c.2.2.1 c.2.2.2.1 c.2.2.2.2.1 c.2.2.2.2.2 a.1 a.2 nx dn rt),aw _ 33 [] jgw (C:=(qL2×Int)) (S:=(Int×Int)) (fun x=>((x.1.2.1,x.1.2.2.1),(x.1.1,x.1.2.2.2.1))) jgv (CE:=Unit) (E:=Unit) (fun c e=>((()),(()))) (fun c=>()) (fun{R} c a nx dn rt=>qzi c.1 c.2 a.1 a.2 nx dn rt)],ca 33 tt [] [.tmp 2] q2j (fun x=>x.1.1)⟩
theorem qt7:CtxM Tryz.prog qt8:=fa fits bt (mC jmr m0)
theorem jki:bj Tryz.prog qt8 0 (lc 2 Tryz.f97 77003):=lp rfl qt7 .z s0 (fun c a=>((c.1,a.1,c.2.1,c.2.2.1,c.2.2.2.1,c.2.2.2.2.1,c.2.2.2.2.2,a.2,()),(()))) (fun y=>((y.1.1,y.1.2.2.1,y.1.2.2.2.1,y.1.2.2.2.2.1),y.1.2.1))
theorem jkj:bj Tryz.prog qt8 1 (lc 0 Tryz.f97 75):=lp rfl qt7 (.two .z (.two .z (.two (.one (.two .z (.two .z (.two (.two .z (.s 0)) .z)))) .z))) (sC jki s0) (fun c a=>((a.1,c.1,c.2,a.2,()),(()))) (fun y=>((),()))
abbrev q5j:Mdl:=(bn (.cons (.d false qT2) .nil) [] [] 1 q2j (B:=Bool) (fun b=>((b,()),(()))) (fun a=>q9b a.1.1))
theorem jgx:MdlOK Tryz.prog 97 q5j:=ey Tryz.func97 rfl qt7 (.two .z (.two .z (.two (.two .z (.s 1)) .z))) (sC jkj s0)
def qgv:Shp:=⟨[],[.cs 114 4 1 (.cons (.own 1) (.cons (.own 2) (.cons (.d true qT0) (.cons (.d true qT0) .nil)))), .arr 48 .own [3] qT1, .arr 3 (.fz true) [0] qT0]⟩
abbrev ze:Ctx ((Int×Int×qL2×qL1)):=⟨72,tt,true,false,[true,true,true],em [],ew [aw _ 72 [true,true,true] qt3 (C:=(Int×Int×Nat×Int×Nat×Int×Int×Int×Int×Int×Int×qL1)) (S:=(Int×qL2)) (fun x=>((x.1.2.1,x.1.2.2.1,x.1.2.2.2.1,x.1.2.2.2.2.1,x.1.2.2.2.2.2.1,x.1.2.2.2.2.2.2.1,x.1.2.2.2.2.2.2.2.2.1,x.1.2.2.2.2.2.2.2.2.2.1,x.1.2.2.2.2.2.2.2.2.2.2.1,x.2.1.2.2.1,x.2.1.2.2.2.1,x.2.2.2.1),(x.1.2.2.2.2.2.2.2.2.2.2.2.1,x.2.2.1))) qt2 (CE:=(Int×Int×Nat×Int×Int×Int×Int×Int×qL1)) (E:=qL2) (fun c e=>(((),c.1,c.2.1,c.2.2.1,c.2.2.2.1,(),c.2.2.2.2.1,c.2.2.2.2.2.1,()),(((),(),c.2.2.2.2.2.2.1,c.2.2.2.2.2.2.2.1,()),e,c.2.2.2.2.2.2.2.2,()))) (fun c=>(c.1,c.2.1,c.2.2.1,c.2.2.2.1,c.2.2.2.2.2.2.1,c.2.2.2.2.2.2.2.1,c.2.2.2.2.2.2.2.2.2.1,c.2.2.2.2.2.2.2.2.2.2.1,c.2.2.2.2.2.2.2.2.2.2.2)) (fun{R} c a nx dn rt=>qer c.1 c.2.1 c.2.2.1 c.2.2.2.1 c.2.2.2.2.1 c.2.2.2.2.2.1 c.2.2.2.2.2.2.1 c.2.2.2.2.2.2.2.1 c.2.2.2.2.2.2.2.2.1 c.2.2.2.2.2.2.2.2.2.1 c.2.2.2.2.2.2.2.2.2.2.1 c.2.2.2.2.2.2.2.2.2.2.2 a.1 a.2 nx dn rt),aw _ 72 [true,true,true] qt5 (C:=(Int×Int×Nat×Int×Int×Int×Int×qL1)) (S:=(Int×qL2)) (fun x=>((x.1.2.1,x.1.2.2.1,x.1.2.2.2.1,x.1.2.2.2.2.1,x.1.2.2.2.2.2.2.1,x.2.1.2.2.1,x.2.1.2.2.2.1,x.2.2.2.1),(x.1.2.2.2.2.2.2.2.1,x.2.2.1))) qt4 (CE:=(Int×Int×Int×qL1)) (E:=qL2) (fun c e=>(((),c.1,()),(((),(),c.2.1,c.2.2.1,()),e,c.2.2.2,()))) (fun c=>(c.2.2.2.1,c.2.2.2.2.2.1,c.2.2.2.2.2.2.1,c.2.2.2.2.2.2.2)) (fun{R} c a nx dn rt=>qes c.1 c.2.1 c.2.2.1 c.2.2.2.1 c.2.2.2.2.1 c.2.2.2.2.2.1 c.2.2.2.2.2.2.1 c.2.2.2.2.2.2.2 a.1 a.2 nx dn rt)],ca 72 tt [true,true,true] [] qgv (fun x=>(x.2.1.2.2.1,x.2.1.2.2.2.1,x.2.2.1,x.2.2.2.1))⟩
theorem zd:CtxM Tryz.prog ze:=fa fits bt m0
theorem qvs:bj Tryz.prog ze 0 (lc 2 Tryz.f137 81099):=lp rfl zd (.two .z (.two .z (.two (.one (.two .z (.d [0,0,0,0,0,24,56,124,0,0,0,1536,3584,7936,16380,0,32768,98304,229376,524284,1048575,2097151] [21] []))) .z))) s0 (fun c a=>(((),c.1,c.2.1,c.2.2.1,c.2.2.2.1,c.2.2.2.2.1,c.2.2.2.2.2.1,(),c.2.2.2.2.2.2.1,c.2.2.2.2.2.2.2.1,c.2.2.2.2.2.2.2.2.1,a.1,()),(((),(),c.2.2.2.2.2.2.2.2.2.1,c.2.2.2.2.2.2.2.2.2.2.1,()),a.2,c.2.2.2.2.2.2.2.2.2.2.2,()))) (fun y=>((y.1.2.1,y.1.2.2.1,y.1.2.2.2.1,y.1.2.2.2.2.1,y.1.2.2.2.2.2.2.1,y.1.2.2.2.2.2.2.2.1,y.2.1.2.2.1,y.2.1.2.2.2.1,y.2.2.2.1),y.2.2.1))
theorem qvt:bj Tryz.prog ze 1 (lc 0 Tryz.f137 75):=lp rfl zd (.two .z (.two .z (.two (.one (.two .z (.two .z (.two .z (.two .z (.s 0)))))) .z))) (sC qvs s0) (fun c a=>(((),c.1,c.2.1,c.2.2.1,c.2.2.2.1,(),c.2.2.2.2.1,a.1,()),(((),(),c.2.2.2.2.2.1,c.2.2.2.2.2.2.1,()),a.2,c.2.2.2.2.2.2.2,()))) (fun y=>((y.1.2.1,y.2.1.2.2.1,y.2.1.2.2.2.1,y.2.2.2.1),y.2.2.1))
abbrev qiz:Mdl:=(bn (.cons (.ptr 0) (.cons (.d false qT0) (.cons (.d false qT0) .nil))) [.cs 114 4 1 (.cons (.own 1) (.cons (.own 2) (.cons (.d false qT0) (.cons (.d false qT0) .nil)))), .arr 48 .own [3] qT1, .arr 3 (.fz true) [0] qT0] [true,true,true] 0 qgv (B:=(Int×Int×qL2×qL1)) (fun b=>((()),(((),(),b.1,b.2.1,()),b.2.2.1,b.2.2.2,()))) (fun a=>qav a.1.2.1 a.1.2.2.1 a.2.1.2.2.1 a.2.1.2.2.2.1 a.2.2.1 a.2.2.2.1))
theorem qt6:MdlOK Tryz.prog 137 qiz:=ey Tryz.func137 rfl zd (.two .z (.two .z (.two (.two .z (.s 1)) .z))) (sC qvt s0)
def qzg:Shp:=⟨[(0, .d true gh.ty)],[]⟩
abbrev qiy:Ctx (gh):=⟨102,tt,true,false,[],em [(45,gk),(137,qiz)],ew [aw _ 102 [] jcj (C:=(Int×qL2×Int×qL2×qL1×Int×Int×Int×Int×qL1)) (S:=(Int×qL2)) (fun x=>((x.1.1,x.1.2.2.2.1,x.1.2.2.2.2.1,x.2.1.1,x.2.1.2.1,x.2.1.2.2.1,x.2.1.2.2.2.1,x.2.2.1.2.2.1,x.2.2.1.2.2.2.1,x.2.2.2.2.1),(x.1.2.2.2.2.2.1,x.2.2.2.1))) jci (CE:=(Int×qL2×qL1×Int×Int×Int×Int×qL1)) (E:=qL2) (fun c e=>((c.1,(),(),()),((c.2.1,c.2.2.1,c.2.2.2.1,c.2.2.2.2.1,()),((),(),c.2.2.2.2.2.1,c.2.2.2.2.2.2.1,()),e,c.2.2.2.2.2.2.2,()))) (fun c=>(c.1,c.2.2.2.1,c.2.2.2.2.1,c.2.2.2.2.2.1,c.2.2.2.2.2.2.1,c.2.2.2.2.2.2.2.1,c.2.2.2.2.2.2.2.2.1,c.2.2.2.2.2.2.2.2.2)) (fun{R} c a nx dn rt=>qvn c.1 c.2.1 c.2.2.1 c.2.2.2.1 c.2.2.2.2.1 c.2.2.2.2.2.1 c.2.2.2.2.2.2.1 c.2.2.2.2.2.2.2.1 c.2.2.2.2.2.2.2.2.1 c.2.2.2.2.2.2.2.2.2 a.1 a.2 nx dn rt),aw _ 102 [] jcl (C:=(Int×Int×Int×qL2×qL1×Int×Int×Int×Int×qL2×qL1)) (S:=Int) (fun x=>((x.1.1,x.1.2.2.2.1,x.1.2.2.2.2.1,x.2.1.1,x.2.1.2.1,x.2.1.2.2.1,x.2.1.2.2.2.1,x.2.2.1.2.2.1,x.2.2.1.2.2.2.1,x.2.2.2.1,x.2.2.2.2.1),x.1.2.2.2.2.2.1)) jck (CE:=(Int×Int×Int×qL2×qL1×Int×Int×Int×Int×qL2×qL1)) (E:=Int) (fun c e=>((c.1,(),(),c.2.1,c.2.2.1,e,()),((c.2.2.2.1,c.2.2.2.2.1,c.2.2.2.2.2.1,c.2.2.2.2.2.2.1,()),((),(),c.2.2.2.2.2.2.2.1,c.2.2.2.2.2.2.2.2.1,()),c.2.2.2.2.2.2.2.2.2.1,c.2.2.2.2.2.2.2.2.2.2,()))) (fun c=>(c.1,c.2.1,c.2.2.1,c.2.2.2.1,c.2.2.2.2.1,c.2.2.2.2.2.1,c.2.2.2.2.2.2.1,c.2.2.2.2.2.2.2.1,c.2.2.2.2.2.2.2.2.1,c.2.2.2.2.2.2.2.2.2.1,c.2.2.2.2.2.2.2.2.2.2)) (fun{R} c a nx dn rt=>qvo c.1 c.2.1 c.2.2.1 c.2.2.2.1 c.2.2.2.2.1 c.2.2.2.2.2.1 c.2.2.2.2.2.2.1 c.2.2.2.2.2.2.2.1 c.2.2.2.2.2.2.2.2.1 c.2.2.2.2.2.2.2.2.2.1 c.2.2.2.2.2.2.2.2.2.2 a nx dn rt),aw _ 102 [] jcn (C:=(Int×qL2×qL1×Int×Int)) (S:=(Int×Int×Int×qL2×qL1)) (fun x=>((x.1.1,x.2.1.1,x.2.1.2.1,x.2.1.2.2.1,x.2.1.2.2.2.1),(x.1.2.2.2.1,x.2.2.1.2.2.1,x.2.2.1.2.2.2.1,x.2.2.2.1,x.2.2.2.2.1))) jcm (CE:=(qL2×qL1×Int×Int)) (E:=(Int×Int×qL2×qL1)) (fun c e=>(((),(),()),((c.1,c.2.1,c.2.2.1,c.2.2.2,()),((),(),e.1,e.2.1,()),e.2.2.1,e.2.2.2,()))) (fun c=>(c.2.1,c.2.2.1,c.2.2.2.1,c.2.2.2.2)) (fun{R} c a nx dn rt=>qvp c.1 c.2.1 c.2.2.1 c.2.2.2.1 c.2.2.2.2 a.1 a.2.1 a.2.2.1 a.2.2.2.1 a.2.2.2.2 nx dn rt)],ca 102 tt [] [.cell 4 114] qzg (fun x=>x.1.1)⟩
theorem qix:CtxM Tryz.prog qiy:=fa fits bt (mC g9 (mC qt6 m0))
theorem jgr:bj Tryz.prog qiy 1 (lc 4 Tryz.f98 35991):=lp rfl qix .z s0 (fun c a=>((c.1,(),(),c.2.1,c.2.2.1,a,()),((c.2.2.2.1,c.2.2.2.2.1,c.2.2.2.2.2.1,c.2.2.2.2.2.2.1,()),((),(),c.2.2.2.2.2.2.2.1,c.2.2.2.2.2.2.2.2.1,()),c.2.2.2.2.2.2.2.2.2.1,c.2.2.2.2.2.2.2.2.2.2,()))) (fun y=>((y.1.1,y.1.2.2.2.1,y.1.2.2.2.2.1,y.2.1.1,y.2.1.2.1,y.2.1.2.2.1,y.2.1.2.2.2.1,y.2.2.1.2.2.1,y.2.2.1.2.2.2.1,y.2.2.2.1,y.2.2.2.2.1),y.1.2.2.2.2.2.1))
theorem jgs:bj Tryz.prog qiy 2 (lc 2 Tryz.f98 151):=lp rfl qix (.two .z (.two (.one (.two .z (.two .z (.two (.s 1) (.two .z (.two (.two .z (.two (.two (.d [0,1,0,0,8,0,0,64,0,448,960,0,2048,0,14336,30720,65503,131039,262143,524287] [17,19] []) .z) .z)) .z)))))) .z)) (sC jgr s0) (fun c a=>((c.1,(),(),a.1,()),((c.2.1,c.2.2.1,c.2.2.2.1,c.2.2.2.2,()),((),(),a.2.1,a.2.2.1,()),a.2.2.2.1,a.2.2.2.2,()))) (fun y=>((y.2.1.1,y.2.1.2.1,y.2.1.2.2.1,y.2.1.2.2.2.1),(y.2.2.1.2.2.1,y.2.2.1.2.2.2.1,y.2.2.2.1,y.2.2.2.2.1)))
theorem jgq:bj Tryz.prog qiy 0 (lc 0 Tryz.f98 75):=lp rfl qix (.two .z (.two .z (.two (.one (.two .z (.d [0,1,0,4,12,31,63,127] [5,7] []))) .z))) s0 (fun c a=>((c.1,(),(),c.2.1,c.2.2.1,a.1,()),((c.2.2.2.1,c.2.2.2.2.1,c.2.2.2.2.2.1,c.2.2.2.2.2.2.1,()),((),(),c.2.2.2.2.2.2.2.1,c.2.2.2.2.2.2.2.2.1,()),a.2,c.2.2.2.2.2.2.2.2.2,()))) (fun y=>((y.1.1,y.2.1.1,y.2.1.2.1,y.2.1.2.2.1,y.2.1.2.2.2.1,y.2.2.1.2.2.1,y.2.2.1.2.2.2.1,y.2.2.2.2.1),y.2.2.2.1))
abbrev q2i:Mdl:=(bn (.cons (.d false qT2) (.cons (.d false qT0) .nil)) [] [] 1 qzg (B:=gh) (fun b=>((b,()),(()))) (fun a=>q5i a.1.1 a.1.2.1))
theorem jco:MdlOK Tryz.prog 98 q2i:=ey Tryz.func98 rfl qix (.two .z (.two .z (.two (.two .z (.s 0)) (.two (.two .z (.s 2)) .z)))) (sC jgq (sC jgs s0))
def q5g:Shp:=⟨[(0, .d true qT0),(1, .d true qT0)],[]⟩
abbrev jpv:Ctx ((Int×Int)):=⟨20,tt,false,false,[],em [(96,q5h),(97,q5j),(98,q2i)],ew [],ca 20 tt [] [.tmp 2, .tmp 3] q5g (fun x=>(x.1.1,x.1.2.1))⟩
theorem jpu:CtxM Tryz.prog jpv:=fa fits bt (mC jgk (mC jgx (mC jco m0)))
abbrev q84:Mdl:=(bn (.cons (.d false qT2) .nil) [] [] 2 q5g (B:=(Int×Int)) (fun b=>((b.1,b.2,()),(()))) (fun a=>jfb a.1.1))
theorem jke:MdlOK Tryz.prog 56 q84:=ey Tryz.func56 rfl jpu .z s0
def qiq:Shp:=⟨[(0, .d true .bool)],[]⟩
abbrev q01:Ctx (Bool):=⟨15,tt,false,false,[],em [],ew [],ca 15 tt [] [.tmp 3] qiq (fun x=>x.1.1)⟩
theorem q00:CtxM Tryz.prog q01:=fa fits bt m0
abbrev qmf:Mdl:=(bn (.cons (.d false qT1) (.cons (.rp false qT0) .nil)) [] [] 1 qiq (B:=Bool) (fun b=>((b,()),(()))) (fun a=>qor a.1.1 a.1.2.1))
theorem qu8:MdlOK Tryz.prog 99 qmf:=ey Tryz.func99 rfl q00 .z s0
def y6:Shp:=⟨[(0, .d true qT0)],[]⟩
abbrev qao:Ctx (Int):=⟨19,tt,false,false,[],em [(99,qmf)],ew [aw _ 19 [] qns (C:=(qL2×Int×Int)) (S:=Int) (fun x=>((x.1.1,x.1.2.1.1,x.1.2.2.1),x.1.2.2.2.1)) qnr (CE:=Unit) (E:=Unit) (fun c e=>((()),(()))) (fun c=>()) (fun{R} c a nx dn rt=>wn c.1 c.2.1 c.2.2 a nx dn rt)],ca 19 tt [] [.tmp 4] y6 (fun x=>x.1.1)⟩
theorem qam:CtxM Tryz.prog qao:=fa fits bt (mC qu8 m0)
theorem qo9:bj Tryz.prog qao 0 (lc 0 Tryz.f111 37):=lp rfl qam .z s0 (fun c a=>((c.1,(c.2.1,()),c.2.2,a,()),(()))) (fun y=>((),()))
abbrev qan:Mdl:=(bn (.cons (.d false qT2) (.cons (.fn 99 (.cons (.rp false qT0) .nil)) .nil)) [] [] 1 y6 (B:=Int) (fun b=>((b,()),(()))) (fun a=>qbc a.1.1 a.1.2.1.1))
theorem qnt:MdlOK Tryz.prog 111 qan:=ey Tryz.func111 rfl qam (.two .z (.two (.two .z (.s 0)) .z)) (sC qo9 s0)
def ss:Shp:=⟨[(0, .d true .bool)],[]⟩
abbrev qk3:Ctx (Bool):=⟨9,tt,false,false,[],em [(111,qan)],ew [],ca 9 tt [] [.tmp 4] ss (fun x=>x.1.1)⟩
theorem qk2:CtxM Tryz.prog qk3:=fa fits bt (mC qnt m0)
abbrev tr:Mdl:=(bn (.cons (.d false qT2) (.cons (.fn 99 (.cons (.rp false qT0) .nil)) .nil)) [] [] 1 ss (B:=Bool) (fun b=>((b,()),(()))) (fun a=>vo a.1.1 a.1.2.1.1))
theorem qg7:MdlOK Tryz.prog 65 tr:=ey Tryz.func65 rfl qk2 .z s0
def qoq:Shp:=⟨[(0, .d true .bool)],[]⟩
abbrev qqe:Ctx (Bool):=⟨15,tt,false,false,[],em [(65,tr)],ew [aw _ 15 [] q0z (C:=(qL2×Int)) (S:=Int) (fun x=>((x.1.1,x.1.2.1),x.1.2.2.1)) q0y (CE:=Unit) (E:=Unit) (fun c e=>((()),(()))) (fun c=>()) (fun{R} c a nx dn rt=>qme c.1 c.2 a nx dn rt)],ca 15 tt [] [.tmp 4] qoq (fun x=>x.1.1)⟩
theorem qqd:CtxM Tryz.prog qqe:=fa fits bt (mC qg7 m0)
theorem q13:bj Tryz.prog qqe 0 (lc 0 Tryz.f58 37):=lp rfl qqd .z s0 (fun c a=>((c.1,c.2,a,()),(()))) (fun y=>((),()))
abbrev qd3:Mdl:=(bn (.cons (.d false qT2) (.cons (.d false qT0) .nil)) [] [] 1 qoq (B:=Bool) (fun b=>((b,()),(()))) (fun a=>qfi a.1.1 a.1.2.1))
theorem qmg:MdlOK Tryz.prog 58 qd3:=ey Tryz.func58 rfl qqd (.two .z (.two (.two .z (.s 0)) .z)) (sC q13 s0)
def qdt:Shp:=⟨[(0, .d true .bool)],[]⟩
abbrev qtr:Ctx (Bool):=⟨7,tt,false,false,[],em [(58,qd3)],ew [],ca 7 tt [] [.tmp 2] qdt (fun x=>x.1.1)⟩
theorem qtq:CtxM Tryz.prog qtr:=fa fits bt (mC qmg m0)
abbrev qej:Mdl:=(bn (.cons (.rp false qT2) (.cons (.rp false ff.ty) .nil)) [] [] 1 qdt (B:=Bool) (fun b=>((b,()),(()))) (fun a=>qgm a.1.1 a.1.2.1))
theorem qrh:MdlOK Tryz.prog 57 qej:=ey Tryz.func57 rfl qtq .z s0
def zz:Shp:=⟨[(0, .d true .bool)],[]⟩
abbrev qqs:Ctx (Bool):=⟨6,tt,false,false,[],em [(57,qej)],ew [],ca 6 tt [] [.tmp 2] zz (fun x=>x.1.1)⟩
theorem qqr:CtxM Tryz.prog qqs:=fa fits bt (mC qrh m0)
abbrev qaz:Mdl:=(bn (.cons (.fn 57 (.cons (.rp false qT2) (.cons (.rp false ff.ty) .nil))) .nil) [] [] 1 zz (B:=Bool) (fun b=>((b,()),(()))) (fun a=>qbv a.1.1.1 a.1.1.2.1))
theorem qom:MdlOK Tryz.prog 62 qaz:=ey Tryz.func62 rfl qqr .z s0
def qdu:Shp:=⟨[(0, .d true .bool)],[]⟩
abbrev qtt:Ctx (Bool):=⟨8,tt,false,false,[],em [(58,qd3)],ew [],ca 8 tt [] [.tmp 2] qdu (fun x=>x.1.1)⟩
theorem qts:CtxM Tryz.prog qtt:=fa fits bt (mC qmg m0)
abbrev qek:Mdl:=(bn (.cons (.rp false qT2) (.cons (.rp false ff.ty) .nil)) [] [] 1 qdu (B:=Bool) (fun b=>((b,()),(()))) (fun a=>qgn a.1.1 a.1.2.1))
theorem qri:MdlOK Tryz.prog 59 qek:=ey Tryz.func59 rfl qts .z s0
def z0:Shp:=⟨[(0, .d true .bool)],[]⟩
abbrev qqu:Ctx (Bool):=⟨6,tt,false,false,[],em [(59,qek)],ew [],ca 6 tt [] [.tmp 2] z0 (fun x=>x.1.1)⟩
theorem qqt:CtxM Tryz.prog qqu:=fa fits bt (mC qri m0)
abbrev qa0:Mdl:=(bn (.cons (.fn 59 (.cons (.rp false qT2) (.cons (.rp false ff.ty) .nil))) .nil) [] [] 1 z0 (B:=Bool) (fun b=>((b,()),(()))) (fun a=>qbw a.1.1.1 a.1.1.2.1))
theorem qon:MdlOK Tryz.prog 62 qa0:=ey Tryz.func62 rfl qqt .z s0
def qdv:Shp:=⟨[(0, .d true .bool)],[]⟩
abbrev qtv:Ctx (Bool):=⟨9,tt,false,false,[],em [(43,qb0)],ew [],ca 9 tt [] [.tmp 2] qdv (fun x=>x.1.1)⟩
theorem qtu:CtxM Tryz.prog qtv:=fa fits bt (mC qio m0)
abbrev qel:Mdl:=(bn (.cons (.rp false qT0) (.cons (.rp false ff.ty) .nil)) [] [] 1 qdv (B:=Bool) (fun b=>((b,()),(()))) (fun a=>qgo a.1.1 a.1.2.1))
theorem qrj:MdlOK Tryz.prog 60 qel:=ey Tryz.func60 rfl qtu (.two .z (.two (.d [0,0,2,6,14,31,63] [] []) .z)) s0
def z4:Shp:=⟨[(0, .d true .bool)],[]⟩
abbrev qqw:Ctx (Bool):=⟨6,tt,false,false,[],em [(60,qel)],ew [],ca 6 tt [] [.tmp 2] z4 (fun x=>x.1.1)⟩
theorem qqv:CtxM Tryz.prog qqw:=fa fits bt (mC qrj m0)
abbrev qa1:Mdl:=(bn (.cons (.fn 60 (.cons (.rp false qT0) (.cons (.rp false ff.ty) .nil))) .nil) [] [] 1 z4 (B:=Bool) (fun b=>((b,()),(()))) (fun a=>qbx a.1.1.1 a.1.1.2.1))
theorem qoo:MdlOK Tryz.prog 62 qa1:=ey Tryz.func62 rfl qqv .z s0
def iu:Shp:=⟨[(0, .d true qT0)],[.cs 25 1 3 (.cons (.fn 57 (.cons (.ptr 1) (.cons (.ptr 2) .nil))) (.cons (.fn 59 (.cons (.ptr 3) (.cons (.ptr 2) .nil))) (.cons (.fn 60 (.cons (.ptr 4) (.cons (.ptr 2) .nil))) .nil))), .cs 42 1 1 (.cons (.d true qT2) .nil), .cs 24 4 1 (.cons (.d true qT0) (.cons (.d true (.slice ab.ty)) (.cons (.d true qT0) (.cons (.d true qT0) .nil)))), .cs 42 1 1 (.cons (.d true qT2) .nil), .cs 3 1 1 (.cons (.d true qT0) .nil)]⟩
abbrev qo:Ctx ((Int×qL2×Int×(List ab)×Int×Int×qL2×Int)):=⟨19,tt,false,false,[true,true,true,true,true],em [(62,qaz),(62,qa0),(62,qa1)],ew [],ca 19 tt [true,true,true,true,true] [.tmp 4] iu (fun x=>(x.1.1,x.2.2.1.1,x.2.2.2.1.1,x.2.2.2.1.2.1,x.2.2.2.1.2.2.1,x.2.2.2.1.2.2.2.1,x.2.2.2.2.1.1,x.2.2.2.2.2.1.1))⟩
theorem qn:CtxM Tryz.prog qo:=fa fits bt (mC qom (mC qon (mC qoo m0)))
abbrev iw:Mdl:=(bn (.cons (.own 0) (.cons (.fn 62 .nil) .nil)) [.cs 25 1 3 (.cons (.fn 57 (.cons (.ptr 1) (.cons (.ptr 2) .nil))) (.cons (.fn 59 (.cons (.ptr 3) (.cons (.ptr 2) .nil))) (.cons (.fn 60 (.cons (.ptr 4) (.cons (.ptr 2) .nil))) .nil))), .cs 42 1 1 (.cons (.d true qT2) .nil), .cs 24 4 1 (.cons (.d false qT0) (.cons (.d true (.slice ab.ty)) (.cons (.d false qT0) (.cons (.d false qT0) .nil)))), .cs 42 1 1 (.cons (.d true qT2) .nil), .cs 3 1 1 (.cons (.d false qT0) .nil)] [true,true,true,true,true] 1 iu (B:=(Int×qL2×Int×(List ab)×Int×Int×qL2×Int)) (fun b=>((b.1,()),((((),(),()),((),(),()),((),(),()),()),(b.2.1,()),(b.2.2.1,b.2.2.2.1,b.2.2.2.2.1,b.2.2.2.2.2.1,()),(b.2.2.2.2.2.2.1,()),(b.2.2.2.2.2.2.2,()),()))) (fun a=>je a.2.2.1.1 a.2.2.2.1.1 a.2.2.2.1.2.1 a.2.2.2.1.2.2.1 a.2.2.2.1.2.2.2.1 a.2.2.2.2.1.1 a.2.2.2.2.2.1.1))
theorem p4:MdlOK Tryz.prog 100 iw:=ey Tryz.func100 rfl qn (.two .z (.two (.two .z (.one (.u 4 .z))) .z)) s0
def gi:Shp:=⟨[(0, .d true .bool)],[.cs 25 1 3 (.cons (.fn 57 (.cons (.ptr 1) (.cons (.ptr 2) .nil))) (.cons (.fn 59 (.cons (.ptr 3) (.cons (.ptr 2) .nil))) (.cons (.fn 60 (.cons (.ptr 4) (.cons (.ptr 2) .nil))) .nil))), .cs 42 1 1 (.cons (.d true qT2) .nil), .cs 24 4 1 (.cons (.d true qT0) (.cons (.d true (.slice ab.ty)) (.cons (.d true qT0) (.cons (.d true qT0) .nil)))), .cs 42 1 1 (.cons (.d true qT2) .nil), .cs 3 1 1 (.cons (.d true qT0) .nil)]⟩
abbrev ph:Ctx ((Bool×qL2×Int×(List ab)×Int×Int×qL2×Int)):=⟨9,tt,false,false,[true,true,true,true,true],em [(100,iw)],ew [],ca 9 tt [true,true,true,true,true] [.tmp 4] gi (fun x=>(x.1.1,x.2.2.1.1,x.2.2.2.1.1,x.2.2.2.1.2.1,x.2.2.2.1.2.2.1,x.2.2.2.1.2.2.2.1,x.2.2.2.2.1.1,x.2.2.2.2.2.1.1))⟩
theorem pg:CtxM Tryz.prog ph:=fa fits bt (mC p4 m0)
abbrev gp:Mdl:=(bn (.cons (.own 0) (.cons (.fn 62 .nil) .nil)) [.cs 25 1 3 (.cons (.fn 57 (.cons (.ptr 1) (.cons (.ptr 2) .nil))) (.cons (.fn 59 (.cons (.ptr 3) (.cons (.ptr 2) .nil))) (.cons (.fn 60 (.cons (.ptr 4) (.cons (.ptr 2) .nil))) .nil))), .cs 42 1 1 (.cons (.d true qT2) .nil), .cs 24 4 1 (.cons (.d false qT0) (.cons (.d true (.slice ab.ty)) (.cons (.d false qT0) (.cons (.d false qT0) .nil)))), .cs 42 1 1 (.cons (.d true qT2) .nil), .cs 3 1 1 (.cons (.d false qT0) .nil)] [true,true,true,true,true] 1 gi (B:=(Bool×qL2×Int×(List ab)×Int×Int×qL2×Int)) (fun b=>((b.1,()),((((),(),()),((),(),()),((),(),()),()),(b.2.1,()),(b.2.2.1,b.2.2.2.1,b.2.2.2.2.1,b.2.2.2.2.2.1,()),(b.2.2.2.2.2.2.1,()),(b.2.2.2.2.2.2.2,()),()))) (fun a=>ia a.2.2.1.1 a.2.2.2.1.1 a.2.2.2.1.2.1 a.2.2.2.1.2.2.1 a.2.2.2.1.2.2.2.1 a.2.2.2.2.1.1 a.2.2.2.2.2.1.1))
theorem om:MdlOK Tryz.prog 61 gp:=ey Tryz.func61 rfl pg .z s0
def qgl:Shp:=⟨[(0, .d true .bool),(1, .d true qT0)],[]⟩
abbrev qxt:Ctx ((Bool×Int)):=⟨61,tt,false,false,[],em [(41,jw),(42,p6),(52,qmd),(53,q77),(54,qsi),(55,qvw),(56,q84),(61,gp)],ew [],ca 61 tt [] [.tmp 2, .tmp 3] qgl (fun x=>(x.1.1,x.1.2.1))⟩
theorem qxs:CtxM Tryz.prog qxt:=fa fits bt (mC ir (mC rx (mC qu7 (mC jjb (mC q4r (mC q69 (mC jke (mC om m0))))))))
abbrev qij:Mdl:=(bn (.cons (.d true ff.ty) .nil) [] [] 2 qgl (B:=(Bool×Int)) (fun b=>((b.1,b.2,()),(()))) (fun a=>qma a.1.1))
theorem qtw:MdlOK Tryz.prog 19 qij:=ey Tryz.func19 rfl qxs .z s0
def q32:Shp:=⟨[(0, .d true (.int .u32))],[]⟩
abbrev q6g:Ctx (Int):=⟨18,tt,false,false,[],em [],ew [aw _ 18 [] jh5 (C:=(qL1×Int)) (S:=(Int×Int)) (fun x=>((x.1.2.1,x.1.2.2.1),(x.1.1,x.1.2.2.2.1))) jh4 (CE:=Unit) (E:=Int) (fun c e=>((e,()),(()))) (fun c=>()) (fun{R} c a nx dn rt=>qfh c.1 c.2 a.1 a.2 nx dn rt)],ca 18 tt [] [.tmp 2] q32 (fun x=>x.1.1)⟩
theorem q6e:CtxM Tryz.prog q6g:=fa fits bt m0
theorem jly:bj Tryz.prog q6g 0 (lc 0 Tryz.f146 75):=lp rfl q6e .z s0 (fun c a=>((a.1,c.1,c.2,a.2,()),(()))) (fun y=>((),y.1.1))
abbrev q6f:Mdl:=(bn (.cons (.d false qT1) .nil) [] [] 1 q32 (B:=Int) (fun b=>((b,()),(()))) (fun a=>qjb a.1.1))
theorem jh6:MdlOK Tryz.prog 146 q6f:=ey Tryz.func146 rfl q6e (.two .z (.two .z (.two (.two .z (.s 0)) .z))) (sC jly s0)
def qwo:Shp:=⟨[(0, .nl false (.own 0))],[.arr 121 (.fz true) [0] (.int .u32)]⟩
abbrev qaa:Ctx (qL1):=⟨106,tt,false,false,[],em [(146,q6f)],ew [aw _ 106 [] jat (C:=((List ab)×Int×Int×(List ab)×Int×Int)) (S:=(Int×qL1×qL1)) (fun x=>((x.1.2.2.2.1,x.1.2.2.2.2.1,x.2.1.1,x.2.1.2.1,x.2.1.2.2.1,x.2.1.2.2.2.1),(x.1.2.2.2.2.2.1,x.2.2.1,x.2.2.2.1))) jas (CE:=(Int×(List ab)×Int×Int)) (E:=(qL1×qL1)) (fun c e=>(((),(),(),()),((c.1,c.2.1,c.2.2.1,c.2.2.2,()),e.1,e.2,()))) (fun c=>(c.2.2.1,c.2.2.2.1,c.2.2.2.2.1,c.2.2.2.2.2)) (fun{R} c a nx dn rt=>qa8 c.1 c.2.1 c.2.2.1 c.2.2.2.1 c.2.2.2.2.1 c.2.2.2.2.2 a.1 a.2.1 a.2.2 nx dn rt),aw _ 106 [] jav (C:=(qL1×qL1×Int×Int×Int×(List ab)×Int×Int×qL1)) (S:=(Int×(List Bool))) (fun x=>((x.1.2.1,x.1.2.2.1,x.1.2.2.2.2.2.1,x.1.2.2.2.2.2.2.1,x.2.1.1,x.2.1.2.1,x.2.1.2.2.1,x.2.1.2.2.2.1,x.2.2.2.1),(x.1.2.2.2.2.2.2.2.1,x.2.2.1))) jau (CE:=(qL1×qL1×Int×Int×(List ab)×Int×Int×qL1)) (E:=(List Bool)) (fun c e=>(((),c.1,c.2.1,(),(),c.2.2.1,()),((c.2.2.2.1,c.2.2.2.2.1,c.2.2.2.2.2.1,c.2.2.2.2.2.2.1,()),e,c.2.2.2.2.2.2.2,()))) (fun c=>(c.1,c.2.1,c.2.2.1,c.2.2.2.2.1,c.2.2.2.2.2.1,c.2.2.2.2.2.2.1,c.2.2.2.2.2.2.2.1,c.2.2.2.2.2.2.2.2)) (fun{R} c a nx dn rt=>nz c.1 c.2.1 c.2.2.1 c.2.2.2.1 c.2.2.2.2.1 c.2.2.2.2.2.1 c.2.2.2.2.2.2.1 c.2.2.2.2.2.2.2.1 c.2.2.2.2.2.2.2.2 a.1 a.2 nx dn rt),aw _ 106 [] jax (C:=(qL1×qL1×Int×Int×Int×(List ab)×Int×Int×(List Bool)×qL1)) (S:=(Bool×Int)) (fun x=>((x.1.2.1,x.1.2.2.1,x.1.2.2.2.2.2.1,x.1.2.2.2.2.2.2.2.1,x.2.1.1,x.2.1.2.1,x.2.1.2.2.1,x.2.1.2.2.2.1,x.2.2.1,x.2.2.2.1),(x.1.2.2.2.2.2.2.1,x.1.2.2.2.2.2.2.2.2.1))) jaw (CE:=(qL1×qL1×Int×Int×(List ab)×Int×Int×(List Bool)×qL1)) (E:=Bool) (fun c e=>(((),c.1,c.2.1,(),(),c.2.2.1,e,()),((c.2.2.2.1,c.2.2.2.2.1,c.2.2.2.2.2.1,c.2.2.2.2.2.2.1,()),c.2.2.2.2.2.2.2.1,c.2.2.2.2.2.2.2.2,()))) (fun c=>(c.1,c.2.1,c.2.2.1,c.2.2.2.2.1,c.2.2.2.2.2.1,c.2.2.2.2.2.2.1,c.2.2.2.2.2.2.2.1,c.2.2.2.2.2.2.2.2.1,c.2.2.2.2.2.2.2.2.2)) (fun{R} c a nx dn rt=>qa9 c.1 c.2.1 c.2.2.1 c.2.2.2.1 c.2.2.2.2.1 c.2.2.2.2.2.1 c.2.2.2.2.2.2.1 c.2.2.2.2.2.2.2.1 c.2.2.2.2.2.2.2.2.1 c.2.2.2.2.2.2.2.2.2 a.1 a.2 nx dn rt),aw _ 106 [] jaz (C:=(qL1×qL1×Int×(List ab)×Int×Int)) (S:=(Int×(List Bool)×qL1)) (fun x=>((x.1.2.1,x.1.2.2.1,x.2.1.1,x.2.1.2.1,x.2.1.2.2.1,x.2.1.2.2.2.1),(x.1.2.2.2.2.2.1,x.2.2.1,x.2.2.2.1))) jay (CE:=Unit) (E:=qL1) (fun c e=>(((),()),(e,()))) (fun c=>()) (fun{R} c a nx dn rt=>n4 c.1 c.2.1 c.2.2.1 c.2.2.2.1 c.2.2.2.2.1 c.2.2.2.2.2 a.1 a.2.1 a.2.2 nx dn rt)],ca 106 tt [] [.tmp 2] qwo (fun x=>x.2.1)⟩
theorem z9:CtxM Tryz.prog qaa:=fa fits bt (mC jh6 m0)
theorem jel:bj Tryz.prog qaa 2 (lc 6 Tryz.f107 619103):=lp rfl z9 .z s0 (fun c a=>(((),c.1,c.2.1,(),(),c.2.2.1,a.1,c.2.2.2.1,a.2,()),((c.2.2.2.2.1,c.2.2.2.2.2.1,c.2.2.2.2.2.2.1,c.2.2.2.2.2.2.2.1,()),c.2.2.2.2.2.2.2.2.1,c.2.2.2.2.2.2.2.2.2,()))) (fun y=>((y.1.2.1,y.1.2.2.1,y.1.2.2.2.2.2.1,y.2.1.1,y.2.1.2.1,y.2.1.2.2.1,y.2.1.2.2.2.1,y.2.2.1,y.2.2.2.1),y.1.2.2.2.2.2.2.1))
theorem jek:bj Tryz.prog qaa 1 (lc 4 Tryz.f107 74335):=lp rfl z9 .z s0 (fun c a=>(((),c.1,c.2.1,(),(),c.2.2.1,c.2.2.2.1,a.1,()),((c.2.2.2.2.1,c.2.2.2.2.2.1,c.2.2.2.2.2.2.1,c.2.2.2.2.2.2.2.1,()),a.2,c.2.2.2.2.2.2.2.2,()))) (fun y=>((y.1.2.1,y.1.2.2.1,y.1.2.2.2.2.2.1,y.2.1.1,y.2.1.2.1,y.2.1.2.2.1,y.2.1.2.2.2.1,y.2.2.2.1),y.2.2.1))
theorem jem:bj Tryz.prog qaa 3 (lc 2 Tryz.f107 607):=lp rfl z9 (.two .z (.two (.one (.two (.two .z (.s 1)) (.two .z (.two .z (.two (.two .z (.s 2)) .z))))) .z)) (sC jek (sC jel s0)) (fun c a=>(((),c.1,c.2.1,(),(),a.1,()),((c.2.2.1,c.2.2.2.1,c.2.2.2.2.1,c.2.2.2.2.2,()),a.2.1,a.2.2,()))) (fun y=>((),y.2.1))
theorem jej:bj Tryz.prog qaa 0 (lc 0 Tryz.f107 75):=lp rfl z9 (.two .z (.two .z (.two (.one (.two .z (.d [0,0,2,6,14,31,0,0,128,447,959,2047,4095,8191] [5,11,12,13] [1]))) .z))) s0 (fun c a=>(((),(),(),c.1,c.2.1,a.1,()),((c.2.2.1,c.2.2.2.1,c.2.2.2.2.1,c.2.2.2.2.2,()),a.2.1,a.2.2,()))) (fun y=>((y.2.1.1,y.2.1.2.1,y.2.1.2.2.1,y.2.1.2.2.2.1),(y.2.2.1,y.2.2.2.1)))
abbrev q0f:Mdl:=(bn (.cons (.d false ff.ty) .nil) [] [] 1 qwo (B:=qL1) (fun b=>(((),()),(b,()))) (fun a=>qjc a.1.1))
theorem ja0:MdlOK Tryz.prog 107 q0f:=ey Tryz.func107 rfl z9 (.two .z (.two .z (.two (.two .z (.s 0)) (.two .z (.two .z (.two (.two .z (.s 3)) .z)))))) (sC jej (sC jem s0))
def qr0:Shp:=⟨[(0, .d true qT0)],[]⟩
abbrev jao:Ctx (Int):=⟨8,tt,false,false,[],em [(110,dl)],ew [],ca 8 tt [] [.tmp 4] qr0 (fun x=>x.1.1)⟩
theorem jan:CtxM Tryz.prog jao:=fa fits bt (mC dz m0)
abbrev jp:Mdl:=(bn (.cons (.d false qT1) (.cons (.d false qT1) .nil)) [] [] 1 qr0 (B:=Int) (fun b=>((b,()),(()))) (fun a=>bx a.1.1 a.1.2.1))
theorem jf:MdlOK Tryz.prog 109 jp:=ey Tryz.func109 rfl jan .z s0
def oa:Shp:=⟨[],[.arr 48 (.fz true) [3] qT1]⟩
abbrev ji:Ctx (qL2):=⟨53,tt,false,false,[true],em [(109,jp)],ew [aw _ 53 [true] qcf (C:=(Int×Int×Int)) (S:=(Int×qL2)) (fun x=>((x.1.2.1,x.1.2.2.1,x.1.2.2.2.2.1),(x.1.2.2.2.2.2.1,x.2.1))) qce (CE:=(Int×Int×Int)) (E:=qL2) (fun c e=>(((),c.1,c.2.1,(()),c.2.2,()),(e,()))) (fun c=>(c.1,c.2.1,c.2.2)) (fun{R} c a nx dn rt=>c0 c.1 c.2.1 c.2.2 a.1 a.2 nx dn rt),aw _ 53 [true] qch (C:=(Int×Int)) (S:=(Int×qL2)) (fun x=>((x.1.2.1,x.1.2.2.1),(x.1.2.2.2.2.1,x.2.1))) qcg (CE:=Unit) (E:=qL2) (fun c e=>((()),(e,()))) (fun c=>()) (fun{R} c a nx dn rt=>fc c.1 c.2 a.1 a.2 nx dn rt)],ca 53 tt [true] [] oa (fun x=>x.2.1)⟩
theorem jh:CtxM Tryz.prog ji:=fa fits bt (mC jf m0)
theorem qdd:bj Tryz.prog ji 0 (lc 2 Tryz.f169 585):=lp rfl jh (.two (.two (.d [0,0,3,7,15,15,15,111,239,15,15,1039,3599,7695,16383,32767,65535] [] []) .z) (.two (.one (.d [0,0,0,0,8,0,0,64,224,480,0,0,3072,7168,16355,32739,65535,131071] [15,17] [])) .z)) s0 (fun c a=>(((),c.1,c.2.1,(()),c.2.2,a.1,()),(a.2,()))) (fun y=>((y.1.2.1,y.1.2.2.1,y.1.2.2.2.2.1),y.2.1))
theorem qde:bj Tryz.prog ji 1 (lc 0 Tryz.f169 9):=lp rfl jh (.two .z (.two (.one (.two .z (.s 0))) .z)) (sC qdd s0) (fun c a=>(((),c.1,c.2,(()),a.1,()),(a.2,()))) (fun y=>((),y.2.1))
abbrev o7:Mdl:=(bn (.cons (.own 0) (.cons (.d false qT0) (.cons (.d false qT0) (.cons (.fn 109 .nil) .nil)))) [.arr 48 (.fz true) [3] qT1] [true] 0 oa (B:=qL2) (fun b=>((()),(b,()))) (fun a=>ee a.1.2.1 a.1.2.2.1 a.2.1))
theorem qci:MdlOK Tryz.prog 169 o7:=ey Tryz.func169 rfl jh (.two .z (.s 1)) (sC qde s0)
def s8:Shp:=⟨[],[.arr 48 (.fz true) [3] qT1]⟩
abbrev mg:Ctx (qL2):=⟨82,tt,false,false,[true],em [(109,jp)],ew [ne _ 82 [true] qh2 (A:=(Int×Int×Int×Int×qL2)) (fun x=>(x.1.2.1,x.1.2.2.1,x.1.2.2.2.2.1,x.1.2.2.2.2.2.1,x.2.1)) qh1 (CE:=(Int×Int×Int)) (E:=qL2) (fun c e=>(((),c.1,c.2.1,(()),c.2.2,()),(e,()))) (fun c=>(c.1,c.2.1,c.2.2.2.1)) (fun{R} c dn rt=>la c.1 c.2.1 c.2.2.1 c.2.2.2.1 c.2.2.2.2 dn rt),aw _ 82 [true] qh0 (C:=(Int×Int)) (S:=(Int×qL2)) (fun x=>((x.1.2.1,x.1.2.2.1),(x.1.2.2.2.2.1,x.2.1))) qhz (CE:=Unit) (E:=qL2) (fun c e=>((()),(e,()))) (fun c=>()) (fun{R} c a nx dn rt=>cj c.1 c.2 a.1 a.2 nx dn rt)],ca 82 tt [true] [] s8 (fun x=>x.2.1)⟩
theorem mf:CtxM Tryz.prog mg:=fa fits bt (mC jf m0)
theorem qkr:bj Tryz.prog mg 0 (jc Tryz.f186 241):=jn rfl mf (.two (.two (.d [0,0,0,0,12,30,62,0,0,0,768,1920,3968,8191,16383,32767] [] []) .z) (.two (.d [0,0,0,6,0,0,0,96,0,0,0,1536,3840,7936,0,0,0,98304,245760,507904,1048335,2096911,4194303,8388607] [21,23] []) .z)) s0 (fun c=>(((),c.1,c.2.1,(()),c.2.2.1,c.2.2.2.1,()),(c.2.2.2.2,()))) (fun y=>((y.1.2.1,y.1.2.2.1,y.1.2.2.2.2.1),y.2.1))
theorem qks:bj Tryz.prog mg 1 (lc 0 Tryz.f186 9):=lp rfl mf (.one (.two .z (.two .z (.two (.two (.d [0,1,0,7,15,31,31,31,31,415,991,2015,31,31,31,24607,57375,127007,258079,524287,1048575,2097151] [] []) .z) (.s 0))))) (sC qkr s0) (fun c a=>(((),c.1,c.2,(()),a.1,()),(a.2,()))) (fun y=>((),y.2.1))
abbrev ua:Mdl:=(bn (.cons (.own 0) (.cons (.d false qT0) (.cons (.d false qT0) (.cons (.d false qT0) (.cons (.fn 109 .nil) .nil))))) [.arr 48 (.fz true) [3] qT1] [true] 0 s8 (B:=qL2) (fun b=>((()),(b,()))) (fun a=>f4 a.1.2.1 a.1.2.2.1 a.1.2.2.2.1 a.2.1))
theorem qh3:MdlOK Tryz.prog 186 ua:=ey Tryz.func186 rfl mf (.two .z (.s 1)) (sC qks s0)
def su:Shp:=⟨[],[.arr 48 (.fz true) [3] qT1]⟩
abbrev mb:Ctx (qL2):=⟨60,tt,false,false,[true],em [(186,ua)],ew [aw _ 60 [true] qg9 (C:=(Int×Int×Int)) (S:=(Int×qL2)) (fun x=>((x.1.2.2.1,x.1.2.2.2.1,x.1.2.2.2.2.1),(x.1.2.2.2.2.2.1,x.2.1))) qg8 (CE:=(Int×Int×Int)) (E:=qL2) (fun c e=>(((),(()),c.1,c.2.1,c.2.2,()),(e,()))) (fun c=>(c.1,c.2.1,c.2.2)) (fun{R} c a nx dn rt=>eo c.1 c.2.1 c.2.2 a.1 a.2 nx dn rt),aw _ 60 [true] qhb (C:=(Int×Int)) (S:=(Int×qL2)) (fun x=>((x.1.2.2.1,x.1.2.2.2.1),(x.1.2.2.2.2.1,x.2.1))) qha (CE:=Unit) (E:=qL2) (fun c e=>((()),(e,()))) (fun c=>()) (fun{R} c a nx dn rt=>df c.1 c.2 a.1 a.2 nx dn rt)],ca 60 tt [true] [] su (fun x=>x.2.1)⟩
theorem ma:CtxM Tryz.prog mb:=fa fits bt (mC qh3 m0)
theorem qj7:bj Tryz.prog mb 0 (lc 0 Tryz.f170 151):=lp rfl ma .z s0 (fun c a=>(((),(()),c.1,c.2.1,c.2.2,a.1,()),(a.2,()))) (fun y=>((y.1.2.2.1,y.1.2.2.2.1,y.1.2.2.2.2.1),y.2.1))
theorem qj8:bj Tryz.prog mb 1 (lc 2 Tryz.f170 159):=lp rfl ma (.two .z (.two (.one (.two (.d [0,0,0,0,0,24,0,0,0,384,960,1984,0,0,12288,28672,65475,131011,262143,524287] [17,19] []) .z)) .z)) s0 (fun c a=>(((),(()),c.1,c.2,a.1,()),(a.2,()))) (fun y=>((),y.2.1))
abbrev t4:Mdl:=(bn (.cons (.own 0) (.cons (.d false qT0) (.cons (.d false qT0) (.cons (.fn 109 .nil) .nil)))) [.arr 48 (.fz true) [3] qT1] [true] 0 su (B:=qL2) (fun b=>((()),(b,()))) (fun a=>fv a.1.2.1 a.1.2.2.1 a.2.1))
theorem qhc:MdlOK Tryz.prog 170 t4:=ey Tryz.func170 rfl ma (.two .z (.two .z (.two .z (.two (.two .z (.s 0)) (.two .z (.s 1)))))) (sC qj7 (sC qj8 s0))
def n7:Shp:=⟨[],[.arr 48 (.fz true) [3] qT1]⟩
abbrev oz:Ctx (qL2):=⟨67,tt,false,false,[true],em [(187,zt),(188,qaw)],ew [aw _ 67 [true] qb9 (C:=(Int×Int×Int)) (S:=(Int×qL2×Int)) (fun x=>((x.1.2.1,x.1.2.2.1,x.1.2.2.2.2.1),(x.1.2.2.2.2.2.1,x.2.1,x.2.2.1.1))) qb8 (CE:=Unit) (E:=qL2) (fun c e=>((()),(e,()))) (fun c=>()) (fun{R} c a nx dn rt=>dj c.1 c.2.1 c.2.2 a.1 a.2.1 a.2.2 nx dn rt)],ca 67 tt [true] [] n7 (fun x=>x.2.1)⟩
theorem ox:CtxM Tryz.prog oz:=fa fits bt (mC qe4 (mC qg4 m0))
theorem qda:bj Tryz.prog oz 0 (lc 0 Tryz.f171 315):=lp rfl ox (.two .z (.two (.one (.two .z (.two .z (.d [0,0,0,0,0,24,0,0,0,384,960,1984,0,0,12288,28672,65475,131011,262143,524287] [17,19] [])))) .z)) s0 (fun c a=>(((),c.1,c.2.1,(),c.2.2,a.1,()),(a.2.1,(a.2.2,()),()))) (fun y=>((),y.2.1))
abbrev oy:Mdl:=(bn (.cons (.own 0) (.cons (.d false qT0) (.cons (.d false qT0) (.cons (.fn 109 .nil) .nil)))) [.arr 48 (.fz true) [3] qT1] [true] 0 n7 (B:=qL2) (fun b=>((()),(b,()))) (fun a=>ec a.1.2.1 a.1.2.2.1 a.2.1))
theorem qca:MdlOK Tryz.prog 171 oy:=ey Tryz.func171 rfl ox (.two .z (.two .z (.two (.two .z (.two .z (.two .z (.s 0)))) .z))) (sC qda s0)
def wv:Shp:=⟨[(0, .d true qT0),(1, .d true qT0)],[.cs 3 1 1 (.cons (.d true qT0) .nil)]⟩
abbrev qpf:Ctx ((Int×Int×Int)):=⟨32,tt,false,false,[true],em [(109,jp)],ew [],ca 32 tt [true] [.tmp 10, .tmp 11] wv (fun x=>(x.1.1,x.1.2.1,x.2.1.1))⟩
theorem qpe:CtxM Tryz.prog qpf:=fa fits bt (mC jf m0)
abbrev y9:Mdl:=(bn (.cons (.d false qT2) (.cons (.d false qT0) (.cons (.d false qT0) (.cons (.ptr 0) (.cons (.fn 109 .nil) .nil))))) [.cs 3 1 1 (.cons (.d false qT0) .nil)] [true] 2 wv (B:=(Int×Int×Int)) (fun b=>((b.1,b.2.1,()),((b.2.2,()),()))) (fun a=>dx a.1.1 a.1.2.1 a.1.2.2.1 a.2.1.1))
theorem qlz:MdlOK Tryz.prog 192 y9:=ey Tryz.func192 rfl qpe (.two .z (.two (.two (.d [0,0,0,6,14,0,0,96,224,511,1023] [] []) .z) .z)) s0
def wq:Shp:=⟨[(0, .d true qT0)],[.cs 3 1 1 (.cons (.d true qT0) .nil)]⟩
abbrev qpb:Ctx ((Int×Int)):=⟨41,tt,false,false,[true],em [(192,y9)],ew [],ca 41 tt [true] [.tmp 12] wq (fun x=>(x.1.1,x.2.1.1))⟩
theorem qpa:CtxM Tryz.prog qpb:=fa fits bt (mC qlz m0)
abbrev nm:Mdl:=(bn (.cons (.d false qT2) (.cons (.d false qT0) (.cons (.d false qT0) (.cons (.d false qT0) (.cons (.ptr 0) (.cons (.fn 109 .nil) .nil)))))) [.cs 3 1 1 (.cons (.d false qT0) .nil)] [true] 1 wq (B:=(Int×Int)) (fun b=>((b.1,()),((b.2,()),()))) (fun a=>dv a.1.1 a.1.2.1 a.1.2.2.1 a.1.2.2.2.1 a.2.1.1))
theorem t6:MdlOK Tryz.prog 190 nm:=ey Tryz.func190 rfl qpa .z s0
def nj:Shp:=⟨[(0, .d true qT0)],[.cs 3 1 1 (.cons (.d true qT0) .nil)]⟩
abbrev qdk:Ctx ((Int×Int)):=⟨18,tt,false,false,[true],em [(190,nm)],ew [],ca 18 tt [true] [.tmp 8] nj (fun x=>(x.1.1,x.2.1.1))⟩
theorem qdj:CtxM Tryz.prog qdk:=fa fits bt (mC t6 m0)
abbrev od:Mdl:=(bn (.cons (.d false qT2) (.cons (.d false qT0) (.cons (.ptr 0) (.cons (.fn 109 .nil) .nil)))) [.cs 3 1 1 (.cons (.d false qT0) .nil)] [true] 1 nj (B:=(Int×Int)) (fun b=>((b.1,()),((b.2,()),()))) (fun a=>ct a.1.1 a.1.2.1 a.2.1.1))
theorem qbe:MdlOK Tryz.prog 189 od:=ey Tryz.func189 rfl qdj .z s0
def pn:Shp:=⟨[(0, .d true qT0),(1, .d true qT0)],[]⟩
abbrev qb:Ctx ((Int×Int)):=⟨63,tt,false,false,[],em [(189,od),(190,nm)],ew [ne _ 63 [] qd6 (A:=(Int×Int)) (fun x=>(x.1.2.1,x.2.1.1)) qd5 (CE:=Unit) (E:=Unit) (fun c e=>((()),(()))) (fun c=>()) (fun{R} c dn rt=>jg c.1 c.2 dn rt)],ca 63 tt [] [.tmp 8, .tmp 9] pn (fun x=>(x.1.1,x.1.2.1))⟩
theorem p9:CtxM Tryz.prog qb:=fa fits bt (mC qbe (mC t6 m0))
theorem qe2:bj Tryz.prog qb 0 (jc Tryz.f172 255):=jn rfl p9 .z s0 (fun c=>(((),c.1,()),((c.2,()),()))) (fun y=>((),()))
abbrev qa:Mdl:=(bn (.cons (.d false qT2) (.cons (.d false qT0) (.cons (.d false qT0) (.cons (.fn 109 .nil) .nil)))) [] [] 2 pn (B:=(Int×Int)) (fun b=>((b.1,b.2,()),(()))) (fun a=>de a.1.1 a.1.2.1 a.1.2.2.1))
theorem qd7:MdlOK Tryz.prog 172 qa:=ey Tryz.func172 rfl p9 (.two .z (.two .z (.two .z (.two .z (.two .z (.two .z (.two .z (.s 0)))))))) (sC qe2 s0)
def pb:Shp:=⟨[],[.arr 48 (.fz true) [3] qT1]⟩
abbrev pt:Ctx (qL2):=⟨34,tt,false,false,[true],em [],ew [aw _ 34 [true] qdo (C:=Unit) (S:=(Int×Int×qL2)) (fun x=>((),(x.1.2.1,x.1.2.2.1,x.2.1))) qdn (CE:=Unit) (E:=qL2) (fun c e=>((()),(e,()))) (fun c=>()) (fun{R} c a nx dn rt=>fp a.1 a.2.1 a.2.2 nx dn rt)],ca 34 tt [true] [] pb (fun x=>x.2.1)⟩
theorem pq:CtxM Tryz.prog pt:=fa fits bt m0
theorem qeb:bj Tryz.prog pt 0 (lc 0 Tryz.f173 19):=lp rfl pq (.two .z (.one (.two (.d [0,0,0,0,0,0,48,112,0,0,768,1792,4083,8179,16383,32767] [13,15] []) .z))) s0 (fun c a=>(((),a.1,a.2.1,()),(a.2.2,()))) (fun y=>((),y.2.1))
abbrev pr:Mdl:=(bn (.cons (.own 0) (.cons (.d false qT0) (.cons (.d false qT0) (.cons (.fn 109 .nil) .nil)))) [.arr 48 (.fz true) [3] qT1] [true] 0 pb (B:=qL2) (fun b=>((()),(b,()))) (fun a=>da a.1.2.1 a.1.2.2.1 a.2.1))
theorem qdp:MdlOK Tryz.prog 173 pr:=ey Tryz.func173 rfl pq (.two .z (.two .z (.s 0))) (sC qeb s0)
def km:Shp:=⟨[(0, .d true .bool)],[.arr 48 (.fz true) [3] qT1]⟩
abbrev cm:Ctx ((Bool×qL2)):=⟨141,tt,false,false,[true],em [(109,jp)],ew [aw _ 141 [true] ug (C:=(Int×Int×Int×qL2)) (S:=Int) (fun x=>((x.1.2.1,x.1.2.2.1,x.1.2.2.2.2.2.1,x.2.1),x.1.2.2.2.2.1)) uf (CE:=(Int×Int×Int×qL2)) (E:=Int) (fun c e=>(((),c.1,c.2.1,(()),e,c.2.2.1,()),(c.2.2.2,()))) (fun c=>(c.1,c.2.1,c.2.2.1,c.2.2.2)) (fun{R} c a nx dn rt=>cw c.1 c.2.1 c.2.2.1 c.2.2.2 a nx dn rt),aw _ 141 [true] ui (C:=(Int×Int×Int×Int)) (S:=(Int×qL2)) (fun x=>((x.1.2.1,x.1.2.2.1,x.1.2.2.2.2.1,x.1.2.2.2.2.2.1),(x.1.2.2.2.2.2.2.1,x.2.1))) uh (CE:=(Int×Int×Int×Int)) (E:=qL2) (fun c e=>(((),c.1,c.2.1,(()),c.2.2.1,c.2.2.2,()),(e,()))) (fun c=>(c.1,c.2.1,c.2.2.1,c.2.2.2)) (fun{R} c a nx dn rt=>cx c.1 c.2.1 c.2.2.1 c.2.2.2 a.1 a.2 nx dn rt),aw _ 141 [true] uk (C:=(Int×Int×Int×Int)) (S:=(Int×qL2)) (fun x=>((x.1.2.1,x.1.2.2.1,x.1.2.2.2.2.1,x.1.2.2.2.2.2.1),(x.1.2.2.2.2.2.2.1,x.2.1))) uj (CE:=(Int×Int×Int×Int)) (E:=qL2) (fun c e=>(((),c.1,c.2.1,(()),c.2.2.1,c.2.2.2,()),(e,()))) (fun c=>(c.1,c.2.1,c.2.2.1,c.2.2.2)) (fun{R} c a nx dn rt=>cz c.1 c.2.1 c.2.2.1 c.2.2.2 a.1 a.2 nx dn rt),ne _ 141 [true] uq (A:=(Int×Int×Int×Int×qL2)) (fun x=>(x.1.2.1,x.1.2.2.1,x.1.2.2.2.2.1,x.1.2.2.2.2.2.1,x.2.1)) uo (CE:=(Int×Int×Int×Int)) (E:=qL2) (fun c e=>(((),c.1,c.2.1,(()),c.2.2.1,c.2.2.2,()),(e,()))) (fun c=>(c.1,c.2.1,c.2.2.1,c.2.2.2.1)) (fun{R} c dn rt=>dk c.1 c.2.1 c.2.2.1 c.2.2.2.1 c.2.2.2.2 dn rt),aw _ 141 [true] um (C:=(Int×Int)) (S:=(Int×Int×qL2)) (fun x=>((x.1.2.1,x.1.2.2.1),(x.1.2.2.2.2.1,x.1.2.2.2.2.2.1,x.2.1))) ul (CE:=Unit) (E:=qL2) (fun c e=>((()),(e,()))) (fun c=>()) (fun{R} c a nx dn rt=>cd c.1 c.2 a.1 a.2.1 a.2.2 nx dn rt)],ca 141 tt [true] [.tmp 8] km (fun x=>(x.1.1,x.2.1))⟩
theorem cl:CtxM Tryz.prog cm:=fa fits bt (mC jf m0)
theorem wz:bj Tryz.prog cm 1 (lc 4 Tryz.f174 613963):=lp rfl cl (.two .z (.two (.one (.two (.two (.d [0,0,0,6,14,0,0,64,224,480,1023,2047,4095] [] []) .z) (.d [0,0,0,0,8,0,0,64,224,480,0,0,3072,7168,16355,32739,65535,131071] [15,17] []))) .z)) s0 (fun c a=>(((),c.1,c.2.1,(()),c.2.2.1,c.2.2.2,a.1,()),(a.2,()))) (fun y=>((y.1.2.1,y.1.2.2.1,y.1.2.2.2.2.1,y.1.2.2.2.2.2.1),y.2.1))
theorem w9:bj Tryz.prog cm 2 (lc 6 Tryz.f174 622155):=lp rfl cl (.two .z (.two (.one (.two (.two (.d [0,0,0,6,14,0,0,64,224,480,1023,2047,4095] [] []) .z) (.d [0,0,0,0,8,0,0,64,224,480,0,0,3072,7168,16355,32739,65535,131071] [15,17] []))) .z)) s0 (fun c a=>(((),c.1,c.2.1,(()),c.2.2.1,c.2.2.2,a.1,()),(a.2,()))) (fun y=>((y.1.2.1,y.1.2.2.1,y.1.2.2.2.2.1,y.1.2.2.2.2.2.1),y.2.1))
theorem xa:bj Tryz.prog cm 3 (jc Tryz.f174 32331):=jn rfl cl (.two .z (.two (.two .z (.s 2)) .z)) (sC w9 s0) (fun c=>(((),c.1,c.2.1,(()),c.2.2.1,c.2.2.2.1,()),(c.2.2.2.2,()))) (fun y=>((y.1.2.1,y.1.2.2.1,y.1.2.2.2.2.1,y.1.2.2.2.2.2.1),y.2.1))
theorem wy:bj Tryz.prog cm 0 (lc 2 Tryz.f174 4171):=lp rfl cl (.two (.two (.d [0,0,3,7,15,15,15,111,239,15,15,1039,3599,7695,16383,32767,65535,131071] [] []) .z) .z) s0 (fun c a=>(((),c.1,c.2.1,(()),a,c.2.2.1,()),(c.2.2.2,()))) (fun y=>((y.1.2.1,y.1.2.2.1,y.1.2.2.2.2.2.1,y.2.1),y.1.2.2.2.2.1))
theorem xc:bj Tryz.prog cm 4 (lc 0 Tryz.f174 75):=lp rfl cl (.two .z (.two (.one (.two (.s 0) (.two .z (.two .z (.two (.d [0,0,0,0,8,0,0,64,224,480,0,0,3072,7168,16355,32739,65535,131071] [15,17] []) (.two (.two .z (.two (.two .z (.s 1)) .z)) (.s 3))))))) .z)) (sC wy (sC wz (sC xa s0))) (fun c a=>(((),c.1,c.2,(()),a.1,a.2.1,()),(a.2.2,()))) (fun y=>((),y.2.1))
abbrev ld:Mdl:=(bn (.cons (.own 0) (.cons (.d false qT0) (.cons (.d false qT0) (.cons (.fn 109 .nil) .nil)))) [.arr 48 (.fz true) [3] qT1] [true] 1 km (B:=(Bool×qL2)) (fun b=>((b.1,()),(b.2,()))) (fun a=>ea a.1.2.1 a.1.2.2.1 a.2.1))
theorem ur:MdlOK Tryz.prog 174 ld:=ey Tryz.func174 rfl cl (.two .z (.two .z (.two (.two .z (.s 4)) .z))) (sC xc s0)
def nr:Shp:=⟨[(0, .d true qT0)],[.arr 48 (.fz true) [3] qT1]⟩
abbrev fk:Ctx ((Int×qL2)):=⟨90,tt,false,false,[true],em [(109,jp)],ew [aw _ 90 [true] qbh (C:=(Int×Int×qL2)) (S:=Int) (fun x=>((x.1.2.1,x.1.2.2.2.2.1,x.2.1),x.1.2.2.2.1)) qbg (CE:=(Int×Int×qL2)) (E:=Int) (fun c e=>(((),c.1,(()),e,c.2.1,()),(c.2.2,()))) (fun c=>(c.1,c.2.1,c.2.2)) (fun{R} c a nx dn rt=>ep c.1 c.2.1 c.2.2 a nx dn rt),aw _ 90 [true] qbj (C:=(Int×Int×qL2)) (S:=Int) (fun x=>((x.1.2.1,x.1.2.2.2.1,x.2.1),x.1.2.2.2.2.1)) qbi (CE:=(Int×Int×qL2)) (E:=Int) (fun c e=>(((),c.1,(()),c.2.1,e,()),(c.2.2,()))) (fun c=>(c.1,c.2.1,c.2.2)) (fun{R} c a nx dn rt=>eq c.1 c.2.1 c.2.2 a nx dn rt),aw _ 90 [true] qbl (C:=Int) (S:=(Int×Int×qL2)) (fun x=>(x.1.2.1,(x.1.2.2.2.1,x.1.2.2.2.2.1,x.2.1))) qbk (CE:=Unit) (E:=(Int×qL2)) (fun c e=>((e.1,()),(e.2,()))) (fun c=>()) (fun{R} c a nx dn rt=>er c a.1 a.2.1 a.2.2 nx dn rt)],ca 90 tt [true] [.tmp 10] nr (fun x=>(x.1.1,x.2.1))⟩
theorem fj:CtxM Tryz.prog fk:=fa fits bt (mC jf m0)
theorem qcp:bj Tryz.prog fk 1 (lc 4 Tryz.f175 2183):=lp rfl fj (.two (.two (.d [0,0,3,7,15,15,15,111,239,15,15,1551,3599,8191,16383,32767] [] []) .z) .z) s0 (fun c a=>(((),c.1,(()),c.2.1,a,()),(c.2.2,()))) (fun y=>((y.1.2.1,y.1.2.2.2.1,y.2.1),y.1.2.2.2.2.1))
theorem qco:bj Tryz.prog fk 0 (lc 2 Tryz.f175 1031):=lp rfl fj (.two (.two (.d [0,0,3,7,15,15,15,111,239,15,15,1551,3599,8191,16383,32767,65535] [] []) .z) .z) s0 (fun c a=>(((),c.1,(()),a,c.2.1,()),(c.2.2,()))) (fun y=>((y.1.2.1,y.1.2.2.2.2.1,y.2.1),y.1.2.2.2.1))
theorem qcq:bj Tryz.prog fk 2 (lc 0 Tryz.f175 71):=lp rfl fj (.one (.two (.s 0) (.two (.s 1) (.two .z (.two (.d [0,0,0,0,0,0,48,112,0,0,768,1792,4083,8179,16383,32767] [13,15] []) .z))))) (sC qco (sC qcp s0)) (fun c a=>(((),c,(()),a.1,a.2.1,()),(a.2.2,()))) (fun y=>((),(y.1.1,y.2.1)))
abbrev oh:Mdl:=(bn (.cons (.own 0) (.cons (.d false qT0) (.cons (.d false qT0) (.cons (.d false qT0) (.cons (.fn 109 .nil) .nil))))) [.arr 48 (.fz true) [3] qT1] [true] 1 nr (B:=(Int×qL2)) (fun b=>((b.1,()),(b.2,()))) (fun a=>br a.1.2.1 a.1.2.2.1 a.1.2.2.2.1 a.2.1))
theorem qbm:MdlOK Tryz.prog 175 oh:=ey Tryz.func175 rfl fj (.two .z (.two (.d [0,0,0,0,0,0,48,112,0,0,768,1792,4083,8179,16383,32767] [13,15] []) (.two .z (.two (.s 2) .z)))) (sC qcq s0)
def rb:Shp:=⟨[(0, .d true qT0),(1, .d true .bool)],[.arr 48 (.fz true) [3] qT1]⟩
abbrev dq:Ctx ((Int×Bool×qL2)):=⟨178,tt,false,false,[true],em [(109,jp)],ew [aw _ 178 [true] qfy (C:=(Int×Int×qL2)) (S:=Int) (fun x=>((x.1.2.1,x.1.2.2.2.2.1,x.2.1),x.1.2.2.2.1)) qfx (CE:=(Int×Int×qL2)) (E:=Int) (fun c e=>(((),c.1,(()),e,c.2.1,()),(c.2.2,()))) (fun c=>(c.1,c.2.1,c.2.2)) (fun{R} c a nx dn rt=>gb c.1 c.2.1 c.2.2 a nx dn rt),aw _ 178 [true] qf0 (C:=(Int×Int×qL2)) (S:=Int) (fun x=>((x.1.2.1,x.1.2.2.2.1,x.2.1),x.1.2.2.2.2.1)) qfz (CE:=(Int×Int×qL2)) (E:=Int) (fun c e=>(((),c.1,(()),c.2.1,e,()),(c.2.2,()))) (fun c=>(c.1,c.2.1,c.2.2)) (fun{R} c a nx dn rt=>gc c.1 c.2.1 c.2.2 a nx dn rt),aw _ 178 [true] qf2 (C:=(Int×Int×qL2)) (S:=Int) (fun x=>((x.1.2.1,x.1.2.2.2.2.1,x.2.1),x.1.2.2.2.1)) qf1 (CE:=(Int×Int×qL2)) (E:=Int) (fun c e=>(((),c.1,(()),e,c.2.1,()),(c.2.2,()))) (fun c=>(c.1,c.2.1,c.2.2)) (fun{R} c a nx dn rt=>ge c.1 c.2.1 c.2.2 a nx dn rt),aw _ 178 [true] qf4 (C:=(Int×Int×qL2)) (S:=Int) (fun x=>((x.1.2.1,x.1.2.2.2.1,x.2.1),x.1.2.2.2.2.1)) qf3 (CE:=(Int×Int×qL2)) (E:=Int) (fun c e=>(((),c.1,(()),c.2.1,e,()),(c.2.2,()))) (fun c=>(c.1,c.2.1,c.2.2)) (fun{R} c a nx dn rt=>gf c.1 c.2.1 c.2.2 a nx dn rt),aw _ 178 [true] qf6 (C:=Int) (S:=(Int×Int×qL2)) (fun x=>(x.1.2.1,(x.1.2.2.2.1,x.1.2.2.2.2.1,x.2.1))) qf5 (CE:=Int) (E:=(Int×qL2)) (fun c e=>(((),c,e.1,()),(e.2,()))) (fun c=>c) (fun{R} c a nx dn rt=>gg c a.1 a.2.1 a.2.2 nx dn rt)],ca 178 tt [true] [.tmp 10, .tmp 11] rb (fun x=>(x.1.1,x.1.2.1,x.2.1))⟩
theorem dp:CtxM Tryz.prog dq:=fa fits bt (mC jf m0)
theorem qhl:bj Tryz.prog dq 3 (lc 8 Tryz.f176 139775):=lp rfl dp (.two (.two (.d [0,0,3,7,15,15,15,111,239,15,15,1551,3599,8191,16383,32767,65535] [] []) .z) .z) s0 (fun c a=>(((),c.1,(()),c.2.1,a,()),(c.2.2,()))) (fun y=>((y.1.2.1,y.1.2.2.2.1,y.2.1),y.1.2.2.2.2.1))
theorem qhk:bj Tryz.prog dq 2 (lc 6 Tryz.f176 66047):=lp rfl dp (.two (.two (.d [0,0,3,7,15,15,15,111,239,15,15,1551,3599,8191,16383,32767] [] []) .z) .z) s0 (fun c a=>(((),c.1,(()),a,c.2.1,()),(c.2.2,()))) (fun y=>((y.1.2.1,y.1.2.2.2.2.1,y.2.1),y.1.2.2.2.1))
theorem qhm:bj Tryz.prog dq 4 (lc 4 Tryz.f176 4607):=lp rfl dp (.one (.two (.s 2) (.two (.s 3) (.two .z (.two (.d [0,0,0,0,0,0,48,112,0,0,768,1792,4083,8179,16383,32767] [13,15] []) .z))))) (sC qhk (sC qhl s0)) (fun c a=>(((),c,(()),a.1,a.2.1,()),(a.2.2,()))) (fun y=>(y.1.2.1,(y.1.2.2.1,y.2.1)))
theorem qhj:bj Tryz.prog dq 1 (lc 2 Tryz.f176 143):=lp rfl dp (.two (.two (.d [0,0,3,7,15,15,15,111,239,15,15,1551,3599,8191,16383,32767,65535] [] []) .z) .z) s0 (fun c a=>(((),c.1,(()),c.2.1,a,()),(c.2.2,()))) (fun y=>((y.1.2.1,y.1.2.2.2.1,y.2.1),y.1.2.2.2.2.1))
theorem qhi:bj Tryz.prog dq 0 (lc 0 Tryz.f176 71):=lp rfl dp (.two (.two (.d [0,0,3,7,15,15,15,111,239,15,15,1551,3599,8191,16383,32767] [] []) .z) .z) s0 (fun c a=>(((),c.1,(()),a,c.2.1,()),(c.2.2,()))) (fun y=>((y.1.2.1,y.1.2.2.2.2.1,y.2.1),y.1.2.2.2.1))
abbrev sx:Mdl:=(bn (.cons (.own 0) (.cons (.d false qT0) (.cons (.d false qT0) (.cons (.d false qT0) (.cons (.fn 109 .nil) .nil))))) [.arr 48 (.fz true) [3] qT1] [true] 2 rb (B:=(Int×Bool×qL2)) (fun b=>((b.1,b.2.1,()),(b.2.2,()))) (fun a=>iq a.1.2.1 a.1.2.2.1 a.1.2.2.2.1 a.2.1))
theorem qf7:MdlOK Tryz.prog 176 sx:=ey Tryz.func176 rfl dp (.two .z (.two (.d [0,0,0,0,0,0,48,112,0,0,768,1792,4083,8179,16383,32767] [13,15] []) (.two .z (.two (.s 0) (.two (.s 1) (.two (.two .z (.two (.two (.d [0,0,0,0,0,0,48,112,0,0,768,1792,4083,8179,16383,32767] [13,15] []) .z) .z)) (.two (.d [0,0,0,0,0,0,48,112,0,0,768,1792,4083,8179,16383,32767] [13,15] []) (.two .z (.two .z (.two (.s 4) (.two (.d [0,0,0,0,0,0,48,112,0,0,768,1792,4083,8179,16383,32767] [13,15] []) .z))))))))))) (sC qhi (sC qhj (sC qhm s0)))
def cg:Shp:=⟨[],[.arr 48 (.fz true) [3] qT1]⟩
abbrev i7(rec:((Unit×Int×Int×Int×(Unit)×Unit)×(qL2×Unit))→Option qL2):Ctx (qL2):=⟨148,tt,false,false,[true],em [(169,o7),(170,t4),(171,oy),(172,qa),(173,pr),(174,ld),(109,jp),(175,oh),(176,sx),(147,(bn (.cons (.own 0) (.cons (.d false qT0) (.cons (.d false qT0) (.cons (.d false qT0) (.cons (.fn 109 .nil) .nil))))) [.arr 48 (.fz true) [3] qT1] [true] 0 cg (B:=qL2) (fun b=>((()),(b,()))) rec))],ew [ne _ 148 [true] qkg (A:=(Int×Int×Int×Bool×Bool×Int×Int×Bool×qL2)) (fun x=>(x.1.2.1,x.1.2.2.1,x.1.2.2.2.1,x.1.2.2.2.2.2.1,x.1.2.2.2.2.2.2.1,x.1.2.2.2.2.2.2.2.1,x.1.2.2.2.2.2.2.2.2.1,x.1.2.2.2.2.2.2.2.2.2.1,x.2.1)) qkf (CE:=(Int×Int×Int×Bool×Bool×Int×Int)) (E:=qL2) (fun c e=>(((),c.1,c.2.1,c.2.2.1,(()),c.2.2.2.1,c.2.2.2.2.1,c.2.2.2.2.2.1,c.2.2.2.2.2.2,()),(e,()))) (fun c=>(c.1,c.2.1,c.2.2.1,c.2.2.2.1,c.2.2.2.2.1,c.2.2.2.2.2.1,c.2.2.2.2.2.2.1)) (fun{R} c dn rt=>lm rec c.1 c.2.1 c.2.2.1 c.2.2.2.1 c.2.2.2.2.1 c.2.2.2.2.2.1 c.2.2.2.2.2.2.1 c.2.2.2.2.2.2.2.1 c.2.2.2.2.2.2.2.2 dn rt),ne _ 148 [true] qki (A:=(Int×Int×Int×Int×Int×qL2)) (fun x=>(x.1.2.1,x.1.2.2.1,x.1.2.2.2.1,x.1.2.2.2.2.2.1,x.1.2.2.2.2.2.2.1,x.2.1)) qkh (CE:=Int) (E:=(Int×Int×Bool×Bool×qL2)) (fun c e=>(((),e.1,e.2.1,c,(()),e.2.2.1,e.2.2.2.1,()),(e.2.2.2.2,()))) (fun c=>c.2.2.1) (fun{R} c dn rt=>gu rec c.1 c.2.1 c.2.2.1 c.2.2.2.1 c.2.2.2.2.1 c.2.2.2.2.2 dn rt),aw _ 148 [true] qke (C:=Unit) (S:=(Int×Int×Int×Bool×Bool×qL2)) (fun x=>((),(x.1.2.1,x.1.2.2.1,x.1.2.2.2.1,x.1.2.2.2.2.2.1,x.1.2.2.2.2.2.2.1,x.2.1))) qkd (CE:=Unit) (E:=Unit) (fun c e=>((()),(()))) (fun c=>()) (fun{R} c a nx dn rt=>gq rec a.1 a.2.1 a.2.2.1 a.2.2.2.1 a.2.2.2.2.1 a.2.2.2.2.2 nx dn rt)],ca 148 tt [true] [] cg (fun x=>x.2.1)⟩
theorem i6(rec:((Unit×Int×Int×Int×(Unit)×Unit)×(qL2×Unit))→Option qL2)(hrec:MdlOK Tryz.prog 147 (bn (.cons (.own 0) (.cons (.d false qT0) (.cons (.d false qT0) (.cons (.d false qT0) (.cons (.fn 109 .nil) .nil))))) [.arr 48 (.fz true) [3] qT1] [true] 0 cg (B:=qL2) (fun b=>((()),(b,()))) rec)):CtxM Tryz.prog (i7 rec):=fa fits bt (mC qci (mC qhc (mC qca (mC qd7 (mC qdp (mC ur (mC jf (mC qbm (mC qf7 (mC hrec m0))))))))))
theorem ql1(rec:((Unit×Int×Int×Int×(Unit)×Unit)×(qL2×Unit))→Option qL2)(hrec:MdlOK Tryz.prog 147 (bn (.cons (.own 0) (.cons (.d false qT0) (.cons (.d false qT0) (.cons (.d false qT0) (.cons (.fn 109 .nil) .nil))))) [.arr 48 (.fz true) [3] qT1] [true] 0 cg (B:=qL2) (fun b=>((()),(b,()))) rec)):bj Tryz.prog (i7 rec) 0 (jc Tryz.f147 14307):=jn rfl (i6 rec hrec) .z s0 (fun c=>(((),c.1,c.2.1,c.2.2.1,(()),c.2.2.2.1,c.2.2.2.2.1,c.2.2.2.2.2.1,c.2.2.2.2.2.2.1,c.2.2.2.2.2.2.2.1,()),(c.2.2.2.2.2.2.2.2,()))) (fun y=>((y.1.2.1,y.1.2.2.1,y.1.2.2.2.1,y.1.2.2.2.2.2.1,y.1.2.2.2.2.2.2.1,y.1.2.2.2.2.2.2.2.1,y.1.2.2.2.2.2.2.2.2.1),y.2.1))
theorem ql2(rec:((Unit×Int×Int×Int×(Unit)×Unit)×(qL2×Unit))→Option qL2)(hrec:MdlOK Tryz.prog 147 (bn (.cons (.own 0) (.cons (.d false qT0) (.cons (.d false qT0) (.cons (.d false qT0) (.cons (.fn 109 .nil) .nil))))) [.arr 48 (.fz true) [3] qT1] [true] 0 cg (B:=qL2) (fun b=>((()),(b,()))) rec)):bj Tryz.prog (i7 rec) 1 (jc Tryz.f147 16355):=jn rfl (i6 rec hrec) .z s0 (fun c=>(((),c.1,c.2.1,c.2.2.1,(()),c.2.2.2.1,c.2.2.2.2.1,()),(c.2.2.2.2.2,()))) (fun y=>(y.1.2.2.2.1,(y.1.2.1,y.1.2.2.1,y.1.2.2.2.2.2.1,y.1.2.2.2.2.2.2.1,y.2.1)))
theorem ql3(rec:((Unit×Int×Int×Int×(Unit)×Unit)×(qL2×Unit))→Option qL2)(hrec:MdlOK Tryz.prog 147 (bn (.cons (.own 0) (.cons (.d false qT0) (.cons (.d false qT0) (.cons (.d false qT0) (.cons (.fn 109 .nil) .nil))))) [.arr 48 (.fz true) [3] qT1] [true] 0 cg (B:=qL2) (fun b=>((()),(b,()))) rec)):bj Tryz.prog (i7 rec) 2 (lc 0 Tryz.f147 19):=lp rfl (i6 rec hrec) (.one (.two .z (.two .z (.two .z (.two .z (.two .z (.two .z (.two (.two .z (.s 0)) (.two (.two (.d [0,1,3,7,7,7,39,119,247,7,7,1543,3591,8191,16383,32767,65535] [] []) .z) (.s 1)))))))))) (sC (ql1 rec hrec) (sC (ql2 rec hrec) s0)) (fun c a=>(((),a.1,a.2.1,a.2.2.1,(()),a.2.2.2.1,a.2.2.2.2.1,()),(a.2.2.2.2.2,()))) (fun y=>((),()))
abbrev xn:Mdl:=(bn (.cons (.own 0) (.cons (.d false qT0) (.cons (.d false qT0) (.cons (.d false qT0) (.cons (.fn 109 .nil) .nil))))) [.arr 48 (.fz true) [3] qT1] [true] 0 cg (B:=qL2) (fun b=>((()),(b,()))) (fun(a:((Unit×Int×Int×Int×(Unit)×Unit)×(qL2×Unit)))=>xo a))
theorem qhx(rec:((Unit×Int×Int×Int×(Unit)×Unit)×(qL2×Unit))→Option qL2)(hrec:MdlOK Tryz.prog 147 (bn (.cons (.own 0) (.cons (.d false qT0) (.cons (.d false qT0) (.cons (.d false qT0) (.cons (.fn 109 .nil) .nil))))) [.arr 48 (.fz true) [3] qT1] [true] 0 cg (B:=qL2) (fun b=>((()),(b,()))) rec)):MdlOK Tryz.prog 147 (bn (.cons (.own 0) (.cons (.d false qT0) (.cons (.d false qT0) (.cons (.d false qT0) (.cons (.fn 109 .nil) .nil))))) [.arr 48 (.fz true) [3] qT1] [true] 0 cg (B:=qL2) (fun b=>((()),(b,()))) ((fun(rec:((Unit×Int×Int×Int×(Unit)×Unit)×(qL2×Unit))→Option qL2) (a:((Unit×Int×Int×Int×(Unit)×Unit)×(qL2×Unit)))=>ek rec a.1.2.1 a.1.2.2.1 a.1.2.2.2.1 a.2.1) rec)):=ey Tryz.func147 rfl (i6 rec hrec) (.two .z (.two .z (.s 2))) (sC (ql3 rec hrec) s0)
theorem qkj:MdlOK Tryz.prog 147 xn:=j0f (c:=jbe Tryz.f147) (l:=(.cons (.own 0) (.cons (.d false qT0) (.cons (.d false qT0) (.cons (.d false qT0) (.cons (.fn 109 .nil) .nil)))))) (objs:=[.arr 48 (.fz true) [3] qT1]) (kp:=[true]) (k:=0) (sh:=cg) (mk:=(fun b=>((()),(b,())))) (F:=(fun(rec:((Unit×Int×Int×Int×(Unit)×Unit)×(qL2×Unit))→Option qL2) (a:((Unit×Int×Int×Int×(Unit)×Unit)×(qL2×Unit)))=>ek rec a.1.2.1 a.1.2.2.1 a.1.2.2.2.1 a.2.1)) Tryz.func147 (by rfl) (by kernel_rfl) (by kernel_rfl) qhx
def y7:Shp:=⟨[],[.arr 48 (.fz true) [3] qT1]⟩
abbrev qp1:Ctx (qL2):=⟨14,tt,false,false,[true],em [(148,q4f),(147,xn)],ew [],ca 14 tt [true] [] y7 (fun x=>x.2.1)⟩
theorem qp0:CtxM Tryz.prog qp1:=fa fits bt (mC q1f (mC qkj m0))
abbrev qap:Mdl:=(bn (.cons (.own 0) (.cons (.fn 109 .nil) .nil)) [.arr 48 (.fz true) [3] qT1] [true] 0 y7 (B:=qL2) (fun b=>((()),(b,()))) (fun a=>ky a.2.1))
theorem qnu:MdlOK Tryz.prog 108 qap:=ey Tryz.func108 rfl qp0 .z s0
def qwg:Shp:=⟨[(0, .nl false (.own 0)),(1, .d true qT0)],[.arr 48 (.fz true) [3] qT1]⟩
abbrev qpx:Ctx ((Int×qL2)):=⟨47,tt,false,false,[],em [(41,jw),(107,q0f),(108,qap)],ew [aw _ 47 [] jak (C:=(Int×qL1×Int×Int×Int×Int×(List ab)×Int×Int×qL2)) (S:=(Int×qL1)) (fun x=>((x.1.2.2.1,x.1.2.2.2.2.1,x.1.2.2.2.2.2.1,x.1.2.2.2.2.2.2.1,x.1.2.2.2.2.2.2.2.1,x.2.1.1,x.2.1.2.1,x.2.1.2.2.1,x.2.1.2.2.2.1,x.2.2.1),(x.1.2.2.2.2.2.2.2.2.1,x.2.2.2.1))) jaj (CE:=(qL1×Int×Int×Int×(List ab)×Int×Int×qL2)) (E:=qL1) (fun c e=>(((),(),(),c.1,c.2.1,c.2.2.1,()),((c.2.2.2.1,c.2.2.2.2.1,c.2.2.2.2.2.1,c.2.2.2.2.2.2.1,()),c.2.2.2.2.2.2.2,e,()))) (fun c=>(c.2.1,c.2.2.1,c.2.2.2.1,c.2.2.2.2.2.1,c.2.2.2.2.2.2.1,c.2.2.2.2.2.2.2.1,c.2.2.2.2.2.2.2.2.1,c.2.2.2.2.2.2.2.2.2)) (fun{R} c a nx dn rt=>rz c.1 c.2.1 c.2.2.1 c.2.2.2.1 c.2.2.2.2.1 c.2.2.2.2.2.1 c.2.2.2.2.2.2.1 c.2.2.2.2.2.2.2.1 c.2.2.2.2.2.2.2.2.1 c.2.2.2.2.2.2.2.2.2 a.1 a.2 nx dn rt),aw _ 47 [] jam (C:=(qL1×Int×Int×(List ab)×Int×Int)) (S:=(Int×qL2)) (fun x=>((x.1.2.2.1,x.1.2.2.2.1,x.2.1.1,x.2.1.2.1,x.2.1.2.2.1,x.2.1.2.2.2.1),(x.1.2.2.2.2.1,x.2.2.1))) jal (CE:=Unit) (E:=qL2) (fun c e=>(((),()),(e,()))) (fun c=>()) (fun{R} c a nx dn rt=>qa7 c.1 c.2.1 c.2.2.1 c.2.2.2.1 c.2.2.2.2.1 c.2.2.2.2.2 a.1 a.2 nx dn rt)],ca 47 tt [] [.tmp 2, .tmp 3] qwg (fun x=>(x.1.2.1,x.2.1))⟩
theorem qpv:CtxM Tryz.prog qpx:=fa fits bt (mC ir (mC ja0 (mC qnu m0)))
theorem jeb:bj Tryz.prog qpx 0 (lc 3 Tryz.f64 154007):=lp rfl qpv .z s0 (fun c a=>(((),(),c.1,(),c.2.1,c.2.2.1,c.2.2.2.1,c.2.2.2.2.1,a.1,()),((c.2.2.2.2.2.1,c.2.2.2.2.2.2.1,c.2.2.2.2.2.2.2.1,c.2.2.2.2.2.2.2.2.1,()),c.2.2.2.2.2.2.2.2.2,a.2,()))) (fun y=>((y.1.2.2.2.1,y.1.2.2.2.2.1,y.1.2.2.2.2.2.1,y.2.1.1,y.2.1.2.1,y.2.1.2.2.1,y.2.1.2.2.2.1,y.2.2.1),y.2.2.2.1))
theorem jec:bj Tryz.prog qpx 1 (lc 1 Tryz.f64 151):=lp rfl qpv (.two .z (.two .z (.two (.one (.two .z (.two .z (.two (.two .z (.s 0)) .z)))) .z))) (sC jeb s0) (fun c a=>(((),(),c.1,c.2.1,a.1,()),((c.2.2.1,c.2.2.2.1,c.2.2.2.2.1,c.2.2.2.2.2,()),a.2,()))) (fun y=>((),y.2.1))
abbrev qpw:Mdl:=(bn (.cons (.d false ff.ty) .nil) [] [] 2 qwg (B:=(Int×qL2)) (fun b=>(((),b.1,()),(b.2,()))) (fun a=>qb5 a.1.1))
theorem qtf:MdlOK Tryz.prog 64 qpw:=ey Tryz.func64 rfl qpv (.two .z (.two .z (.two .z (.two (.two .z (.s 1)) .z)))) (sC jec s0)
def qol:Shp:=⟨[(0, .d true .bool)],[]⟩
abbrev q4w:Ctx (Bool):=⟨9,tt,false,false,[],em [(35,db)],ew [],ca 9 tt [] [.tmp 3] qol (fun x=>x.1.1)⟩
theorem q4v:CtxM Tryz.prog q4w:=fa fits bt (mC di m0)
abbrev qqc:Mdl:=(bn (.cons (.d false qT1) (.cons (.rp false ff.ty) .nil)) [] [] 1 qol (B:=Bool) (fun b=>((b,()),(()))) (fun a=>qrg a.1.1 a.1.2.1))
theorem q0q:MdlOK Tryz.prog 66 qqc:=ey Tryz.func66 rfl q4v .z s0
def y0:Shp:=⟨[(0, .d true qT0)],[]⟩
abbrev qai:Ctx (Int):=⟨19,tt,false,false,[],em [(66,qqc)],ew [aw _ 19 [] qnm (C:=(qL2×ff×Int)) (S:=Int) (fun x=>((x.1.1,x.1.2.1.1,x.1.2.2.1),x.1.2.2.2.1)) qnl (CE:=Unit) (E:=Unit) (fun c e=>((()),(()))) (fun c=>()) (fun{R} c a nx dn rt=>wm c.1 c.2.1 c.2.2 a nx dn rt)],ca 19 tt [] [.tmp 4] y0 (fun x=>x.1.1)⟩
theorem qag:CtxM Tryz.prog qai:=fa fits bt (mC q0q m0)
theorem qo6:bj Tryz.prog qai 0 (lc 0 Tryz.f111 37):=lp rfl qag .z s0 (fun c a=>((c.1,(c.2.1,()),c.2.2,a,()),(()))) (fun y=>((),()))
abbrev qah:Mdl:=(bn (.cons (.d false qT2) (.cons (.fn 66 (.cons (.rp false ff.ty) .nil)) .nil)) [] [] 1 y0 (B:=Int) (fun b=>((b,()),(()))) (fun a=>qbb a.1.1 a.1.2.1.1))
theorem qnn:MdlOK Tryz.prog 111 qah:=ey Tryz.func111 rfl qag (.two .z (.two (.two .z (.s 0)) .z)) (sC qo6 s0)
def sq:Shp:=⟨[(0, .d true .bool)],[]⟩
abbrev qkz:Ctx (Bool):=⟨9,tt,false,false,[],em [(111,qah)],ew [],ca 9 tt [] [.tmp 4] sq (fun x=>x.1.1)⟩
theorem qky:CtxM Tryz.prog qkz:=fa fits bt (mC qnn m0)
abbrev tp:Mdl:=(bn (.cons (.d false qT2) (.cons (.fn 66 (.cons (.rp false ff.ty) .nil)) .nil)) [] [] 1 sq (B:=Bool) (fun b=>((b,()),(()))) (fun a=>vn a.1.1 a.1.2.1.1))
theorem qg5:MdlOK Tryz.prog 65 tp:=ey Tryz.func65 rfl qky .z s0
def qrf:Shp:=⟨[(0, .d true .bool),(1, .d true qT0)],[]⟩
abbrev q8p:Ctx ((Bool×Int)):=⟨43,tt,false,false,[],em [(12,qsp),(42,p6),(19,qij),(64,qpw),(65,tp)],ew [],ca 43 tt [] [.tmp 2, .tmp 3] qrf (fun x=>(x.1.1,x.1.2.1))⟩
theorem q8o:CtxM Tryz.prog q8p:=fa fits bt (mC q4u (mC rx (mC qtw (mC qtf (mC qg5 m0)))))
abbrev qss:Mdl:=(bn (.cons (.d false ff.ty) .nil) [] [] 2 qrf (B:=(Bool×Int)) (fun b=>((b.1,b.2,()),(()))) (fun a=>qmu a.1.1))
theorem q4x:MdlOK Tryz.prog 21 qss:=ey Tryz.func21 rfl q8o .z s0
def qy7:Shp:=⟨[(0, .d true .bool),(1, .d true qT0)],[]⟩
abbrev jjs:Ctx ((Bool×Int)):=⟨9,tt,false,false,[],em [(41,jw),(42,p6)],ew [],ca 9 tt [] [.tmp 2, .tmp 3] qy7 (fun x=>(x.1.1,x.1.2.1))⟩
theorem jjr:CtxM Tryz.prog jjs:=fa fits bt (mC ir (mC rx m0))
abbrev q11:Mdl:=(bn (.cons (.d false ff.ty) .nil) [] [] 2 qy7 (B:=(Bool×Int)) (fun b=>((b.1,b.2,()),(()))) (fun a=>q5b a.1.1))
theorem jb7:MdlOK Tryz.prog 10 q11:=ey Tryz.func10 rfl jjr .z s0
def q5e:Shp:=⟨[(0, .d true .bool)],[]⟩
abbrev jpm:Ctx (Bool):=⟨93,tt,false,false,[],em [(38,jn2),(11,qok),(21,qss),(10,q11),(26,qm)],ew [],ca 93 tt [] [.tmp 0] q5e (fun x=>x.1.1)⟩
theorem jpl:CtxM Tryz.prog jpm:=fa fits bt (mC jr6 (mC qxr (mC q4x (mC jb7 (mC vy m0)))))
abbrev q8z:Mdl:=(bn .nil [] [] 1 q5e (B:=Bool) (fun b=>((b,()),(()))) (fun a=>q2c))
theorem jj5:MdlOK Tryz.prog 8 q8z:=ey Tryz.func8 rfl jpl .z s0
def qzb:Shp:=⟨[(0, .d true .bool)],[]⟩
abbrev jj7:Ctx (Bool):=⟨19,tt,false,false,[],em [],ew [],ca 19 tt [] [.tmp 2] qzb (fun x=>x.1.1)⟩
theorem jj6:CtxM Tryz.prog jj7:=fa fits bt m0
abbrev q2d:Mdl:=(bn (.cons (.d false ab.ty) .nil) [] [] 1 qzb (B:=Bool) (fun b=>((b,()),(()))) (fun a=>qnz a.1.1))
theorem jce:MdlOK Tryz.prog 40 q2d:=ey Tryz.func40 rfl jj6 .z s0
def l4:Shp:=⟨[(0, .d true qT0)],[]⟩
abbrev mo:Ctx (Int):=⟨19,tt,false,false,[],em [(40,q2d)],ew [aw _ 19 [] zq (C:=((List ab)×Int)) (S:=Int) (fun x=>((x.1.1,x.1.2.2.1),x.1.2.2.2.1)) zp (CE:=Unit) (E:=Unit) (fun c e=>((()),(()))) (fun c=>()) (fun{R} c a nx dn rt=>d9 c.1 c.2 a nx dn rt)],ca 19 tt [] [.tmp 4] l4 (fun x=>x.1.1)⟩
theorem mm:CtxM Tryz.prog mo:=fa fits bt (mC jce m0)
theorem qab:bj Tryz.prog mo 0 (lc 0 Tryz.f83 37):=lp rfl mm .z s0 (fun c a=>((c.1,(()),c.2,a,()),(()))) (fun y=>((),()))
abbrev mn:Mdl:=(bn (.cons (.d false (.slice ab.ty)) (.cons (.fn 40 .nil) .nil)) [] [] 1 l4 (B:=Int) (fun b=>((b,()),(()))) (fun a=>gv a.1.1))
theorem zr:MdlOK Tryz.prog 83 mn:=ey Tryz.func83 rfl mm (.two .z (.two (.two .z (.s 0)) .z)) (sC qab s0)
def kg:Shp:=⟨[(0, .d true .bool)],[]⟩
abbrev xt:Ctx (Bool):=⟨9,tt,false,false,[],em [(83,mn)],ew [],ca 9 tt [] [.tmp 4] kg (fun x=>x.1.1)⟩
theorem xr:CtxM Tryz.prog xt:=fa fits bt (mC zr m0)
abbrev lb:Mdl:=(bn (.cons (.d false (.slice ab.ty)) (.cons (.fn 40 .nil) .nil)) [] [] 1 kg (B:=Bool) (fun b=>((b,()),(()))) (fun a=>cf a.1.1))
theorem ue:MdlOK Tryz.prog 39 lb:=ey Tryz.func39 rfl xr .z s0
def q5f:Shp:=⟨[(0, .d true .bool)],[]⟩
abbrev jpo:Ctx (Bool):=⟨34,tt,false,false,[],em [(39,lb)],ew [],ca 34 tt [] [.tmp 2] q5f (fun x=>x.1.1)⟩
theorem jpn:CtxM Tryz.prog jpo:=fa fits bt (mC ue m0)
abbrev q80:Mdl:=(bn (.cons (.d false ff.ty) .nil) [] [] 1 q5f (B:=Bool) (fun b=>((b,()),(()))) (fun a=>qsx a.1.1))
theorem jj8:MdlOK Tryz.prog 9 q80:=ey Tryz.func9 rfl jpn .z s0
def q2z:Shp:=⟨[(0, .d true .bool)],[]⟩
abbrev jmx:Ctx (Bool):=⟨17,tt,false,false,[],em [],ew [],ca 17 tt [] [.tmp 2] q2z (fun x=>x.1.1)⟩
theorem jmw:CtxM Tryz.prog jmx:=fa fits bt m0
abbrev q5x:Mdl:=(bn (.cons (.d false (.int .u8)) .nil) [] [] 1 q2z (B:=Bool) (fun b=>((b,()),(()))) (fun a=>qi5 a.1.1))
theorem jhc:MdlOK Tryz.prog 91 q5x:=ey Tryz.func91 rfl jmw .z s0
def q2y:Shp:=⟨[(0, .d true .bool)],[]⟩
abbrev q5w:Ctx (Bool):=⟨52,tt,false,false,[],em [(91,q5x)],ew [aw _ 52 [] jha (C:=ByteArray) (S:=Int) (fun x=>(x.1.1,x.1.2.1)) jg9 (CE:=Unit) (E:=Unit) (fun c e=>((()),(()))) (fun c=>()) (fun{R} c a nx dn rt=>z8 c a nx dn rt)],ca 52 tt [] [.tmp 2] q2y (fun x=>x.1.1)⟩
theorem q5u:CtxM Tryz.prog q5w:=fa fits bt (mC jhc m0)
theorem jk7:bj Tryz.prog q5w 0 (lc 0 Tryz.f47 75):=lp rfl q5u .z s0 (fun c a=>((c,a,()),(()))) (fun y=>((),()))
abbrev q5v:Mdl:=(bn (.cons (.d false .str) .nil) [] [] 1 q2y (B:=Bool) (fun b=>((b,()),(()))) (fun a=>qqz a.1.1))
theorem jhb:MdlOK Tryz.prog 47 q5v:=ey Tryz.func47 rfl q5u (.two .z (.two .z (.two (.two .z (.s 0)) .z))) (sC jk7 s0)
def q3a:Shp:=⟨[(0, .d true .bool)],[]⟩
abbrev q52:Ctx (Bool):=⟨41,tt,false,false,[],em [],ew [aw _ 41 [] jhh (C:=(Int×qL1)) (S:=Int) (fun x=>((x.1.1,x.1.2.1),x.1.2.2.1)) jhg (CE:=Unit) (E:=Unit) (fun c e=>((()),(()))) (fun c=>()) (fun{R} c a nx dn rt=>ro c.1 c.2 a nx dn rt)],ca 41 tt [] [.tmp 4] q3a (fun x=>x.1.1)⟩
theorem q50:CtxM Tryz.prog q52:=fa fits bt m0
theorem jld:bj Tryz.prog q52 0 (lc 0 Tryz.f48 37):=lp rfl q50 (.two .z (.two (.one (.two (.d [0,0,3,7,15,31,63,63,255,511,63,2047,4095,8191,16383,32767,65535,131071,131071,393215,1048575,2097151,131071,131071,12713983,29491199,67108863,134217727,268435455] [] []) .z)) .z)) s0 (fun c a=>((c.1,c.2,a,()),(()))) (fun y=>((),()))
abbrev q51:Mdl:=(bn (.cons (.d false qT0) (.cons (.d false qT1) .nil)) [] [] 1 q3a (B:=Bool) (fun b=>((b,()),(()))) (fun a=>zg a.1.1 a.1.2.1))
theorem jhi:MdlOK Tryz.prog 48 q51:=ey Tryz.func48 rfl q50 (.two .z (.two (.two .z (.s 0)) .z)) (sC jld s0)
def q5z:Shp:=⟨[(0, .d true .bool)],[]⟩
abbrev q9z:Ctx (Bool):=⟨80,tt,false,false,[],em [(47,q5v),(48,q51)],ew [aw _ 80 [] jlb (C:=(Int×(List ab)×Int×Int)) (S:=Int) (fun x=>((x.2.1.1,x.2.1.2.1,x.2.1.2.2.1,x.2.1.2.2.2.1),x.1.2.1)) jla (CE:=Unit) (E:=Unit) (fun c e=>((()),(()))) (fun c=>()) (fun{R} c a nx dn rt=>qi6 c.1 c.2.1 c.2.2.1 c.2.2.2 a nx dn rt)],ca 80 tt [] [.tmp 2] q5z (fun x=>x.1.1)⟩
theorem q9x:CtxM Tryz.prog q9z:=fa fits bt (mC jhb (mC jhi m0))
theorem jmy:bj Tryz.prog q9z 0 (lc 0 Tryz.f15 75):=lp rfl q9x .z s0 (fun c a=>(((),a,()),((c.1,c.2.1,c.2.2.1,c.2.2.2,()),()))) (fun y=>((),()))
abbrev q9y:Mdl:=(bn (.cons (.d false ff.ty) .nil) [] [] 1 q5z (B:=Bool) (fun b=>((b,()),(()))) (fun a=>qs8 a.1.1))
theorem jlc:MdlOK Tryz.prog 15 q9y:=ey Tryz.func15 rfl q9x (.two .z (.two .z (.two (.two .z (.s 0)) .z))) (sC jmy s0)
def jfi:Shp:=⟨[(0, .d true .bool)],[]⟩
abbrev jk9:Ctx (Bool):=⟨18,tt,false,false,[],em [],ew [aw _ 18 [] jp7 (C:=(qL1×Int)) (S:=Int) (fun x=>((x.1.1,x.1.2.1),x.1.2.2.1)) jp6 (CE:=Unit) (E:=Unit) (fun c e=>((()),(()))) (fun c=>()) (fun{R} c a nx dn rt=>qq0 c.1 c.2 a nx dn rt)],ca 18 tt [] [.tmp 4] jfi (fun x=>x.1.1)⟩
theorem jk8:CtxM Tryz.prog jk9:=fa fits bt m0
theorem jsn:bj Tryz.prog jk9 0 (lc 0 Tryz.f68 37):=lp rfl jk8 .z s0 (fun c a=>((c.1,c.2,a,()),(()))) (fun y=>((),()))
abbrev qrw:Mdl:=(bn (.cons (.d false qT1) (.cons (.d false qT0) .nil)) [] [] 1 jfi (B:=Bool) (fun b=>((b,()),(()))) (fun a=>qm1 a.1.1 a.1.2.1))
theorem qq1:MdlOK Tryz.prog 68 qrw:=ey Tryz.func68 rfl jk8 (.two .z (.two (.two .z (.s 0)) .z)) (sC jsn s0)
def qzx:Shp:=⟨[(0, .d true ff.ty)],[]⟩
abbrev q28:Ctx (ff):=⟨42,tt,false,false,[],em [],ew [aw _ 42 [] jdq (C:=(Int×(List ab)×Int×Int×Int×(List ab)×Int×Int×Int×Int×Int)) (S:=(Int×(List ab))) (fun x=>((x.2.1.1,x.2.1.2.1,x.2.1.2.2.1,x.2.1.2.2.2.1,x.2.2.1.1,x.2.2.1.2.1,x.2.2.1.2.2.1,x.2.2.1.2.2.2.1,x.2.2.2.1.1,x.2.2.2.1.2.2.1,x.2.2.2.1.2.2.2.1),(x.1.2.2.2.1,x.2.2.2.2.1))) jdp (CE:=(Int×(List ab)×Int×Int×Int×Int×Int)) (E:=(List ab)) (fun c e=>(((),(),()),((c.1,c.2.1,c.2.2.1,c.2.2.2.1,()),(c.2.2.2.2.1,(),c.2.2.2.2.2.1,c.2.2.2.2.2.2,()),e,()))) (fun c=>(c.2.2.2.2.1,c.2.2.2.2.2.1,c.2.2.2.2.2.2.1,c.2.2.2.2.2.2.2.1,c.2.2.2.2.2.2.2.2.1,c.2.2.2.2.2.2.2.2.2.1,c.2.2.2.2.2.2.2.2.2.2)) (fun{R} c a nx dn rt=>qc5 c.1 c.2.1 c.2.2.1 c.2.2.2.1 c.2.2.2.2.1 c.2.2.2.2.2.1 c.2.2.2.2.2.2.1 c.2.2.2.2.2.2.2.1 c.2.2.2.2.2.2.2.2.1 c.2.2.2.2.2.2.2.2.2.1 c.2.2.2.2.2.2.2.2.2.2 a.1 a.2 nx dn rt)],ca 42 tt [] [.cell 2 24] qzx (fun x=>x.1.1)⟩
theorem q26:CtxM Tryz.prog q28:=fa fits bt m0
theorem jhf:bj Tryz.prog q28 0 (lc 0 Tryz.f70 75):=lp rfl q26 (.two .z (.two (.one (.two .z (.d [0,1,0,4,0,0,32,112,0,0,512,2032,4092,8188,16383,32767,65535] [7,11,12,13,14,16] []))) .z)) s0 (fun c a=>(((),(),(),a.1,()),((c.1,c.2.1,c.2.2.1,c.2.2.2.1,()),(c.2.2.2.2.1,c.2.2.2.2.2.1,c.2.2.2.2.2.2.1,c.2.2.2.2.2.2.2.1,()),(c.2.2.2.2.2.2.2.2.1,(),c.2.2.2.2.2.2.2.2.2.1,c.2.2.2.2.2.2.2.2.2.2,()),a.2,()))) (fun y=>((y.2.1.1,y.2.1.2.1,y.2.1.2.2.1,y.2.1.2.2.2.1,y.2.2.1.1,y.2.2.1.2.2.1,y.2.2.1.2.2.2.1),y.2.2.2.1))
abbrev q27:Mdl:=(bn (.cons (.d false ff.ty) .nil) [] [] 1 qzx (B:=ff) (fun b=>((b,()),(()))) (fun a=>qn5 a.1.1))
theorem jdr:MdlOK Tryz.prog 70 q27:=ey Tryz.func70 rfl q26 (.two .z (.two .z (.two (.two .z (.s 0)) .z))) (sC jhf s0)
def qzt:Shp:=⟨[(0, .d true .bool)],[]⟩
abbrev q22:Ctx (Bool):=⟨26,tt,false,false,[],em [],ew [aw _ 26 [] jdk (C:=(qL1×qL1)) (S:=Int) (fun x=>((x.1.1,x.1.2.1),x.1.2.2.1)) jdj (CE:=Unit) (E:=Unit) (fun c e=>((()),(()))) (fun c=>()) (fun{R} c a nx dn rt=>vc c.1 c.2 a nx dn rt)],ca 26 tt [] [.tmp 4] qzt (fun x=>x.1.1)⟩
theorem q20:CtxM Tryz.prog q22:=fa fits bt m0
theorem jhd:bj Tryz.prog q22 0 (lc 0 Tryz.f46 75):=lp rfl q20 (.two .z (.two (.one (.two (.d [0,0,3,7,0,0,48,112,255] [] []) .z)) .z)) s0 (fun c a=>((c.1,c.2,a,()),(()))) (fun y=>((),()))
abbrev q21:Mdl:=(bn (.cons (.d false qT1) (.cons (.d false qT1) .nil)) [] [] 1 qzt (B:=Bool) (fun b=>((b,()),(()))) (fun a=>qn3 a.1.1 a.1.2.1))
theorem jdl:MdlOK Tryz.prog 46 q21:=ey Tryz.func46 rfl q20 (.two .z (.two .z (.two (.two .z (.s 0)) .z))) (sC jhd s0)
def q3s:Shp:=⟨[(0, .d true .bool)],[]⟩
abbrev q6a:Ctx (Bool):=⟨18,tt,false,false,[],em [(68,qrw)],ew [aw _ 18 [] jhz (C:=(qL1×qL1)) (S:=Int) (fun x=>((x.1.1,x.1.2.1),x.1.2.2.1)) jhy (CE:=Unit) (E:=Unit) (fun c e=>((()),(()))) (fun c=>()) (fun{R} c a nx dn rt=>qfe c.1 c.2 a nx dn rt)],ca 18 tt [] [.tmp 4] q3s (fun x=>x.1.1)⟩
theorem q58:CtxM Tryz.prog q6a:=fa fits bt (mC qq1 m0)
theorem jlo:bj Tryz.prog q6a 0 (lc 0 Tryz.f49 37):=lp rfl q58 .z s0 (fun c a=>((c.1,c.2,a,()),(()))) (fun y=>((),()))
abbrev q59:Mdl:=(bn (.cons (.d false qT1) (.cons (.d false qT1) .nil)) [] [] 1 q3s (B:=Bool) (fun b=>((b,()),(()))) (fun a=>qq3 a.1.1 a.1.2.1))
theorem jh0:MdlOK Tryz.prog 49 q59:=ey Tryz.func49 rfl q58 (.two .z (.two (.two .z (.s 0)) .z)) (sC jlo s0)
def jln:Shp:=⟨[(0, .d true .bool)],[]⟩
abbrev jd6:Ctx (Bool):=⟨40,tt,false,false,[],em [(49,q59),(46,q21)],ew [aw _ 40 [] jsr (C:=(Int×Int×(List ab)×Int×Int)) (S:=Int) (fun x=>((x.1.2.1,x.2.1.1,x.2.1.2.1,x.2.1.2.2.1,x.2.1.2.2.2.1),x.1.2.2.1)) jsq (CE:=(Int×Int×(List ab)×Int×Int)) (E:=Unit) (fun c e=>(((),c.1,()),((c.2.1,c.2.2.1,c.2.2.2.1,c.2.2.2.2,()),()))) (fun c=>(c.1,c.2.1,c.2.2.1,c.2.2.2.1,c.2.2.2.2)) (fun{R} c a nx dn rt=>qoz c.1 c.2.1 c.2.2.1 c.2.2.2.1 c.2.2.2.2 a nx dn rt),aw _ 40 [] jst (C:=(Int×(List ab)×Int×Int)) (S:=Int) (fun x=>((x.2.1.1,x.2.1.2.1,x.2.1.2.2.1,x.2.1.2.2.2.1),x.1.2.1)) jss (CE:=Unit) (E:=Unit) (fun c e=>((()),(()))) (fun c=>()) (fun{R} c a nx dn rt=>qo0 c.1 c.2.1 c.2.2.1 c.2.2.2 a nx dn rt)],ca 40 tt [] [.tmp 2] jln (fun x=>x.1.1)⟩
theorem jd5:CtxM Tryz.prog jd6:=fa fits bt (mC jh0 (mC jdl m0))
theorem jup:bj Tryz.prog jd6 0 (lc 2 Tryz.f16 2341):=lp rfl jd5 (.two .z (.two (.one (.two (.d [0,1,0,7,15,31,0,64,0,448,960,1984,63,8191] [] []) .z)) .z)) s0 (fun c a=>(((),c.1,a,()),((c.2.1,c.2.2.1,c.2.2.2.1,c.2.2.2.2,()),()))) (fun y=>((y.1.2.1,y.2.1.1,y.2.1.2.1,y.2.1.2.2.1,y.2.1.2.2.2.1),()))
theorem juq:bj Tryz.prog jd6 1 (lc 0 Tryz.f16 37):=lp rfl jd5 (.two .z (.two (.one (.two .z (.s 0))) .z)) (sC jup s0) (fun c a=>(((),a,()),((c.1,c.2.1,c.2.2.1,c.2.2.2,()),()))) (fun y=>((),()))
abbrev jod:Mdl:=(bn (.cons (.d false ff.ty) .nil) [] [] 1 jln (B:=Bool) (fun b=>((b,()),(()))) (fun a=>q3o a.1.1))
theorem jsu:MdlOK Tryz.prog 16 jod:=ey Tryz.func16 rfl jd5 (.two .z (.two (.two .z (.s 1)) .z)) (sC juq s0)
def q98:Shp:=⟨[(0, .nl false (.own 0))],[.arr 3 (.fz true) [0] qT0]⟩
abbrev jfm:Ctx (qL1):=⟨19,tt,false,false,[],em [],ew [aw _ 19 [] jm1 (C:=Unit) (S:=(Int×Int×qL1)) (fun x=>((),(x.1.1,x.1.2.2.1,x.2.1))) jm0 (CE:=Unit) (E:=qL1) (fun c e=>(((),()),(e,()))) (fun c=>()) (fun{R} c a nx dn rt=>qn9 a.1 a.2.1 a.2.2 nx dn rt)],ca 19 tt [] [.tmp 2] q98 (fun x=>x.2.1)⟩
theorem jfk:CtxM Tryz.prog jfm:=fa fits bt m0
theorem jp8:bj Tryz.prog jfm 0 (lc 0 Tryz.f112 71):=lp rfl jfk .z s0 (fun c a=>((a.1,(),a.2.1,()),(a.2.2,()))) (fun y=>((),y.2.1))
abbrev jfl:Mdl:=(bn (.cons (.d false qT0) .nil) [] [] 1 q98 (B:=qL1) (fun b=>(((),()),(b,()))) (fun a=>qyi a.1.1))
theorem jm2:MdlOK Tryz.prog 112 jfl:=ey Tryz.func112 rfl jfk (.two .z (.two .z (.two .z (.two (.s 0) .z)))) (sC jp8 s0)
def q3j:Shp:=⟨[(0, .d true .bool)],[]⟩
abbrev q57:Ctx (Bool):=⟨18,tt,false,false,[],em [(68,qrw)],ew [aw _ 18 [] jhw (C:=(qL1×qL1)) (S:=Int) (fun x=>((x.1.1,x.1.2.1),x.1.2.2.1)) jhv (CE:=Unit) (E:=Unit) (fun c e=>((()),(()))) (fun c=>()) (fun{R} c a nx dn rt=>qfd c.1 c.2 a nx dn rt)],ca 18 tt [] [.tmp 4] q3j (fun x=>x.1.1)⟩
theorem q56:CtxM Tryz.prog q57:=fa fits bt (mC qq1 m0)
theorem jli:bj Tryz.prog q57 0 (lc 0 Tryz.f150 37):=lp rfl q56 .z s0 (fun c a=>((c.1,c.2,a,()),(()))) (fun y=>((),()))
abbrev qub:Mdl:=(bn (.cons (.d false qT1) (.cons (.d false qT1) .nil)) [] [] 1 q3j (B:=Bool) (fun b=>((b,()),(()))) (fun a=>qc8 a.1.1 a.1.2.1))
theorem qz7:MdlOK Tryz.prog 150 qub:=ey Tryz.func150 rfl q56 (.two .z (.two (.two .z (.s 0)) .z)) (sC jli s0)
def qv7:Shp:=⟨[(0, .d true .bool)],[]⟩
abbrev qz3:Ctx (Bool):=⟨32,tt,false,false,[],em [(150,qub)],ew [aw _ 32 [] q95 (C:=(qL1×Int×(List ab)×Int×Int)) (S:=Int) (fun x=>((x.1.1,x.2.1.1,x.2.1.2.1,x.2.1.2.2.1,x.2.1.2.2.2.1),x.1.2.2.1)) q94 (CE:=Unit) (E:=Unit) (fun c e=>((()),(()))) (fun c=>()) (fun{R} c a nx dn rt=>qa6 c.1 c.2.1 c.2.2.1 c.2.2.2.1 c.2.2.2.2 a nx dn rt)],ca 32 tt [] [.tmp 4] qv7 (fun x=>x.1.1)⟩
theorem qz2:CtxM Tryz.prog qz3:=fa fits bt (mC qz7 m0)
theorem jdt:bj Tryz.prog qz3 0 (lc 0 Tryz.f113 37):=lp rfl qz2 .z s0 (fun c a=>((c.1,(),a,()),((c.2.1,c.2.2.1,c.2.2.2.1,c.2.2.2.2,()),()))) (fun y=>((),()))
abbrev qpr:Mdl:=(bn (.cons (.d false ff.ty) (.cons (.d false qT1) .nil)) [] [] 1 qv7 (B:=Bool) (fun b=>((b,()),(()))) (fun a=>ve a.1.1 a.1.2.1))
theorem qs9:MdlOK Tryz.prog 113 qpr:=ey Tryz.func113 rfl qz2 (.two .z (.two (.two .z (.s 0)) .z)) (sC jdt s0)
def qz9:Shp:=⟨[(0, .own 0)],[.arr 3 (.fz true) [0] qT0]⟩
abbrev jlk:Ctx (qL1):=⟨15,tt,false,false,[],em [],ew [],ca 15 tt [] [.tmp 4] qz9 (fun x=>x.2.1)⟩
theorem jlj:CtxM Tryz.prog jlk:=fa fits bt m0
abbrev q3n:Mdl:=(bn (.cons (.d false qT1) (.cons (.d false qT0) .nil)) [] [] 1 qz9 (B:=qL1) (fun b=>(((),()),(b,()))) (fun a=>qoa a.1.1 a.1.2.1))
theorem jd4:MdlOK Tryz.prog 152 q3n:=ey Tryz.func152 rfl jlj (.two .z (.two (.d [0,0,0,6,15,0,0,64,224,511,1023] [4,9,10] []) .z)) s0
def q3h:Shp:=⟨[(0, .nl false (.own 0))],[.arr 3 (.fz true) [0] qT0]⟩
abbrev qn8:Ctx (qL1):=⟨64,tt,false,false,[],em [(68,qrw),(150,qub)],ew [aw _ 64 [] jhq (C:=(qL1×Int×Int×(List ab)×Int×Int×qL1)) (S:=(Bool×Int)) (fun x=>((x.1.2.1,x.1.2.2.2.1,x.2.1.1,x.2.1.2.1,x.2.1.2.2.1,x.2.1.2.2.2.1,x.2.2.1),(x.1.2.2.2.2.1,x.1.2.2.2.2.2.1))) jhp (CE:=(qL1×Int×Int×(List ab)×Int×Int×qL1)) (E:=Bool) (fun c e=>(((),c.1,(),c.2.1,e,()),((c.2.2.1,c.2.2.2.1,c.2.2.2.2.1,c.2.2.2.2.2.1,()),c.2.2.2.2.2.2,()))) (fun c=>(c.1,c.2.1,c.2.2.1,c.2.2.2.1,c.2.2.2.2.1,c.2.2.2.2.2.1,c.2.2.2.2.2.2)) (fun{R} c a nx dn rt=>qfa c.1 c.2.1 c.2.2.1 c.2.2.2.1 c.2.2.2.2.1 c.2.2.2.2.2.1 c.2.2.2.2.2.2 a.1 a.2 nx dn rt),aw _ 64 [] jhs (C:=(qL1×Int×(List ab)×Int×Int)) (S:=(Int×qL1)) (fun x=>((x.1.2.1,x.2.1.1,x.2.1.2.1,x.2.1.2.2.1,x.2.1.2.2.2.1),(x.1.2.2.2.1,x.2.2.1))) jhr (CE:=(qL1×Int×(List ab)×Int×Int)) (E:=qL1) (fun c e=>(((),c.1,(),()),((c.2.1,c.2.2.1,c.2.2.2.1,c.2.2.2.2,()),e,()))) (fun c=>(c.1,c.2.1,c.2.2.1,c.2.2.2.1,c.2.2.2.2)) (fun{R} c a nx dn rt=>qfb c.1 c.2.1 c.2.2.1 c.2.2.2.1 c.2.2.2.2 a.1 a.2 nx dn rt),aw _ 64 [] jhu (C:=(Int×(List ab)×Int×Int)) (S:=qL1) (fun x=>((x.2.1.1,x.2.1.2.1,x.2.1.2.2.1,x.2.1.2.2.2.1),x.1.2.1)) jht (CE:=Unit) (E:=Unit) (fun c e=>((()),(()))) (fun c=>()) (fun{R} c a nx dn rt=>qfc c.1 c.2.1 c.2.2.1 c.2.2.2 a nx dn rt)],ca 64 tt [] [.tmp 4] q3h (fun x=>x.2.1)⟩
theorem qn7:CtxM Tryz.prog qn8:=fa fits bt (mC qq1 (mC qz7 m0))
theorem jlf:bj Tryz.prog qn8 0 (lc 4 Tryz.f151 304291):=lp rfl qn7 (.two .z (.two (.one (.d [0,1,3,7,3,31,63,127,3,3,771,1795,4095,8191,16383,32767,65535,32767,262143,524287,1048575,32767,4194303,8388607,16777215,33554431] [] [])) .z)) s0 (fun c a=>(((),c.1,(),c.2.1,a.1,a.2,()),((c.2.2.1,c.2.2.2.1,c.2.2.2.2.1,c.2.2.2.2.2.1,()),c.2.2.2.2.2.2,()))) (fun y=>((y.1.2.1,y.1.2.2.2.1,y.2.1.1,y.2.1.2.1,y.2.1.2.2.1,y.2.1.2.2.2.1,y.2.2.1),y.1.2.2.2.2.1))
theorem jlg:bj Tryz.prog qn8 1 (lc 2 Tryz.f151 1187):=lp rfl qn7 (.two .z (.two (.one (.two .z (.two (.two .z (.s 0)) .z))) .z)) (sC jlf s0) (fun c a=>(((),c.1,(),a.1,()),((c.2.1,c.2.2.1,c.2.2.2.1,c.2.2.2.2,()),a.2,()))) (fun y=>((y.1.2.1,y.2.1.1,y.2.1.2.1,y.2.1.2.2.1,y.2.1.2.2.2.1),y.2.2.1))
theorem jlh:bj Tryz.prog qn8 2 (lc 0 Tryz.f151 19):=lp rfl qn7 (.one (.two .z (.two (.two .z (.s 1)) .z))) (sC jlg s0) (fun c a=>(((),a,()),((c.1,c.2.1,c.2.2.1,c.2.2.2,()),()))) (fun y=>((),()))
abbrev qua:Mdl:=(bn (.cons (.d false ff.ty) (.cons (.d false qT1) .nil)) [] [] 1 q3h (B:=qL1) (fun b=>(((),()),(b,()))) (fun a=>qc7 a.1.1 a.1.2.1))
theorem qz6:MdlOK Tryz.prog 151 qua:=ey Tryz.func151 rfl qn7 (.two .z (.two .z (.s 2))) (sC jlh s0)
def qz8:Shp:=⟨[(0, .d true .bool)],[]⟩
abbrev q3m:Ctx (Bool):=⟨28,tt,false,false,[],em [(113,qpr),(152,q3n),(151,qua)],ew [aw _ 28 [] jd2 (C:=(qL1×Int×(List ab)×Int×Int)) (S:=Int) (fun x=>((x.1.1,x.2.1.1,x.2.1.2.1,x.2.1.2.2.1,x.2.1.2.2.2.1),x.1.2.2.1)) jd1 (CE:=Unit) (E:=Unit) (fun c e=>((()),(()))) (fun c=>()) (fun{R} c a nx dn rt=>vg c.1 c.2.1 c.2.2.1 c.2.2.2.1 c.2.2.2.2 a nx dn rt)],ca 28 tt [] [.tmp 4] qz8 (fun x=>x.1.1)⟩
theorem q3k:CtxM Tryz.prog q3m:=fa fits bt (mC qs9 (mC jd4 (mC qz6 m0)))
theorem jhx:bj Tryz.prog q3m 0 (lc 0 Tryz.f114 75):=lp rfl q3k (.two .z (.two (.one (.two (.d [0,0,0,6,15,31,63] [] []) .z)) .z)) s0 (fun c a=>((c.1,(),a,()),((c.2.1,c.2.2.1,c.2.2.2.1,c.2.2.2.2,()),()))) (fun y=>((),()))
abbrev q3l:Mdl:=(bn (.cons (.d false ff.ty) (.cons (.d false qT1) .nil)) [] [] 1 qz8 (B:=Bool) (fun b=>((b,()),(()))) (fun a=>qet a.1.1 a.1.2.1))
theorem jd3:MdlOK Tryz.prog 114 q3l:=ey Tryz.func114 rfl q3k (.two .z (.two .z (.two (.two .z (.s 0)) .z))) (sC jhx s0)
def jaa:Shp:=⟨[(0, .d true .bool)],[]⟩
abbrev jfp:Ctx (Bool):=⟨41,tt,false,false,[],em [],ew [aw _ 41 [] jm4 (C:=(qL1×qL1)) (S:=Int) (fun x=>((x.1.1,x.1.2.1),x.1.2.2.1)) jm3 (CE:=(qL1×qL1)) (E:=Unit) (fun c e=>((c.1,c.2,()),(()))) (fun c=>(c.1,c.2)) (fun{R} c a nx dn rt=>qar c.1 c.2 a nx dn rt)],ca 41 tt [] [.tmp 4] jaa (fun x=>x.1.1)⟩
theorem jfn:CtxM Tryz.prog jfp:=fa fits bt m0
theorem jp9:bj Tryz.prog jfp 0 (lc 0 Tryz.f115 37):=lp rfl jfn (.two .z (.two (.one (.two (.d [0,0,3,7,0,0,48,112,255] [] []) (.two (.two (.d [0,0,3,7,0,0,48,112,255,511] [] []) .z) .z))) .z)) s0 (fun c a=>((c.1,c.2,a,()),(()))) (fun y=>((y.1.1,y.1.2.1),()))
abbrev jfo:Mdl:=(bn (.cons (.d false qT1) (.cons (.d false qT1) .nil)) [] [] 1 jaa (B:=Bool) (fun b=>((b,()),(()))) (fun a=>qyj a.1.1 a.1.2.1))
theorem jm5:MdlOK Tryz.prog 115 jfo:=ey Tryz.func115 rfl jfn (.two .z (.two (.two .z (.s 0)) .z)) (sC jp9 s0)
def qz5:Shp:=⟨[(0, .d true qT2),(1, .d true qT0)],[]⟩
abbrev qi9:Ctx ((qL2×Int)):=⟨69,tt,false,false,[],em [(112,jfl),(113,qpr),(114,q3l),(115,jfo)],ew [aw _ 69 [] jdv (C:=(Int×(List ab)×Int×Int)) (S:=(Int×Int)) (fun x=>((x.2.1.1,x.2.1.2.1,x.2.1.2.2.1,x.2.1.2.2.2.1),(x.1.2.1,x.1.2.2.1))) jdu (CE:=(Int×(List ab)×Int×Int)) (E:=Int) (fun c e=>(((),e,()),((c.1,c.2.1,c.2.2.1,c.2.2.2,()),()))) (fun c=>(c.1,c.2.1,c.2.2.1,c.2.2.2)) (fun{R} c a nx dn rt=>qc6 c.1 c.2.1 c.2.2.1 c.2.2.2 a.1 a.2 nx dn rt),aw _ 69 [] jdx (C:=(Int×qL2×Int×qL1×Int×(List ab)×Int×Int)) (S:=Int) (fun x=>((x.1.2.1,x.1.2.2.1,x.1.2.2.2.1,x.1.2.2.2.2.1,x.2.1.1,x.2.1.2.1,x.2.1.2.2.1,x.2.1.2.2.2.1),x.1.2.2.2.2.2.1)) jdw (CE:=(Int×qL2×Int×qL1×Int×(List ab)×Int×Int)) (E:=Int) (fun c e=>(((),c.1,c.2.1,c.2.2.1,c.2.2.2.1,e,()),((c.2.2.2.2.1,c.2.2.2.2.2.1,c.2.2.2.2.2.2.1,c.2.2.2.2.2.2.2,()),()))) (fun c=>(c.1,c.2.1,c.2.2.1,c.2.2.2.1,c.2.2.2.2.1,c.2.2.2.2.2.1,c.2.2.2.2.2.2.1,c.2.2.2.2.2.2.2)) (fun{R} c a nx dn rt=>vf c.1 c.2.1 c.2.2.1 c.2.2.2.1 c.2.2.2.2.1 c.2.2.2.2.2.1 c.2.2.2.2.2.2.1 c.2.2.2.2.2.2.2 a nx dn rt),aw _ 69 [] jdz (C:=(Int×Int×(List ab)×Int×Int)) (S:=(qL2×Int)) (fun x=>((x.1.2.1,x.2.1.1,x.2.1.2.1,x.2.1.2.2.1,x.2.1.2.2.2.1),(x.1.2.2.1,x.1.2.2.2.1))) jdy (CE:=Unit) (E:=qL2) (fun c e=>((e,()),(()))) (fun c=>()) (fun{R} c a nx dn rt=>p0 c.1 c.2.1 c.2.2.1 c.2.2.2.1 c.2.2.2.2 a.1 a.2 nx dn rt)],ca 69 tt [] [.tmp 2, .tmp 3] qz5 (fun x=>(x.1.1,x.1.2.1))⟩
theorem qi8:CtxM Tryz.prog qi9:=fa fits bt (mC jm2 (mC qs9 (mC jd3 (mC jm5 m0))))
theorem jhn:bj Tryz.prog qi9 1 (lc 4 Tryz.f67 291423):=lp rfl qi8 .z s0 (fun c a=>(((),c.1,c.2.1,c.2.2.1,c.2.2.2.1,a,()),((c.2.2.2.2.1,c.2.2.2.2.2.1,c.2.2.2.2.2.2.1,c.2.2.2.2.2.2.2,()),()))) (fun y=>((y.1.2.1,y.1.2.2.1,y.1.2.2.2.1,y.1.2.2.2.2.1,y.2.1.1,y.2.1.2.1,y.2.1.2.2.1,y.2.1.2.2.2.1),y.1.2.2.2.2.2.1))
theorem jho:bj Tryz.prog qi9 2 (lc 2 Tryz.f67 607):=lp rfl qi8 (.two .z (.two (.one (.two .z (.two .z (.two .z (.two (.s 1) .z))))) .z)) (sC jhn s0) (fun c a=>(((),c.1,a.1,a.2,()),((c.2.1,c.2.2.1,c.2.2.2.1,c.2.2.2.2,()),()))) (fun y=>((),y.1.1))
theorem jhm:bj Tryz.prog qi9 0 (lc 0 Tryz.f67 151):=lp rfl qi8 .z s0 (fun c a=>(((),a.1,a.2,()),((c.1,c.2.1,c.2.2.1,c.2.2.2,()),()))) (fun y=>((y.2.1.1,y.2.1.2.1,y.2.1.2.2.1,y.2.1.2.2.2.1),y.1.2.1))
abbrev q3d:Mdl:=(bn (.cons (.d false ff.ty) .nil) [] [] 2 qz5 (B:=(qL2×Int)) (fun b=>((b.1,b.2,()),(()))) (fun a=>qn6 a.1.1))
theorem jd0:MdlOK Tryz.prog 67 q3d:=ey Tryz.func67 rfl qi8 (.two .z (.two .z (.two .z (.two (.two .z (.s 0)) (.two .z (.two (.two .z (.s 2)) .z)))))) (sC jhm (sC jho s0))
def qir:Shp:=⟨[(0, .d true .bool)],[]⟩
abbrev q03:Ctx (Bool):=⟨9,tt,false,false,[],em [],ew [],ca 9 tt [] [.tmp 2] qir (fun x=>x.1.1)⟩
theorem q02:CtxM Tryz.prog q03:=fa fits bt m0
abbrev qmi:Mdl:=(bn (.cons (.d false qT0) .nil) [] [] 1 qir (B:=Bool) (fun b=>((b,()),(()))) (fun a=>qb1 a.1.1))
theorem qu9:MdlOK Tryz.prog 119 qmi:=ey Tryz.func119 rfl q02 .z s0
def v4:Shp:=⟨[(0, .d true qT0)],[]⟩
abbrev x6:Ctx (Int):=⟨19,tt,false,false,[],em [(119,qmi)],ew [aw _ 19 [] qk6 (C:=(qL1×Int)) (S:=Int) (fun x=>((x.1.1,x.1.2.2.1),x.1.2.2.2.1)) qk5 (CE:=Unit) (E:=Unit) (fun c e=>((()),(()))) (fun c=>()) (fun{R} c a nx dn rt=>ii c.1 c.2 a nx dn rt)],ca 19 tt [] [.tmp 4] v4 (fun x=>x.1.1)⟩
theorem x4:CtxM Tryz.prog x6:=fa fits bt (mC qu9 m0)
theorem qm7:bj Tryz.prog x6 0 (lc 0 Tryz.f79 37):=lp rfl x4 .z s0 (fun c a=>((c.1,(()),c.2,a,()),(()))) (fun y=>((),()))
abbrev x5:Mdl:=(bn (.cons (.d false qT1) (.cons (.fn 119 .nil) .nil)) [] [] 1 v4 (B:=Int) (fun b=>((b,()),(()))) (fun a=>oq a.1.1))
theorem qk7:MdlOK Tryz.prog 79 x5:=ey Tryz.func79 rfl x4 (.two .z (.two (.two .z (.s 0)) .z)) (sC qm7 s0)
def qr:Shp:=⟨[(0, .d true .bool)],[]⟩
abbrev qjg:Ctx (Bool):=⟨9,tt,false,false,[],em [(79,x5)],ew [],ca 9 tt [] [.tmp 4] qr (fun x=>x.1.1)⟩
theorem qjf:CtxM Tryz.prog qjg:=fa fits bt (mC qk7 m0)
abbrev sc:Mdl:=(bn (.cons (.d false qT1) (.cons (.fn 119 .nil) .nil)) [] [] 1 qr (B:=Bool) (fun b=>((b,()),(()))) (fun a=>ie a.1.1))
theorem qfo:MdlOK Tryz.prog 32 sc:=ey Tryz.func32 rfl qjf .z s0
def qot:Shp:=⟨[(0, .d true .bool)],[]⟩
abbrev q41:Ctx (Bool):=⟨15,tt,false,false,[],em [(32,sc)],ew [],ca 15 tt [] [.tmp 4] qot (fun x=>x.1.1)⟩
theorem q40:CtxM Tryz.prog q41:=fa fits bt (mC qfo m0)
abbrev qqi:Mdl:=(bn (.cons (.d false ff.ty) (.cons (.d false qT1) .nil)) [] [] 1 qot (B:=Bool) (fun b=>((b,()),(()))) (fun a=>zb a.1.1 a.1.2.1))
theorem q04:MdlOK Tryz.prog 75 qqi:=ey Tryz.func75 rfl q40 .z s0
def qqj:Shp:=⟨[(0, .d true .bool)],[]⟩
abbrev q6y:Ctx (Bool):=⟨8,tt,false,false,[],em [(35,db)],ew [],ca 8 tt [] [.tmp 3] qqj (fun x=>x.1.1)⟩
theorem q6x:CtxM Tryz.prog q6y:=fa fits bt (mC di m0)
abbrev qrm:Mdl:=(bn (.cons (.d false ab.ty) (.cons (.rp false qT0) .nil)) [] [] 1 qqj (B:=Bool) (fun b=>((b,()),(()))) (fun a=>qiu a.1.1 a.1.2.1))
theorem q2a:MdlOK Tryz.prog 120 qrm:=ey Tryz.func120 rfl q6x .z s0
def lh:Shp:=⟨[(0, .d true qT0)],[]⟩
abbrev lx:Ctx (Int):=⟨19,tt,false,false,[],em [(120,qrm)],ew [aw _ 19 [] xw (C:=((List ab)×Int×Int)) (S:=Int) (fun x=>((x.1.1,x.1.2.1.1,x.1.2.2.1),x.1.2.2.2.1)) xu (CE:=Unit) (E:=Unit) (fun c e=>((()),(()))) (fun c=>()) (fun{R} c a nx dn rt=>d7 c.1 c.2.1 c.2.2 a nx dn rt)],ca 19 tt [] [.tmp 4] lh (fun x=>x.1.1)⟩
theorem lu:CtxM Tryz.prog lx:=fa fits bt (mC q2a m0)
theorem zn:bj Tryz.prog lx 0 (lc 0 Tryz.f83 37):=lp rfl lu .z s0 (fun c a=>((c.1,(c.2.1,()),c.2.2,a,()),(()))) (fun y=>((),()))
abbrev lw:Mdl:=(bn (.cons (.d false (.slice ab.ty)) (.cons (.fn 120 (.cons (.rp false qT0) .nil)) .nil)) [] [] 1 lh (B:=Int) (fun b=>((b,()),(()))) (fun a=>gl a.1.1 a.1.2.1.1))
theorem xx:MdlOK Tryz.prog 83 lw:=ey Tryz.func83 rfl lu (.two .z (.two (.two .z (.s 0)) .z)) (sC zn s0)
def j3:Shp:=⟨[(0, .d true .bool)],[]⟩
abbrev vj:Ctx (Bool):=⟨9,tt,false,false,[],em [(83,lw)],ew [],ca 9 tt [] [.tmp 4] j3 (fun x=>x.1.1)⟩
theorem vi:CtxM Tryz.prog vj:=fa fits bt (mC xx m0)
abbrev kd:Mdl:=(bn (.cons (.d false (.slice ab.ty)) (.cons (.fn 120 (.cons (.rp false qT0) .nil)) .nil)) [] [] 1 j3 (B:=Bool) (fun b=>((b,()),(()))) (fun a=>d6 a.1.1 a.1.2.1.1))
theorem tf:MdlOK Tryz.prog 39 kd:=ey Tryz.func39 rfl vi .z s0
def qsu:Shp:=⟨[(0, .d true .bool)],[]⟩
abbrev qve:Ctx (Bool):=⟨15,tt,false,false,[],em [(39,kd)],ew [aw _ 15 [] q6w (C:=(Int×Int×(List ab)×Int×Int)) (S:=Int) (fun x=>((x.1.2.1,x.2.1.1,x.2.1.2.1,x.2.1.2.2.1,x.2.1.2.2.2.1),x.1.2.2.1)) q6v (CE:=Unit) (E:=Unit) (fun c e=>((()),(()))) (fun c=>()) (fun{R} c a nx dn rt=>p7 c.1 c.2.1 c.2.2.1 c.2.2.2.1 c.2.2.2.2 a nx dn rt)],ca 15 tt [] [.tmp 2] qsu (fun x=>x.1.1)⟩
theorem qvc:CtxM Tryz.prog qve:=fa fits bt (mC tf m0)
theorem q8q:bj Tryz.prog qve 0 (lc 0 Tryz.f76 37):=lp rfl qvc .z s0 (fun c a=>(((),c.1,a,()),((c.2.1,c.2.2.1,c.2.2.2.1,c.2.2.2.2,()),()))) (fun y=>((),()))
abbrev qvd:Mdl:=(bn (.cons (.d false ff.ty) .nil) [] [] 1 qsu (B:=Bool) (fun b=>((b,()),(()))) (fun a=>z5 a.1.1))
theorem q6z:MdlOK Tryz.prog 76 qvd:=ey Tryz.func76 rfl qvc (.two .z (.two (.two .z (.s 0)) .z)) (sC q8q s0)
def qs6:Shp:=⟨[(0, .d true .bool)],[]⟩
abbrev jc7:Ctx (Bool):=⟨9,tt,false,false,[],em [],ew [],ca 9 tt [] [.tmp 2] qs6 (fun x=>x.1.1)⟩
theorem jc6:CtxM Tryz.prog jc7:=fa fits bt m0
abbrev qvz:Mdl:=(bn (.cons (.d false qT0) .nil) [] [] 1 qs6 (B:=Bool) (fun b=>((b,()),(()))) (fun a=>qpq a.1.1))
theorem q7b:MdlOK Tryz.prog 126 qvz:=ey Tryz.func126 rfl jc6 .z s0
def v6:Shp:=⟨[(0, .d true qT0)],[]⟩
abbrev x9:Ctx (Int):=⟨19,tt,false,false,[],em [(126,qvz)],ew [aw _ 19 [] qk9 (C:=(qL1×Int)) (S:=Int) (fun x=>((x.1.1,x.1.2.2.1),x.1.2.2.2.1)) qk8 (CE:=Unit) (E:=Unit) (fun c e=>((()),(()))) (fun c=>()) (fun{R} c a nx dn rt=>ij c.1 c.2 a nx dn rt)],ca 19 tt [] [.tmp 4] v6 (fun x=>x.1.1)⟩
theorem x7:CtxM Tryz.prog x9:=fa fits bt (mC q7b m0)
theorem qm8:bj Tryz.prog x9 0 (lc 0 Tryz.f79 37):=lp rfl x7 .z s0 (fun c a=>((c.1,(()),c.2,a,()),(()))) (fun y=>((),()))
abbrev x8:Mdl:=(bn (.cons (.d false qT1) (.cons (.fn 126 .nil) .nil)) [] [] 1 v6 (B:=Int) (fun b=>((b,()),(()))) (fun a=>ot a.1.1))
theorem qla:MdlOK Tryz.prog 79 x8:=ey Tryz.func79 rfl x7 (.two .z (.two (.two .z (.s 0)) .z)) (sC qm8 s0)
def qs:Shp:=⟨[(0, .d true .bool)],[]⟩
abbrev qji:Ctx (Bool):=⟨9,tt,false,false,[],em [(79,x8)],ew [],ca 9 tt [] [.tmp 4] qs (fun x=>x.1.1)⟩
theorem qjh:CtxM Tryz.prog qji:=fa fits bt (mC qla m0)
abbrev sd:Mdl:=(bn (.cons (.d false qT1) (.cons (.fn 126 .nil) .nil)) [] [] 1 qs (B:=Bool) (fun b=>((b,()),(()))) (fun a=>ig a.1.1))
theorem qfp:MdlOK Tryz.prog 32 sd:=ey Tryz.func32 rfl qjh .z s0
def qzo:Shp:=⟨[(0, .d true .bool)],[]⟩
abbrev jk3:Ctx (Bool):=⟨19,tt,false,false,[],em [(41,jw),(32,sd)],ew [],ca 19 tt [] [.tmp 4] qzo (fun x=>x.1.1)⟩
theorem jk2:CtxM Tryz.prog jk3:=fa fits bt (mC ir (mC qfp m0))
abbrev q2r:Mdl:=(bn (.cons (.d false ff.ty) (.cons (.d false qT1) .nil)) [] [] 1 qzo (B:=Bool) (fun b=>((b,()),(()))) (fun a=>qn2 a.1.1 a.1.2.1))
theorem jc8:MdlOK Tryz.prog 81 q2r:=ey Tryz.func81 rfl jk2 .z s0
def qs5:Shp:=⟨[(0, .d true .bool)],[]⟩
abbrev jc4:Ctx (Bool):=⟨9,tt,false,false,[],em [],ew [],ca 9 tt [] [.tmp 3] qs5 (fun x=>x.1.1)⟩
theorem jc3:CtxM Tryz.prog jc4:=fa fits bt m0
abbrev qvy:Mdl:=(bn (.cons (.d false qT0) (.cons (.rp false qT1) .nil)) [] [] 1 qs5 (B:=Bool) (fun b=>((b,()),(()))) (fun a=>qpp a.1.1 a.1.2.1))
theorem q7a:MdlOK Tryz.prog 127 qvy:=ey Tryz.func127 rfl jc3 .z s0
def v8:Shp:=⟨[(0, .d true qT0)],[]⟩
abbrev yc:Ctx (Int):=⟨19,tt,false,false,[],em [(127,qvy)],ew [aw _ 19 [] qlc (C:=(qL1×qL1×Int)) (S:=Int) (fun x=>((x.1.1,x.1.2.1.1,x.1.2.2.1),x.1.2.2.2.1)) qlb (CE:=Unit) (E:=Unit) (fun c e=>((()),(()))) (fun c=>()) (fun{R} c a nx dn rt=>il c.1 c.2.1 c.2.2 a nx dn rt)],ca 19 tt [] [.tmp 4] v8 (fun x=>x.1.1)⟩
theorem ya:CtxM Tryz.prog yc:=fa fits bt (mC q7a m0)
theorem qm9:bj Tryz.prog yc 0 (lc 0 Tryz.f79 37):=lp rfl ya .z s0 (fun c a=>((c.1,(c.2.1,()),c.2.2,a,()),(()))) (fun y=>((),()))
abbrev yb:Mdl:=(bn (.cons (.d false qT1) (.cons (.fn 127 (.cons (.rp false qT1) .nil)) .nil)) [] [] 1 v8 (B:=Int) (fun b=>((b,()),(()))) (fun a=>ou a.1.1 a.1.2.1.1))
theorem qld:MdlOK Tryz.prog 79 yb:=ey Tryz.func79 rfl ya (.two .z (.two (.two .z (.s 0)) .z)) (sC qm9 s0)
def qt:Shp:=⟨[(0, .d true .bool)],[]⟩
abbrev qjk:Ctx (Bool):=⟨9,tt,false,false,[],em [(79,yb)],ew [],ca 9 tt [] [.tmp 4] qt (fun x=>x.1.1)⟩
theorem qjj:CtxM Tryz.prog qjk:=fa fits bt (mC qld m0)
abbrev se:Mdl:=(bn (.cons (.d false qT1) (.cons (.fn 127 (.cons (.rp false qT1) .nil)) .nil)) [] [] 1 qt (B:=Bool) (fun b=>((b,()),(()))) (fun a=>l6 a.1.1 a.1.2.1.1))
theorem qfq:MdlOK Tryz.prog 32 se:=ey Tryz.func32 rfl qjj .z s0
def qzn:Shp:=⟨[(0, .d true .bool)],[]⟩
abbrev jk1:Ctx (Bool):=⟨10,tt,false,false,[],em [(32,se)],ew [],ca 10 tt [] [.tmp 4] qzn (fun x=>x.1.1)⟩
theorem jk0:CtxM Tryz.prog jk1:=fa fits bt (mC qfq m0)
abbrev q2q:Mdl:=(bn (.cons (.d false ab.ty) (.cons (.d false qT1) .nil)) [] [] 1 qzn (B:=Bool) (fun b=>((b,()),(()))) (fun a=>qn1 a.1.1 a.1.2.1))
theorem jc5:MdlOK Tryz.prog 82 q2q:=ey Tryz.func82 rfl jk0 .z s0
def qzk:Shp:=⟨[(0, .nl false (.own 0)),(1, .d true qT0)],[.arr 3 (.fz true) [0] qT0]⟩
abbrev q2o:Ctx ((Int×qL1)):=⟨30,tt,false,false,[],em [(81,q2r),(82,q2q)],ew [aw _ 30 [] jcx (C:=(qL1×(List ab)×Int)) (S:=(Int×qL1)) (fun x=>((x.1.1,x.1.2.2.1,x.1.2.2.2.1),(x.1.2.2.2.2.1,x.2.1))) jcw (CE:=Unit) (E:=qL1) (fun c e=>(((),()),(e,()))) (fun c=>()) (fun{R} c a nx dn rt=>vb c.1 c.2.1 c.2.2 a.1 a.2 nx dn rt)],ca 30 tt [] [.tmp 4, .tmp 5] qzk (fun x=>(x.1.2.1,x.2.1))⟩
theorem q2m:CtxM Tryz.prog q2o:=fa fits bt (mC jc8 (mC jc5 m0))
theorem jgz:bj Tryz.prog q2o 0 (lc 0 Tryz.f37 151):=lp rfl q2m .z s0 (fun c a=>((c.1,(),c.2.1,c.2.2,a.1,()),(a.2,()))) (fun y=>((),y.2.1))
abbrev q2n:Mdl:=(bn (.cons (.d false ff.ty) (.cons (.d false qT1) .nil)) [] [] 2 qzk (B:=(Int×qL1)) (fun b=>(((),b.1,()),(b.2,()))) (fun a=>qn0 a.1.1 a.1.2.1))
theorem jcy:MdlOK Tryz.prog 37 q2n:=ey Tryz.func37 rfl q2m (.two .z (.two .z (.two .z (.two (.two .z (.s 0)) .z)))) (sC jgz s0)
def q34:Shp:=⟨[(0, .d true .bool)],[]⟩
abbrev jni:Ctx (Bool):=⟨15,tt,false,false,[],em [(37,q2n)],ew [],ca 15 tt [] [.tmp 4] q34 (fun x=>x.1.1)⟩
theorem jnh:CtxM Tryz.prog jni:=fa fits bt (mC jcy m0)
abbrev q6h:Mdl:=(bn (.cons (.d false ff.ty) (.cons (.d false qT1) .nil)) [] [] 1 q34 (B:=Bool) (fun b=>((b,()),(()))) (fun a=>qq4 a.1.1 a.1.2.1))
theorem jh9:MdlOK Tryz.prog 121 q6h:=ey Tryz.func121 rfl jnh .z s0
def q6d:Shp:=⟨[(0, .d true qT1),(1, .d true qT1)],[]⟩
abbrev jqk:Ctx ((qL1×qL1)):=⟨15,tt,false,false,[],em [],ew [],ca 15 tt [] [.tmp 4, .tmp 5] q6d (fun x=>(x.1.1,x.1.2.1))⟩
theorem jqj:CtxM Tryz.prog jqk:=fa fits bt m0
abbrev qyo:Mdl:=(bn (.cons (.d true ab.ty) (.cons (.d false .bool) .nil)) [] [] 2 q6d (B:=(qL1×qL1)) (fun b=>((b.1,b.2,()),(()))) (fun a=>qo2 a.1.1 a.1.2.1))
theorem q3z:MdlOK Tryz.prog 156 qyo:=ey Tryz.func156 rfl jqj (.two .z (.two (.two .z (.two (.two (.d [0,1,0,4,3,31] [] []) .z) .z)) (.two (.d [0,1,0,4,3,31] [] []) .z))) s0
def qwk:Shp:=⟨[(0, .d true .bool)],[]⟩
abbrev jh8:Ctx (Bool):=⟨7,tt,false,false,[],em [(35,db)],ew [],ca 7 tt [] [.tmp 3] qwk (fun x=>x.1.1)⟩
theorem jh7:CtxM Tryz.prog jh8:=fa fits bt (mC di m0)
abbrev q0d:Mdl:=(bn (.cons (.d false qT0) (.cons (.rp false qT1) .nil)) [] [] 1 qwk (B:=Bool) (fun b=>((b,()),(()))) (fun a=>qr1 a.1.1 a.1.2.1))
theorem jar:MdlOK Tryz.prog 181 q0d:=ey Tryz.func181 rfl jh7 .z s0
def wl:Shp:=⟨[(0, .d true qT0)],[]⟩
abbrev yz:Ctx (Int):=⟨19,tt,false,false,[],em [(181,q0d)],ew [aw _ 19 [] qlx (C:=(qL1×qL1×Int)) (S:=Int) (fun x=>((x.1.1,x.1.2.1.1,x.1.2.2.1),x.1.2.2.2.1)) qlw (CE:=Unit) (E:=Unit) (fun c e=>((()),(()))) (fun c=>()) (fun{R} c a nx dn rt=>ip c.1 c.2.1 c.2.2 a nx dn rt)],ca 19 tt [] [.tmp 4] wl (fun x=>x.1.1)⟩
theorem yw:CtxM Tryz.prog yz:=fa fits bt (mC jar m0)
theorem qnk:bj Tryz.prog yz 0 (lc 0 Tryz.f79 37):=lp rfl yw .z s0 (fun c a=>((c.1,(c.2.1,()),c.2.2,a,()),(()))) (fun y=>((),()))
abbrev yx:Mdl:=(bn (.cons (.d false qT1) (.cons (.fn 181 (.cons (.rp false qT1) .nil)) .nil)) [] [] 1 wl (B:=Int) (fun b=>((b,()),(()))) (fun a=>ow a.1.1 a.1.2.1.1))
theorem qly:MdlOK Tryz.prog 79 yx:=ey Tryz.func79 rfl yw (.two .z (.two (.two .z (.s 0)) .z)) (sC qnk s0)
def qz:Shp:=⟨[(0, .d true .bool)],[]⟩
abbrev qjw:Ctx (Bool):=⟨9,tt,false,false,[],em [(79,yx)],ew [],ca 9 tt [] [.tmp 4] qz (fun x=>x.1.1)⟩
theorem qjv:CtxM Tryz.prog qjw:=fa fits bt (mC qly m0)
abbrev sn:Mdl:=(bn (.cons (.d false qT1) (.cons (.fn 181 (.cons (.rp false qT1) .nil)) .nil)) [] [] 1 qz (B:=Bool) (fun b=>((b,()),(()))) (fun a=>l9 a.1.1 a.1.2.1.1))
theorem qfw:MdlOK Tryz.prog 32 sn:=ey Tryz.func32 rfl qjv .z s0
def q33:Shp:=⟨[(0, .d true .bool)],[]⟩
abbrev jng:Ctx (Bool):=⟨8,tt,false,false,[],em [(32,sn)],ew [],ca 8 tt [] [.tmp 4] q33 (fun x=>x.1.1)⟩
theorem jnf:CtxM Tryz.prog jng:=fa fits bt (mC qfw m0)
abbrev quc:Mdl:=(bn (.cons (.d false qT1) (.cons (.d false qT1) .nil)) [] [] 1 q33 (B:=Bool) (fun b=>((b,()),(()))) (fun a=>qc9 a.1.1 a.1.2.1))
theorem q0e:MdlOK Tryz.prog 157 quc:=ey Tryz.func157 rfl jnf .z s0
def qtg:Shp:=⟨[(0, .d true .bool)],[]⟩
abbrev jee:Ctx (Bool):=⟨22,tt,false,false,[],em [(156,qyo),(157,quc)],ew [],ca 22 tt [] [.tmp 4] qtg (fun x=>x.1.1)⟩
theorem jed:CtxM Tryz.prog jee:=fa fits bt (mC q3z (mC q0e m0))
abbrev qwh:Mdl:=(bn (.cons (.d false ab.ty) (.cons (.rp false .bool) (.cons (.rp false qT1) .nil))) [] [] 1 qtg (B:=Bool) (fun b=>((b,()),(()))) (fun a=>qfg a.1.1 a.1.2.1 a.1.2.2.1))
theorem q7g:MdlOK Tryz.prog 180 qwh:=ey Tryz.func180 rfl jed .z s0
def lj:Shp:=⟨[(0, .d true qT0)],[]⟩
abbrev l0:Ctx (Int):=⟨19,tt,false,false,[],em [(180,qwh)],ew [aw _ 19 [] xz (C:=((List ab)×Bool×qL1×Int)) (S:=Int) (fun x=>((x.1.1,x.1.2.1.1,x.1.2.1.2.1,x.1.2.2.1),x.1.2.2.2.1)) xy (CE:=Unit) (E:=Unit) (fun c e=>((()),(()))) (fun c=>()) (fun{R} c a nx dn rt=>d8 c.1 c.2.1 c.2.2.1 c.2.2.2 a nx dn rt)],ca 19 tt [] [.tmp 4] lj (fun x=>x.1.1)⟩
theorem ly:CtxM Tryz.prog l0:=fa fits bt (mC q7g m0)
theorem zo:bj Tryz.prog l0 0 (lc 0 Tryz.f83 37):=lp rfl ly .z s0 (fun c a=>((c.1,(c.2.1,c.2.2.1,()),c.2.2.2,a,()),(()))) (fun y=>((),()))
abbrev lz:Mdl:=(bn (.cons (.d false (.slice ab.ty)) (.cons (.fn 180 (.cons (.rp false .bool) (.cons (.rp false qT1) .nil))) .nil)) [] [] 1 lj (B:=Int) (fun b=>((b,()),(()))) (fun a=>gm a.1.1 a.1.2.1.1 a.1.2.1.2.1))
theorem x0:MdlOK Tryz.prog 83 lz:=ey Tryz.func83 rfl ly (.two .z (.two (.two .z (.s 0)) .z)) (sC zo s0)
def j4:Shp:=⟨[(0, .d true .bool)],[]⟩
abbrev vm:Ctx (Bool):=⟨9,tt,false,false,[],em [(83,lz)],ew [],ca 9 tt [] [.tmp 4] j4 (fun x=>x.1.1)⟩
theorem vk:CtxM Tryz.prog vm:=fa fits bt (mC x0 m0)
abbrev kf:Mdl:=(bn (.cons (.d false (.slice ab.ty)) (.cons (.fn 180 (.cons (.rp false .bool) (.cons (.rp false qT1) .nil))) .nil)) [] [] 1 j4 (B:=Bool) (fun b=>((b,()),(()))) (fun a=>f8 a.1.1 a.1.2.1.1 a.1.2.1.2.1))
theorem th:MdlOK Tryz.prog 39 kf:=ey Tryz.func39 rfl vk .z s0
def q0b:Shp:=⟨[(0, .d true .bool)],[]⟩
abbrev jlv:Ctx (Bool):=⟨12,tt,false,false,[],em [(39,kf)],ew [],ca 12 tt [] [.tmp 6] q0b (fun x=>x.1.1)⟩
theorem jlu:CtxM Tryz.prog jlv:=fa fits bt (mC th m0)
abbrev q3y:Mdl:=(bn (.cons (.d false ff.ty) (.cons (.d false qT1) (.cons (.d false .bool) .nil))) [] [] 1 q0b (B:=Bool) (fun b=>((b,()),(()))) (fun a=>qoc a.1.1 a.1.2.1 a.1.2.2.1))
theorem jef:MdlOK Tryz.prog 155 q3y:=ey Tryz.func155 rfl jlu .z s0
def qqn:Shp:=⟨[(0, .d true .bool)],[]⟩
abbrev q7m:Ctx (Bool):=⟨7,tt,false,false,[],em [(35,db)],ew [],ca 7 tt [] [.tmp 3] qqn (fun x=>x.1.1)⟩
theorem q7l:CtxM Tryz.prog q7m:=fa fits bt (mC di m0)
abbrev qfn:Mdl:=(bn (.cons (.d false qT0) (.cons (.rp false qT1) .nil)) [] [] 1 qqn (B:=Bool) (fun b=>((b,()),(()))) (fun a=>r0 a.1.1 a.1.2.1))
theorem qo3:MdlOK Tryz.prog 159 qfn:=ey Tryz.func159 rfl q7l .z s0
def wh:Shp:=⟨[(0, .d true qT0)],[]⟩
abbrev yr:Ctx (Int):=⟨19,tt,false,false,[],em [(159,qfn)],ew [aw _ 19 [] qlr (C:=(qL1×qL1×Int)) (S:=Int) (fun x=>((x.1.1,x.1.2.1.1,x.1.2.2.1),x.1.2.2.2.1)) qlq (CE:=Unit) (E:=Unit) (fun c e=>((()),(()))) (fun c=>()) (fun{R} c a nx dn rt=>io c.1 c.2.1 c.2.2 a nx dn rt)],ca 19 tt [] [.tmp 4] wh (fun x=>x.1.1)⟩
theorem yp:CtxM Tryz.prog yr:=fa fits bt (mC qo3 m0)
theorem qnh:bj Tryz.prog yr 0 (lc 0 Tryz.f79 37):=lp rfl yp .z s0 (fun c a=>((c.1,(c.2.1,()),c.2.2,a,()),(()))) (fun y=>((),()))
abbrev yq:Mdl:=(bn (.cons (.d false qT1) (.cons (.fn 159 (.cons (.rp false qT1) .nil)) .nil)) [] [] 1 wh (B:=Int) (fun b=>((b,()),(()))) (fun a=>jx a.1.1 a.1.2.1.1))
theorem qls:MdlOK Tryz.prog 79 yq:=ey Tryz.func79 rfl yp (.two .z (.two (.two .z (.s 0)) .z)) (sC qnh s0)
def tv:Shp:=⟨[(0, .own 0)],[.arr 3 (.fz true) [0] qT0]⟩
abbrev vx:Ctx (qL1):=⟨42,tt,false,false,[false],em [(79,yq),(159,qfn)],ew [aw _ 42 [false] qjy (C:=qL1) (S:=(Int×Int×qL1)) (fun x=>(x.1.2.1.1,(x.1.2.2.1,x.1.2.2.2.1,x.2.1))) qjx (CE:=Unit) (E:=(Int×qL1)) (fun c e=>(((),e.1,()),(e.2,()))) (fun c=>()) (fun{R} c a nx dn rt=>fb c a.1 a.2.1 a.2.2 nx dn rt)],ca 42 tt [false] [.tmp 4] tv (fun x=>x.2.1)⟩
theorem vp:CtxM Tryz.prog vx:=fa fits bt (mC qls (mC qo3 m0))
theorem qk4:bj Tryz.prog vx 0 (lc 0 Tryz.f158 151):=lp rfl vp .z s0 (fun c a=>(((),(c,()),a.1,a.2.1,()),(a.2.2,()))) (fun y=>((),(y.1.2.1,y.2.1)))
abbrev vq:Mdl:=(bn (.cons (.own 0) (.cons (.fn 159 (.cons (.rp false qT1) .nil)) .nil)) [.arr 3 (.fz true) [0] qT0] [false] 1 tv (B:=qL1) (fun b=>(((),()),(b,()))) (fun a=>jq a.1.2.1.1 a.2.1))
theorem qjz:MdlOK Tryz.prog 158 vq:=ey Tryz.func158 rfl vp (.two .z (.two .z (.two .z (.two (.two .z (.s 0)) .z)))) (sC qk4 s0)
def qtj:Shp:=⟨[(0, .own 0)],[.arr 3 (.fz true) [0] qT0]⟩
abbrev qm5:Ctx (qL1):=⟨44,tt,false,false,[],em [(45,gk),(155,q3y),(156,qyo),(157,quc),(158,vq)],ew [aw _ 44 [] q7i (C:=(Bool×(List ab)×Int×Int×(List ab)×Int×Int)) (S:=(Int×qL1)) (fun x=>((x.1.1,x.1.2.2.2.1,x.1.2.2.2.2.1,x.2.1.1,x.2.1.2.1,x.2.1.2.2.1,x.2.1.2.2.2.1),(x.1.2.2.2.2.2.1,x.2.2.1))) q7h (CE:=(Bool×Int×(List ab)×Int×Int)) (E:=qL1) (fun c e=>((c.1,(),(),()),((c.2.1,c.2.2.1,c.2.2.2.1,c.2.2.2.2,()),e,()))) (fun c=>(c.1,c.2.2.2.1,c.2.2.2.2.1,c.2.2.2.2.2.1,c.2.2.2.2.2.2)) (fun{R} c a nx dn rt=>zj c.1 c.2.1 c.2.2.1 c.2.2.2.1 c.2.2.2.2.1 c.2.2.2.2.2.1 c.2.2.2.2.2.2 a.1 a.2 nx dn rt),aw _ 44 [] q7k (C:=(Bool×Int×(List ab)×Int×Int)) (S:=qL1) (fun x=>((x.1.1,x.2.1.1,x.2.1.2.1,x.2.1.2.2.1,x.2.1.2.2.2.1),x.2.2.1)) q7j (CE:=Unit) (E:=qL1) (fun c e=>(((),()),(e,()))) (fun c=>()) (fun{R} c a nx dn rt=>zk c.1 c.2.1 c.2.2.1 c.2.2.2.1 c.2.2.2.2 a nx dn rt)],ca 44 tt [] [.tmp 6] qtj (fun x=>x.2.1)⟩
theorem qm4:CtxM Tryz.prog qm5:=fa fits bt (mC g9 (mC jef (mC q3z (mC q0e (mC qjz m0)))))
theorem jap:bj Tryz.prog qm5 0 (lc 2 Tryz.f123 1187):=lp rfl qm4 .z s0 (fun c a=>((c.1,(),(),c.2.1,c.2.2.1,a.1,()),((c.2.2.2.1,c.2.2.2.2.1,c.2.2.2.2.2.1,c.2.2.2.2.2.2,()),a.2,()))) (fun y=>((y.1.1,y.2.1.1,y.2.1.2.1,y.2.1.2.2.1,y.2.1.2.2.2.1),y.2.2.1))
theorem jaq:bj Tryz.prog qm5 1 (lc 0 Tryz.f123 35):=lp rfl qm4 (.two .z (.one (.two .z (.s 0)))) (sC jap s0) (fun c a=>((c.1,(),(),()),((c.2.1,c.2.2.1,c.2.2.2.1,c.2.2.2.2,()),a,()))) (fun y=>((),y.2.1))
abbrev qwi:Mdl:=(bn (.cons (.d false ff.ty) (.cons (.d false qT1) (.cons (.d false .bool) .nil))) [] [] 1 qtj (B:=qL1) (fun b=>(((),()),(b,()))) (fun a=>rq a.1.1 a.1.2.1 a.1.2.2.1))
theorem q7n:MdlOK Tryz.prog 123 qwi:=ey Tryz.func123 rfl qm4 (.two .z (.two .z (.two (.s 1) .z))) (sC jaq s0)
def qtk:Shp:=⟨[(0, .d true .bool)],[]⟩
abbrev jeh:Ctx (Bool):=⟨9,tt,false,false,[],em [],ew [],ca 9 tt [] [.tmp 3] qtk (fun x=>x.1.1)⟩
theorem jeg:CtxM Tryz.prog jeh:=fa fits bt m0
abbrev qwj:Mdl:=(bn (.cons (.d false qT0) (.cons (.rp false qT1) .nil)) [] [] 1 qtk (B:=Bool) (fun b=>((b,()),(()))) (fun a=>qpy a.1.1 a.1.2.1))
theorem q7o:MdlOK Tryz.prog 154 qwj:=ey Tryz.func154 rfl jeg .z s0
def we:Shp:=⟨[(0, .d true qT0)],[]⟩
abbrev yo:Ctx (Int):=⟨19,tt,false,false,[],em [(154,qwj)],ew [aw _ 19 [] qlo (C:=(qL1×qL1×Int)) (S:=Int) (fun x=>((x.1.1,x.1.2.1.1,x.1.2.2.1),x.1.2.2.2.1)) qln (CE:=Unit) (E:=Unit) (fun c e=>((()),(()))) (fun c=>()) (fun{R} c a nx dn rt=>im c.1 c.2.1 c.2.2 a nx dn rt)],ca 19 tt [] [.tmp 4] we (fun x=>x.1.1)⟩
theorem ym:CtxM Tryz.prog yo:=fa fits bt (mC q7o m0)
theorem qng:bj Tryz.prog yo 0 (lc 0 Tryz.f79 37):=lp rfl ym .z s0 (fun c a=>((c.1,(c.2.1,()),c.2.2,a,()),(()))) (fun y=>((),()))
abbrev yn:Mdl:=(bn (.cons (.d false qT1) (.cons (.fn 154 (.cons (.rp false qT1) .nil)) .nil)) [] [] 1 we (B:=Int) (fun b=>((b,()),(()))) (fun a=>ov a.1.1 a.1.2.1.1))
theorem qlp:MdlOK Tryz.prog 79 yn:=ey Tryz.func79 rfl ym (.two .z (.two (.two .z (.s 0)) .z)) (sC qng s0)
def qx:Shp:=⟨[(0, .d true .bool)],[]⟩
abbrev qjs:Ctx (Bool):=⟨9,tt,false,false,[],em [(79,yn)],ew [],ca 9 tt [] [.tmp 4] qx (fun x=>x.1.1)⟩
theorem qjr:CtxM Tryz.prog qjs:=fa fits bt (mC qlp m0)
abbrev sk:Mdl:=(bn (.cons (.d false qT1) (.cons (.fn 154 (.cons (.rp false qT1) .nil)) .nil)) [] [] 1 qx (B:=Bool) (fun b=>((b,()),(()))) (fun a=>l8 a.1.1 a.1.2.1.1))
theorem qfu:MdlOK Tryz.prog 32 sk:=ey Tryz.func32 rfl qjr .z s0
def q0c:Shp:=⟨[(0, .d true .bool)],[]⟩
abbrev jlx:Ctx (Bool):=⟨8,tt,false,false,[],em [(32,sk)],ew [],ca 8 tt [] [.tmp 4] q0c (fun x=>x.1.1)⟩
theorem jlw:CtxM Tryz.prog jlx:=fa fits bt (mC qfu m0)
abbrev q30:Mdl:=(bn (.cons (.d false qT1) (.cons (.d false qT1) .nil)) [] [] 1 q0c (B:=Bool) (fun b=>((b,()),(()))) (fun a=>qod a.1.1 a.1.2.1))
theorem jei:MdlOK Tryz.prog 122 q30:=ey Tryz.func122 rfl jlw .z s0
def qte:Shp:=⟨[(0, .d true .bool),(1, .d true qT1),(2, .d true qT0)],[]⟩
abbrev qwd:Ctx ((Bool×qL1×Int)):=⟨37,tt,false,false,[],em [(121,q6h),(64,qpw),(123,qwi),(122,q30)],ew [aw _ 37 [] q7e (C:=(qL1×qL2×Int×Int×(List ab)×Int×Int)) (S:=Int) (fun x=>((x.1.1,x.1.2.2.1,x.1.2.2.2.1,x.2.1.1,x.2.1.2.1,x.2.1.2.2.1,x.2.1.2.2.2.1),x.1.2.2.2.2.1)) q7d (CE:=Unit) (E:=Unit) (fun c e=>((()),(()))) (fun c=>()) (fun{R} c a nx dn rt=>zi c.1 c.2.1 c.2.2.1 c.2.2.2.1 c.2.2.2.2.1 c.2.2.2.2.2.1 c.2.2.2.2.2.2 a nx dn rt)],ca 37 tt [] [.tmp 4, .tmp 5, .tmp 6] qte (fun x=>(x.1.1,x.1.2.1,x.1.2.2.1))⟩
theorem qwb:CtxM Tryz.prog qwd:=fa fits bt (mC jh9 (mC qtf (mC q7n (mC jei m0))))
theorem jai:bj Tryz.prog qwd 0 (lc 0 Tryz.f77 303):=lp rfl qwb .z s0 (fun c a=>((c.1,(),c.2.1,c.2.2.1,a,()),((c.2.2.2.1,c.2.2.2.2.1,c.2.2.2.2.2.1,c.2.2.2.2.2.2,()),()))) (fun y=>((),()))
abbrev qwc:Mdl:=(bn (.cons (.d false ff.ty) (.cons (.d false qT1) .nil)) [] [] 3 qte (B:=(Bool×qL1×Int)) (fun b=>((b.1,b.2.1,b.2.2,()),(()))) (fun a=>qff a.1.1 a.1.2.1))
theorem q7f:MdlOK Tryz.prog 77 qwc:=ey Tryz.func77 rfl qwb (.two .z (.two .z (.two .z (.two .z (.two (.two .z (.s 0)) .z))))) (sC jai s0)
def qsr:Shp:=⟨[(0, .d true .bool),(1, .d true qT1),(2, .d true qT0)],[]⟩
abbrev jb9:Ctx ((Bool×qL1×Int)):=⟨32,tt,false,false,[],em [(41,jw),(75,qqi),(42,p6),(76,qvd),(77,qwc)],ew [],ca 32 tt [] [.tmp 4, .tmp 5, .tmp 6] qsr (fun x=>(x.1.1,x.1.2.1,x.1.2.2.1))⟩
theorem jb8:CtxM Tryz.prog jb9:=fa fits bt (mC ir (mC q04 (mC rx (mC q6z (mC q7f m0)))))
abbrev qu0:Mdl:=(bn (.cons (.d false ff.ty) (.cons (.d false qT1) .nil)) [] [] 3 qsr (B:=(Bool×qL1×Int)) (fun b=>((b.1,b.2.1,b.2.2,()),(()))) (fun a=>qe7 a.1.1 a.1.2.1))
theorem q6u:MdlOK Tryz.prog 29 qu0:=ey Tryz.func29 rfl jb8 .z s0
def qzv:Shp:=⟨[(0, .d true .bool)],[]⟩
abbrev q25:Ctx (Bool):=⟨29,tt,false,false,[],em [],ew [aw _ 29 [] jdn (C:=qL1) (S:=Int) (fun x=>(x.1.1,x.1.2.1)) jdm (CE:=Unit) (E:=Unit) (fun c e=>((()),(()))) (fun c=>()) (fun{R} c a nx dn rt=>qc4 c a nx dn rt)],ca 29 tt [] [.tmp 4] qzv (fun x=>x.1.1)⟩
theorem q23:CtxM Tryz.prog q25:=fa fits bt m0
theorem jhe:bj Tryz.prog q25 0 (lc 0 Tryz.f31 75):=lp rfl q23 .z s0 (fun c a=>((c,a,()),(()))) (fun y=>((),()))
abbrev q24:Mdl:=(bn (.cons (.d false ff.ty) (.cons (.d false qT1) .nil)) [] [] 1 qzv (B:=Bool) (fun b=>((b,()),(()))) (fun a=>qn4 a.1.1 a.1.2.1))
theorem jdo:MdlOK Tryz.prog 31 q24:=ey Tryz.func31 rfl q23 (.two .z (.two .z (.two (.two .z (.s 0)) .z))) (sC jhe s0)
def q96:Shp:=⟨[(0, .nl false (.own 0))],[.arr 3 (.fz true) [0] qT0]⟩
abbrev jsp:Ctx (qL1):=⟨9,tt,false,false,[],em [(70,q27),(151,qua)],ew [],ca 9 tt [] [.tmp 4] q96 (fun x=>x.2.1)⟩
theorem jso:CtxM Tryz.prog jsp:=fa fits bt (mC jdr (mC qz6 m0))
abbrev jfj:Mdl:=(bn (.cons (.d false ff.ty) (.cons (.d false qT1) .nil)) [] [] 1 q96 (B:=qL1) (fun b=>(((),()),(b,()))) (fun a=>qm2 a.1.1 a.1.2.1))
theorem jmz:MdlOK Tryz.prog 125 jfj:=ey Tryz.func125 rfl jso .z s0
def q3c:Shp:=⟨[(0, .d true .bool)],[]⟩
abbrev q55:Ctx (Bool):=⟨20,tt,false,false,[],em [],ew [aw _ 20 [] jhk (C:=(qL1×qL1)) (S:=Int) (fun x=>((x.1.1,x.1.2.1),x.1.2.2.1)) jhj (CE:=Unit) (E:=Unit) (fun c e=>((()),(()))) (fun c=>()) (fun{R} c a nx dn rt=>qe9 c.1 c.2 a nx dn rt)],ca 20 tt [] [.tmp 4] q3c (fun x=>x.1.1)⟩
theorem q53:CtxM Tryz.prog q55:=fa fits bt m0
theorem jle:bj Tryz.prog q55 0 (lc 0 Tryz.f124 37):=lp rfl q53 .z s0 (fun c a=>((c.1,c.2,a,()),(()))) (fun y=>((),()))
abbrev q54:Mdl:=(bn (.cons (.d false qT1) (.cons (.d false qT1) .nil)) [] [] 1 q3c (B:=Bool) (fun b=>((b,()),(()))) (fun a=>qq2 a.1.1 a.1.2.1))
theorem jhl:MdlOK Tryz.prog 124 q54:=ey Tryz.func124 rfl q53 (.two .z (.two (.two .z (.s 0)) .z)) (sC jle s0)
def qv5:Shp:=⟨[(0, .d true .bool),(1, .d true qT1),(2, .d true qT0)],[]⟩
abbrev qz1:Ctx ((Bool×qL1×Int)):=⟨37,tt,false,false,[],em [(67,q3d),(125,jfj),(124,q54)],ew [aw _ 37 [] q92 (C:=(qL1×qL2×Int×(List ab)×Int×Int)) (S:=Int) (fun x=>((x.1.1,x.1.2.2.1,x.2.1.1,x.2.1.2.1,x.2.1.2.2.1,x.2.1.2.2.2.1),x.1.2.2.2.1)) q91 (CE:=Unit) (E:=Unit) (fun c e=>((()),(()))) (fun c=>()) (fun{R} c a nx dn rt=>qa5 c.1 c.2.1 c.2.2.1 c.2.2.2.1 c.2.2.2.2.1 c.2.2.2.2.2 a nx dn rt)],ca 37 tt [] [.tmp 4, .tmp 5, .tmp 6] qv5 (fun x=>(x.1.1,x.1.2.1,x.1.2.2.1))⟩
theorem qzz:CtxM Tryz.prog qz1:=fa fits bt (mC jd0 (mC jmz (mC jhl m0)))
theorem jds:bj Tryz.prog qz1 0 (lc 0 Tryz.f78 151):=lp rfl qzz (.two .z (.two (.one (.two (.d [0,0,0,0,12,28,62,127,255] [] []) (.two (.two (.d [0,0,3,7,0,31,63] [] []) .z) .z))) .z)) s0 (fun c a=>((c.1,(),c.2.1,a,()),((c.2.2.1,c.2.2.2.1,c.2.2.2.2.1,c.2.2.2.2.2,()),()))) (fun y=>((),()))
abbrev qz0:Mdl:=(bn (.cons (.d false ff.ty) (.cons (.d false qT1) .nil)) [] [] 3 qv5 (B:=(Bool×qL1×Int)) (fun b=>((b.1,b.2.1,b.2.2,()),(()))) (fun a=>qi7 a.1.1 a.1.2.1))
theorem q93:MdlOK Tryz.prog 78 qz0:=ey Tryz.func78 rfl qzz (.two .z (.two .z (.two .z (.two (.two .z (.s 0)) .z)))) (sC jds s0)
def jad:Shp:=⟨[(0, .d true .bool),(1, .d true qT1),(2, .d true qT0)],[]⟩
abbrev q3q:Ctx ((Bool×qL1×Int)):=⟨54,tt,false,false,[],em [(15,q9y),(31,q24),(16,jod),(68,qrw),(78,qz0)],ew [aw _ 54 [] jm7 (C:=(qL1×Int×Int×(List ab)×Int×Int)) (S:=(Bool×Int)) (fun x=>((x.1.1,x.1.2.2.1,x.2.1.1,x.2.1.2.1,x.2.1.2.2.1,x.2.1.2.2.2.1),(x.1.2.2.2.1,x.1.2.2.2.2.1))) jm6 (CE:=(qL1×Int×Int×(List ab)×Int×Int)) (E:=Bool) (fun c e=>((c.1,(),c.2.1,e,()),((c.2.2.1,c.2.2.2.1,c.2.2.2.2.1,c.2.2.2.2.2,()),()))) (fun c=>(c.1,c.2.1,c.2.2.1,c.2.2.2.1,c.2.2.2.2.1,c.2.2.2.2.2)) (fun{R} c a nx dn rt=>qeu c.1 c.2.1 c.2.2.1 c.2.2.2.1 c.2.2.2.2.1 c.2.2.2.2.2 a.1 a.2 nx dn rt),aw _ 54 [] jm9 (C:=(qL1×Int×(List ab)×Int×Int)) (S:=Int) (fun x=>((x.1.1,x.2.1.1,x.2.1.2.1,x.2.1.2.2.1,x.2.1.2.2.2.1),x.1.2.2.1)) jm8 (CE:=(qL1×Int×(List ab)×Int×Int)) (E:=Unit) (fun c e=>((c.1,(),()),((c.2.1,c.2.2.1,c.2.2.2.1,c.2.2.2.2,()),()))) (fun c=>(c.1,c.2.1,c.2.2.1,c.2.2.2.1,c.2.2.2.2)) (fun{R} c a nx dn rt=>qev c.1 c.2.1 c.2.2.1 c.2.2.2.1 c.2.2.2.2 a nx dn rt)],ca 54 tt [] [.tmp 4, .tmp 5, .tmp 6] jad (fun x=>(x.1.1,x.1.2.1,x.1.2.2.1))⟩
theorem q3p:CtxM Tryz.prog q3q:=fa fits bt (mC jlc (mC jdo (mC jsu (mC qq1 (mC q93 m0)))))
theorem jqa:bj Tryz.prog q3q 0 (lc 2 Tryz.f30 38039):=lp rfl q3p .z s0 (fun c a=>((c.1,(),c.2.1,a.1,a.2,()),((c.2.2.1,c.2.2.2.1,c.2.2.2.2.1,c.2.2.2.2.2,()),()))) (fun y=>((y.1.1,y.1.2.2.1,y.2.1.1,y.2.1.2.1,y.2.1.2.2.1,y.2.1.2.2.2.1),y.1.2.2.2.1))
theorem jqb:bj Tryz.prog q3q 1 (lc 0 Tryz.f30 151):=lp rfl q3p (.two .z (.two (.one (.two .z (.two (.two .z (.s 0)) .z))) .z)) (sC jqa s0) (fun c a=>((c.1,(),a,()),((c.2.1,c.2.2.1,c.2.2.2.1,c.2.2.2.2,()),()))) (fun y=>((y.1.1,y.2.1.1,y.2.1.2.1,y.2.1.2.2.1,y.2.1.2.2.2.1),()))
abbrev jfq:Mdl:=(bn (.cons (.d false ff.ty) (.cons (.d false qT1) .nil)) [] [] 3 jad (B:=(Bool×qL1×Int)) (fun b=>((b.1,b.2.1,b.2.2,()),(()))) (fun a=>qyk a.1.1 a.1.2.1))
theorem jna:MdlOK Tryz.prog 30 jfq:=ey Tryz.func30 rfl q3p (.two .z (.two .z (.two .z (.two (.two .z (.s 1)) .z)))) (sC jqb s0)
def qgu:Shp:=⟨[(0, .d true .bool)],[]⟩
abbrev qye:Ctx (Bool):=⟨47,tt,false,false,[],em [(8,q8z),(9,q80),(29,qu0),(30,jfq),(26,qm)],ew [],ca 47 tt [] [.tmp 4] qgu (fun x=>x.1.1)⟩
theorem qyc:CtxM Tryz.prog qye:=fa fits bt (mC jj5 (mC jj8 (mC q6u (mC jna (mC vy m0)))))
abbrev qyd:Mdl:=(bn (.cons (.d true ff.ty) (.cons (.d true qT1) .nil)) [] [] 1 qgu (B:=Bool) (fun b=>((b,()),(()))) (fun a=>qau a.1.1 a.1.2.1))
theorem qt1:MdlOK Tryz.prog 6 qyd:=ey Tryz.func6 rfl qyc .z s0
end
end Go.Proofs.YtclbndfjhjladaaGreat
