/-
  The functions compute what their models say. Made by program (mg3.py) out of the translation.
-/
import Derived.Test.YtclbndfjhjladaaGreatZ3Md
import Derived.Test.YtclbndfjhjladaaGreatZ3Tt
set_option linter.all false
set_option maxRecDepth 100000
namespace Go.Proofs.YtclbndfjhjladaaGreat
open Go.K Go.M
def q1a3:Shp:=⟨[(0,.d true Trans.ty)],[.arr 0 (.fz true) [] qT0,.arr 0 (.fz true) [] qT0]⟩
noncomputable abbrev q1kc:Ctx ((Trans×qL1×qL1)):=⟨11,tt,false,false,[false,false],gam [],lam [],resU 11 tt [false,false] [.cell 6 64] q1a3 (fun x=>(x.1.1,x.2.1,x.2.2.1))⟩
theorem q1le:CtxM Tryz.prog q1kc:=mkG fits mixed m0
noncomputable abbrev q1dh:Mdl:=(mdlOf (.cons (.d false .str) (.cons (.own 0) (.cons (.own 1) .nil))) [.arr 3 (.fz true) [0] qT0,.arr 3 (.fz true) [0] qT0] [false,false] 1 q1a3 (B:=(Trans×qL1×qL1)) (fun b=>((b.1,()),(b.2.1,b.2.2,()))) (fun a=>qgz a.1.1 a.2.1 a.2.2.1))
theorem q1i4:MdlOK Tryz.prog 38 q1dh:=fnA Tryz.func38 rfl q1le .z s0
def q11h:Shp:=⟨[(0,.d true .bool)],[]⟩
noncomputable abbrev q1ge:Ctx (Bool):=⟨17,tt,false,false,[],gam [],lam [],resU 17 tt [] [.tmp 2] q11h (fun x=>x.1.1)⟩
theorem q1g2:CtxM Tryz.prog q1ge:=mkG fits mixed m0
noncomputable abbrev qux:Mdl:=(mdlOf (.cons (.d false (.int .u8)) .nil) [] [] 1 q11h (B:=Bool) (fun b=>((b,()),(()))) (fun a=>qkp a.1.1))
theorem qyd:MdlOK Tryz.prog 128 qux:=fnA Tryz.func128 rfl q1g2 .z s0
def q164:Shp:=⟨[(0,.d true .bool)],[]⟩
noncomputable abbrev q1jt:Ctx (Bool):=⟨25,tt,false,false,[],gam [(128,qux)],lam [],resU 25 tt [] [.tmp 2] q164 (fun x=>x.1.1)⟩
theorem q1k1:CtxM Tryz.prog q1jt:=mkG fits mixed (mC qyd m0)
noncomputable abbrev q18t:Mdl:=(mdlOf (.cons (.d false (.int .u8)) .nil) [] [] 1 q164 (B:=Bool) (fun b=>((b,()),(()))) (fun a=>qwc a.1.1))
theorem q1g9:MdlOK Tryz.prog 129 q18t:=fnA Tryz.func129 rfl q1k1 .z s0
def q11u:Shp:=⟨[(0,.d true .bool)],[]⟩
noncomputable abbrev q13b:Ctx (Bool):=⟨29,tt,false,false,[],gam [(128,qux),(129,q18t)],lam [qd _ 29 [] q1bz (C:=(ByteArray×Int)) (S:=Int) (fun x=>((x.1.1,x.1.2.1),x.1.2.2.1)) q1ck (CE:=Unit) (E:=Unit) (fun c e=>((()),(()))) (fun c=>()) (fun {R} c a nx dn rt=>qcl c.1 c.2 a nx dn rt)],resU 29 tt [] [.tmp 2] q11u (fun x=>x.1.1)⟩
theorem q132:CtxM Tryz.prog q13b:=mkG fits mixed (mC qyd (mC q1g9 m0))
theorem q1eq:SummOK Tryz.prog q13b 0 (lc 0 Tryz.f84 75):=lp rfl q132 .z s0 (fun c a=>((c.1,c.2,a,()),(()))) (fun y=>((),()))
noncomputable abbrev q13k:Mdl:=(mdlOf (.cons (.d false .str) .nil) [] [] 1 q11u (B:=Bool) (fun b=>((b,()),(()))) (fun a=>qqu a.1.1))
theorem q1bq:MdlOK Tryz.prog 84 q13k:=fnA Tryz.func84 rfl q132 (.two .z (.two .z (.two (.two .z (.s 0)) .z))) (sC q1eq s0)
def qyj:Shp:=⟨[(0,.d true .bool)],[]⟩
noncomputable abbrev q11k:Ctx (Bool):=⟨36,tt,false,false,[],gam [],lam [qd _ 36 [] q191 (C:=(qL1×qL1×Int×Int×(List Trans)×Int×Int)) (S:=Int) (fun x=>((x.1.1,x.1.2.2.1,x.1.2.2.2.1,x.2.1.1,x.2.1.2.1,x.2.1.2.2.1,x.2.1.2.2.2.1),x.1.2.2.2.2.1)) q1a6 (CE:=Unit) (E:=Unit) (fun c e=>((()),(()))) (fun c=>()) (fun {R} c a nx dn rt=>q6c c.1 c.2.1 c.2.2.1 c.2.2.2.1 c.2.2.2.2.1 c.2.2.2.2.2.1 c.2.2.2.2.2.2 a nx dn rt)],resU 36 tt [] [.tmp 4] qyj (fun x=>x.1.1)⟩
theorem q11g:CtxM Tryz.prog q11k:=mkG fits mixed m0
theorem q1ci:SummOK Tryz.prog q11k 0 (lc 0 Tryz.f85 37):=lp rfl q11g .z s0 (fun c a=>((c.1,(),c.2.1,c.2.2.1,a,()),((c.2.2.2.1,c.2.2.2.2.1,c.2.2.2.2.2.1,c.2.2.2.2.2.2,()),()))) (fun y=>((),()))
noncomputable abbrev q11f:Mdl:=(mdlOf (.cons (.d false Net.ty) (.cons (.d false qT1) .nil)) [] [] 1 qyj (B:=Bool) (fun b=>((b,()),(()))) (fun a=>q4i a.1.1 a.1.2.1))
theorem q18z:MdlOK Tryz.prog 85 q11f:=fnA Tryz.func85 rfl q11g (.two .z (.two (.two .z (.s 0)) .z)) (sC q1ci s0)
def q11z:Shp:=⟨[(0,.d true .bool)],[]⟩
noncomputable abbrev q13e:Ctx (Bool):=⟨62,tt,false,false,[],gam [(84,q13k),(85,q11f)],lam [qd _ 62 [] q1bx (C:=((List Trans)×Int×Int×(List Trans)×Int×Int)) (S:=Int) (fun x=>((x.1.2.1,x.1.2.2.1,x.2.1.1,x.2.1.2.1,x.2.1.2.2.1,x.2.1.2.2.2.1),x.1.2.2.2.1)) q1d5 (CE:=(Int×(List Trans)×Int×Int)) (E:=Unit) (fun c e=>(((),()),((c.1,c.2.1,c.2.2.1,c.2.2.2,()),()))) (fun c=>(c.2.2.1,c.2.2.2.1,c.2.2.2.2.1,c.2.2.2.2.2)) (fun {R} c a nx dn rt=>qh5 c.1 c.2.1 c.2.2.1 c.2.2.2.1 c.2.2.2.2.1 c.2.2.2.2.2 a nx dn rt)],resU 62 tt [] [.tmp 2] q11z (fun x=>x.1.1)⟩
theorem q13t:CtxM Tryz.prog q13e:=mkG fits mixed (mC q1bq (mC q18z m0))
theorem q1f9:SummOK Tryz.prog q13e 0 (lc 0 Tryz.f41 75):=lp rfl q13t .z s0 (fun c a=>(((),c.1,c.2.1,a,()),((c.2.2.1,c.2.2.2.1,c.2.2.2.2.1,c.2.2.2.2.2,()),()))) (fun y=>((y.2.1.1,y.2.1.2.1,y.2.1.2.2.1,y.2.1.2.2.2.1),()))
noncomputable abbrev q3l:Mdl:=(mdlOf (.cons (.d false Net.ty) .nil) [] [] 1 q11z (B:=Bool) (fun b=>((b,()),(()))) (fun a=>q2t a.1.1))
theorem q2z:MdlOK Tryz.prog 41 q3l:=fnA Tryz.func41 rfl q13t (.two .z (.two .z (.two (.two .z (.s 0)) .z))) (sC q1f9 s0)
def qi6:Shp:=⟨[(0,.ptr 0)],[.cs 103 2 1 (.cons (.d true qT0) (.cons (.own 1) .nil)),.arr 3 (.fz true) [0] qT0]⟩
noncomputable abbrev qkt:Ctx ((Int×qL1)):=⟨33,tt,false,false,[],gam [],lam [qd _ 33 [] qud (C:=(Int×Int)) (S:=(Int×qL1)) (fun x=>((x.1.2.1,x.2.1.1),(x.1.2.2.1,x.2.2.1))) quy (CE:=Int) (E:=qL1) (fun c e=>(((),()),((c,(),()),e,()))) (fun c=>c.2) (fun {R} c a nx dn rt=>q4j c.1 c.2 a.1 a.2 nx dn rt)],resU 33 tt [] [.tmp 2] qi6 (fun x=>(x.2.1.1,x.2.2.1))⟩
theorem qjj:CtxM Tryz.prog qkt:=mkG fits mixed m0
theorem qvr:SummOK Tryz.prog qkt 0 (lc 0 Tryz.f87 75):=lp rfl qjj .z s0 (fun c a=>(((),c.1,a.1,()),((c.2,(),()),a.2,()))) (fun y=>(y.2.1.1,y.2.2.1))
noncomputable abbrev qb5:Mdl:=(mdlOf (.cons (.d false Net.ty) .nil) [] [] 1 qi6 (B:=(Int×qL1)) (fun b=>(((),()),((b.1,(),()),b.2,()))) (fun a=>q3y a.1.1))
theorem qga:MdlOK Tryz.prog 87 qb5:=fnA Tryz.func87 rfl qjj (.two .z (.two (.d [0,1,0,4,0,16,48,124,252,511,1023,2047] [] []) (.two (.two .z (.s 0)) .z))) (sC qvr s0)
def qf6:Shp:=⟨[(0,.d true qT0)],[.cs 103 2 1 (.cons (.d true qT0) (.cons (.own 1) .nil)),.arr 3 (.fz true) [0] qT0]⟩
noncomputable abbrev qgd:Ctx ((Int×Int×qL1)):=⟨41,tt,false,false,[true,true],gam [],lam [qd _ 41 [true,true] qrl (C:=Int) (S:=(Int×qL1)) (fun x=>(x.2.1.1,(x.1.2.1,x.2.2.1))) qrf (CE:=Int) (E:=(Int×qL1)) (fun c e=>((e.1,()),((c,(),()),e.2,()))) (fun c=>c) (fun {R} c a nx dn rt=>q3q c a.1 a.2 nx dn rt)],resU 41 tt [true,true] [.tmp 4] qf6 (fun x=>(x.1.1,x.2.1.1,x.2.2.1))⟩
theorem qg2:CtxM Tryz.prog qgd:=mkG fits mixed m0
theorem qso:SummOK Tryz.prog qgd 0 (lc 0 Tryz.f89 17):=lp rfl qg2 (.two .z (.one (.two (.d [0,1,3,7,0,0,32,96,224,0,512,1536,3584,0,15872,32256,65504,131040,262143,524287] [19] []) .z))) s0 (fun c a=>(((),a.1,()),((c,(),()),a.2,()))) (fun y=>(y.2.1.1,(y.1.1,y.2.2.1)))
noncomputable abbrev q4c:Mdl:=(mdlOf (.cons (.ptr 0) (.cons (.d false qT0) .nil)) [.cs 103 2 1 (.cons (.d false qT0) (.cons (.own 1) .nil)),.arr 3 (.fz true) [0] qT0] [true,true] 1 qf6 (B:=(Int×Int×qL1)) (fun b=>((b.1,()),((b.2.1,(),()),b.2.2,()))) (fun a=>q1j a.1.2.1 a.2.1.1 a.2.2.1))
theorem q6p:MdlOK Tryz.prog 89 q4c:=fnA Tryz.func89 rfl qg2 (.two .z (.two (.s 0) .z)) (sC qso s0)
def qdx:Shp:=⟨[],[.cs 103 2 1 (.cons (.d true qT0) (.cons (.own 1) .nil)),.arr 3 (.fz true) [0] qT0]⟩
noncomputable abbrev qsn:Ctx ((Int×qL1)):=⟨30,tt,false,false,[true,true],gam [(89,q4c)],lam [],resU 30 tt [true,true] [] qdx (fun x=>(x.2.1.1,x.2.2.1))⟩
theorem qsi:CtxM Tryz.prog qsn:=mkG fits mixed (mC q6p m0)
noncomputable abbrev q7e:Mdl:=(mdlOf (.cons (.ptr 0) (.cons (.d false qT0) (.cons (.d false qT0) .nil))) [.cs 103 2 1 (.cons (.d false qT0) (.cons (.own 1) .nil)),.arr 3 (.fz true) [0] qT0] [true,true] 0 qdx (B:=(Int×qL1)) (fun b=>((()),((b.1,(),()),b.2,()))) (fun a=>q1k a.1.2.1 a.1.2.2.1 a.2.1.1 a.2.2.1))
theorem qd6:MdlOK Tryz.prog 88 q7e:=fnA Tryz.func88 rfl qsi (.two (.d [0,0,3,0,0,16,48,112,0,496,1023,2047,4095] [2,10,11,12] []) .z) s0
def qn2:Shp:=⟨[(0,.nl false (.own 0))],[.arr 69 .own [3,3] q0.ty]⟩
noncomputable abbrev q4h:Ctx ((List q0)):=⟨99,tt,false,false,[],gam [(87,qb5),(88,q7e),(89,q4c)],lam [qd _ 99 [] qxi (C:=(Int×(List Trans)×Int×Int×qL1×Int×Int×(List Trans)×Int×Int)) (S:=(Int×Int×qL1)) (fun x=>((x.1.2.2.1,x.1.2.2.2.1,x.1.2.2.2.2.1,x.1.2.2.2.2.2.1,x.1.2.2.2.2.2.2.1,x.1.2.2.2.2.2.2.2.1,x.2.1.1,x.2.1.2.1,x.2.1.2.2.1,x.2.1.2.2.2.1),(x.1.2.2.2.2.2.2.2.2.1,x.2.2.1.1,x.2.2.2.1))) qy0 (CE:=((List Trans)×Int×Int×Int×(List Trans)×Int×Int)) (E:=(Int×qL1)) (fun c e=>(((),(),c.1,c.2.1,c.2.2.1,()),((c.2.2.2.1,c.2.2.2.2.1,c.2.2.2.2.2.1,c.2.2.2.2.2.2,()),(e.1,(),()),e.2,()))) (fun c=>(c.2.1,c.2.2.1,c.2.2.2.1,c.2.2.2.2.2.2.1,c.2.2.2.2.2.2.2.1,c.2.2.2.2.2.2.2.2.1,c.2.2.2.2.2.2.2.2.2)) (fun {R} c a nx dn rt=>q1u c.1 c.2.1 c.2.2.1 c.2.2.2.1 c.2.2.2.2.1 c.2.2.2.2.2.1 c.2.2.2.2.2.2.1 c.2.2.2.2.2.2.2.1 c.2.2.2.2.2.2.2.2.1 c.2.2.2.2.2.2.2.2.2 a.1 a.2.1 a.2.2 nx dn rt),
 qd _ 99 [] qx0 (C:=((List Trans)×Int×Int×(List Trans)×Int×Int)) (S:=(Int×Int×qL1)) (fun x=>((x.1.2.2.1,x.1.2.2.2.1,x.2.1.1,x.2.1.2.1,x.2.1.2.2.1,x.2.1.2.2.2.1),(x.1.2.2.2.2.1,x.2.2.1.1,x.2.2.2.1))) qxe (CE:=(Int×(List Trans)×Int×Int)) (E:=(Int×qL1)) (fun c e=>(((),(),()),((c.1,c.2.1,c.2.2.1,c.2.2.2,()),(e.1,(),()),e.2,()))) (fun c=>(c.2.2.1,c.2.2.2.1,c.2.2.2.2.1,c.2.2.2.2.2)) (fun {R} c a nx dn rt=>q5m c.1 c.2.1 c.2.2.1 c.2.2.2.1 c.2.2.2.2.1 c.2.2.2.2.2 a.1 a.2.1 a.2.2 nx dn rt),
 q29 _ 99 [] qx6 (A:=(Int×Int×Int×Int×Int×(List Trans)×Int×Int×Int×(List (Int×Int))×(List q0)×qL1)) (fun x=>(x.1.2.2.2.2.1,x.1.2.2.2.2.2.1,x.1.2.2.2.2.2.2.1,x.1.2.2.2.2.2.2.2.1,x.2.1.1,x.2.1.2.1,x.2.1.2.2.1,x.2.1.2.2.2.1,x.2.2.1.1,x.2.2.2.1,x.2.2.2.2.1,x.2.2.2.2.2.1)) qx5 (CE:=(Int×Int×Int×(List Trans)×Int×Int×Int×(List (Int×Int))×qL1)) (E:=(List q0)) (fun c e=>(((),(),(),(),c.1,c.2.1,()),((c.2.2.1,c.2.2.2.1,c.2.2.2.2.1,c.2.2.2.2.2.1,()),(c.2.2.2.2.2.2.1,(),()),c.2.2.2.2.2.2.2.1,e,c.2.2.2.2.2.2.2.2,()))) (fun c=>(c.2.2.1,c.2.2.2.1,c.2.2.2.2.1,c.2.2.2.2.2.1,c.2.2.2.2.2.2.1,c.2.2.2.2.2.2.2.1,c.2.2.2.2.2.2.2.2.1,c.2.2.2.2.2.2.2.2.2.1,c.2.2.2.2.2.2.2.2.2.2.2)) (fun {R} c dn rt=>q5n c.1 c.2.1 c.2.2.1 c.2.2.2.1 c.2.2.2.2.1 c.2.2.2.2.2.1 c.2.2.2.2.2.2.1 c.2.2.2.2.2.2.2.1 c.2.2.2.2.2.2.2.2.1 c.2.2.2.2.2.2.2.2.2.1 c.2.2.2.2.2.2.2.2.2.2.1 c.2.2.2.2.2.2.2.2.2.2.2 dn rt),
 qd _ 99 [] qwx (C:=(Int×Int×(List Trans)×Int×Int)) (S:=(Int×Int×(List (Int×Int))×(List q0)×qL1)) (fun x=>((x.1.2.2.2.2.1,x.2.1.1,x.2.1.2.1,x.2.1.2.2.1,x.2.1.2.2.2.1),(x.1.2.2.2.2.2.1,x.2.2.1.1,x.2.2.2.1,x.2.2.2.2.1,x.2.2.2.2.2.1))) qxd (CE:=Unit) (E:=(List q0)) (fun c e=>(((),()),(e,()))) (fun c=>()) (fun {R} c a nx dn rt=>q3i c.1 c.2.1 c.2.2.1 c.2.2.2.1 c.2.2.2.2 a.1 a.2.1 a.2.2.1 a.2.2.2.1 a.2.2.2.2 nx dn rt)],resU 99 tt [] [.tmp 2] qn2 (fun x=>x.2.1)⟩
theorem q4e:CtxM Tryz.prog q4h:=mkG fits mixed (mC qga (mC qd6 (mC q6p m0)))
theorem qze:SummOK Tryz.prog q4h 2 (jc Tryz.f43 255583):=jn rfl q4e (.two .z (.two (.d [0,0,0,0,12,28,60,0,128,508,3,2047,4095] [9,12] []) (.d [0,0,0,0,12,28,60,0,0,256,896,1920,4092,3,16383,32767] [12,15] []))) s0 (fun c=>(((),(),(),(),c.1,c.2.1,c.2.2.1,c.2.2.2.1,()),((c.2.2.2.2.1,c.2.2.2.2.2.1,c.2.2.2.2.2.2.1,c.2.2.2.2.2.2.2.1,()),(c.2.2.2.2.2.2.2.2.1,(),()),c.2.2.2.2.2.2.2.2.2.1,c.2.2.2.2.2.2.2.2.2.2.1,c.2.2.2.2.2.2.2.2.2.2.2,()))) (fun y=>((y.1.2.2.2.2.1,y.1.2.2.2.2.2.1,y.2.1.1,y.2.1.2.1,y.2.1.2.2.1,y.2.1.2.2.2.1,y.2.2.1.1,y.2.2.2.1,y.2.2.2.2.2.1),y.2.2.2.2.1))
theorem qy7:SummOK Tryz.prog q4h 0 (lc 2 Tryz.f43 19659):=lp rfl q4e .z s0 (fun c a=>(((),(),c.1,c.2.1,c.2.2.1,c.2.2.2.1,c.2.2.2.2.1,c.2.2.2.2.2.1,a.1,()),((c.2.2.2.2.2.2.1,c.2.2.2.2.2.2.2.1,c.2.2.2.2.2.2.2.2.1,c.2.2.2.2.2.2.2.2.2,()),(a.2.1,(),()),a.2.2,()))) (fun y=>((y.1.2.2.1,y.1.2.2.2.1,y.1.2.2.2.2.1,y.2.1.1,y.2.1.2.1,y.2.1.2.2.1,y.2.1.2.2.2.1),(y.2.2.1.1,y.2.2.2.1)))
theorem qzx:SummOK Tryz.prog q4h 3 (lc 4 Tryz.f43 607):=lp rfl q4e (.two .z (.two .z (.two (.one (.two .z (.two .z (.two .z (.two .z (.s 2)))))) .z))) (sC qze s0) (fun c a=>(((),(),(),(),c.1,a.1,()),((c.2.1,c.2.2.1,c.2.2.2.1,c.2.2.2.2,()),(a.2.1,(),()),a.2.2.1,a.2.2.2.1,a.2.2.2.2,()))) (fun y=>((),y.2.1))
theorem qz7:SummOK Tryz.prog q4h 1 (lc 0 Tryz.f43 75):=lp rfl q4e (.two .z (.two .z (.two (.one (.two .z (.two .z (.s 0)))) .z))) (sC qy7 s0) (fun c a=>(((),(),c.1,c.2.1,a.1,()),((c.2.2.1,c.2.2.2.1,c.2.2.2.2.1,c.2.2.2.2.2,()),(a.2.1,(),()),a.2.2,()))) (fun y=>((y.2.1.1,y.2.1.2.1,y.2.1.2.2.1,y.2.1.2.2.2.1),(y.2.2.1.1,y.2.2.2.1)))
noncomputable abbrev qde:Mdl:=(mdlOf (.cons (.d false Net.ty) .nil) [] [] 1 qn2 (B:=(List q0)) (fun b=>(((),()),(b,()))) (fun a=>q3g a.1.1))
theorem qja:MdlOK Tryz.prog 43 qde:=fnA Tryz.func43 rfl q4e (.two .z (.two .z (.two (.two .z (.s 1)) (.two .z (.two .z (.two (.two .z (.s 3)) .z)))))) (sC qz7 (sC qzx s0))
def qmf:Shp:=⟨[(0,.nl false (.own 0)),(1,.d true qT0)],[.arr 69 .own [3,3] q0.ty]⟩
noncomputable abbrev q104:Ctx ((Int×(List q0))):=⟨9,tt,false,false,[],gam [(41,q3l),(43,qde)],lam [],resU 9 tt [] [.tmp 2,.tmp 3] qmf (fun x=>(x.1.2.1,x.2.1))⟩
theorem q103:CtxM Tryz.prog q104:=mkG fits mixed (mC q2z (mC qja m0))
noncomputable abbrev qdf:Mdl:=(mdlOf (.cons (.d false Net.ty) .nil) [] [] 2 qmf (B:=(Int×(List q0))) (fun b=>(((),b.1,()),(b.2,()))) (fun a=>q8o a.1.1))
theorem qk2:MdlOK Tryz.prog 11 qdf:=fnA Tryz.func11 rfl q103 .z s0
def qj1:Shp:=⟨[(0,.d true qT0)],[]⟩
noncomputable abbrev qn4:Ctx (Int):=⟨19,tt,false,false,[],gam [],lam [qd _ 19 [] qv1 (C:=(qL1×Int×Int)) (S:=Int) (fun x=>((x.1.1,x.1.2.1,x.1.2.2.1),x.1.2.2.2.1)) qvj (CE:=Unit) (E:=Unit) (fun c e=>((()),(()))) (fun c=>()) (fun {R} c a nx dn rt=>q50 c.1 c.2.1 c.2.2 a nx dn rt)],resU 19 tt [] [.tmp 4] qj1 (fun x=>x.1.1)⟩
theorem qmt:CtxM Tryz.prog qn4:=mkG fits mixed m0
theorem qwz:SummOK Tryz.prog qn4 0 (lc 0 Tryz.f80 37):=lp rfl qmt .z s0 (fun c a=>((c.1,c.2.1,c.2.2,a,()),(()))) (fun y=>((),()))
noncomputable abbrev qmm:Mdl:=(mdlOf (.cons (.d false qT1) (.cons (.d false qT0) .nil)) [] [] 1 qj1 (B:=Int) (fun b=>((b,()),(()))) (fun a=>qdc a.1.1 a.1.2.1))
theorem qve:MdlOK Tryz.prog 80 qmm:=fnA Tryz.func80 rfl qmt (.two .z (.two (.two .z (.s 0)) .z)) (sC qwz s0)
def qf8:Shp:=⟨[(0,.d true .bool)],[]⟩
noncomputable abbrev qu1:Ctx (Bool):=⟨9,tt,false,false,[],gam [(80,qmm)],lam [],resU 9 tt [] [.tmp 4] qf8 (fun x=>x.1.1)⟩
theorem quw:CtxM Tryz.prog qu1:=mkG fits mixed (mC qve m0)
noncomputable abbrev q1v:Mdl:=(mdlOf (.cons (.d false qT1) (.cons (.d false qT0) .nil)) [] [] 1 qf8 (B:=Bool) (fun b=>((b,()),(()))) (fun a=>q14 a.1.1 a.1.2.1))
theorem q21:MdlOK Tryz.prog 35 q1v:=fnA Tryz.func35 rfl quw .z s0
def qrz:Shp:=⟨[(0,.d true .bool)],[]⟩
noncomputable abbrev q183:Ctx (Bool):=⟨8,tt,false,false,[],gam [],lam [],resU 8 tt [] [.tmp 3] qrz (fun x=>x.1.1)⟩
theorem q172:CtxM Tryz.prog q183:=mkG fits mixed m0
noncomputable abbrev qtp:Mdl:=(mdlOf (.cons (.d false qT0) (.cons (.rp false (.slice .bool)) .nil)) [] [] 1 qrz (B:=Bool) (fun b=>((b,()),(()))) (fun a=>qfa a.1.1 a.1.2.1))
theorem q12r:MdlOK Tryz.prog 130 qtp:=fnA Tryz.func130 rfl q172 .z s0
def q9z:Shp:=⟨[(0,.d true qT0)],[]⟩
noncomputable abbrev qbb:Ctx (Int):=⟨19,tt,false,false,[],gam [(130,qtp)],lam [qd _ 19 [] qno (C:=(qL1×(List Bool)×Int)) (S:=Int) (fun x=>((x.1.1,x.1.2.1.1,x.1.2.2.1),x.1.2.2.2.1)) qnl (CE:=Unit) (E:=Unit) (fun c e=>((()),(()))) (fun c=>()) (fun {R} c a nx dn rt=>q23 c.1 c.2.1 c.2.2 a nx dn rt)],resU 19 tt [] [.tmp 4] q9z (fun x=>x.1.1)⟩
theorem qbh:CtxM Tryz.prog qbb:=mkG fits mixed (mC q12r m0)
theorem qo7:SummOK Tryz.prog qbb 0 (lc 0 Tryz.f79 37):=lp rfl qbh .z s0 (fun c a=>((c.1,(c.2.1,()),c.2.2,a,()),(()))) (fun y=>((),()))
noncomputable abbrev qbk:Mdl:=(mdlOf (.cons (.d false qT1) (.cons (.fn 130 (.cons (.rp false (.slice .bool)) .nil)) .nil)) [] [] 1 q9z (B:=Int) (fun b=>((b,()),(()))) (fun a=>q5b a.1.1 a.1.2.1.1))
theorem qnn:MdlOK Tryz.prog 79 qbk:=fnA Tryz.func79 rfl qbh (.two .z (.two (.two .z (.s 0)) .z)) (sC qo7 s0)
def q7k:Shp:=⟨[(0,.d true .bool)],[]⟩
noncomputable abbrev qlg:Ctx (Bool):=⟨9,tt,false,false,[],gam [(79,qbk)],lam [],resU 9 tt [] [.tmp 4] q7k (fun x=>x.1.1)⟩
theorem qm0:CtxM Tryz.prog qlg:=mkG fits mixed (mC qnn m0)
noncomputable abbrev q8c:Mdl:=(mdlOf (.cons (.d false qT1) (.cons (.fn 130 (.cons (.rp false (.slice .bool)) .nil)) .nil)) [] [] 1 q7k (B:=Bool) (fun b=>((b,()),(()))) (fun a=>q1l a.1.1 a.1.2.1.1))
theorem qij:MdlOK Tryz.prog 32 q8c:=fnA Tryz.func32 rfl qm0 .z s0
def qwe:Shp:=⟨[(0,.own 0),(1,.own 1)],[.arr 4 (.fz true) [0] .bool,.arr 4 (.fz true) [0] .bool]⟩
noncomputable abbrev qhh:Ctx (((List Bool)×(List Bool))):=⟨69,tt,false,false,[],gam [(32,q8c)],lam [qd _ 69 [] q17n (C:=(Bool×Bool×(List Trans)×Int×Int×qL1×Int×Int×(List Trans)×Int×Int×(List Bool))) (S:=(Int×(List Bool))) (fun x=>((x.1.1,x.1.2.2.2.2.1,x.1.2.2.2.2.2.1,x.1.2.2.2.2.2.2.1,x.1.2.2.2.2.2.2.2.1,x.1.2.2.2.2.2.2.2.2.1,x.1.2.2.2.2.2.2.2.2.2.1,x.2.1.1,x.2.1.2.1,x.2.1.2.2.1,x.2.1.2.2.2.1,x.2.2.2.1),(x.1.2.2.2.2.2.2.2.2.2.2.1,x.2.2.2.2.1))) q17o (CE:=(Bool×Bool×(List Trans)×Int×Int×Int×(List Trans)×Int×Int×(List Bool))) (E:=(List Bool)) (fun c e=>((c.1,(),(),(),c.2.1,c.2.2.1,c.2.2.2.1,c.2.2.2.2.1,()),((c.2.2.2.2.2.1,c.2.2.2.2.2.2.1,c.2.2.2.2.2.2.2.1,c.2.2.2.2.2.2.2.2.1,()),((),()),c.2.2.2.2.2.2.2.2.2,e,()))) (fun c=>(c.1,c.2.1,c.2.2.1,c.2.2.2.1,c.2.2.2.2.1,c.2.2.2.2.2.2.2.1,c.2.2.2.2.2.2.2.2.1,c.2.2.2.2.2.2.2.2.2.1,c.2.2.2.2.2.2.2.2.2.2.1,c.2.2.2.2.2.2.2.2.2.2.2)) (fun {R} c a nx dn rt=>qdg c.1 c.2.1 c.2.2.1 c.2.2.2.1 c.2.2.2.2.1 c.2.2.2.2.2.1 c.2.2.2.2.2.2.1 c.2.2.2.2.2.2.2.1 c.2.2.2.2.2.2.2.2.1 c.2.2.2.2.2.2.2.2.2.1 c.2.2.2.2.2.2.2.2.2.2.1 c.2.2.2.2.2.2.2.2.2.2.2 a.1 a.2 nx dn rt),
 qd _ 69 [] q16z (C:=(Bool×(List Trans)×Int×Int×(List Trans)×Int×Int)) (S:=(Bool×Int×(List Bool)×(List Bool))) (fun x=>((x.1.1,x.1.2.2.2.2.2.1,x.1.2.2.2.2.2.2.1,x.2.1.1,x.2.1.2.1,x.2.1.2.2.1,x.2.1.2.2.2.1),(x.1.2.2.2.2.1,x.1.2.2.2.2.2.2.2.1,x.2.2.2.1,x.2.2.2.2.1))) q16y (CE:=(Bool×Int×(List Trans)×Int×Int)) (E:=(Bool×(List Bool)×(List Bool))) (fun c e=>((c.1,(),(),(),e.1,()),((c.2.1,c.2.2.1,c.2.2.2.1,c.2.2.2.2,()),((),()),e.2.1,e.2.2,()))) (fun c=>(c.1,c.2.2.2.1,c.2.2.2.2.1,c.2.2.2.2.2.1,c.2.2.2.2.2.2)) (fun {R} c a nx dn rt=>q2m c.1 c.2.1 c.2.2.1 c.2.2.2.1 c.2.2.2.2.1 c.2.2.2.2.2.1 c.2.2.2.2.2.2 a.1 a.2.1 a.2.2.1 a.2.2.2 nx dn rt),
 qd _ 69 [] q182 (C:=(Bool×Int×(List Trans)×Int×Int)) (S:=(Bool×(List Bool)×(List Bool))) (fun x=>((x.1.1,x.2.1.1,x.2.1.2.1,x.2.1.2.2.1,x.2.1.2.2.2.1),(x.1.2.2.2.2.1,x.2.2.2.1,x.2.2.2.2.1))) q16v (CE:=Unit) (E:=((List Bool)×(List Bool))) (fun c e=>(((),(),()),(((),()),e.1,e.2,()))) (fun c=>()) (fun {R} c a nx dn rt=>ql7 c.1 c.2.1 c.2.2.1 c.2.2.2.1 c.2.2.2.2 a.1 a.2.1 a.2.2 nx dn rt)],resU 69 tt [] [.tmp 6,.tmp 7] qwe (fun x=>(x.2.1,x.2.2.1))⟩
theorem qhm:CtxM Tryz.prog qhh:=mkG fits mixed (mC qij m0)
theorem q1ax:SummOK Tryz.prog qhh 0 (lc 4 Tryz.f90 41838231):=lp rfl qhm .z s0 (fun c a=>((c.1,(),(),(),c.2.1,c.2.2.1,c.2.2.2.1,c.2.2.2.2.1,c.2.2.2.2.2.1,c.2.2.2.2.2.2.1,a.1,()),((c.2.2.2.2.2.2.2.1,c.2.2.2.2.2.2.2.2.1,c.2.2.2.2.2.2.2.2.2.1,c.2.2.2.2.2.2.2.2.2.2.1,()),((),()),c.2.2.2.2.2.2.2.2.2.2.2,a.2,()))) (fun y=>((y.1.1,y.1.2.2.2.2.1,y.1.2.2.2.2.2.1,y.1.2.2.2.2.2.2.1,y.1.2.2.2.2.2.2.2.1,y.2.1.1,y.2.1.2.1,y.2.1.2.2.1,y.2.1.2.2.2.1,y.2.2.2.1),y.2.2.2.2.1))
theorem q18u:SummOK Tryz.prog qhh 1 (lc 2 Tryz.f90 9879):=lp rfl qhm (.two .z (.two .z (.two (.one (.two .z (.two (.d [0,1,0,4,3,31] [] []) (.two .z (.two .z (.two .z (.two .z (.s 0)))))))) .z))) (sC q1ax s0) (fun c a=>((c.1,(),(),(),a.1,c.2.1,c.2.2.1,a.2.1,()),((c.2.2.2.1,c.2.2.2.2.1,c.2.2.2.2.2.1,c.2.2.2.2.2.2,()),((),()),a.2.2.1,a.2.2.2,()))) (fun y=>((y.1.1,y.2.1.1,y.2.1.2.1,y.2.1.2.2.1,y.2.1.2.2.2.1),(y.1.2.2.2.2.1,y.2.2.2.1,y.2.2.2.2.1)))
theorem q1ag:SummOK Tryz.prog qhh 2 (lc 0 Tryz.f90 151):=lp rfl qhm (.two .z (.one (.two .z (.two .z (.s 1))))) (sC q18u s0) (fun c a=>((c.1,(),(),(),a.1,()),((c.2.1,c.2.2.1,c.2.2.2.1,c.2.2.2.2,()),((),()),a.2.1,a.2.2,()))) (fun y=>((),(y.2.2.1,y.2.2.2.1)))
noncomputable abbrev qz0:Mdl:=(mdlOf (.cons (.d false Net.ty) (.cons (.d false qT0) (.cons (.d false .bool) .nil))) [] [] 2 qwe (B:=((List Bool)×(List Bool))) (fun b=>(((),(),()),(b.1,b.2,()))) (fun a=>q6o a.1.1 a.1.2.1 a.1.2.2.1))
theorem q17l:MdlOK Tryz.prog 90 qz0:=fnA Tryz.func90 rfl qhm (.two .z (.two (.d [0,1,3,0,8,24,56,0,135,511] [8] []) (.two .z (.two (.two .z (.s 2)) .z)))) (sC q1ag s0)
def qgn:Shp:=⟨[(0,.d true qT0)],[]⟩
noncomputable abbrev qhz:Ctx (Int):=⟨19,tt,false,false,[],gam [],lam [qd _ 19 [] qsl (C:=((List Bool)×Bool×Int)) (S:=Int) (fun x=>((x.1.1,x.1.2.1,x.1.2.2.1),x.1.2.2.2.1)) qsk (CE:=Unit) (E:=Unit) (fun c e=>((()),(()))) (fun c=>()) (fun {R} c a nx dn rt=>q3z c.1 c.2.1 c.2.2 a nx dn rt)],resU 19 tt [] [.tmp 4] qgn (fun x=>x.1.1)⟩
theorem qhw:CtxM Tryz.prog qhz:=mkG fits mixed m0
theorem qtw:SummOK Tryz.prog qhz 0 (lc 0 Tryz.f73 37):=lp rfl qhw .z s0 (fun c a=>((c.1,c.2.1,c.2.2,a,()),(()))) (fun y=>((),()))
noncomputable abbrev qhr:Mdl:=(mdlOf (.cons (.d false (.slice .bool)) (.cons (.d false .bool) .nil)) [] [] 1 qgn (B:=Int) (fun b=>((b,()),(()))) (fun a=>qar a.1.1 a.1.2.1))
theorem qsv:MdlOK Tryz.prog 73 qhr:=fnA Tryz.func73 rfl qhw (.two .z (.two (.two .z (.s 0)) .z)) (sC qtw s0)
def qd3:Shp:=⟨[(0,.d true .bool)],[]⟩
noncomputable abbrev qrq:Ctx (Bool):=⟨9,tt,false,false,[],gam [(73,qhr)],lam [],resU 9 tt [] [.tmp 4] qd3 (fun x=>x.1.1)⟩
theorem qre:CtxM Tryz.prog qrq:=mkG fits mixed (mC qsv m0)
noncomputable abbrev qdt:Mdl:=(mdlOf (.cons (.d false (.slice .bool)) (.cons (.d false .bool) .nil)) [] [] 1 qd3 (B:=Bool) (fun b=>((b,()),(()))) (fun a=>q1b a.1.1 a.1.2.1))
theorem qqg:MdlOK Tryz.prog 27 qdt:=fnA Tryz.func27 rfl qre .z s0
def qug:Shp:=⟨[(0,.d true .bool)],[]⟩
noncomputable abbrev qo1:Ctx (Bool):=⟨65,tt,false,false,[],gam [(41,q3l),(35,q1v),(90,qz0),(27,qdt)],lam [qd _ 65 [] q154 (C:=((List Trans)×Int×Int×(List Trans)×Int×Int)) (S:=Int) (fun x=>((x.1.2.1,x.1.2.2.1,x.2.1.1,x.2.1.2.1,x.2.1.2.2.1,x.2.1.2.2.2.1),x.1.2.2.2.1)) q15e (CE:=(Int×(List Trans)×Int×Int)) (E:=Unit) (fun c e=>(((),()),((c.1,c.2.1,c.2.2.1,c.2.2.2,()),()))) (fun c=>(c.2.2.1,c.2.2.2.1,c.2.2.2.2.1,c.2.2.2.2.2)) (fun {R} c a nx dn rt=>qby c.1 c.2.1 c.2.2.1 c.2.2.2.1 c.2.2.2.2.1 c.2.2.2.2.2 a nx dn rt),
 qd _ 65 [] q15q (C:=((List Bool)×Int×Int×(List Trans)×Int×Int)) (S:=Int) (fun x=>((x.1.2.1,x.1.2.2.1,x.2.1.1,x.2.1.2.1,x.2.1.2.2.1,x.2.1.2.2.2.1),x.1.2.2.2.1)) q159 (CE:=Unit) (E:=Unit) (fun c e=>((()),(()))) (fun c=>()) (fun {R} c a nx dn rt=>qbv c.1 c.2.1 c.2.2.1 c.2.2.2.1 c.2.2.2.2.1 c.2.2.2.2.2 a nx dn rt)],resU 65 tt [] [.tmp 2] qug (fun x=>x.1.1)⟩
theorem qob:CtxM Tryz.prog qo1:=mkG fits mixed (mC q2z (mC q21 (mC q17l (mC qqg m0))))
theorem q176:SummOK Tryz.prog qo1 1 (lc 2 Tryz.f44 151):=lp rfl qob .z s0 (fun c a=>(((),c.1,c.2.1,a,()),((c.2.2.1,c.2.2.2.1,c.2.2.2.2.1,c.2.2.2.2.2,()),()))) (fun y=>((),()))
theorem q174:SummOK Tryz.prog qo1 0 (lc 0 Tryz.f44 75):=lp rfl qob .z s0 (fun c a=>(((),c.1,c.2.1,a,()),((c.2.2.1,c.2.2.2.1,c.2.2.2.2.1,c.2.2.2.2.2,()),()))) (fun y=>((y.2.1.1,y.2.1.2.1,y.2.1.2.2.1,y.2.1.2.2.2.1),()))
noncomputable abbrev qvz:Mdl:=(mdlOf (.cons (.d false Net.ty) .nil) [] [] 1 qug (B:=Bool) (fun b=>((b,()),(()))) (fun a=>q7x a.1.1))
theorem q14e:MdlOK Tryz.prog 44 qvz:=fnA Tryz.func44 rfl qob (.two .z (.two .z (.two (.two .z (.s 0)) (.two (.two .z (.s 1)) .z)))) (sC q174 (sC q176 s0))
def qh3:Shp:=⟨[(0,.own 0)],[.arr 3 (.fz true) [0] qT0]⟩
noncomputable abbrev qvp:Ctx (qL1):=⟨8,tt,false,false,[],gam [],lam [],resU 8 tt [] [.tmp 2] qh3 (fun x=>x.2.1)⟩
theorem qv5:CtxM Tryz.prog qvp:=mkG fits mixed m0
noncomputable abbrev qva:Mdl:=(mdlOf (.cons (.nl false (.d false qT1)) .nil) [] [] 1 qh3 (B:=qL1) (fun b=>(((),()),(b,()))) (fun a=>qkq a.1.1))
theorem qsr:MdlOK Tryz.prog 45 qva:=fnA Tryz.func45 rfl qv5 .z s0
def q8l:Shp:=⟨[(0,.own 0)],[.arr 3 (.fz true) [0] qT0]⟩
noncomputable abbrev qv0:Ctx (qL1):=⟨8,tt,false,false,[],gam [],lam [],resU 8 tt [] [.tmp 2] q8l (fun x=>x.2.1)⟩
theorem qvg:CtxM Tryz.prog qv0:=mkG fits mixed m0
noncomputable abbrev qv2:Mdl:=(mdlOf (.cons (.nl true (.d false qT1)) .nil) [] [] 1 q8l (B:=qL1) (fun b=>(((),()),(b,()))) (fun a=>q5o a.1.1))
theorem qsp:MdlOK Tryz.prog 45 qv2:=fnA Tryz.func45 rfl qvg .z s0
noncomputable abbrev q2l:Mdl:=(mdlOf (.cons (.d false qT1) .nil) [] [] 1 q8l (fun (b:qL1)=>(((),()),(b,()))) (fun (a:((qL1×Unit)×(Unit)))=>q1h a.1.1))
theorem q31:MdlOK Tryz.prog 45 q2l:=by
 refine q1kg (q1n4 _ _) qsr qsp (by kernel_rfl) (fun a b h=>⟨?_,h⟩)
 obtain ⟨⟨xs,u1⟩,u2⟩:=a
 cases xs with
 | nil => exact h
 | cons x l =>
   have e:decide ((((x::l).length:Nat):Int)=0)=false:=decide_eq_false (by simp only [List.length_cons]; omega)
   simp only [q1h,q5o] at h
   simp only [qkq,e,cond_false]
   exact h
def qr1:Shp:=⟨[(0,.d true Net.ty),(1,.d true qT0)],[]⟩
noncomputable abbrev qs4:Ctx ((Net×Int)):=⟨60,tt,false,false,[],gam [(41,q3l),(44,qvz),(45,q2l)],lam [qd _ 60 [] q125 (C:=((List Trans)×Int×Int×(List Trans)×Int×Int×Int×(List Trans)×Int×Int×Int×Int×Int)) (S:=(Int×(List Trans))) (fun x=>((x.1.2.2.2.1,x.1.2.2.2.2.1,x.2.1.1,x.2.1.2.1,x.2.1.2.2.1,x.2.1.2.2.2.1,x.2.2.1.1,x.2.2.1.2.1,x.2.2.1.2.2.1,x.2.2.1.2.2.2.1,x.2.2.2.1.1,x.2.2.2.1.2.2.1,x.2.2.2.1.2.2.2.1),(x.1.2.2.2.2.2.1,x.2.2.2.2.1))) q12c (CE:=(Int×(List Trans)×Int×Int×Int×(List Trans)×Int×Int×Int×Int×Int)) (E:=(List Trans)) (fun c e=>(((),(),(),()),((c.1,c.2.1,c.2.2.1,c.2.2.2.1,()),(c.2.2.2.2.1,c.2.2.2.2.2.1,c.2.2.2.2.2.2.1,c.2.2.2.2.2.2.2.1,()),(c.2.2.2.2.2.2.2.2.1,(),c.2.2.2.2.2.2.2.2.2.1,c.2.2.2.2.2.2.2.2.2.2,()),e,()))) (fun c=>(c.2.2.1,c.2.2.2.1,c.2.2.2.2.1,c.2.2.2.2.2.1,c.2.2.2.2.2.2.1,c.2.2.2.2.2.2.2.1,c.2.2.2.2.2.2.2.2.1,c.2.2.2.2.2.2.2.2.2.1,c.2.2.2.2.2.2.2.2.2.2.1,c.2.2.2.2.2.2.2.2.2.2.2.1,c.2.2.2.2.2.2.2.2.2.2.2.2)) (fun {R} c a nx dn rt=>q8p c.1 c.2.1 c.2.2.1 c.2.2.2.1 c.2.2.2.2.1 c.2.2.2.2.2.1 c.2.2.2.2.2.2.1 c.2.2.2.2.2.2.2.1 c.2.2.2.2.2.2.2.2.1 c.2.2.2.2.2.2.2.2.2.1 c.2.2.2.2.2.2.2.2.2.2.1 c.2.2.2.2.2.2.2.2.2.2.2.1 c.2.2.2.2.2.2.2.2.2.2.2.2 a.1 a.2 nx dn rt)],resU 60 tt [] [.cell 2 24,.tmp 3] qr1 (fun x=>(x.1.1,x.1.2.1))⟩
theorem qs6:CtxM Tryz.prog qs4:=mkG fits mixed (mC q2z (mC q14e (mC q31 m0)))
theorem q12i:SummOK Tryz.prog qs4 0 (lc 1 Tryz.f12 303):=lp rfl qs6 (.two .z (.two .z (.two (.one (.two .z (.d [0,1,0,4,0,16,48,0,128,496,1020,2044,4095,8191,16383] [12,14] []))) .z))) s0 (fun c a=>(((),(),(),c.1,c.2.1,a.1,()),((c.2.2.1,c.2.2.2.1,c.2.2.2.2.1,c.2.2.2.2.2.1,()),(c.2.2.2.2.2.2.1,c.2.2.2.2.2.2.2.1,c.2.2.2.2.2.2.2.2.1,c.2.2.2.2.2.2.2.2.2.1,()),(c.2.2.2.2.2.2.2.2.2.2.1,(),c.2.2.2.2.2.2.2.2.2.2.2.1,c.2.2.2.2.2.2.2.2.2.2.2.2,()),a.2,()))) (fun y=>((y.2.1.1,y.2.1.2.1,y.2.1.2.2.1,y.2.1.2.2.2.1,y.2.2.1.1,y.2.2.1.2.1,y.2.2.1.2.2.1,y.2.2.1.2.2.2.1,y.2.2.2.1.1,y.2.2.2.1.2.2.1,y.2.2.2.1.2.2.2.1),y.2.2.2.2.1))
noncomputable abbrev qik:Mdl:=(mdlOf (.cons (.d false Net.ty) .nil) [] [] 2 qr1 (B:=(Net×Int)) (fun b=>((b.1,b.2,()),(()))) (fun a=>q85 a.1.1))
theorem qpz:MdlOK Tryz.prog 12 qik:=fnA Tryz.func12 rfl qs6 (.two .z (.two .z (.two .z (.two .z (.two (.two .z (.s 0)) .z))))) (sC q12i s0)
def qmy:Shp:=⟨[(0,.d true .bool)],[]⟩
noncomputable abbrev q10r:Ctx (Bool):=⟨8,tt,false,false,[],gam [(35,q1v)],lam [],resU 8 tt [] [.tmp 3] qmy (fun x=>x.1.1)⟩
theorem q10z:CtxM Tryz.prog q10r:=mkG fits mixed (mC q21 m0)
noncomputable abbrev qoh:Mdl:=(mdlOf (.cons (.d false qT0) (.cons (.rp false Trans.ty) .nil)) [] [] 1 qmy (B:=Bool) (fun b=>((b,()),(()))) (fun a=>q8n a.1.1 a.1.2.1))
theorem qx9:MdlOK Tryz.prog 86 qoh:=fnA Tryz.func86 rfl q10z .z s0
def qb9:Shp:=⟨[(0,.d true qT0)],[]⟩
noncomputable abbrev qci:Ctx (Int):=⟨19,tt,false,false,[],gam [(86,qoh)],lam [qd _ 19 [] qok (C:=(qL1×Trans×Int)) (S:=Int) (fun x=>((x.1.1,x.1.2.1.1,x.1.2.2.1),x.1.2.2.2.1)) qou (CE:=Unit) (E:=Unit) (fun c e=>((()),(()))) (fun c=>()) (fun {R} c a nx dn rt=>q2f c.1 c.2.1 c.2.2 a nx dn rt)],resU 19 tt [] [.tmp 4] qb9 (fun x=>x.1.1)⟩
theorem qc5:CtxM Tryz.prog qci:=mkG fits mixed (mC qx9 m0)
theorem qpg:SummOK Tryz.prog qci 0 (lc 0 Tryz.f79 37):=lp rfl qc5 .z s0 (fun c a=>((c.1,(c.2.1,()),c.2.2,a,()),(()))) (fun y=>((),()))
noncomputable abbrev qct:Mdl:=(mdlOf (.cons (.d false qT1) (.cons (.fn 86 (.cons (.rp false Trans.ty) .nil)) .nil)) [] [] 1 qb9 (B:=Int) (fun b=>((b,()),(()))) (fun a=>q63 a.1.1 a.1.2.1.1))
theorem qoe:MdlOK Tryz.prog 79 qct:=fnA Tryz.func79 rfl qc5 (.two .z (.two (.two .z (.s 0)) .z)) (sC qpg s0)
def q83:Shp:=⟨[(0,.d true .bool)],[]⟩
noncomputable abbrev qnk:Ctx (Bool):=⟨9,tt,false,false,[],gam [(79,qct)],lam [],resU 9 tt [] [.tmp 4] q83 (fun x=>x.1.1)⟩
theorem qnr:CtxM Tryz.prog qnk:=mkG fits mixed (mC qoe m0)
noncomputable abbrev q96:Mdl:=(mdlOf (.cons (.d false qT1) (.cons (.fn 86 (.cons (.rp false Trans.ty) .nil)) .nil)) [] [] 1 q83 (B:=Bool) (fun b=>((b,()),(()))) (fun a=>q2b a.1.1 a.1.2.1.1))
theorem qjn:MdlOK Tryz.prog 32 q96:=fnA Tryz.func32 rfl qnr .z s0
def qki:Shp:=⟨[(0,.d true .bool)],[]⟩
noncomputable abbrev qmo:Ctx (Bool):=⟨26,tt,false,false,[],gam [],lam [qd _ 26 [] qvb (C:=(qL1×qL1×Int)) (S:=Int) (fun x=>((x.1.1,x.1.2.1,x.1.2.2.1),x.1.2.2.2.1)) qv3 (CE:=Unit) (E:=Unit) (fun c e=>((()),(()))) (fun c=>()) (fun {R} c a nx dn rt=>q32 c.1 c.2.1 c.2.2 a nx dn rt)],resU 26 tt [] [.tmp 4] qki (fun x=>x.1.1)⟩
theorem qmq:CtxM Tryz.prog qmo:=mkG fits mixed m0
theorem qxw:SummOK Tryz.prog qmo 0 (lc 0 Tryz.f26 75):=lp rfl qmq (.two .z (.two .z (.two (.one (.two .z (.two (.d [0,0,3,7,0,0,48,112,255] [] []) .z))) .z))) s0 (fun c a=>((c.1,c.2.1,c.2.2,a,()),(()))) (fun y=>((),()))
noncomputable abbrev qcr:Mdl:=(mdlOf (.cons (.d false qT1) (.cons (.d false qT1) .nil)) [] [] 1 qki (B:=Bool) (fun b=>((b,()),(()))) (fun a=>q4q a.1.1 a.1.2.1))
theorem qi4:MdlOK Tryz.prog 26 qcr:=fnA Tryz.func26 rfl qmq (.two .z (.two .z (.two (.two .z (.s 0)) .z))) (sC qxw s0)
def qq0:Shp:=⟨[(0,.d true .bool)],[]⟩
noncomputable abbrev qgl:Ctx (Bool):=⟨38,tt,false,false,[],gam [(32,q96),(26,qcr)],lam [qd _ 38 [] q101 (C:=((List Trans)×Int×Int×(List Trans)×Int×Int×(List Trans)×Int×Int×ByteArray×qL1×qL1)) (S:=Int) (fun x=>((x.1.2.2.1,x.1.2.2.2.1,x.1.2.2.2.2.1,x.1.2.2.2.2.2.1,x.1.2.2.2.2.2.2.1,x.2.1.1,x.2.1.2.1,x.2.1.2.2.1,x.2.1.2.2.2.1,x.2.2.1.1,x.2.2.1.2.1,x.2.2.1.2.2.1),x.1.2.2.2.2.2.2.2.1)) q10a (CE:=((List Trans)×Int×Int×Int×(List Trans)×Int×Int)) (E:=Unit) (fun c e=>(((),c.1,c.2.1,c.2.2.1,()),((c.2.2.2.1,c.2.2.2.2.1,c.2.2.2.2.2.1,c.2.2.2.2.2.2,()),()))) (fun c=>(c.1,c.2.1,c.2.2.1,c.2.2.2.2.2.1,c.2.2.2.2.2.2.1,c.2.2.2.2.2.2.2.1,c.2.2.2.2.2.2.2.2.1)) (fun {R} c a nx dn rt=>q4d c.1 c.2.1 c.2.2.1 c.2.2.2.1 c.2.2.2.2.1 c.2.2.2.2.2.1 c.2.2.2.2.2.2.1 c.2.2.2.2.2.2.2.1 c.2.2.2.2.2.2.2.2.1 c.2.2.2.2.2.2.2.2.2.1 c.2.2.2.2.2.2.2.2.2.2.1 c.2.2.2.2.2.2.2.2.2.2.2 a nx dn rt),
 qd _ 38 [] q10d (C:=((List Trans)×Int×Int×(List Trans)×Int×Int)) (S:=Int) (fun x=>((x.1.2.1,x.1.2.2.1,x.2.1.1,x.2.1.2.1,x.2.1.2.2.1,x.2.1.2.2.2.1),x.1.2.2.2.1)) q10k (CE:=Unit) (E:=Unit) (fun c e=>((()),(()))) (fun c=>()) (fun {R} c a nx dn rt=>q4g c.1 c.2.1 c.2.2.1 c.2.2.2.1 c.2.2.2.2.1 c.2.2.2.2.2 a nx dn rt)],resU 38 tt [] [.tmp 2] qq0 (fun x=>x.1.1)⟩
theorem qg3:CtxM Tryz.prog qgl:=mkG fits mixed (mC qjn (mC qi4 m0))
theorem q12b:SummOK Tryz.prog qgl 0 (lc 2 Tryz.f42 9829):=lp rfl qg3 .z s0 (fun c a=>(((),(),c.1,c.2.1,c.2.2.1,c.2.2.2.1,c.2.2.2.2.1,a,()),((c.2.2.2.2.2.1,c.2.2.2.2.2.2.1,c.2.2.2.2.2.2.2.1,c.2.2.2.2.2.2.2.2.1,()),(c.2.2.2.2.2.2.2.2.2.1,c.2.2.2.2.2.2.2.2.2.2.1,c.2.2.2.2.2.2.2.2.2.2.2,()),()))) (fun y=>((y.1.2.1,y.1.2.2.1,y.1.2.2.2.1,y.2.1.1,y.2.1.2.1,y.2.1.2.2.1,y.2.1.2.2.2.1),()))
theorem q12d:SummOK Tryz.prog qgl 1 (lc 0 Tryz.f42 37):=lp rfl qg3 (.two .z (.two .z (.two (.one (.two .z (.two .z (.s 0)))) .z))) (sC q12b s0) (fun c a=>(((),c.1,c.2.1,a,()),((c.2.2.1,c.2.2.2.1,c.2.2.2.2.1,c.2.2.2.2.2,()),()))) (fun y=>((),()))
noncomputable abbrev qaa:Mdl:=(mdlOf (.cons (.d false Net.ty) .nil) [] [] 1 qq0 (B:=Bool) (fun b=>((b,()),(()))) (fun a=>q34 a.1.1))
theorem qdd:MdlOK Tryz.prog 42 qaa:=fnA Tryz.func42 rfl qg3 (.two .z (.two (.two .z (.s 1)) .z)) (sC q12d s0)
def qml:Shp:=⟨[(0,.own 0)],[.arr 3 (.fz true) [0] qT0]⟩
noncomputable abbrev q102:Ctx (qL1):=⟨27,tt,false,false,[],gam [],lam [],resU 27 tt [] [.tmp 4] qml (fun x=>x.2.1)⟩
theorem q10t:CtxM Tryz.prog q102:=mkG fits mixed m0
noncomputable abbrev qp0:Mdl:=(mdlOf (.cons (.e) (.cons (.d false qT0) .nil)) [] [] 1 qml (B:=qL1) (fun b=>(((),()),(b,()))) (fun a=>qq1 a.1.2.1))
theorem qww:MdlOK Tryz.prog 131 qp0:=fnA Tryz.func131 rfl q10t .z s0
def qhp:Shp:=⟨[(0,.own 0)],[.arr 3 (.fz true) [0] qT0]⟩
noncomputable abbrev qax:Ctx (qL1):=⟨36,tt,false,false,[],gam [(131,qp0)],lam [qd _ 36 [] quc (C:=(qL2×qL2×Int)) (S:=(Int×Int)) (fun x=>((x.1.1,x.1.2.2.1,x.1.2.2.2.1),(x.1.2.1,x.1.2.2.2.2.1))) quk (CE:=qL2) (E:=Int) (fun c e=>((c,e,()),(()))) (fun c=>c.1) (fun {R} c a nx dn rt=>qgt c.1 c.2.1 c.2.2 a.1 a.2 nx dn rt),
 qd _ 36 [] qtl (C:=(qL2×Int)) (S:=(Int×qL1)) (fun x=>((x.1.2.1,x.1.2.2.1),(x.1.2.2.2.1,x.2.1))) qu4 (CE:=Unit) (E:=qL1) (fun c e=>(((),()),(e,()))) (fun c=>()) (fun {R} c a nx dn rt=>qg4 c.1 c.2 a.1 a.2 nx dn rt)],resU 36 tt [] [.tmp 2] qhp (fun x=>x.2.1)⟩
theorem qb0:CtxM Tryz.prog qax:=mkG fits mixed (mC qww m0)
theorem qvh:SummOK Tryz.prog qax 1 (lc 2 Tryz.f92 303):=lp rfl qb0 .z s0 (fun c a=>(((),c.1,c.2,a.1,()),(a.2,()))) (fun y=>((),y.2.1))
theorem qv6:SummOK Tryz.prog qax 0 (lc 0 Tryz.f92 75):=lp rfl qb0 .z s0 (fun c a=>((c.1,a.1,c.2.1,c.2.2,a.2,()),(()))) (fun y=>(y.1.1,y.1.2.1))
noncomputable abbrev qk5:Mdl:=(mdlOf (.cons (.d false qT2) .nil) [] [] 1 qhp (B:=qL1) (fun b=>(((),()),(b,()))) (fun a=>qmh a.1.1))
theorem qu6:MdlOK Tryz.prog 92 qk5:=fnA Tryz.func92 rfl qb0 (.two .z (.two .z (.two (.two .z (.s 0)) (.two .z (.two (.two .z (.s 1)) .z))))) (sC qv6 (sC qvh s0))
def qjs:Shp:=⟨[(0,.d true .bool)],[]⟩
noncomputable abbrev q68:Ctx (Bool):=⟨55,tt,false,false,[],gam [(87,qb5),(92,qk5),(88,q7e),(89,q4c)],lam [qd _ 55 [] qvn (C:=(Int×(List Trans)×Int×Int×qL1×Int)) (S:=(Int×Int×qL1)) (fun x=>((x.1.2.1,x.1.2.2.1,x.1.2.2.2.1,x.1.2.2.2.2.1,x.1.2.2.2.2.2.1,x.1.2.2.2.2.2.2.1),(x.1.2.2.2.2.2.2.2.1,x.2.1.1,x.2.2.1))) qv7 (CE:=((List Trans)×Int×Int)) (E:=(Int×qL1)) (fun c e=>(((),c.1,c.2.1,c.2.2,()),((e.1,(),()),e.2,()))) (fun c=>(c.2.1,c.2.2.1,c.2.2.2.1)) (fun {R} c a nx dn rt=>qhu c.1 c.2.1 c.2.2.1 c.2.2.2.1 c.2.2.2.2.1 c.2.2.2.2.2 a.1 a.2.1 a.2.2 nx dn rt),
 qd _ 55 [] qvl (C:=((List Trans)×Int)) (S:=(Int×Int×qL1)) (fun x=>((x.1.2.1,x.1.2.2.1),(x.1.2.2.2.1,x.2.1.1,x.2.2.1))) qvq (CE:=Unit) (E:=(Int×qL1)) (fun c e=>(((),()),((e.1,(),()),e.2,()))) (fun c=>()) (fun {R} c a nx dn rt=>qht c.1 c.2 a.1 a.2.1 a.2.2 nx dn rt),
 qd _ 55 [] qv9 (C:=Int) (S:=(Int×Int×qL1)) (fun x=>(x.1.2.1,(x.1.2.2.1,x.2.1.1,x.2.2.1))) qvd (CE:=Unit) (E:=Unit) (fun c e=>((()),(()))) (fun c=>()) (fun {R} c a nx dn rt=>qi0 c a.1 a.2.1 a.2.2 nx dn rt)],resU 55 tt [] [.tmp 2] qjs (fun x=>x.1.1)⟩
theorem q65:CtxM Tryz.prog q68:=mkG fits mixed (mC qga (mC qu6 (mC qd6 (mC q6p m0))))
theorem qxs:SummOK Tryz.prog q68 0 (lc 2 Tryz.f52 39319):=lp rfl q65 .z s0 (fun c a=>(((),c.1,c.2.1,c.2.2.1,c.2.2.2.1,c.2.2.2.2.1,c.2.2.2.2.2,a.1,()),((a.2.1,(),()),a.2.2,()))) (fun y=>((y.1.2.1,y.1.2.2.1,y.1.2.2.2.1),(y.2.1.1,y.2.2.1)))
theorem qxo:SummOK Tryz.prog q68 2 (lc 4 Tryz.f52 303):=lp rfl q65 .z s0 (fun c a=>(((),c,a.1,()),((a.2.1,(),()),a.2.2,()))) (fun y=>((),()))
theorem qx4:SummOK Tryz.prog q68 1 (lc 0 Tryz.f52 151):=lp rfl q65 (.two .z (.two .z (.two (.one (.two .z (.two .z (.s 0)))) .z))) (sC qxs s0) (fun c a=>(((),c.1,c.2,a.1,()),((a.2.1,(),()),a.2.2,()))) (fun y=>((),(y.2.1.1,y.2.2.1)))
noncomputable abbrev qmi:Mdl:=(mdlOf (.cons (.d false Net.ty) .nil) [] [] 1 qjs (B:=Bool) (fun b=>((b,()),(()))) (fun a=>qos a.1.1))
theorem qv4:MdlOK Tryz.prog 52 qmi:=fnA Tryz.func52 rfl q65 (.two .z (.two .z (.two .z (.two (.two .z (.s 1)) (.two (.two .z (.s 2)) .z))))) (sC qx4 (sC qxo s0))
def q131:Shp:=⟨[(0,.d true .bool)],[]⟩
noncomputable abbrev q1he:Ctx (Bool):=⟨12,tt,false,false,[],gam [],lam [],resU 12 tt [] [.tmp 2] q131 (fun x=>x.1.1)⟩
theorem q1hr:CtxM Tryz.prog q1he:=mkG fits mixed m0
noncomputable abbrev qxb:Mdl:=(mdlOf (.cons (.d false Net.ty) .nil) [] [] 1 q131 (B:=Bool) (fun b=>((b,()),(()))) (fun a=>q108 a.1.1))
theorem q116:MdlOK Tryz.prog 93 qxb:=fnA Tryz.func93 rfl q1hr .z s0
def q11l:Shp:=⟨[(0,.d true qT0)],[]⟩
noncomputable abbrev q1gq:Ctx (Int):=⟨27,tt,false,false,[],gam [(35,q1v)],lam [],resU 27 tt [] [.tmp 4] q11l (fun x=>x.1.1)⟩
theorem q1ft:CtxM Tryz.prog q1gq:=mkG fits mixed (mC q21 m0)
noncomputable abbrev qto:Mdl:=(mdlOf (.cons (.d false Trans.ty) (.cons (.d false qT0) .nil)) [] [] 1 q11l (B:=Int) (fun b=>((b,()),(()))) (fun a=>qxt a.1.1 a.1.2.1))
theorem qzl:MdlOK Tryz.prog 94 qto:=fnA Tryz.func94 rfl q1ft (.two .z (.two (.d [0,1,0,7,0,16,0,127,255,511] [] []) .z)) s0
def q1av:Shp:=⟨[(0,.d true qT0)],[]⟩
noncomputable abbrev q12z:Ctx (Int):=⟨24,tt,false,false,[],gam [],lam [qd _ 24 [] q1hp (C:=(qL1×Int×Int)) (S:=(Int×Int)) (fun x=>((x.1.2.2.1,x.1.2.2.2.1,x.1.2.2.2.2.1),(x.1.1,x.1.2.1))) q1i0 (CE:=(qL1×Int×Int)) (E:=Int) (fun c e=>((e,c.1,c.2.1,c.2.2,()),(()))) (fun c=>(c.1,c.2.1,c.2.2)) (fun {R} c a nx dn rt=>q16i c.1 c.2.1 c.2.2 a.1 a.2 nx dn rt),
 qd _ 24 [] q1hf (C:=(qL1×Int)) (S:=(Int×Int)) (fun x=>((x.1.2.1,x.1.2.2.1),(x.1.1,x.1.2.2.2.1))) q1i2 (CE:=Unit) (E:=Int) (fun c e=>((e,()),(()))) (fun c=>()) (fun {R} c a nx dn rt=>q15y c.1 c.2 a.1 a.2 nx dn rt)],resU 24 tt [] [.tmp 2] q1av (fun x=>x.1.1)⟩
theorem q12q:CtxM Tryz.prog q12z:=mkG fits mixed m0
theorem q1jg:SummOK Tryz.prog q12z 0 (lc 2 Tryz.f182 19659):=lp rfl q12q (.two .z (.one (.d [0,0,0,6,3,31] [] []))) s0 (fun c a=>((a.1,a.2,c.1,c.2.1,c.2.2,()),(()))) (fun y=>((y.1.2.1,y.1.2.2.1,y.1.2.2.2.1),y.1.1))
theorem q1jc:SummOK Tryz.prog q12z 1 (lc 0 Tryz.f182 75):=lp rfl q12q (.two .z (.two .z (.two (.one (.two .z (.two .z (.s 0)))) .z))) (sC q1jg s0) (fun c a=>((a.1,c.1,c.2,a.2,()),(()))) (fun y=>((),y.1.1))
noncomputable abbrev q13g:Mdl:=(mdlOf (.cons (.d false qT1) .nil) [] [] 1 q1av (B:=Int) (fun b=>((b,()),(()))) (fun a=>q18f a.1.1))
theorem q169:MdlOK Tryz.prog 182 q13g:=fnA Tryz.func182 rfl q12q (.two .z (.two .z (.two (.two .z (.s 1)) .z))) (sC q1jc s0)
def q161:Shp:=⟨[(0,.d true (.int .u64))],[]⟩
noncomputable abbrev q19z:Ctx (Int):=⟨21,tt,false,false,[],gam [],lam [qd _ 21 [] q1h1 (C:=(qL1×Int)) (S:=(Int×Int)) (fun x=>((x.1.2.1,x.1.2.2.1),(x.1.1,x.1.2.2.2.1))) q1fr (CE:=Unit) (E:=Int) (fun c e=>((e,()),(()))) (fun c=>()) (fun {R} c a nx dn rt=>q12j c.1 c.2 a.1 a.2 nx dn rt)],resU 21 tt [] [.tmp 2] q161 (fun x=>x.1.1)⟩
theorem q1b6:CtxM Tryz.prog q19z:=mkG fits mixed m0
theorem q1i3:SummOK Tryz.prog q19z 0 (lc 0 Tryz.f183 75):=lp rfl q1b6 .z s0 (fun c a=>((a.1,c.1,c.2,a.2,()),(()))) (fun y=>((),y.1.1))
noncomputable abbrev q110:Mdl:=(mdlOf (.cons (.d false qT1) .nil) [] [] 1 q161 (B:=Int) (fun b=>((b,()),(()))) (fun a=>qgx a.1.1))
theorem q12l:MdlOK Tryz.prog 183 q110:=fnA Tryz.func183 rfl q1b6 (.two .z (.two .z (.two (.two .z (.s 0)) .z))) (sC q1i3 s0)
def qwf:Shp:=⟨[],[.cs 135 2 1 (.cons (.own 1) (.cons (.own 2) .nil)),.arr 48 (.fz true) [3] qT1,.arr 48 (.fz true) [3] qT1]⟩
noncomputable abbrev qqo:Ctx ((qL2×qL2)):=⟨116,tt,false,false,[true,false,false],gam [(45,q2l),(182,q13g),(183,q110)],lam [qd _ 116 [true,false,false] q18e (C:=(qL1×qL1×Int×Int×qL2×qL2)) (S:=Int) (fun x=>((x.1.2.1,x.1.2.2.1,x.1.2.2.2.1,x.1.2.2.2.2.2.1,x.2.2.1,x.2.2.2.1),x.1.2.2.2.2.2.2.1)) q16q (CE:=(qL1×qL1×Int×qL2×qL2)) (E:=Unit) (fun c e=>(((),c.1,c.2.1,c.2.2.1,()),(((),(),()),c.2.2.2.1,c.2.2.2.2,()))) (fun c=>(c.1,c.2.1,c.2.2.1,c.2.2.2.2.2,c.2.2.2.2.1)) (fun {R} c a nx dn rt=>qt6 c.1 c.2.1 c.2.2.1 c.2.2.2.1 c.2.2.2.2.1 c.2.2.2.2.2 a nx dn rt),
 qd _ 116 [true,false,false] q189 (C:=(qL1×qL1×Int×qL2×Int×qL2×qL2)) (S:=(Int×qL2×qL2)) (fun x=>((x.1.2.1,x.1.2.2.1,x.1.2.2.2.1,x.1.2.2.2.2.2.1,x.1.2.2.2.2.2.2.1,x.2.1.1,x.2.1.2.1),(x.1.2.2.2.2.2.2.2.1,x.2.2.2.1,x.2.2.2.2.1))) q175 (CE:=(qL1×qL1×qL2×qL2)) (E:=(qL2×qL2)) (fun c e=>(((),c.1,c.2.1,(),()),((c.2.2.1,c.2.2.2,()),((),(),()),e.1,e.2,()))) (fun c=>(c.1,c.2.1,c.2.2.2.2.2.1,c.2.2.2.2.2.2)) (fun {R} c a nx dn rt=>qub c.1 c.2.1 c.2.2.1 c.2.2.2.1 c.2.2.2.2.1 c.2.2.2.2.2.1 c.2.2.2.2.2.2 a.1 a.2.1 a.2.2 nx dn rt)],resU 116 tt [true,false,false] [] qwf (fun x=>(x.2.2.1,x.2.2.2.1))⟩
theorem qq8:CtxM Tryz.prog qqo:=mkG fits mixed (mC q31 (mC q169 (mC q12l m0)))
theorem q19l:SummOK Tryz.prog qqo 1 (lc 6 Tryz.f160 303):=lp rfl qq8 (.two .z (.two .z (.two (.one (.two .z (.two .z (.two (.d [0,1,0,4,12,28,0,124,252,508,1023,0,2048,0,8192,32767,8191,131071,262143,524287] [10,15,17,19] []) .z)))) .z))) s0 (fun c a=>(((),c.1,c.2.1,c.2.2.1,(),c.2.2.2.1,c.2.2.2.2.1,a.1,()),((c.2.2.2.2.2.1,c.2.2.2.2.2.2,()),((),(),()),a.2.1,a.2.2,()))) (fun y=>((y.1.2.1,y.1.2.2.1,y.2.1.1,y.2.1.2.1),(y.2.2.2.1,y.2.2.2.2.1)))
theorem q19a:SummOK Tryz.prog qqo 0 (lc 4 Tryz.f160 75):=lp rfl qq8 .z s0 (fun c a=>(((),c.1,c.2.1,c.2.2.1,(),c.2.2.2.1,a,()),(((),(),()),c.2.2.2.2.1,c.2.2.2.2.2,()))) (fun y=>((y.1.2.1,y.1.2.2.1,y.1.2.2.2.1,y.2.2.1,y.2.2.2.1),()))
noncomputable abbrev qya:Mdl:=(mdlOf (.cons (.ptr 0) (.cons (.d true qT1) (.cons (.d true qT1) .nil))) [.cs 135 2 1 (.cons (.own 1) (.cons (.own 2) .nil)),.arr 48 (.fz true) [3] qT1,.arr 48 (.fz true) [3] qT1] [true,false,false] 0 qwf (B:=(qL2×qL2)) (fun b=>((()),(((),(),()),b.1,b.2,()))) (fun a=>q119 a.1.2.1 a.1.2.2.1 a.2.2.1 a.2.2.2.1))
theorem q179:MdlOK Tryz.prog 160 qya:=fnA Tryz.func160 rfl qq8 (.two .z (.two .z (.two (.two .z (.s 0)) (.two .z (.two (.two .z (.s 1)) (.d [0,0,0,4,0,16,60,0,128,0,512,2044,4093,8189,16381,32767,65535,131071] [6,11,14,17] [])))))) (sC q19a (sC q19l s0))
def q1a4:Shp:=⟨[(0,.own 0)],[.arr 3 (.fz true) [0] qT0]⟩
noncomputable abbrev q1dl:Ctx (qL1):=⟨37,tt,false,false,[],gam [],lam [qd _ 37 [] q1i7 (C:=(Int×qL1×Int×qL1×Int)) (S:=(Int×qL1)) (fun x=>((x.1.1,x.1.2.1,x.1.2.2.1,x.1.2.2.2.1,x.1.2.2.2.2.2.1),(x.1.2.2.2.2.2.2.1,x.2.1))) q1i5 (CE:=Unit) (E:=qL1) (fun c e=>(((),()),(e,()))) (fun c=>()) (fun {R} c a nx dn rt=>q16e c.1 c.2.1 c.2.2.1 c.2.2.2.1 c.2.2.2.2 a.1 a.2 nx dn rt)],resU 37 tt [] [.tmp 8] q1a4 (fun x=>x.2.1)⟩
theorem q1e6:CtxM Tryz.prog q1dl:=mkG fits mixed m0
theorem q1jm:SummOK Tryz.prog q1dl 0 (lc 0 Tryz.f161 75):=lp rfl q1e6 (.two .z (.two .z (.two (.one (.two .z (.d [0,0,0,0,0,24,56,124,0,0,0,1536,3584,7936,16380,32767,65535] [16] []))) .z))) s0 (fun c a=>((c.1,c.2.1,c.2.2.1,c.2.2.2.1,(),c.2.2.2.2,a.1,()),(a.2,()))) (fun y=>((),y.2.1))
noncomputable abbrev q1dx:Mdl:=(mdlOf (.cons (.d false qT0) (.cons (.d false qT1) (.cons (.d false qT0) (.cons (.d false qT1) .nil)))) [] [] 1 q1a4 (B:=qL1) (fun b=>(((),()),(b,()))) (fun a=>q18c a.1.1 a.1.2.1 a.1.2.2.1 a.1.2.2.2.1))
theorem q1hn:MdlOK Tryz.prog 161 q1dx:=fnA Tryz.func161 rfl q1e6 (.two .z (.two .z (.two (.two .z (.s 0)) .z))) (sC q1jm s0)
def qtm:Shp:=⟨[],[.cs 135 2 1 (.cons (.own 1) (.cons (.own 2) .nil)),.arr 48 (.fz true) [3] qT1,.arr 48 (.fz true) [3] qT1,.arr 0 (.fz true) [] qT0,.arr 0 (.fz true) [] qT0]⟩
noncomputable abbrev q6l:Ctx ((qL2×qL2×qL1×qL1)):=⟨116,tt,false,false,[true,false,false,false,false],gam [(45,q2l),(182,q13g),(183,q110)],lam [qd _ 116 [true,false,false,false,false] q155 (C:=(Int×Int×qL1×qL2×qL2)) (S:=(Int×qL1)) (fun x=>((x.1.2.2.2.1,x.1.2.2.2.2.1,x.2.2.2.1,x.2.2.2.2.1,x.2.2.2.2.2.1),(x.1.2.2.2.2.2.1,x.2.2.1))) q15c (CE:=(Int×qL1×qL2×qL2)) (E:=qL1) (fun c e=>(((),(),(),c.1,()),(((),(),()),e,c.2.1,c.2.2.1,c.2.2.2,()))) (fun c=>(c.1,c.2.2.1,c.2.2.2.1,c.2.2.2.2)) (fun {R} c a nx dn rt=>qs7 c.1 c.2.1 c.2.2.1 c.2.2.2.1 c.2.2.2.2 a.1 a.2 nx dn rt),
 qd _ 116 [true,false,false,false,false] q14n (C:=(qL1×Int×Int×qL2×qL2)) (S:=(Int×qL1×qL1)) (fun x=>((x.1.2.1,x.1.2.2.2.1,x.1.2.2.2.2.1,x.2.2.2.1,x.2.2.2.2.1),(x.1.2.2.2.2.2.1,x.2.2.1,x.2.2.2.2.2.1))) q14b (CE:=(qL1×qL2×qL2)) (E:=(qL1×qL1)) (fun c e=>(((),c.1,(),()),(((),(),()),e.1,c.2.1,c.2.2,e.2,()))) (fun c=>(c.1,c.2.2.2.1,c.2.2.2.2)) (fun {R} c a nx dn rt=>qs9 c.1 c.2.1 c.2.2.1 c.2.2.2.1 c.2.2.2.2 a.1 a.2.1 a.2.2 nx dn rt),
 qd _ 116 [true,false,false,false,false] q15l (C:=(qL1×qL1×Int×Int×qL2×qL2)) (S:=(Int×qL1×qL1)) (fun x=>((x.1.2.1,x.1.2.2.1,x.1.2.2.2.1,x.1.2.2.2.2.2.1,x.2.2.1,x.2.2.2.1),(x.1.2.2.2.2.2.2.1,x.2.2.2.2.1,x.2.2.2.2.2.1))) q14p (CE:=(qL1×qL1×Int×qL2×qL2)) (E:=(qL1×qL1)) (fun c e=>(((),c.1,c.2.1,c.2.2.1,()),(((),(),()),c.2.2.2.1,c.2.2.2.2,e.1,e.2,()))) (fun c=>(c.1,c.2.1,c.2.2.1,c.2.2.2.2.2,c.2.2.2.2.1)) (fun {R} c a nx dn rt=>qs0 c.1 c.2.1 c.2.2.1 c.2.2.2.1 c.2.2.2.2.1 c.2.2.2.2.2 a.1 a.2.1 a.2.2 nx dn rt),
 qd _ 116 [true,false,false,false,false] q14i (C:=(qL1×qL1×Int×qL2×Int×qL2×qL2)) (S:=(Int×qL2×qL2×qL1)) (fun x=>((x.1.2.1,x.1.2.2.1,x.1.2.2.2.1,x.1.2.2.2.2.2.1,x.1.2.2.2.2.2.2.1,x.2.1.1,x.2.1.2.1),(x.1.2.2.2.2.2.2.2.1,x.2.2.2.1,x.2.2.2.2.1,x.2.2.2.2.2.1))) q14x (CE:=(qL1×qL1×qL2×qL2)) (E:=(qL2×qL2×qL1)) (fun c e=>(((),c.1,c.2.1,(),()),((c.2.2.1,c.2.2.2,()),((),(),()),e.1,e.2.1,e.2.2,()))) (fun c=>(c.1,c.2.1,c.2.2.2.2.2.1,c.2.2.2.2.2.2)) (fun {R} c a nx dn rt=>qs1 c.1 c.2.1 c.2.2.1 c.2.2.2.1 c.2.2.2.2.1 c.2.2.2.2.2.1 c.2.2.2.2.2.2 a.1 a.2.1 a.2.2.1 a.2.2.2 nx dn rt),
 q29 _ 116 [true,false,false,false,false] q15a (A:=(qL1×qL1×qL2×qL2×qL1×qL1)) (fun x=>(x.1.2.1,x.1.2.2.1,x.2.2.1,x.2.2.2.1,x.2.2.2.2.1,x.2.2.2.2.2.1)) q157 (CE:=Unit) (E:=(qL2×qL2×qL1×qL1)) (fun c e=>((()),(((),(),()),e.1,e.2.1,e.2.2.1,e.2.2.2,()))) (fun c=>()) (fun {R} c dn rt=>qsa c.1 c.2.1 c.2.2.1 c.2.2.2.1 c.2.2.2.2.1 c.2.2.2.2.2 dn rt)],resU 116 tt [true,false,false,false,false] [] qtm (fun x=>(x.2.2.1,x.2.2.2.1,x.2.2.2.2.1,x.2.2.2.2.2.1))⟩
theorem q6n:CtxM Tryz.prog q6l:=mkG fits mixed (mC q31 (mC q169 (mC q12l m0)))
theorem q16x:SummOK Tryz.prog q6l 0 (lc 0 Tryz.f160 294):=lp rfl q6n .z s0 (fun c a=>(((),(),(),c.1,c.2.1,a.1,()),(((),(),()),a.2,c.2.2.1,c.2.2.2.1,c.2.2.2.2,()))) (fun y=>((y.1.2.2.2.1,y.2.2.2.1,y.2.2.2.2.1,y.2.2.2.2.2.1),y.2.2.1))
theorem q18j:SummOK Tryz.prog q6l 1 (lc 2 Tryz.f160 310):=lp rfl q6n .z s0 (fun c a=>(((),c.1,(),c.2.1,c.2.2.1,a.1,()),(((),(),()),a.2.1,c.2.2.2.1,c.2.2.2.2,a.2.2,()))) (fun y=>((y.1.2.1,y.2.2.2.1,y.2.2.2.2.1),(y.2.2.1,y.2.2.2.2.2.1)))
theorem q17c:SummOK Tryz.prog q6l 3 (lc 6 Tryz.f160 303):=lp rfl q6n (.two .z (.two .z (.two (.one (.two .z (.two .z (.two (.d [0,1,0,4,12,28,0,124,252,508,1023,0,2048,0,8192,32767,8191,131071,262143,524287] [10,15,17,19] []) .z)))) .z))) s0 (fun c a=>(((),c.1,c.2.1,c.2.2.1,(),c.2.2.2.1,c.2.2.2.2.1,a.1,()),((c.2.2.2.2.2.1,c.2.2.2.2.2.2,()),((),(),()),a.2.1,a.2.2.1,a.2.2.2,()))) (fun y=>((y.1.2.1,y.1.2.2.1,y.2.1.1,y.2.1.2.1),(y.2.2.2.1,y.2.2.2.2.1,y.2.2.2.2.2.1)))
theorem q17q:SummOK Tryz.prog q6l 2 (lc 4 Tryz.f160 75):=lp rfl q6n .z s0 (fun c a=>(((),c.1,c.2.1,c.2.2.1,(),c.2.2.2.1,a.1,()),(((),(),()),c.2.2.2.2.1,c.2.2.2.2.2,a.2.1,a.2.2,()))) (fun y=>((y.1.2.1,y.1.2.2.1,y.1.2.2.2.1,y.2.2.1,y.2.2.2.1),(y.2.2.2.2.1,y.2.2.2.2.2.1)))
theorem q18a:SummOK Tryz.prog q6l 4 (jc Tryz.f160 3):=jn rfl q6n (.two .z (.two (.two .z (.s 2)) (.two .z (.two (.two .z (.s 3)) (.d [0,0,0,4,0,16,60,0,128,0,512,2044,4093,8189,16381,32767,65535,131071] [6,11,14,17] []))))) (sC q17q (sC q17c s0)) (fun c=>(((),c.1,c.2.1,()),(((),(),()),c.2.2.1,c.2.2.2.1,c.2.2.2.2.1,c.2.2.2.2.2,()))) (fun y=>((),(y.2.2.1,y.2.2.2.1,y.2.2.2.2.1,y.2.2.2.2.2.1)))
noncomputable abbrev qvv:Mdl:=(mdlOf (.cons (.ptr 0) (.cons (.own 1) (.cons (.own 2) .nil))) [.cs 135 2 1 (.cons (.own 3) (.cons (.own 4) .nil)),.arr 3 (.fz true) [0] qT0,.arr 3 (.fz true) [0] qT0,.arr 48 (.fz true) [3] qT1,.arr 48 (.fz true) [3] qT1] [true,false,false,false,false] 0 qtm (B:=(qL2×qL2×qL1×qL1)) (fun b=>((()),(((),(),()),b.1,b.2.1,b.2.2.1,b.2.2.2,()))) (fun a=>qyn a.2.2.1 a.2.2.2.1 a.2.2.2.2.1 a.2.2.2.2.2.1))
theorem q14z:MdlOK Tryz.prog 160 qvv:=fnA Tryz.func160 rfl q6n (.two (.two .z (.two .z (.two (.two (.two .z (.s 0)) (.two .z (.s 1))) .z))) (.s 4)) (sC q16x (sC q18j (sC q18a s0)))
def qn1:Shp:=⟨[(0,.d true .bool)],[.cs 135 2 1 (.cons (.own 1) (.cons (.own 2) .nil)),.arr 48 (.fz true) [3] qT1,.arr 48 (.fz true) [3] qT1]⟩
noncomputable abbrev q7g:Ctx ((Bool×qL2×qL2)):=⟨142,tt,false,false,[true,false,false],gam [(160,qya),(160,qvv),(161,q1dx)],lam [qd _ 142 [true,false,false] qx1 (C:=(Int×Int×qL2×qL2)) (S:=(Int×qL2×qL2)) (fun x=>((x.1.2.1,x.1.2.2.2.1,x.2.2.2.1,x.2.2.2.2.1),(x.1.2.2.2.2.1,x.2.2.2.2.2.1,x.2.2.2.2.2.2.1))) qx8 (CE:=(Int×qL2×qL2)) (E:=(qL2×qL2)) (fun c e=>(((),c.1,(),()),(((),(),()),((),(),()),c.2.1,c.2.2,e.1,e.2,()))) (fun c=>(c.1,c.2.2.1,c.2.2.2)) (fun {R} c a nx dn rt=>qke c.1 c.2.1 c.2.2.1 c.2.2.2 a.1 a.2.1 a.2.2 nx dn rt),
 qd _ 142 [true,false,false] qwy (C:=(Int×Int×Int×Int×Int×qL2×qL2)) (S:=(Int×qL2×qL2)) (fun x=>((x.1.2.1,x.1.2.2.2.1,x.1.2.2.2.2.1,x.1.2.2.2.2.2.1,x.1.2.2.2.2.2.2.1,x.2.2.2.1,x.2.2.2.2.1),(x.1.2.2.2.2.2.2.2.1,x.2.2.2.2.2.1,x.2.2.2.2.2.2.1))) qxu (CE:=(Int×Int×Int×qL2×qL2)) (E:=(qL2×qL2)) (fun c e=>(((),c.1,(),c.2.1,c.2.2.1,()),(((),(),()),((),(),()),c.2.2.2.1,c.2.2.2.2,e.1,e.2,()))) (fun c=>(c.1,c.2.2.1,c.2.2.2.1,c.2.2.2.2.2.1,c.2.2.2.2.2.2)) (fun {R} c a nx dn rt=>qka c.1 c.2.1 c.2.2.1 c.2.2.2.1 c.2.2.2.2.1 c.2.2.2.2.2.1 c.2.2.2.2.2.2 a.1 a.2.1 a.2.2 nx dn rt),
 qd _ 142 [true,false,false] qxg (C:=(Int×Int×qL2×qL2)) (S:=(Int×qL2×qL2)) (fun x=>((x.1.2.1,x.1.2.2.2.1,x.2.2.2.1,x.2.2.2.2.1),(x.1.2.2.2.2.1,x.2.2.2.2.2.1,x.2.2.2.2.2.2.1))) qxm (CE:=(qL2×qL2)) (E:=(qL2×qL2)) (fun c e=>(((),(),()),(((),(),()),((),(),()),c.1,c.2,e.1,e.2,()))) (fun c=>(c.2.2.1,c.2.2.2)) (fun {R} c a nx dn rt=>qk9 c.1 c.2.1 c.2.2.1 c.2.2.2 a.1 a.2.1 a.2.2 nx dn rt)],resU 142 tt [true,false,false] [.tmp 4] qn1 (fun x=>(x.1.1,x.2.2.1,x.2.2.2.1))⟩
theorem q7f:CtxM Tryz.prog q7g:=mkG fits mixed (mC q179 (mC q14z (mC q1hn m0)))
theorem qye:SummOK Tryz.prog q7g 1 (lc 4 Tryz.f132 39319):=lp rfl q7f (.two .z (.two .z (.two (.one (.two .z (.two (.d [0,1,3,7,0,31,63,0,255,511,0,1024,3072,7168,0,31744,64512,0,261120,523264,1023,2097151] [] []) (.two .z (.two (.d [0,0,2,0,8,24,56,0,248,504,0,0,2048,6144,14336,0,63488,129024,262142,0,524288,0,2097152,6291456,14680064,0,65011712,132120576,0,0,536870912,1610612736,3758096384,0,16642998272,33822867456,68719476734,137438953471] [37] []) .z))))) .z))) s0 (fun c a=>(((),c.1,(),c.2.1,c.2.2.1,c.2.2.2.1,c.2.2.2.2.1,a.1,()),(((),(),()),((),(),()),c.2.2.2.2.2.1,c.2.2.2.2.2.2,a.2.1,a.2.2,()))) (fun y=>((y.1.2.1,y.1.2.2.2.1,y.1.2.2.2.2.1,y.2.2.2.1,y.2.2.2.2.1),(y.2.2.2.2.2.1,y.2.2.2.2.2.2.1)))
theorem qyg:SummOK Tryz.prog q7g 2 (lc 2 Tryz.f132 151):=lp rfl q7f (.two .z (.two .z (.two (.one (.two .z (.two .z (.s 1)))) .z))) (sC qye s0) (fun c a=>(((),c.1,(),c.2.1,a.1,()),(((),(),()),((),(),()),c.2.2.1,c.2.2.2,a.2.1,a.2.2,()))) (fun y=>((y.2.2.2.1,y.2.2.2.2.1),(y.2.2.2.2.2.1,y.2.2.2.2.2.2.1)))
theorem qyv:SummOK Tryz.prog q7g 0 (lc 0 Tryz.f132 75):=lp rfl q7f (.two .z (.two .z (.two (.one (.two .z (.two .z (.two (.d [0,0,2,6,14,0,62,126,0,256,768,1792,0,7936,16128,32767] [15] []) .z)))) .z))) s0 (fun c a=>(((),c.1,(),c.2.1,a.1,()),(((),(),()),((),(),()),c.2.2.1,c.2.2.2,a.2.1,a.2.2,()))) (fun y=>((y.1.2.1,y.2.2.2.1,y.2.2.2.2.1),(y.2.2.2.2.2.1,y.2.2.2.2.2.2.1)))
noncomputable abbrev qoo:Mdl:=(mdlOf (.cons (.ptr 0) (.cons (.d false qT0) .nil)) [.cs 135 2 1 (.cons (.own 1) (.cons (.own 2) .nil)),.arr 48 (.fz true) [3] qT1,.arr 48 (.fz true) [3] qT1] [true,false,false] 1 qn1 (B:=(Bool×qL2×qL2)) (fun b=>((b.1,()),(((),(),()),b.2.1,b.2.2,()))) (fun a=>qpx a.1.2.1 a.2.2.1 a.2.2.2.1))
theorem qxr:MdlOK Tryz.prog 132 qoo:=fnA Tryz.func132 rfl q7f (.two .z (.two .z (.two (.two .z (.s 0)) (.two (.two .z (.s 2)) .z)))) (sC qyv (sC qyg s0))
def q13u:Shp:=⟨[(0,.d true qT0)],[]⟩
noncomputable abbrev q15t:Ctx (Int):=⟨25,tt,false,false,[],gam [],lam [q29 _ 25 [] q1er (A:=(Int×Int)) (fun x=>(x.1.1,x.1.2.1)) q1eu (CE:=Unit) (E:=Unit) (fun c e=>((()),(()))) (fun c=>()) (fun {R} c dn rt=>q11y c.1 c.2 dn rt)],resU 25 tt [] [.tmp 2] q13u (fun x=>x.1.1)⟩
theorem q16b:CtxM Tryz.prog q15t:=mkG fits mixed m0
theorem q1h4:SummOK Tryz.prog q15t 0 (jc Tryz.f178 15):=jn rfl q16b .z s0 (fun c=>((c.1,c.2,()),(()))) (fun y=>((),()))
noncomputable abbrev q16n:Mdl:=(mdlOf (.cons (.d false (.int .u64)) .nil) [] [] 1 q13u (B:=Int) (fun b=>((b,()),(()))) (fun a=>q1a5 a.1.1))
theorem q1en:MdlOK Tryz.prog 178 q16n:=fnA Tryz.func178 rfl q16b (.two .z (.two .z (.two .z (.s 0)))) (sC q1h4 s0)
def q19j:Shp:=⟨[(0,.d true qT0)],[]⟩
noncomputable abbrev q1l2:Ctx (Int):=⟨8,tt,false,false,[],gam [(178,q16n)],lam [],resU 8 tt [] [.tmp 2] q19j (fun x=>x.1.1)⟩
theorem q1kw:CtxM Tryz.prog q1l2:=mkG fits mixed (mC q1en m0)
noncomputable abbrev qwb:Mdl:=(mdlOf (.cons (.d false (.int .u64)) .nil) [] [] 1 q19j (B:=Int) (fun b=>((b,()),(()))) (fun a=>q10s a.1.1))
theorem qxl:MdlOK Tryz.prog 148 qwb:=fnA Tryz.func148 rfl q1kw .z s0
def qwi:Shp:=⟨[(0,.d true .bool)],[]⟩
noncomputable abbrev q1c9:Ctx (Bool):=⟨6,tt,false,false,[],gam [],lam [],resU 6 tt [] [.tmp 2] qwi (fun x=>x.1.1)⟩
theorem q1cu:CtxM Tryz.prog q1c9:=mkG fits mixed m0
noncomputable abbrev qy9:Mdl:=(mdlOf (.cons (.d false qT0) .nil) [] [] 1 qwi (B:=Bool) (fun b=>((b,()),(()))) (fun a=>qrn a.1.1))
theorem q18g:MdlOK Tryz.prog 179 qy9:=fnA Tryz.func179 rfl q1cu .z s0
def qs5:Shp:=⟨[(0,.d true qT0)],[]⟩
noncomputable abbrev q16p:Ctx (Int):=⟨20,tt,false,false,[],gam [(179,qy9)],lam [],resU 20 tt [] [.tmp 4] qs5 (fun x=>x.1.1)⟩
theorem q16w:CtxM Tryz.prog q16p:=mkG fits mixed (mC q18g m0)
noncomputable abbrev qus:Mdl:=(mdlOf (.cons (.d false qT0) (.cons (.d false qT0) .nil)) [] [] 1 qs5 (B:=Int) (fun b=>((b,()),(()))) (fun a=>qwq a.1.1 a.1.2.1))
theorem q12y:MdlOK Tryz.prog 149 qus:=fnA Tryz.func149 rfl q16w .z s0
def qgh:Shp:=⟨[(0,.d true qT0)],[]⟩
noncomputable abbrev qhy:Ctx (Int):=⟨36,tt,false,false,[],gam [(149,qus)],lam [qd _ 36 [] qsc (C:=(qL1×qL1×qL1×Int)) (S:=Int) (fun x=>((x.1.1,x.1.2.1,x.1.2.2.1,x.1.2.2.2.1),x.1.2.2.2.2.1)) qsf (CE:=(qL1×qL1)) (E:=Unit) (fun c e=>((c.1,c.2,()),(()))) (fun c=>(c.1,c.2.1)) (fun {R} c a nx dn rt=>qfc c.1 c.2.1 c.2.2.1 c.2.2.2 a nx dn rt)],resU 36 tt [] [.tmp 4] qgh (fun x=>x.1.1)⟩
theorem qi1:CtxM Tryz.prog qhy:=mkG fits mixed (mC q12y m0)
theorem qtn:SummOK Tryz.prog qhy 0 (lc 0 Tryz.f110 37):=lp rfl qi1 .z s0 (fun c a=>((c.1,c.2.1,c.2.2.1,c.2.2.2,a,()),(()))) (fun y=>((y.1.1,y.1.2.1),()))
noncomputable abbrev q1a:Mdl:=(mdlOf (.cons (.d false qT1) (.cons (.d false qT1) .nil)) [] [] 1 qgh (B:=Int) (fun b=>((b,()),(()))) (fun a=>qo a.1.1 a.1.2.1))
theorem q1c:MdlOK Tryz.prog 110 q1a:=fnA Tryz.func110 rfl qi1 (.two .z (.two (.two .z (.s 0)) .z)) (sC qtn s0)
def q5i:Shp:=⟨[],[.arr 48 (.fz true) [3] qT1]⟩
noncomputable abbrev q2o:Ctx (qL2):=⟨53,tt,false,false,[true],gam [(110,q1a)],lam [qd _ 53 [true] qes (C:=(Int×Int×Int)) (S:=(Int×qL2)) (fun x=>((x.1.2.1,x.1.2.2.1,x.1.2.2.2.2.1),(x.1.2.2.2.2.2.1,x.2.1))) qej (CE:=(Int×Int×Int)) (E:=qL2) (fun c e=>(((),c.1,c.2.1,(()),c.2.2,()),(e,()))) (fun c=>(c.1,c.2.1,c.2.2)) (fun {R} c a nx dn rt=>q51 c.1 c.2.1 c.2.2 a.1 a.2 nx dn rt),
 qd _ 53 [true] qey (C:=(Int×Int)) (S:=(Int×qL2)) (fun x=>((x.1.2.1,x.1.2.2.1),(x.1.2.2.2.2.1,x.2.1))) qem (CE:=Unit) (E:=qL2) (fun c e=>((()),(e,()))) (fun c=>()) (fun {R} c a nx dn rt=>q5a c.1 c.2 a.1 a.2 nx dn rt)],resU 53 tt [true] [] q5i (fun x=>x.2.1)⟩
theorem q2r:CtxM Tryz.prog q2o:=mkG fits mixed (mC q1c m0)
theorem qfj:SummOK Tryz.prog q2o 0 (lc 2 Tryz.f169 585):=lp rfl q2r (.two (.two (.d [0,0,3,7,15,15,15,111,239,15,15,1039,3599,7695,16383,32767,65535] [] []) .z) (.two (.one (.d [0,0,0,0,8,0,0,64,224,480,0,0,3072,7168,16355,32739,65535,131071] [15,17] [])) .z)) s0 (fun c a=>(((),c.1,c.2.1,(()),c.2.2,a.1,()),(a.2,()))) (fun y=>((y.1.2.1,y.1.2.2.1,y.1.2.2.2.2.1),y.2.1))
theorem qfy:SummOK Tryz.prog q2o 1 (lc 0 Tryz.f169 9):=lp rfl q2r (.two .z (.two (.one (.two .z (.s 0))) .z)) (sC qfj s0) (fun c a=>(((),c.1,c.2,(()),a.1,()),(a.2,()))) (fun y=>((),y.2.1))
noncomputable abbrev q61:Mdl:=(mdlOf (.cons (.own 0) (.cons (.d false qT0) (.cons (.d false qT0) (.cons (.fn 110 .nil) .nil)))) [.arr 48 (.fz true) [3] qT1] [true] 0 q5i (B:=qL2) (fun b=>((()),(b,()))) (fun a=>q66 a.1.2.1 a.1.2.2.1 a.2.1))
theorem qeu:MdlOK Tryz.prog 169 q61:=fnA Tryz.func169 rfl q2r (.two .z (.s 1)) (sC qfy s0)
def q8d:Shp:=⟨[],[.arr 48 (.fz true) [3] qT1]⟩
noncomputable abbrev q47:Ctx (qL2):=⟨82,tt,false,false,[true],gam [(110,q1a)],lam [q29 _ 82 [true] qjq (A:=(Int×Int×Int×Int×qL2)) (fun x=>(x.1.2.1,x.1.2.2.1,x.1.2.2.2.2.1,x.1.2.2.2.2.2.1,x.2.1)) qjc (CE:=(Int×Int×Int)) (E:=qL2) (fun c e=>(((),c.1,c.2.1,(()),c.2.2,()),(e,()))) (fun c=>(c.1,c.2.1,c.2.2.2.1)) (fun {R} c dn rt=>q7n c.1 c.2.1 c.2.2.1 c.2.2.2.1 c.2.2.2.2 dn rt),
 qd _ 82 [true] qj4 (C:=(Int×Int)) (S:=(Int×qL2)) (fun x=>((x.1.2.1,x.1.2.2.1),(x.1.2.2.2.2.1,x.2.1))) qkg (CE:=Unit) (E:=qL2) (fun c e=>((()),(e,()))) (fun c=>()) (fun {R} c a nx dn rt=>q7q c.1 c.2 a.1 a.2 nx dn rt)],resU 82 tt [true] [] q8d (fun x=>x.2.1)⟩
theorem q40:CtxM Tryz.prog q47:=mkG fits mixed (mC q1c m0)
theorem qm8:SummOK Tryz.prog q47 0 (jc Tryz.f186 241):=jn rfl q40 (.two (.two (.d [0,0,0,0,12,30,62,0,0,0,768,1920,3968,8191,16383,32767] [] []) .z) (.two (.d [0,0,0,6,0,0,0,96,0,0,0,1536,3840,7936,0,0,0,98304,245760,507904,1048335,2096911,4194303,8388607] [21,23] []) .z)) s0 (fun c=>(((),c.1,c.2.1,(()),c.2.2.1,c.2.2.2.1,()),(c.2.2.2.2,()))) (fun y=>((y.1.2.1,y.1.2.2.1,y.1.2.2.2.2.1),y.2.1))
theorem ql6:SummOK Tryz.prog q47 1 (lc 0 Tryz.f186 9):=lp rfl q40 (.one (.two .z (.two .z (.two (.two (.d [0,1,0,7,15,31,31,31,31,415,991,2015,31,31,31,24607,57375,127007,258079,524287,1048575,2097151] [] []) .z) (.s 0))))) (sC qm8 s0) (fun c a=>(((),c.1,c.2,(()),a.1,()),(a.2,()))) (fun y=>((),y.2.1))
noncomputable abbrev q8w:Mdl:=(mdlOf (.cons (.own 0) (.cons (.d false qT0) (.cons (.d false qT0) (.cons (.d false qT0) (.cons (.fn 110 .nil) .nil))))) [.arr 48 (.fz true) [3] qT1] [true] 0 q8d (B:=qL2) (fun b=>((()),(b,()))) (fun a=>q4b a.1.2.1 a.1.2.2.1 a.1.2.2.2.1 a.2.1))
theorem qks:MdlOK Tryz.prog 186 q8w:=fnA Tryz.func186 rfl q40 (.two .z (.s 1)) (sC ql6 s0)
def q8i:Shp:=⟨[],[.arr 48 (.fz true) [3] qT1]⟩
noncomputable abbrev q44:Ctx (qL2):=⟨60,tt,false,false,[true],gam [(186,q8w)],lam [qd _ 60 [true] qj8 (C:=(Int×Int×Int)) (S:=(Int×qL2)) (fun x=>((x.1.2.2.1,x.1.2.2.2.1,x.1.2.2.2.2.1),(x.1.2.2.2.2.2.1,x.2.1))) qkk (CE:=(Int×Int×Int)) (E:=qL2) (fun c e=>(((),(()),c.1,c.2.1,c.2.2,()),(e,()))) (fun c=>(c.1,c.2.1,c.2.2)) (fun {R} c a nx dn rt=>q7h c.1 c.2.1 c.2.2 a.1 a.2 nx dn rt),
 qd _ 60 [true] qkh (C:=(Int×Int)) (S:=(Int×qL2)) (fun x=>((x.1.2.2.1,x.1.2.2.2.1),(x.1.2.2.2.2.1,x.2.1))) qj3 (CE:=Unit) (E:=qL2) (fun c e=>((()),(e,()))) (fun c=>()) (fun {R} c a nx dn rt=>q7l c.1 c.2 a.1 a.2 nx dn rt)],resU 60 tt [true] [] q8i (fun x=>x.2.1)⟩
theorem q42:CtxM Tryz.prog q44:=mkG fits mixed (mC qks m0)
theorem qlz:SummOK Tryz.prog q44 0 (lc 0 Tryz.f170 151):=lp rfl q42 .z s0 (fun c a=>(((),(()),c.1,c.2.1,c.2.2,a.1,()),(a.2,()))) (fun y=>((y.1.2.2.1,y.1.2.2.2.1,y.1.2.2.2.2.1),y.2.1))
theorem ql8:SummOK Tryz.prog q44 1 (lc 2 Tryz.f170 159):=lp rfl q42 (.two .z (.two (.one (.two (.d [0,0,0,0,0,24,0,0,0,384,960,1984,0,0,12288,28672,65475,131011,262143,524287] [17,19] []) .z)) .z)) s0 (fun c a=>(((),(()),c.1,c.2,a.1,()),(a.2,()))) (fun y=>((),y.2.1))
noncomputable abbrev q8r:Mdl:=(mdlOf (.cons (.own 0) (.cons (.d false qT0) (.cons (.d false qT0) (.cons (.fn 110 .nil) .nil)))) [.arr 48 (.fz true) [3] qT1] [true] 0 q8i (B:=qL2) (fun b=>((()),(b,()))) (fun a=>q9w a.1.2.1 a.1.2.2.1 a.2.1))
theorem qkl:MdlOK Tryz.prog 170 q8r:=fnA Tryz.func170 rfl q42 (.two .z (.two .z (.two .z (.two (.two .z (.s 0)) (.two .z (.s 1)))))) (sC qlz (sC ql8 s0))
def qhs:Shp:=⟨[(0,.d true (.int .u64))],[]⟩
noncomputable abbrev qxh:Ctx (Int):=⟨7,tt,false,false,[],gam [(148,qwb)],lam [],resU 7 tt [] [.tmp 2] qhs (fun x=>x.1.1)⟩
theorem qxv:CtxM Tryz.prog qxh:=mkG fits mixed (mC qxl m0)
noncomputable abbrev qb8:Mdl:=(mdlOf (.cons (.d false qT0) .nil) [] [] 1 qhs (B:=Int) (fun b=>((b,()),(()))) (fun a=>qc6 a.1.1))
theorem qgq:MdlOK Tryz.prog 187 qb8:=fnA Tryz.func187 rfl qxv .z s0
def qku:Shp:=⟨[(0,.d true (.int .u64))],[.cs 172 1 1 (.cons (.d true (.int .u64)) .nil)]⟩
noncomputable abbrev qyy:Ctx ((Int×Int)):=⟨33,tt,false,false,[true],gam [],lam [],resU 33 tt [true] [.tmp 2] qku (fun x=>(x.1.1,x.2.1.1))⟩
theorem qzr:CtxM Tryz.prog qyy:=mkG fits mixed m0
noncomputable abbrev qca:Mdl:=(mdlOf (.cons (.ptr 0) .nil) [.cs 172 1 1 (.cons (.d false (.int .u64)) .nil)] [true] 1 qku (B:=(Int×Int)) (fun b=>((b.1,()),((b.2,()),()))) (fun a=>qd9 a.2.1.1))
theorem qi7:MdlOK Tryz.prog 188 qca:=fnA Tryz.func188 rfl qzr (.two .z (.two (.d [0,1,3,0,8,24,56,127,255,511] [9] []) (.two (.d [0,1,3,0,8,24,56,127,255,511] [9] []) (.two (.d [0,1,3,0,8,24,56,127,255,511] [9] []) .z)))) s0
def q5e:Shp:=⟨[],[.arr 48 (.fz true) [3] qT1]⟩
noncomputable abbrev q5v:Ctx (qL2):=⟨67,tt,false,false,[true],gam [(187,qb8),(188,qca)],lam [qd _ 67 [true] qeq (C:=(Int×Int×Int)) (S:=(Int×qL2×Int)) (fun x=>((x.1.2.1,x.1.2.2.1,x.1.2.2.2.2.1),(x.1.2.2.2.2.2.1,x.2.1,x.2.2.1.1))) qeg (CE:=Unit) (E:=qL2) (fun c e=>((()),(e,()))) (fun c=>()) (fun {R} c a nx dn rt=>q57 c.1 c.2.1 c.2.2 a.1 a.2.1 a.2.2 nx dn rt)],resU 67 tt [true] [] q5e (fun x=>x.2.1)⟩
theorem q5y:CtxM Tryz.prog q5v:=mkG fits mixed (mC qgq (mC qi7 m0))
theorem qfw:SummOK Tryz.prog q5v 0 (lc 0 Tryz.f171 315):=lp rfl q5y (.two .z (.two (.one (.two .z (.two .z (.d [0,0,0,0,0,24,0,0,0,384,960,1984,0,0,12288,28672,65475,131011,262143,524287] [17,19] [])))) .z)) s0 (fun c a=>(((),c.1,c.2.1,(),c.2.2,a.1,()),(a.2.1,(a.2.2,()),()))) (fun y=>((),y.2.1))
noncomputable abbrev q5x:Mdl:=(mdlOf (.cons (.own 0) (.cons (.d false qT0) (.cons (.d false qT0) (.cons (.fn 110 .nil) .nil)))) [.arr 48 (.fz true) [3] qT1] [true] 0 q5e (B:=qL2) (fun b=>((()),(b,()))) (fun a=>q6h a.1.2.1 a.1.2.2.1 a.2.1))
theorem qex:MdlOK Tryz.prog 171 q5x:=fnA Tryz.func171 rfl q5y (.two .z (.two .z (.two (.two .z (.two .z (.two .z (.s 0)))) .z))) (sC qfw s0)
def q97:Shp:=⟨[(0,.d true qT0),(1,.d true qT0)],[.cs 3 1 1 (.cons (.d true qT0) .nil)]⟩
noncomputable abbrev qpo:Ctx ((Int×Int×Int)):=⟨32,tt,false,false,[true],gam [(110,q1a)],lam [],resU 32 tt [true] [.tmp 10,.tmp 11] q97 (fun x=>(x.1.1,x.1.2.1,x.2.1.1))⟩
theorem qpl:CtxM Tryz.prog qpo:=mkG fits mixed (mC q1c m0)
noncomputable abbrev qbp:Mdl:=(mdlOf (.cons (.d false qT2) (.cons (.d false qT0) (.cons (.d false qT0) (.cons (.ptr 0) (.cons (.fn 110 .nil) .nil))))) [.cs 3 1 1 (.cons (.d false qT0) .nil)] [true] 2 q97 (B:=(Int×Int×Int)) (fun b=>((b.1,b.2.1,()),((b.2.2,()),()))) (fun a=>q30 a.1.1 a.1.2.1 a.1.2.2.1 a.2.1.1))
theorem qne:MdlOK Tryz.prog 192 qbp:=fnA Tryz.func192 rfl qpl (.two .z (.two (.two (.d [0,0,0,6,14,0,0,96,224,511,1023] [] []) .z) .z)) s0
def qa1:Shp:=⟨[(0,.d true qT0)],[.cs 3 1 1 (.cons (.d true qT0) .nil)]⟩
noncomputable abbrev qpk:Ctx ((Int×Int)):=⟨41,tt,false,false,[true],gam [(192,qbp)],lam [],resU 41 tt [true] [.tmp 12] qa1 (fun x=>(x.1.1,x.2.1.1))⟩
theorem qpm:CtxM Tryz.prog qpk:=mkG fits mixed (mC qne m0)
noncomputable abbrev q4y:Mdl:=(mdlOf (.cons (.d false qT2) (.cons (.d false qT0) (.cons (.d false qT0) (.cons (.d false qT0) (.cons (.ptr 0) (.cons (.fn 110 .nil) .nil)))))) [.cs 3 1 1 (.cons (.d false qT0) .nil)] [true] 1 qa1 (B:=(Int×Int)) (fun b=>((b.1,()),((b.2,()),()))) (fun a=>q2w a.1.1 a.1.2.1 a.1.2.2.1 a.1.2.2.2.1 a.2.1.1))
theorem q92:MdlOK Tryz.prog 190 q4y:=fnA Tryz.func190 rfl qpm .z s0
def q54:Shp:=⟨[(0,.d true qT0)],[.cs 3 1 1 (.cons (.d true qT0) .nil)]⟩
noncomputable abbrev qfz:Ctx ((Int×Int)):=⟨18,tt,false,false,[true],gam [(190,q4y)],lam [],resU 18 tt [true] [.tmp 8] q54 (fun x=>(x.1.1,x.2.1.1))⟩
theorem qfp:CtxM Tryz.prog qfz:=mkG fits mixed (mC q92 m0)
noncomputable abbrev q5h:Mdl:=(mdlOf (.cons (.d false qT2) (.cons (.d false qT0) (.cons (.ptr 0) (.cons (.fn 110 .nil) .nil)))) [.cs 3 1 1 (.cons (.d false qT0) .nil)] [true] 1 q54 (B:=(Int×Int)) (fun b=>((b.1,()),((b.2,()),()))) (fun a=>q1t a.1.1 a.1.2.1 a.2.1.1))
theorem qe6:MdlOK Tryz.prog 189 q5h:=fnA Tryz.func189 rfl qfp .z s0
def q6d:Shp:=⟨[(0,.d true qT0),(1,.d true qT0)],[]⟩
noncomputable abbrev q7d:Ctx ((Int×Int)):=⟨63,tt,false,false,[],gam [(189,q5h),(190,q4y)],lam [q29 _ 63 [] qgj (A:=(Int×Int)) (fun x=>(x.1.2.1,x.2.1.1)) qgw (CE:=Unit) (E:=Unit) (fun c e=>((()),(()))) (fun c=>()) (fun {R} c dn rt=>q5z c.1 c.2 dn rt)],resU 63 tt [] [.tmp 8,.tmp 9] q6d (fun x=>(x.1.1,x.1.2.1))⟩
theorem q6w:CtxM Tryz.prog q7d:=mkG fits mixed (mC qe6 (mC q92 m0))
theorem qhb:SummOK Tryz.prog q7d 0 (jc Tryz.f172 255):=jn rfl q6w .z s0 (fun c=>(((),c.1,()),((c.2,()),()))) (fun y=>((),()))
noncomputable abbrev q76:Mdl:=(mdlOf (.cons (.d false qT2) (.cons (.d false qT0) (.cons (.d false qT0) (.cons (.fn 110 .nil) .nil)))) [] [] 2 q6d (B:=(Int×Int)) (fun b=>((b.1,b.2,()),(()))) (fun a=>q3k a.1.1 a.1.2.1 a.1.2.2.1))
theorem qgm:MdlOK Tryz.prog 172 q76:=fnA Tryz.func172 rfl q6w (.two .z (.two .z (.two .z (.two .z (.two .z (.two .z (.two .z (.s 0)))))))) (sC qhb s0)
def q5q:Shp:=⟨[],[.arr 48 (.fz true) [3] qT1]⟩
noncomputable abbrev q69:Ctx (qL2):=⟨34,tt,false,false,[true],gam [],lam [qd _ 34 [true] qft (C:=Unit) (S:=(Int×Int×qL2)) (fun x=>((),(x.1.2.1,x.1.2.2.1,x.2.1))) qfs (CE:=Unit) (E:=qL2) (fun c e=>((()),(e,()))) (fun c=>()) (fun {R} c a nx dn rt=>q5c  a.1 a.2.1 a.2.2 nx dn rt)],resU 34 tt [true] [] q5q (fun x=>x.2.1)⟩
theorem q6b:CtxM Tryz.prog q69:=mkG fits mixed m0
theorem qgc:SummOK Tryz.prog q69 0 (lc 0 Tryz.f173 19):=lp rfl q6b (.two .z (.one (.two (.d [0,0,0,0,0,0,48,112,0,0,768,1792,4083,8179,16383,32767] [13,15] []) .z))) s0 (fun c a=>(((),a.1,a.2.1,()),(a.2.2,()))) (fun y=>((),y.2.1))
noncomputable abbrev q6j:Mdl:=(mdlOf (.cons (.own 0) (.cons (.d false qT0) (.cons (.d false qT0) (.cons (.fn 110 .nil) .nil)))) [.arr 48 (.fz true) [3] qT1] [true] 0 q5q (B:=qL2) (fun b=>((()),(b,()))) (fun a=>q33 a.1.2.1 a.1.2.2.1 a.2.1))
theorem qfv:MdlOK Tryz.prog 173 q6j:=fnA Tryz.func173 rfl q6b (.two .z (.two .z (.s 0))) (sC qgc s0)
def q3p:Shp:=⟨[(0,.d true .bool)],[.arr 48 (.fz true) [3] qT1]⟩
noncomputable abbrev qz:Ctx ((Bool×qL2)):=⟨141,tt,false,false,[true],gam [(110,q1a)],lam [qd _ 141 [true] q9n (C:=(Int×Int×Int×qL2)) (S:=Int) (fun x=>((x.1.2.1,x.1.2.2.1,x.1.2.2.2.2.2.1,x.2.1),x.1.2.2.2.2.1)) q9v (CE:=(Int×Int×Int×qL2)) (E:=Int) (fun c e=>(((),c.1,c.2.1,(()),e,c.2.2.1,()),(c.2.2.2,()))) (fun c=>(c.1,c.2.1,c.2.2.1,c.2.2.2)) (fun {R} c a nx dn rt=>q37 c.1 c.2.1 c.2.2.1 c.2.2.2 a nx dn rt),
 qd _ 141 [true] q9r (C:=(Int×Int×Int×Int)) (S:=(Int×qL2)) (fun x=>((x.1.2.1,x.1.2.2.1,x.1.2.2.2.2.1,x.1.2.2.2.2.2.1),(x.1.2.2.2.2.2.2.1,x.2.1))) q9f (CE:=(Int×Int×Int×Int)) (E:=qL2) (fun c e=>(((),c.1,c.2.1,(()),c.2.2.1,c.2.2.2,()),(e,()))) (fun c=>(c.1,c.2.1,c.2.2.1,c.2.2.2)) (fun {R} c a nx dn rt=>q36 c.1 c.2.1 c.2.2.1 c.2.2.2 a.1 a.2 nx dn rt),
 qd _ 141 [true] qa3 (C:=(Int×Int×Int×Int)) (S:=(Int×qL2)) (fun x=>((x.1.2.1,x.1.2.2.1,x.1.2.2.2.2.1,x.1.2.2.2.2.2.1),(x.1.2.2.2.2.2.2.1,x.2.1))) qa9 (CE:=(Int×Int×Int×Int)) (E:=qL2) (fun c e=>(((),c.1,c.2.1,(()),c.2.2.1,c.2.2.2,()),(e,()))) (fun c=>(c.1,c.2.1,c.2.2.1,c.2.2.2)) (fun {R} c a nx dn rt=>q39 c.1 c.2.1 c.2.2.1 c.2.2.2 a.1 a.2 nx dn rt),
 q29 _ 141 [true] qab (A:=(Int×Int×Int×Int×qL2)) (fun x=>(x.1.2.1,x.1.2.2.1,x.1.2.2.2.2.1,x.1.2.2.2.2.2.1,x.2.1)) qaf (CE:=(Int×Int×Int×Int)) (E:=qL2) (fun c e=>(((),c.1,c.2.1,(()),c.2.2.1,c.2.2.2,()),(e,()))) (fun c=>(c.1,c.2.1,c.2.2.1,c.2.2.2.1)) (fun {R} c dn rt=>q3e c.1 c.2.1 c.2.2.1 c.2.2.2.1 c.2.2.2.2 dn rt),
 qd _ 141 [true] qai (C:=(Int×Int)) (S:=(Int×Int×qL2)) (fun x=>((x.1.2.1,x.1.2.2.1),(x.1.2.2.2.2.1,x.1.2.2.2.2.2.1,x.2.1))) q9h (CE:=Unit) (E:=qL2) (fun c e=>((()),(e,()))) (fun c=>()) (fun {R} c a nx dn rt=>q3c c.1 c.2 a.1 a.2.1 a.2.2 nx dn rt)],resU 141 tt [true] [.tmp 8] q3p (fun x=>(x.1.1,x.2.1))⟩
theorem q12:CtxM Tryz.prog qz:=mkG fits mixed (mC q1c m0)
theorem qat:SummOK Tryz.prog qz 1 (lc 4 Tryz.f174 613963):=lp rfl q12 (.two .z (.two (.one (.two (.two (.d [0,0,0,6,14,0,0,64,224,480,1023,2047,4095] [] []) .z) (.d [0,0,0,0,8,0,0,64,224,480,0,0,3072,7168,16355,32739,65535,131071] [15,17] []))) .z)) s0 (fun c a=>(((),c.1,c.2.1,(()),c.2.2.1,c.2.2.2,a.1,()),(a.2,()))) (fun y=>((y.1.2.1,y.1.2.2.1,y.1.2.2.2.2.1,y.1.2.2.2.2.2.1),y.2.1))
theorem qan:SummOK Tryz.prog qz 2 (lc 6 Tryz.f174 622155):=lp rfl q12 (.two .z (.two (.one (.two (.two (.d [0,0,0,6,14,0,0,64,224,480,1023,2047,4095] [] []) .z) (.d [0,0,0,0,8,0,0,64,224,480,0,0,3072,7168,16355,32739,65535,131071] [15,17] []))) .z)) s0 (fun c a=>(((),c.1,c.2.1,(()),c.2.2.1,c.2.2.2,a.1,()),(a.2,()))) (fun y=>((y.1.2.1,y.1.2.2.1,y.1.2.2.2.2.1,y.1.2.2.2.2.2.1),y.2.1))
theorem qay:SummOK Tryz.prog qz 3 (jc Tryz.f174 32331):=jn rfl q12 (.two .z (.two (.two .z (.s 2)) .z)) (sC qan s0) (fun c=>(((),c.1,c.2.1,(()),c.2.2.1,c.2.2.2.1,()),(c.2.2.2.2,()))) (fun y=>((y.1.2.1,y.1.2.2.1,y.1.2.2.2.2.1,y.1.2.2.2.2.2.1),y.2.1))
theorem qb3:SummOK Tryz.prog qz 0 (lc 2 Tryz.f174 4171):=lp rfl q12 (.two (.two (.d [0,0,3,7,15,15,15,111,239,15,15,1039,3599,7695,16383,32767,65535,131071] [] []) .z) .z) s0 (fun c a=>(((),c.1,c.2.1,(()),a,c.2.2.1,()),(c.2.2.2,()))) (fun y=>((y.1.2.1,y.1.2.2.1,y.1.2.2.2.2.2.1,y.2.1),y.1.2.2.2.2.1))
theorem qas:SummOK Tryz.prog qz 4 (lc 0 Tryz.f174 75):=lp rfl q12 (.two .z (.two (.one (.two (.s 0) (.two .z (.two .z (.two (.d [0,0,0,0,8,0,0,64,224,480,0,0,3072,7168,16355,32739,65535,131071] [15,17] []) (.two (.two .z (.two (.two .z (.s 1)) .z)) (.s 3))))))) .z)) (sC qb3 (sC qat (sC qay s0))) (fun c a=>(((),c.1,c.2,(()),a.1,a.2.1,()),(a.2.2,()))) (fun y=>((),y.2.1))
noncomputable abbrev q3r:Mdl:=(mdlOf (.cons (.own 0) (.cons (.d false qT0) (.cons (.d false qT0) (.cons (.fn 110 .nil) .nil)))) [.arr 48 (.fz true) [3] qT1] [true] 1 q3p (B:=(Bool×qL2)) (fun b=>((b.1,()),(b.2,()))) (fun a=>q3x a.1.2.1 a.1.2.2.1 a.2.1))
theorem qah:MdlOK Tryz.prog 174 q3r:=fnA Tryz.func174 rfl q12 (.two .z (.two .z (.two (.two .z (.s 4)) .z))) (sC qas s0)
def q56:Shp:=⟨[(0,.d true qT0)],[.arr 48 (.fz true) [3] qT1]⟩
noncomputable abbrev q1p:Ctx ((Int×qL2)):=⟨90,tt,false,false,[true],gam [(110,q1a)],lam [qd _ 90 [true] qe7 (C:=(Int×Int×qL2)) (S:=Int) (fun x=>((x.1.2.1,x.1.2.2.2.2.1,x.2.1),x.1.2.2.2.1)) qdq (CE:=(Int×Int×qL2)) (E:=Int) (fun c e=>(((),c.1,(()),e,c.2.1,()),(c.2.2,()))) (fun c=>(c.1,c.2.1,c.2.2)) (fun {R} c a nx dn rt=>q4r c.1 c.2.1 c.2.2 a nx dn rt),
 qd _ 90 [true] qdz (C:=(Int×Int×qL2)) (S:=Int) (fun x=>((x.1.2.1,x.1.2.2.2.1,x.2.1),x.1.2.2.2.2.1)) qdu (CE:=(Int×Int×qL2)) (E:=Int) (fun c e=>(((),c.1,(()),c.2.1,e,()),(c.2.2,()))) (fun c=>(c.1,c.2.1,c.2.2)) (fun {R} c a nx dn rt=>q4u c.1 c.2.1 c.2.2 a nx dn rt),
 qd _ 90 [true] qe0 (C:=Int) (S:=(Int×Int×qL2)) (fun x=>(x.1.2.1,(x.1.2.2.2.1,x.1.2.2.2.2.1,x.2.1))) qdp (CE:=Unit) (E:=(Int×qL2)) (fun c e=>((e.1,()),(e.2,()))) (fun c=>()) (fun {R} c a nx dn rt=>q4s c a.1 a.2.1 a.2.2 nx dn rt)],resU 90 tt [true] [.tmp 10] q56 (fun x=>(x.1.1,x.2.1))⟩
theorem q1m:CtxM Tryz.prog q1p:=mkG fits mixed (mC q1c m0)
theorem qek:SummOK Tryz.prog q1p 1 (lc 4 Tryz.f175 2183):=lp rfl q1m (.two (.two (.d [0,0,3,7,15,15,15,111,239,15,15,1551,3599,8191,16383,32767] [] []) .z) .z) s0 (fun c a=>(((),c.1,(()),c.2.1,a,()),(c.2.2,()))) (fun y=>((y.1.2.1,y.1.2.2.2.1,y.2.1),y.1.2.2.2.2.1))
theorem qee:SummOK Tryz.prog q1p 0 (lc 2 Tryz.f175 1031):=lp rfl q1m (.two (.two (.d [0,0,3,7,15,15,15,111,239,15,15,1551,3599,8191,16383,32767,65535] [] []) .z) .z) s0 (fun c a=>(((),c.1,(()),a,c.2.1,()),(c.2.2,()))) (fun y=>((y.1.2.1,y.1.2.2.2.2.1,y.2.1),y.1.2.2.2.1))
theorem qf2:SummOK Tryz.prog q1p 2 (lc 0 Tryz.f175 71):=lp rfl q1m (.one (.two (.s 0) (.two (.s 1) (.two .z (.two (.d [0,0,0,0,0,0,48,112,0,0,768,1792,4083,8179,16383,32767] [13,15] []) .z))))) (sC qee (sC qek s0)) (fun c a=>(((),c,(()),a.1,a.2.1,()),(a.2.2,()))) (fun y=>((),(y.1.1,y.2.1)))
noncomputable abbrev q5g:Mdl:=(mdlOf (.cons (.own 0) (.cons (.d false qT0) (.cons (.d false qT0) (.cons (.d false qT0) (.cons (.fn 110 .nil) .nil))))) [.arr 48 (.fz true) [3] qT1] [true] 1 q56 (B:=(Int×qL2)) (fun b=>((b.1,()),(b.2,()))) (fun a=>qq a.1.2.1 a.1.2.2.1 a.1.2.2.2.1 a.2.1))
theorem qdl:MdlOK Tryz.prog 175 q5g:=fnA Tryz.func175 rfl q1m (.two .z (.two (.d [0,0,0,0,0,0,48,112,0,0,768,1792,4083,8179,16383,32767] [13,15] []) (.two .z (.two (.s 2) .z)))) (sC qf2 s0)
def q7p:Shp:=⟨[(0,.d true qT0),(1,.d true .bool)],[.arr 48 (.fz true) [3] qT1]⟩
noncomputable abbrev q1e:Ctx ((Int×Bool×qL2)):=⟨178,tt,false,false,[true],gam [(110,q1a)],lam [qd _ 178 [true] qir (C:=(Int×Int×qL2)) (S:=Int) (fun x=>((x.1.2.1,x.1.2.2.2.2.1,x.2.1),x.1.2.2.2.1)) qih (CE:=(Int×Int×qL2)) (E:=Int) (fun c e=>(((),c.1,(()),e,c.2.1,()),(c.2.2,()))) (fun c=>(c.1,c.2.1,c.2.2)) (fun {R} c a nx dn rt=>q77 c.1 c.2.1 c.2.2 a nx dn rt),
 qd _ 178 [true] qii (C:=(Int×Int×qL2)) (S:=Int) (fun x=>((x.1.2.1,x.1.2.2.2.1,x.2.1),x.1.2.2.2.2.1)) qi9 (CE:=(Int×Int×qL2)) (E:=Int) (fun c e=>(((),c.1,(()),c.2.1,e,()),(c.2.2,()))) (fun c=>(c.1,c.2.1,c.2.2)) (fun {R} c a nx dn rt=>q7b c.1 c.2.1 c.2.2 a nx dn rt),
 qd _ 178 [true] qic (C:=(Int×Int×qL2)) (S:=Int) (fun x=>((x.1.2.1,x.1.2.2.2.2.1,x.2.1),x.1.2.2.2.1)) qiu (CE:=(Int×Int×qL2)) (E:=Int) (fun c e=>(((),c.1,(()),e,c.2.1,()),(c.2.2,()))) (fun c=>(c.1,c.2.1,c.2.2)) (fun {R} c a nx dn rt=>q79 c.1 c.2.1 c.2.2 a nx dn rt),
 qd _ 178 [true] qis (C:=(Int×Int×qL2)) (S:=Int) (fun x=>((x.1.2.1,x.1.2.2.2.1,x.2.1),x.1.2.2.2.2.1)) qiz (CE:=(Int×Int×qL2)) (E:=Int) (fun c e=>(((),c.1,(()),c.2.1,e,()),(c.2.2,()))) (fun c=>(c.1,c.2.1,c.2.2)) (fun {R} c a nx dn rt=>q6z c.1 c.2.1 c.2.2 a nx dn rt),
 qd _ 178 [true] qil (C:=Int) (S:=(Int×Int×qL2)) (fun x=>(x.1.2.1,(x.1.2.2.2.1,x.1.2.2.2.2.1,x.2.1))) qip (CE:=Int) (E:=(Int×qL2)) (fun c e=>(((),c,e.1,()),(e.2,()))) (fun c=>c) (fun {R} c a nx dn rt=>q73 c a.1 a.2.1 a.2.2 nx dn rt)],resU 178 tt [true] [.tmp 10,.tmp 11] q7p (fun x=>(x.1.1,x.1.2.1,x.2.1))⟩
theorem q1g:CtxM Tryz.prog q1e:=mkG fits mixed (mC q1c m0)
theorem qjg:SummOK Tryz.prog q1e 3 (lc 8 Tryz.f176 139775):=lp rfl q1g (.two (.two (.d [0,0,3,7,15,15,15,111,239,15,15,1551,3599,8191,16383,32767,65535] [] []) .z) .z) s0 (fun c a=>(((),c.1,(()),c.2.1,a,()),(c.2.2,()))) (fun y=>((y.1.2.1,y.1.2.2.2.1,y.2.1),y.1.2.2.2.2.1))
theorem qkb:SummOK Tryz.prog q1e 2 (lc 6 Tryz.f176 66047):=lp rfl q1g (.two (.two (.d [0,0,3,7,15,15,15,111,239,15,15,1551,3599,8191,16383,32767] [] []) .z) .z) s0 (fun c a=>(((),c.1,(()),a,c.2.1,()),(c.2.2,()))) (fun y=>((y.1.2.1,y.1.2.2.2.2.1,y.2.1),y.1.2.2.2.1))
theorem qjy:SummOK Tryz.prog q1e 4 (lc 4 Tryz.f176 4607):=lp rfl q1g (.one (.two (.s 2) (.two (.s 3) (.two .z (.two (.d [0,0,0,0,0,0,48,112,0,0,768,1792,4083,8179,16383,32767] [13,15] []) .z))))) (sC qkb (sC qjg s0)) (fun c a=>(((),c,(()),a.1,a.2.1,()),(a.2.2,()))) (fun y=>(y.1.2.1,(y.1.2.2.1,y.2.1)))
theorem qj9:SummOK Tryz.prog q1e 1 (lc 2 Tryz.f176 143):=lp rfl q1g (.two (.two (.d [0,0,3,7,15,15,15,111,239,15,15,1551,3599,8191,16383,32767,65535] [] []) .z) .z) s0 (fun c a=>(((),c.1,(()),c.2.1,a,()),(c.2.2,()))) (fun y=>((y.1.2.1,y.1.2.2.2.1,y.2.1),y.1.2.2.2.2.1))
theorem qjm:SummOK Tryz.prog q1e 0 (lc 0 Tryz.f176 71):=lp rfl q1g (.two (.two (.d [0,0,3,7,15,15,15,111,239,15,15,1551,3599,8191,16383,32767] [] []) .z) .z) s0 (fun c a=>(((),c.1,(()),a,c.2.1,()),(c.2.2,()))) (fun y=>((y.1.2.1,y.1.2.2.2.2.1,y.2.1),y.1.2.2.2.1))
noncomputable abbrev q8f:Mdl:=(mdlOf (.cons (.own 0) (.cons (.d false qT0) (.cons (.d false qT0) (.cons (.d false qT0) (.cons (.fn 110 .nil) .nil))))) [.arr 48 (.fz true) [3] qT1] [true] 2 q7p (B:=(Int×Bool×qL2)) (fun b=>((b.1,b.2.1,()),(b.2.2,()))) (fun a=>q8q a.1.2.1 a.1.2.2.1 a.1.2.2.2.1 a.2.1))
theorem qig:MdlOK Tryz.prog 176 q8f:=fnA Tryz.func176 rfl q1g (.two .z (.two (.d [0,0,0,0,0,0,48,112,0,0,768,1792,4083,8179,16383,32767] [13,15] []) (.two .z (.two (.s 0) (.two (.s 1) (.two (.two .z (.two (.two (.d [0,0,0,0,0,0,48,112,0,0,768,1792,4083,8179,16383,32767] [13,15] []) .z) .z)) (.two (.d [0,0,0,0,0,0,48,112,0,0,768,1792,4083,8179,16383,32767] [13,15] []) (.two .z (.two .z (.two (.s 4) (.two (.d [0,0,0,0,0,0,48,112,0,0,768,1792,4083,8179,16383,32767] [13,15] []) .z))))))))))) (sC qjm (sC qj9 (sC qjy s0)))
def qw:Shp:=⟨[],[.arr 48 (.fz true) [3] qT1]⟩
noncomputable abbrev q2e (rec:((Unit×Int×Int×Int×(Unit)×Unit)×(qL2×Unit))→Option qL2):Ctx (qL2):=⟨148,tt,false,false,[true],gam [(169,q61),(170,q8r),(171,q5x),(172,q76),(173,q6j),(174,q3r),(110,q1a),(175,q5g),(176,q8f),(147,(mdlOf (.cons (.own 0) (.cons (.d false qT0) (.cons (.d false qT0) (.cons (.d false qT0) (.cons (.fn 110 .nil) .nil))))) [.arr 48 (.fz true) [3] qT1] [true] 0 qw (B:=qL2) (fun b=>((()),(b,()))) rec))],lam [q29 _ 148 [true] qlv (A:=(Int×Int×Int×Bool×Bool×Int×Int×Bool×qL2)) (fun x=>(x.1.2.1,x.1.2.2.1,x.1.2.2.2.1,x.1.2.2.2.2.2.1,x.1.2.2.2.2.2.2.1,x.1.2.2.2.2.2.2.2.1,x.1.2.2.2.2.2.2.2.2.1,x.1.2.2.2.2.2.2.2.2.2.1,x.2.1)) qm4 (CE:=(Int×Int×Int×Bool×Bool×Int×Int)) (E:=qL2) (fun c e=>(((),c.1,c.2.1,c.2.2.1,(()),c.2.2.2.1,c.2.2.2.2.1,c.2.2.2.2.2.1,c.2.2.2.2.2.2,()),(e,()))) (fun c=>(c.1,c.2.1,c.2.2.1,c.2.2.2.1,c.2.2.2.2.1,c.2.2.2.2.2.1,c.2.2.2.2.2.2.1)) (fun {R} c dn rt=>q86 rec c.1 c.2.1 c.2.2.1 c.2.2.2.1 c.2.2.2.2.1 c.2.2.2.2.2.1 c.2.2.2.2.2.2.1 c.2.2.2.2.2.2.2.1 c.2.2.2.2.2.2.2.2 dn rt),
 q29 _ 148 [true] qm7 (A:=(Int×Int×Int×Int×Int×qL2)) (fun x=>(x.1.2.1,x.1.2.2.1,x.1.2.2.2.1,x.1.2.2.2.2.2.1,x.1.2.2.2.2.2.2.1,x.2.1)) qlu (CE:=Int) (E:=(Int×Int×Bool×Bool×qL2)) (fun c e=>(((),e.1,e.2.1,c,(()),e.2.2.1,e.2.2.2.1,()),(e.2.2.2.2,()))) (fun c=>c.2.2.1) (fun {R} c dn rt=>q8b rec c.1 c.2.1 c.2.2.1 c.2.2.2.1 c.2.2.2.2.1 c.2.2.2.2.2 dn rt),
 qd _ 148 [true] qly (C:=Unit) (S:=(Int×Int×Int×Bool×Bool×qL2)) (fun x=>((),(x.1.2.1,x.1.2.2.1,x.1.2.2.2.1,x.1.2.2.2.2.2.1,x.1.2.2.2.2.2.2.1,x.2.1))) qm1 (CE:=Unit) (E:=Unit) (fun c e=>((()),(()))) (fun c=>()) (fun {R} c a nx dn rt=>q8g rec  a.1 a.2.1 a.2.2.1 a.2.2.2.1 a.2.2.2.2.1 a.2.2.2.2.2 nx dn rt)],resU 148 tt [true] [] qw (fun x=>x.2.1)⟩
theorem q2c (rec:((Unit×Int×Int×Int×(Unit)×Unit)×(qL2×Unit))→Option qL2) (hrec:MdlOK Tryz.prog 147 (mdlOf (.cons (.own 0) (.cons (.d false qT0) (.cons (.d false qT0) (.cons (.d false qT0) (.cons (.fn 110 .nil) .nil))))) [.arr 48 (.fz true) [3] qT1] [true] 0 qw (B:=qL2) (fun b=>((()),(b,()))) rec)):CtxM Tryz.prog (q2e rec):=mkG fits mixed (mC qeu (mC qkl (mC qex (mC qgm (mC qfv (mC qah (mC q1c (mC qdl (mC qig (mC hrec m0))))))))))
theorem qnv (rec:((Unit×Int×Int×Int×(Unit)×Unit)×(qL2×Unit))→Option qL2) (hrec:MdlOK Tryz.prog 147 (mdlOf (.cons (.own 0) (.cons (.d false qT0) (.cons (.d false qT0) (.cons (.d false qT0) (.cons (.fn 110 .nil) .nil))))) [.arr 48 (.fz true) [3] qT1] [true] 0 qw (B:=qL2) (fun b=>((()),(b,()))) rec)):SummOK Tryz.prog (q2e rec) 0 (jc Tryz.f147 14307):=jn rfl (q2c rec hrec) .z s0 (fun c=>(((),c.1,c.2.1,c.2.2.1,(()),c.2.2.2.1,c.2.2.2.2.1,c.2.2.2.2.2.1,c.2.2.2.2.2.2.1,c.2.2.2.2.2.2.2.1,()),(c.2.2.2.2.2.2.2.2,()))) (fun y=>((y.1.2.1,y.1.2.2.1,y.1.2.2.2.1,y.1.2.2.2.2.2.1,y.1.2.2.2.2.2.2.1,y.1.2.2.2.2.2.2.2.1,y.1.2.2.2.2.2.2.2.2.1),y.2.1))
theorem qns (rec:((Unit×Int×Int×Int×(Unit)×Unit)×(qL2×Unit))→Option qL2) (hrec:MdlOK Tryz.prog 147 (mdlOf (.cons (.own 0) (.cons (.d false qT0) (.cons (.d false qT0) (.cons (.d false qT0) (.cons (.fn 110 .nil) .nil))))) [.arr 48 (.fz true) [3] qT1] [true] 0 qw (B:=qL2) (fun b=>((()),(b,()))) rec)):SummOK Tryz.prog (q2e rec) 1 (jc Tryz.f147 16355):=jn rfl (q2c rec hrec) .z s0 (fun c=>(((),c.1,c.2.1,c.2.2.1,(()),c.2.2.2.1,c.2.2.2.2.1,()),(c.2.2.2.2.2,()))) (fun y=>(y.1.2.2.2.1,(y.1.2.1,y.1.2.2.1,y.1.2.2.2.2.2.1,y.1.2.2.2.2.2.2.1,y.2.1)))
theorem qnw (rec:((Unit×Int×Int×Int×(Unit)×Unit)×(qL2×Unit))→Option qL2) (hrec:MdlOK Tryz.prog 147 (mdlOf (.cons (.own 0) (.cons (.d false qT0) (.cons (.d false qT0) (.cons (.d false qT0) (.cons (.fn 110 .nil) .nil))))) [.arr 48 (.fz true) [3] qT1] [true] 0 qw (B:=qL2) (fun b=>((()),(b,()))) rec)):SummOK Tryz.prog (q2e rec) 2 (lc 0 Tryz.f147 19):=lp rfl (q2c rec hrec) (.one (.two .z (.two .z (.two .z (.two .z (.two .z (.two .z (.two (.two .z (.s 0)) (.two (.two (.d [0,1,3,7,7,7,39,119,247,7,7,1543,3591,8191,16383,32767,65535] [] []) .z) (.s 1)))))))))) (sC (qnv rec hrec) (sC (qns rec hrec) s0)) (fun c a=>(((),a.1,a.2.1,a.2.2.1,(()),a.2.2.2.1,a.2.2.2.2.1,()),(a.2.2.2.2.2,()))) (fun y=>((),()))
noncomputable abbrev q9a:Mdl:=(mdlOf (.cons (.own 0) (.cons (.d false qT0) (.cons (.d false qT0) (.cons (.d false qT0) (.cons (.fn 110 .nil) .nil))))) [.arr 48 (.fz true) [3] qT1] [true] 0 qw (B:=qL2) (fun b=>((()),(b,()))) (fun (a:((Unit×Int×Int×Int×(Unit)×Unit)×(qL2×Unit)))=>qa4 a))
theorem qj7 (rec:((Unit×Int×Int×Int×(Unit)×Unit)×(qL2×Unit))→Option qL2) (hrec:MdlOK Tryz.prog 147 (mdlOf (.cons (.own 0) (.cons (.d false qT0) (.cons (.d false qT0) (.cons (.d false qT0) (.cons (.fn 110 .nil) .nil))))) [.arr 48 (.fz true) [3] qT1] [true] 0 qw (B:=qL2) (fun b=>((()),(b,()))) rec)):MdlOK Tryz.prog 147 (mdlOf (.cons (.own 0) (.cons (.d false qT0) (.cons (.d false qT0) (.cons (.d false qT0) (.cons (.fn 110 .nil) .nil))))) [.arr 48 (.fz true) [3] qT1] [true] 0 qw (B:=qL2) (fun b=>((()),(b,()))) ((fun (rec:((Unit×Int×Int×Int×(Unit)×Unit)×(qL2×Unit))→Option qL2) (a:((Unit×Int×Int×Int×(Unit)×Unit)×(qL2×Unit)))=>q4l rec a.1.2.1 a.1.2.2.1 a.1.2.2.2.1 a.2.1) rec)):=fnA Tryz.func147 rfl (q2c rec hrec) (.two .z (.two .z (.s 2))) (sC (qnw rec hrec) s0)
theorem qm3:MdlOK Tryz.prog 147 q9a :=
 rec_ok (c:=bodyOf Tryz.f147) (l:=(.cons (.own 0) (.cons (.d false qT0) (.cons (.d false qT0) (.cons (.d false qT0) (.cons (.fn 110 .nil) .nil)))))) (objs:=[.arr 48 (.fz true) [3] qT1]) (kp:=[true]) (k:=0) (sh:=qw) (mk:=(fun b=>((()),(b,())))) (F:=(fun (rec:((Unit×Int×Int×Int×(Unit)×Unit)×(qL2×Unit))→Option qL2) (a:((Unit×Int×Int×Int×(Unit)×Unit)×(qL2×Unit)))=>q4l rec a.1.2.1 a.1.2.2.1 a.1.2.2.2.1 a.2.1)) Tryz.func147 (by rfl) (by kernel_rfl) (by kernel_rfl) qj7
def qbo:Shp:=⟨[],[.arr 48 (.fz true) [3] qT1]⟩
noncomputable abbrev qqh:Ctx (qL2):=⟨14,tt,false,false,[true],gam [(148,qwb),(147,q9a)],lam [],resU 14 tt [true] [] qbo (fun x=>x.2.1)⟩
theorem qqb:CtxM Tryz.prog qqh:=mkG fits mixed (mC qxl (mC qm3 m0))
noncomputable abbrev qcf:Mdl:=(mdlOf (.cons (.own 0) (.cons (.fn 110 .nil) .nil)) [.arr 48 (.fz true) [3] qT1] [true] 0 qbo (B:=qL2) (fun b=>((()),(b,()))) (fun a=>qd4 a.2.1))
theorem qp1:MdlOK Tryz.prog 108 qcf:=fnA Tryz.func108 rfl qqb .z s0
def qtd:Shp:=⟨[(0,.d true .bool)],[]⟩
noncomputable abbrev q1b1:Ctx (Bool):=⟨5,tt,false,false,[],gam [],lam [],resU 5 tt [] [.tmp 2] qtd (fun x=>x.1.1)⟩
theorem q197:CtxM Tryz.prog q1b1:=mkG fits mixed m0
noncomputable abbrev qw4:Mdl:=(mdlOf (.cons (.d false qT0) .nil) [] [] 1 qtd (B:=Bool) (fun b=>((b,()),(()))) (fun a=>qyp a.1.1))
theorem q15h:MdlOK Tryz.prog 133 qw4:=fnA Tryz.func133 rfl q197 .z s0
def q9b:Shp:=⟨[(0,.d true qT0)],[]⟩
noncomputable abbrev qbc:Ctx (Int):=⟨19,tt,false,false,[],gam [(133,qw4)],lam [qd _ 19 [] qnb (C:=(qL1×Int)) (S:=Int) (fun x=>((x.1.1,x.1.2.2.1),x.1.2.2.2.1)) qnf (CE:=Unit) (E:=Unit) (fun c e=>((()),(()))) (fun c=>()) (fun {R} c a nx dn rt=>q8v c.1 c.2 a nx dn rt)],resU 19 tt [] [.tmp 4] q9b (fun x=>x.1.1)⟩
theorem qbm:CtxM Tryz.prog qbc:=mkG fits mixed (mC q15h m0)
theorem qny:SummOK Tryz.prog qbc 0 (lc 0 Tryz.f79 37):=lp rfl qbm .z s0 (fun c a=>((c.1,(()),c.2,a,()),(()))) (fun y=>((),()))
noncomputable abbrev qbs:Mdl:=(mdlOf (.cons (.d false qT1) (.cons (.fn 133 .nil) .nil)) [] [] 1 q9b (B:=Int) (fun b=>((b,()),(()))) (fun a=>qc4 a.1.1))
theorem qni:MdlOK Tryz.prog 79 qbs:=fnA Tryz.func79 rfl qbm (.two .z (.two (.two .z (.s 0)) .z)) (sC qny s0)
def q7j:Shp:=⟨[(0,.d true .bool)],[]⟩
noncomputable abbrev qlh:Ctx (Bool):=⟨9,tt,false,false,[],gam [(79,qbs)],lam [],resU 9 tt [] [.tmp 4] q7j (fun x=>x.1.1)⟩
theorem qls:CtxM Tryz.prog qlh:=mkG fits mixed (mC qni m0)
noncomputable abbrev q84:Mdl:=(mdlOf (.cons (.d false qT1) (.cons (.fn 133 .nil) .nil)) [] [] 1 q7j (B:=Bool) (fun b=>((b,()),(()))) (fun a=>q8x a.1.1))
theorem qiq:MdlOK Tryz.prog 32 q84:=fnA Tryz.func32 rfl qls .z s0
def qy6:Shp:=⟨[(0,.d true qT2),(1,.d true qT0)],[]⟩
noncomputable abbrev qdk:Ctx ((qL2×Int)):=⟨83,tt,false,false,[],gam [(45,q2l),(132,qoo),(108,qcf),(32,q84)],lam [qd _ 83 [] q190 (C:=(qL2×qL2×Int)) (S:=(Int×qL2×qL2)) (fun x=>((x.1.1,x.1.2.2.1,x.1.2.2.2.1),(x.1.2.2.2.2.1,x.2.2.1,x.2.2.2.1))) q18x (CE:=qL2) (E:=(qL2×qL2)) (fun c e=>((c,(),()),(((),(),()),e.1,e.2,()))) (fun c=>c.1) (fun {R} c a nx dn rt=>qwk c.1 c.2.1 c.2.2 a.1 a.2.1 a.2.2 nx dn rt),
 qd _ 83 [] q19c (C:=Int) (S:=(Int×qL2×qL2)) (fun x=>(x.1.2.1,(x.1.2.2.1,x.2.2.1,x.2.2.2.1))) q1ar (CE:=Unit) (E:=(qL2×qL2)) (fun c e=>(((),()),(((),(),()),e.1,e.2,()))) (fun c=>()) (fun {R} c a nx dn rt=>qw2 c a.1 a.2.1 a.2.2 nx dn rt),
 qd _ 83 [] q1be (C:=(qL2×qL2×Int)) (S:=Int) (fun x=>((x.1.1,x.1.2.1,x.1.2.2.1),x.1.2.2.2.1)) q19p (CE:=qL2) (E:=Unit) (fun c e=>((c,()),(()))) (fun c=>c.1) (fun {R} c a nx dn rt=>qw1 c.1 c.2.1 c.2.2 a nx dn rt),
 q29 _ 83 [] q1ao (A:=(qL2×qL2)) (fun x=>(x.2.1.1,x.2.2.1)) q198 (CE:=Unit) (E:=Unit) (fun c e=>((()),(()))) (fun c=>()) (fun {R} c dn rt=>qwm c.1 c.2 dn rt)],resU 83 tt [] [.tmp 2,.tmp 3] qy6 (fun x=>(x.1.1,x.1.2.1))⟩
theorem qds:CtxM Tryz.prog qdk:=mkG fits mixed (mC q31 (mC qxr (mC qp1 (mC qiq m0))))
theorem q1bo:SummOK Tryz.prog qdk 2 (lc 4 Tryz.f95 2431):=lp rfl qds .z s0 (fun c a=>((c.1,c.2.1,c.2.2,a,()),(()))) (fun y=>(y.1.1,()))
theorem q1c0:SummOK Tryz.prog qdk 1 (lc 2 Tryz.f95 599):=lp rfl qds .z s0 (fun c a=>(((),c,a.1,()),(((),(),()),a.2.1,a.2.2,()))) (fun y=>((),(y.2.2.1,y.2.2.2.1)))
theorem q1bn:SummOK Tryz.prog qdk 0 (lc 0 Tryz.f95 75):=lp rfl qds (.two .z (.two .z (.two (.one (.two .z (.two .z (.two .z (.d [0,0,0,4,12,28,0,64,192,508,0,1024,3072,7168,0,16384,65532,131069,262141,524285,1048575,2097151,4194303] [9,16,19,22] []))))) .z))) s0 (fun c a=>((c.1,(),c.2.1,c.2.2,a.1,()),(((),(),()),a.2.1,a.2.2,()))) (fun y=>(y.1.1,(y.2.2.1,y.2.2.2.1)))
theorem q1bg:SummOK Tryz.prog qdk 3 (jc Tryz.f95 31):=jn rfl qds (.two .z (.two .z (.two .z (.two (.two .z (.s 2)) .z)))) (sC q1bo s0) (fun c=>(((),()),((c.1,(),()),c.2,()))) (fun y=>((),()))
noncomputable abbrev qrh:Mdl:=(mdlOf (.cons (.d false qT2) .nil) [] [] 2 qy6 (B:=(qL2×Int)) (fun b=>((b.1,b.2,()),(()))) (fun a=>qtk a.1.1))
theorem qwn:MdlOK Tryz.prog 95 qrh:=fnA Tryz.func95 rfl qds (.two .z (.two .z (.two (.two .z (.s 0)) (.two (.two .z (.two (.two .z (.s 1)) .z)) (.s 3))))) (sC q1bn (sC q1c0 (sC q1bg s0)))
def q11q:Shp:=⟨[(0,.d true qT2),(1,.d true qT0)],[]⟩
noncomputable abbrev qu3:Ctx ((qL2×Int)):=⟨43,tt,false,false,[],gam [(41,q3l),(93,qxb),(94,qto),(95,qrh)],lam [qd _ 43 [] q1bk (C:=(Int×Int×Int×(List Trans)×Int×Int×(List Trans)×Int×Int×qL2)) (S:=(Int×qL1)) (fun x=>((x.1.2.2.1,x.1.2.2.2.2.1,x.1.2.2.2.2.2.1,x.1.2.2.2.2.2.2.1,x.1.2.2.2.2.2.2.2.1,x.2.1.1,x.2.1.2.1,x.2.1.2.2.1,x.2.1.2.2.2.1,x.2.2.1),(x.1.2.2.2.2.2.2.2.2.1,x.2.2.2.1))) q1cz (CE:=(Int×Int×Int×(List Trans)×Int×Int×qL2)) (E:=qL1) (fun c e=>(((),(),(),c.1,c.2.1,()),((c.2.2.1,c.2.2.2.1,c.2.2.2.2.1,c.2.2.2.2.2.1,()),c.2.2.2.2.2.2,e,()))) (fun c=>(c.2.1,c.2.2.1,c.2.2.2.2.2.1,c.2.2.2.2.2.2.1,c.2.2.2.2.2.2.2.1,c.2.2.2.2.2.2.2.2.1,c.2.2.2.2.2.2.2.2.2)) (fun {R} c a nx dn rt=>qyz c.1 c.2.1 c.2.2.1 c.2.2.2.1 c.2.2.2.2.1 c.2.2.2.2.2.1 c.2.2.2.2.2.2.1 c.2.2.2.2.2.2.2.1 c.2.2.2.2.2.2.2.2.1 c.2.2.2.2.2.2.2.2.2 a.1 a.2 nx dn rt),
 qd _ 43 [] q1cw (C:=(Int×Int×(List Trans)×Int×Int)) (S:=(Int×qL2)) (fun x=>((x.1.2.2.1,x.2.1.1,x.2.1.2.1,x.2.1.2.2.1,x.2.1.2.2.2.1),(x.1.2.2.2.1,x.2.2.1))) q1d0 (CE:=Unit) (E:=qL2) (fun c e=>(((),()),(e,()))) (fun c=>()) (fun {R} c a nx dn rt=>qzy c.1 c.2.1 c.2.2.1 c.2.2.2.1 c.2.2.2.2 a.1 a.2 nx dn rt)],resU 43 tt [] [.tmp 2,.tmp 3] q11q (fun x=>(x.1.1,x.1.2.1))⟩
theorem qtv:CtxM Tryz.prog qu3:=mkG fits mixed (mC q2z (mC q116 (mC qzl (mC qwn m0))))
theorem q1ez:SummOK Tryz.prog qu3 0 (lc 2 Tryz.f53 308015):=lp rfl qtv .z s0 (fun c a=>(((),(),c.1,(),c.2.1,c.2.2.1,c.2.2.2.1,c.2.2.2.2.1,a.1,()),((c.2.2.2.2.2.1,c.2.2.2.2.2.2.1,c.2.2.2.2.2.2.2.1,c.2.2.2.2.2.2.2.2.1,()),c.2.2.2.2.2.2.2.2.2,a.2,()))) (fun y=>((y.1.2.2.2.1,y.1.2.2.2.2.1,y.2.1.1,y.2.1.2.1,y.2.1.2.2.1,y.2.1.2.2.2.1,y.2.2.1),y.2.2.2.1))
theorem q1ey:SummOK Tryz.prog qu3 1 (lc 0 Tryz.f53 303):=lp rfl qtv (.two .z (.two .z (.two (.one (.two .z (.two .z (.two (.two .z (.s 0)) .z)))) .z))) (sC q1ez s0) (fun c a=>(((),(),c.1,a.1,()),((c.2.1,c.2.2.1,c.2.2.2.1,c.2.2.2.2,()),a.2,()))) (fun y=>((),y.2.1))
noncomputable abbrev q139:Mdl:=(mdlOf (.cons (.d false Net.ty) .nil) [] [] 2 q11q (B:=(qL2×Int)) (fun b=>((b.1,b.2,()),(()))) (fun a=>q168 a.1.1))
theorem q1cy:MdlOK Tryz.prog 53 q139:=fnA Tryz.func53 rfl qtv (.two .z (.two .z (.two .z (.two .z (.two (.two .z (.s 1)) .z))))) (sC q1ey s0)
def qr5:Shp:=⟨[(0,.d true qT2),(1,.d true qT0)],[]⟩
noncomputable abbrev qif:Ctx ((qL2×Int)):=⟨43,tt,false,false,[],gam [(41,q3l),(93,qxb),(94,qto),(95,qrh)],lam [qd _ 43 [] q12e (C:=((List Trans)×Int×Int×Int×Int×(List Trans)×Int×Int×qL2×ByteArray×qL1×qL1)) (S:=(Int×qL1)) (fun x=>((x.1.2.2.2.2.1,x.1.2.2.2.2.2.1,x.1.2.2.2.2.2.2.1,x.1.2.2.2.2.2.2.2.1,x.2.1.1,x.2.1.2.1,x.2.1.2.2.1,x.2.1.2.2.2.1,x.2.2.1,x.2.2.2.1.1,x.2.2.2.1.2.1,x.2.2.2.1.2.2.1),(x.1.2.2.2.2.2.2.2.2.1,x.2.2.2.2.1))) q129 (CE:=((List Trans)×Int×Int×Int×(List Trans)×Int×Int×qL2)) (E:=qL1) (fun c e=>(((),(),(),c.1,c.2.1,c.2.2.1,()),((c.2.2.2.1,c.2.2.2.2.1,c.2.2.2.2.2.1,c.2.2.2.2.2.2.1,()),c.2.2.2.2.2.2.2,e,()))) (fun c=>(c.1,c.2.1,c.2.2.1,c.2.2.2.2.1,c.2.2.2.2.2.1,c.2.2.2.2.2.2.1,c.2.2.2.2.2.2.2.1,c.2.2.2.2.2.2.2.2.1)) (fun {R} c a nx dn rt=>qq2 c.1 c.2.1 c.2.2.1 c.2.2.2.1 c.2.2.2.2.1 c.2.2.2.2.2.1 c.2.2.2.2.2.2.1 c.2.2.2.2.2.2.2.1 c.2.2.2.2.2.2.2.2.1 c.2.2.2.2.2.2.2.2.2.1 c.2.2.2.2.2.2.2.2.2.2.1 c.2.2.2.2.2.2.2.2.2.2.2 a.1 a.2 nx dn rt),
 qd _ 43 [] q12g (C:=((List Trans)×Int×Int×(List Trans)×Int×Int)) (S:=(Int×qL2)) (fun x=>((x.1.2.2.1,x.1.2.2.2.1,x.2.1.1,x.2.1.2.1,x.2.1.2.2.1,x.2.1.2.2.2.1),(x.1.2.2.2.2.1,x.2.2.1))) q124 (CE:=Unit) (E:=qL2) (fun c e=>(((),()),(e,()))) (fun c=>()) (fun {R} c a nx dn rt=>qq5 c.1 c.2.1 c.2.2.1 c.2.2.2.1 c.2.2.2.2.1 c.2.2.2.2.2 a.1 a.2 nx dn rt)],resU 43 tt [] [.tmp 2,.tmp 3] qr5 (fun x=>(x.1.1,x.1.2.1))⟩
theorem qi8:CtxM Tryz.prog qif:=mkG fits mixed (mC q2z (mC q116 (mC qzl (mC qwn m0))))
theorem q12x:SummOK Tryz.prog qif 0 (lc 2 Tryz.f54 308015):=lp rfl qi8 .z s0 (fun c a=>(((),(),(),(),c.1,c.2.1,c.2.2.1,c.2.2.2.1,a.1,()),((c.2.2.2.2.1,c.2.2.2.2.2.1,c.2.2.2.2.2.2.1,c.2.2.2.2.2.2.2.1,()),c.2.2.2.2.2.2.2.2.1,(c.2.2.2.2.2.2.2.2.2.1,c.2.2.2.2.2.2.2.2.2.2.1,c.2.2.2.2.2.2.2.2.2.2.2,()),a.2,()))) (fun y=>((y.1.2.2.2.1,y.1.2.2.2.2.1,y.1.2.2.2.2.2.1,y.2.1.1,y.2.1.2.1,y.2.1.2.2.1,y.2.1.2.2.2.1,y.2.2.1),y.2.2.2.1))
theorem q13o:SummOK Tryz.prog qif 1 (lc 0 Tryz.f54 303):=lp rfl qi8 (.two .z (.two .z (.two (.one (.two .z (.two .z (.two (.two .z (.s 0)) .z)))) .z))) (sC q12x s0) (fun c a=>(((),(),c.1,c.2.1,a.1,()),((c.2.2.1,c.2.2.2.1,c.2.2.2.2.1,c.2.2.2.2.2,()),a.2,()))) (fun y=>((),y.2.1))
noncomputable abbrev qru:Mdl:=(mdlOf (.cons (.d false Net.ty) .nil) [] [] 2 qr5 (B:=(qL2×Int)) (fun b=>((b.1,b.2,()),(()))) (fun a=>quv a.1.1))
theorem q12a:MdlOK Tryz.prog 54 qru:=fnA Tryz.func54 rfl qi8 (.two .z (.two .z (.two .z (.two .z (.two (.two .z (.s 1)) .z))))) (sC q13o s0)
def qs2:Shp:=⟨[(0,.own 0),(1,.d true qT0)],[.arr 48 .own [3] qT1]⟩
noncomputable abbrev qlp:Ctx ((Int×qL2)):=⟨80,tt,false,false,[],gam [(41,q3l),(35,q1v)],lam [qd _ 80 [] q13f (C:=(Int×Int×Int×(List Trans)×Int×Int×(List Trans)×Int×Int)) (S:=(Int×qL2)) (fun x=>((x.1.2.2.1,x.1.2.2.2.1,x.1.2.2.2.2.1,x.1.2.2.2.2.2.1,x.1.2.2.2.2.2.2.1,x.2.1.1,x.2.1.2.1,x.2.1.2.2.1,x.2.1.2.2.2.1),(x.1.2.2.2.2.2.2.2.1,x.2.2.1))) q13s (CE:=(Int×Int×Int×(List Trans)×Int×Int)) (E:=qL2) (fun c e=>(((),(),c.1,c.2.1,()),((c.2.2.1,c.2.2.2.1,c.2.2.2.2.1,c.2.2.2.2.2,()),e,()))) (fun c=>(c.2.1,c.2.2.1,c.2.2.2.2.2.1,c.2.2.2.2.2.2.1,c.2.2.2.2.2.2.2.1,c.2.2.2.2.2.2.2.2)) (fun {R} c a nx dn rt=>qqz c.1 c.2.1 c.2.2.1 c.2.2.2.1 c.2.2.2.2.1 c.2.2.2.2.2.1 c.2.2.2.2.2.2.1 c.2.2.2.2.2.2.2.1 c.2.2.2.2.2.2.2.2 a.1 a.2 nx dn rt),
 qd _ 80 [] q13q (C:=(Int×Int×(List Trans)×Int×Int)) (S:=(Int×qL2)) (fun x=>((x.1.2.2.1,x.2.1.1,x.2.1.2.1,x.2.1.2.2.1,x.2.1.2.2.2.1),(x.1.2.2.2.1,x.2.2.1))) q13c (CE:=Unit) (E:=qL2) (fun c e=>(((),()),(e,()))) (fun c=>()) (fun {R} c a nx dn rt=>qr2 c.1 c.2.1 c.2.2.1 c.2.2.2.1 c.2.2.2.2 a.1 a.2 nx dn rt)],resU 80 tt [] [.tmp 2,.tmp 3] qs2 (fun x=>(x.1.2.1,x.2.1))⟩
theorem qli:CtxM Tryz.prog qlp:=mkG fits mixed (mC q2z (mC q21 m0))
theorem q15m:SummOK Tryz.prog qlp 0 (lc 3 Tryz.f55 80279):=lp rfl qli .z s0 (fun c a=>(((),(),c.1,c.2.1,c.2.2.1,c.2.2.2.1,c.2.2.2.2.1,a.1,()),((c.2.2.2.2.2.1,c.2.2.2.2.2.2.1,c.2.2.2.2.2.2.2.1,c.2.2.2.2.2.2.2.2,()),a.2,()))) (fun y=>((y.1.2.2.1,y.1.2.2.2.1,y.2.1.1,y.2.1.2.1,y.2.1.2.2.1,y.2.1.2.2.2.1),y.2.2.1))
theorem q15g:SummOK Tryz.prog qlp 1 (lc 1 Tryz.f55 151):=lp rfl qli (.two .z (.two .z (.two (.one (.two .z (.two .z (.two .z (.s 0))))) .z))) (sC q15m s0) (fun c a=>(((),(),c.1,a.1,()),((c.2.1,c.2.2.1,c.2.2.2.1,c.2.2.2.2,()),a.2,()))) (fun y=>((),y.2.1))
noncomputable abbrev qt7:Mdl:=(mdlOf (.cons (.d false Net.ty) .nil) [] [] 2 qs2 (B:=(Int×qL2)) (fun b=>(((),b.1,()),(b.2,()))) (fun a=>qws a.1.1))
theorem q130:MdlOK Tryz.prog 55 qt7:=fnA Tryz.func55 rfl qli (.two .z (.two .z (.two .z (.two (.two .z (.s 1)) .z)))) (sC q15g s0)
def qqv:Shp:=⟨[(0,.d true .bool)],[]⟩
noncomputable abbrev q14g:Ctx (Bool):=⟨9,tt,false,false,[],gam [],lam [],resU 9 tt [] [.tmp 2] qqv (fun x=>x.1.1)⟩
theorem q151:CtxM Tryz.prog q14g:=mkG fits mixed m0
noncomputable abbrev qrv:Mdl:=(mdlOf (.cons (.d false qT0) .nil) [] [] 1 qqv (B:=Bool) (fun b=>((b,()),(()))) (fun a=>qur a.1.1))
theorem q127:MdlOK Tryz.prog 162 qrv:=fnA Tryz.func162 rfl q151 .z s0
def q9e:Shp:=⟨[(0,.d true qT0)],[]⟩
noncomputable abbrev qba:Ctx (Int):=⟨19,tt,false,false,[],gam [(162,qrv)],lam [qd _ 19 [] qnp (C:=(qL1×Int)) (S:=Int) (fun x=>((x.1.1,x.1.2.2.1),x.1.2.2.2.1)) qnh (CE:=Unit) (E:=Unit) (fun c e=>((()),(()))) (fun c=>()) (fun {R} c a nx dn rt=>q8y c.1 c.2 a nx dn rt)],resU 19 tt [] [.tmp 4] q9e (fun x=>x.1.1)⟩
theorem qbj:CtxM Tryz.prog qba:=mkG fits mixed (mC q127 m0)
theorem qpc:SummOK Tryz.prog qba 0 (lc 0 Tryz.f79 37):=lp rfl qbj .z s0 (fun c a=>((c.1,(()),c.2,a,()),(()))) (fun y=>((),()))
noncomputable abbrev qbr:Mdl:=(mdlOf (.cons (.d false qT1) (.cons (.fn 162 .nil) .nil)) [] [] 1 q9e (B:=Int) (fun b=>((b,()),(()))) (fun a=>qc1 a.1.1))
theorem qna:MdlOK Tryz.prog 79 qbr:=fnA Tryz.func79 rfl qbj (.two .z (.two (.two .z (.s 0)) .z)) (sC qpc s0)
def q7s:Shp:=⟨[(0,.d true .bool)],[]⟩
noncomputable abbrev qlx:Ctx (Bool):=⟨9,tt,false,false,[],gam [(79,qbr)],lam [],resU 9 tt [] [.tmp 4] q7s (fun x=>x.1.1)⟩
theorem qlj:CtxM Tryz.prog qlx:=mkG fits mixed (mC qna m0)
noncomputable abbrev q8k:Mdl:=(mdlOf (.cons (.d false qT1) (.cons (.fn 162 .nil) .nil)) [] [] 1 q7s (B:=Bool) (fun b=>((b,()),(()))) (fun a=>q90 a.1.1))
theorem qib:MdlOK Tryz.prog 32 q8k:=fnA Tryz.func32 rfl qlj .z s0
def qu7:Shp:=⟨[(0,.d true .bool)],[]⟩
noncomputable abbrev q1aa:Ctx (Bool):=⟨6,tt,false,false,[],gam [(32,q8k)],lam [],resU 6 tt [] [.tmp 2] qu7 (fun x=>x.1.1)⟩
theorem q1bc:CtxM Tryz.prog q1aa:=mkG fits mixed (mC qib m0)
noncomputable abbrev qwv:Mdl:=(mdlOf (.cons (.d false qT1) .nil) [] [] 1 qu7 (B:=Bool) (fun b=>((b,()),(()))) (fun a=>qzm a.1.1))
theorem q14h:MdlOK Tryz.prog 135 qwv:=fnA Tryz.func135 rfl q1bc .z s0
def qt9:Shp:=⟨[(0,.d true .bool)],[]⟩
noncomputable abbrev q1at:Ctx (Bool):=⟨16,tt,false,false,[],gam [(135,qwv)],lam [],resU 16 tt [] [.tmp 3] qt9 (fun x=>x.1.1)⟩
theorem q1au:CtxM Tryz.prog q1at:=mkG fits mixed (mC q14h m0)
noncomputable abbrev qwd:Mdl:=(mdlOf (.cons (.d false qT1) (.cons (.rp false qT2) .nil)) [] [] 1 qt9 (B:=Bool) (fun b=>((b,()),(()))) (fun a=>qzo a.1.1 a.1.2.1))
theorem q156:MdlOK Tryz.prog 134 qwd:=fnA Tryz.func134 rfl q1au .z s0
def q9i:Shp:=⟨[(0,.d true qT0)],[]⟩
noncomputable abbrev qbn:Ctx (Int):=⟨19,tt,false,false,[],gam [(134,qwd)],lam [qd _ 19 [] qnc (C:=(qL2×qL2×Int)) (S:=Int) (fun x=>((x.1.1,x.1.2.1.1,x.1.2.2.1),x.1.2.2.2.1)) qnu (CE:=Unit) (E:=Unit) (fun c e=>((()),(()))) (fun c=>()) (fun {R} c a nx dn rt=>q95 c.1 c.2.1 c.2.2 a nx dn rt)],resU 19 tt [] [.tmp 4] q9i (fun x=>x.1.1)⟩
theorem qbi:CtxM Tryz.prog qbn:=mkG fits mixed (mC q156 m0)
theorem qoj:SummOK Tryz.prog qbn 0 (lc 0 Tryz.f111 37):=lp rfl qbi .z s0 (fun c a=>((c.1,(c.2.1,()),c.2.2,a,()),(()))) (fun y=>((),()))
noncomputable abbrev qbd:Mdl:=(mdlOf (.cons (.d false qT2) (.cons (.fn 134 (.cons (.rp false qT2) .nil)) .nil)) [] [] 1 q9i (B:=Int) (fun b=>((b,()),(()))) (fun a=>qcm a.1.1 a.1.2.1.1))
theorem qnj:MdlOK Tryz.prog 111 qbd:=fnA Tryz.func111 rfl qbi (.two .z (.two (.two .z (.s 0)) .z)) (sC qoj s0)
def q7o:Shp:=⟨[(0,.d true .bool)],[]⟩
noncomputable abbrev qlc:Ctx (Bool):=⟨9,tt,false,false,[],gam [(111,qbd)],lam [],resU 9 tt [] [.tmp 4] q7o (fun x=>x.1.1)⟩
theorem qle:CtxM Tryz.prog qlc:=mkG fits mixed (mC qnj m0)
noncomputable abbrev q8m:Mdl:=(mdlOf (.cons (.d false qT2) (.cons (.fn 134 (.cons (.rp false qT2) .nil)) .nil)) [] [] 1 q7o (B:=Bool) (fun b=>((b,()),(()))) (fun a=>q8t a.1.1 a.1.2.1.1))
theorem qiy:MdlOK Tryz.prog 65 q8m:=fnA Tryz.func65 rfl qle .z s0
def qyx:Shp:=⟨[(0,.d true .bool)],[]⟩
noncomputable abbrev q1el:Ctx (Bool):=⟨29,tt,false,false,[],gam [(65,q8m)],lam [],resU 29 tt [] [.tmp 2] qyx (fun x=>x.1.1)⟩
theorem q1f6:CtxM Tryz.prog q1el:=mkG fits mixed (mC qiy m0)
noncomputable abbrev q118:Mdl:=(mdlOf (.cons (.d false qT2) .nil) [] [] 1 qyx (B:=Bool) (fun b=>((b,()),(()))) (fun a=>q138 a.1.1))
theorem q1b0:MdlOK Tryz.prog 96 q118:=fnA Tryz.func96 rfl q1f6 .z s0
def q134:Shp:=⟨[(0,.d true qT0)],[]⟩
noncomputable abbrev q1hl:Ctx (Int):=⟨7,tt,false,false,[],gam [],lam [],resU 7 tt [] [.tmp 2] q134 (fun x=>x.1.1)⟩
theorem q1hv:CtxM Tryz.prog q1hl:=mkG fits mixed m0
noncomputable abbrev q165:Mdl:=(mdlOf (.cons (.d false qT0) .nil) [] [] 1 q134 (B:=Int) (fun b=>((b,()),(()))) (fun a=>q19g a.1.1))
theorem q1ev:MdlOK Tryz.prog 136 q165:=fnA Tryz.func136 rfl q1hv .z s0
def qz5:Shp:=⟨[(0,.d true .bool)],[]⟩
noncomputable abbrev qrs:Ctx (Bool):=⟨33,tt,false,false,[],gam [(136,q165)],lam [qd _ 33 [] q1ae (C:=(Int×qL2×Int×Int×qL1×Int)) (S:=(Int×Int)) (fun x=>((x.1.1,x.1.2.2.1,x.1.2.2.2.1,x.1.2.2.2.2.1,x.1.2.2.2.2.2.1,x.1.2.2.2.2.2.2.1),(x.1.2.1,x.1.2.2.2.2.2.2.2.1))) q1b9 (CE:=(Int×qL2×Int×Int)) (E:=Int) (fun c e=>((c.1,e,c.2.1,c.2.2.1,c.2.2.2,()),(()))) (fun c=>(c.1,c.2.1,c.2.2.1,c.2.2.2.1)) (fun {R} c a nx dn rt=>qwh c.1 c.2.1 c.2.2.1 c.2.2.2.1 c.2.2.2.2.1 c.2.2.2.2.2 a.1 a.2 nx dn rt),
 qd _ 33 [] q19d (C:=(qL2×Int)) (S:=(Int×Int)) (fun x=>((x.1.2.1,x.1.2.2.1),(x.1.1,x.1.2.2.2.1))) q196 (CE:=Unit) (E:=Unit) (fun c e=>((()),(()))) (fun c=>()) (fun {R} c a nx dn rt=>qwa c.1 c.2 a.1 a.2 nx dn rt)],resU 33 tt [] [.tmp 2] qz5 (fun x=>x.1.1)⟩
theorem qrr:CtxM Tryz.prog qrs:=mkG fits mixed (mC q1ev m0)
theorem q1cd:SummOK Tryz.prog qrs 0 (lc 2 Tryz.f97 77003):=lp rfl qrr .z s0 (fun c a=>((c.1,a.1,c.2.1,c.2.2.1,c.2.2.2.1,c.2.2.2.2.1,c.2.2.2.2.2,a.2,()),(()))) (fun y=>((y.1.1,y.1.2.2.1,y.1.2.2.2.1,y.1.2.2.2.2.1),y.1.2.1))
theorem q1ch:SummOK Tryz.prog qrs 1 (lc 0 Tryz.f97 75):=lp rfl qrr (.two .z (.two .z (.two (.one (.two .z (.two .z (.two (.two .z (.s 0)) .z)))) .z))) (sC q1cd s0) (fun c a=>((a.1,c.1,c.2,a.2,()),(()))) (fun y=>((),()))
noncomputable abbrev q11c:Mdl:=(mdlOf (.cons (.d false qT2) .nil) [] [] 1 qz5 (B:=Bool) (fun b=>((b,()),(()))) (fun a=>q13i a.1.1))
theorem q1ba:MdlOK Tryz.prog 97 q11c:=fnA Tryz.func97 rfl qrr (.two .z (.two .z (.two (.two .z (.s 1)) .z))) (sC q1ch s0)
def qhq:Shp:=⟨[],[.cs 114 4 1 (.cons (.own 1) (.cons (.own 2) (.cons (.d true qT0) (.cons (.d true qT0) .nil)))),.arr 48 .own [3] qT1,.arr 3 (.fz true) [0] qT0]⟩
noncomputable abbrev qb6:Ctx ((Int×Int×qL2×qL1)):=⟨72,tt,true,false,[true,true,true],gam [],lam [qd _ 72 [true,true,true] qtz (C:=(Int×Int×Nat×Int×Nat×Int×Int×Int×Int×Int×Int×qL1)) (S:=(Int×qL2)) (fun x=>((x.1.2.1,x.1.2.2.1,x.1.2.2.2.1,x.1.2.2.2.2.1,x.1.2.2.2.2.2.1,x.1.2.2.2.2.2.2.1,x.1.2.2.2.2.2.2.2.2.1,x.1.2.2.2.2.2.2.2.2.2.1,x.1.2.2.2.2.2.2.2.2.2.2.1,x.2.1.2.2.1,x.2.1.2.2.2.1,x.2.2.2.1),(x.1.2.2.2.2.2.2.2.2.2.2.2.1,x.2.2.1))) qtt (CE:=(Int×Int×Nat×Int×Int×Int×Int×Int×qL1)) (E:=qL2) (fun c e=>(((),c.1,c.2.1,c.2.2.1,c.2.2.2.1,(),c.2.2.2.2.1,c.2.2.2.2.2.1,()),(((),(),c.2.2.2.2.2.2.1,c.2.2.2.2.2.2.2.1,()),e,c.2.2.2.2.2.2.2.2,()))) (fun c=>(c.1,c.2.1,c.2.2.1,c.2.2.2.1,c.2.2.2.2.2.2.1,c.2.2.2.2.2.2.2.1,c.2.2.2.2.2.2.2.2.2.1,c.2.2.2.2.2.2.2.2.2.2.1,c.2.2.2.2.2.2.2.2.2.2.2)) (fun {R} c a nx dn rt=>qh2 c.1 c.2.1 c.2.2.1 c.2.2.2.1 c.2.2.2.2.1 c.2.2.2.2.2.1 c.2.2.2.2.2.2.1 c.2.2.2.2.2.2.2.1 c.2.2.2.2.2.2.2.2.1 c.2.2.2.2.2.2.2.2.2.1 c.2.2.2.2.2.2.2.2.2.2.1 c.2.2.2.2.2.2.2.2.2.2.2 a.1 a.2 nx dn rt),
 qd _ 72 [true,true,true] qup (C:=(Int×Int×Nat×Int×Int×Int×Int×qL1)) (S:=(Int×qL2)) (fun x=>((x.1.2.1,x.1.2.2.1,x.1.2.2.2.1,x.1.2.2.2.2.1,x.1.2.2.2.2.2.2.1,x.2.1.2.2.1,x.2.1.2.2.2.1,x.2.2.2.1),(x.1.2.2.2.2.2.2.2.1,x.2.2.1))) qt5 (CE:=(Int×Int×Int×qL1)) (E:=qL2) (fun c e=>(((),c.1,()),(((),(),c.2.1,c.2.2.1,()),e,c.2.2.2,()))) (fun c=>(c.2.2.2.1,c.2.2.2.2.2.1,c.2.2.2.2.2.2.1,c.2.2.2.2.2.2.2)) (fun {R} c a nx dn rt=>qge c.1 c.2.1 c.2.2.1 c.2.2.2.1 c.2.2.2.2.1 c.2.2.2.2.2.1 c.2.2.2.2.2.2.1 c.2.2.2.2.2.2.2 a.1 a.2 nx dn rt)],resU 72 tt [true,true,true] [] qhq (fun x=>(x.2.1.2.2.1,x.2.1.2.2.2.1,x.2.2.1,x.2.2.2.1))⟩
theorem qam:CtxM Tryz.prog qb6:=mkG fits mixed m0
theorem qv8:SummOK Tryz.prog qb6 0 (lc 2 Tryz.f137 81099):=lp rfl qam (.two .z (.two .z (.two (.one (.two .z (.d [0,0,0,0,0,24,56,124,0,0,0,1536,3584,7936,16380,0,32768,98304,229376,524284,1048575,2097151] [21] []))) .z))) s0 (fun c a=>(((),c.1,c.2.1,c.2.2.1,c.2.2.2.1,c.2.2.2.2.1,c.2.2.2.2.2.1,(),c.2.2.2.2.2.2.1,c.2.2.2.2.2.2.2.1,c.2.2.2.2.2.2.2.2.1,a.1,()),(((),(),c.2.2.2.2.2.2.2.2.2.1,c.2.2.2.2.2.2.2.2.2.2.1,()),a.2,c.2.2.2.2.2.2.2.2.2.2.2,()))) (fun y=>((y.1.2.1,y.1.2.2.1,y.1.2.2.2.1,y.1.2.2.2.2.1,y.1.2.2.2.2.2.2.1,y.1.2.2.2.2.2.2.2.1,y.2.1.2.2.1,y.2.1.2.2.2.1,y.2.2.2.1),y.2.2.1))
theorem qvk:SummOK Tryz.prog qb6 1 (lc 0 Tryz.f137 75):=lp rfl qam (.two .z (.two .z (.two (.one (.two .z (.two .z (.two .z (.two .z (.s 0)))))) .z))) (sC qv8 s0) (fun c a=>(((),c.1,c.2.1,c.2.2.1,c.2.2.2.1,(),c.2.2.2.2.1,a.1,()),(((),(),c.2.2.2.2.2.1,c.2.2.2.2.2.2.1,()),a.2,c.2.2.2.2.2.2.2,()))) (fun y=>((y.1.2.1,y.2.1.2.2.1,y.2.1.2.2.2.1,y.2.2.2.1),y.2.2.1))
noncomputable abbrev qk1:Mdl:=(mdlOf (.cons (.ptr 0) (.cons (.d false qT0) (.cons (.d false qT0) .nil))) [.cs 114 4 1 (.cons (.own 1) (.cons (.own 2) (.cons (.d false qT0) (.cons (.d false qT0) .nil)))),.arr 48 .own [3] qT1,.arr 3 (.fz true) [0] qT0] [true,true,true] 0 qhq (B:=(Int×Int×qL2×qL1)) (fun b=>((()),(((),(),b.1,b.2.1,()),b.2.2.1,b.2.2.2,()))) (fun a=>qcw a.1.2.1 a.1.2.2.1 a.2.1.2.2.1 a.2.1.2.2.2.1 a.2.2.1 a.2.2.2.1))
theorem quq:MdlOK Tryz.prog 137 qk1:=fnA Tryz.func137 rfl qam (.two .z (.two .z (.two (.two .z (.s 1)) .z))) (sC qvk s0)
def qwu:Shp:=⟨[(0,.d true q1r.ty)],[]⟩
noncomputable abbrev qhd:Ctx (q1r):=⟨102,tt,true,false,[],gam [(45,q2l),(137,qk1)],lam [qd _ 102 [] q17a (C:=(Int×qL2×Int×qL2×qL1×Int×Int×Int×Int×qL1)) (S:=(Int×qL2)) (fun x=>((x.1.1,x.1.2.2.2.1,x.1.2.2.2.2.1,x.2.1.1,x.2.1.2.1,x.2.1.2.2.1,x.2.1.2.2.2.1,x.2.2.1.2.2.1,x.2.2.1.2.2.2.1,x.2.2.2.2.1),(x.1.2.2.2.2.2.1,x.2.2.2.1))) q18q (CE:=(Int×qL2×qL1×Int×Int×Int×Int×qL1)) (E:=qL2) (fun c e=>((c.1,(),(),()),((c.2.1,c.2.2.1,c.2.2.2.1,c.2.2.2.2.1,()),((),(),c.2.2.2.2.2.1,c.2.2.2.2.2.2.1,()),e,c.2.2.2.2.2.2.2,()))) (fun c=>(c.1,c.2.2.2.1,c.2.2.2.2.1,c.2.2.2.2.2.1,c.2.2.2.2.2.2.1,c.2.2.2.2.2.2.2.1,c.2.2.2.2.2.2.2.2.1,c.2.2.2.2.2.2.2.2.2)) (fun {R} c a nx dn rt=>qtx c.1 c.2.1 c.2.2.1 c.2.2.2.1 c.2.2.2.2.1 c.2.2.2.2.2.1 c.2.2.2.2.2.2.1 c.2.2.2.2.2.2.2.1 c.2.2.2.2.2.2.2.2.1 c.2.2.2.2.2.2.2.2.2 a.1 a.2 nx dn rt),
 qd _ 102 [] q18l (C:=(Int×Int×Int×qL2×qL1×Int×Int×Int×Int×qL2×qL1)) (S:=Int) (fun x=>((x.1.1,x.1.2.2.2.1,x.1.2.2.2.2.1,x.2.1.1,x.2.1.2.1,x.2.1.2.2.1,x.2.1.2.2.2.1,x.2.2.1.2.2.1,x.2.2.1.2.2.2.1,x.2.2.2.1,x.2.2.2.2.1),x.1.2.2.2.2.2.1)) q16u (CE:=(Int×Int×Int×qL2×qL1×Int×Int×Int×Int×qL2×qL1)) (E:=Int) (fun c e=>((c.1,(),(),c.2.1,c.2.2.1,e,()),((c.2.2.2.1,c.2.2.2.2.1,c.2.2.2.2.2.1,c.2.2.2.2.2.2.1,()),((),(),c.2.2.2.2.2.2.2.1,c.2.2.2.2.2.2.2.2.1,()),c.2.2.2.2.2.2.2.2.2.1,c.2.2.2.2.2.2.2.2.2.2,()))) (fun c=>(c.1,c.2.1,c.2.2.1,c.2.2.2.1,c.2.2.2.2.1,c.2.2.2.2.2.1,c.2.2.2.2.2.2.1,c.2.2.2.2.2.2.2.1,c.2.2.2.2.2.2.2.2.1,c.2.2.2.2.2.2.2.2.2.1,c.2.2.2.2.2.2.2.2.2.2)) (fun {R} c a nx dn rt=>qth c.1 c.2.1 c.2.2.1 c.2.2.2.1 c.2.2.2.2.1 c.2.2.2.2.2.1 c.2.2.2.2.2.2.1 c.2.2.2.2.2.2.2.1 c.2.2.2.2.2.2.2.2.1 c.2.2.2.2.2.2.2.2.2.1 c.2.2.2.2.2.2.2.2.2.2 a nx dn rt),
 qd _ 102 [] q17x (C:=(Int×qL2×qL1×Int×Int)) (S:=(Int×Int×Int×qL2×qL1)) (fun x=>((x.1.1,x.2.1.1,x.2.1.2.1,x.2.1.2.2.1,x.2.1.2.2.2.1),(x.1.2.2.2.1,x.2.2.1.2.2.1,x.2.2.1.2.2.2.1,x.2.2.2.1,x.2.2.2.2.1))) q181 (CE:=(qL2×qL1×Int×Int)) (E:=(Int×Int×qL2×qL1)) (fun c e=>(((),(),()),((c.1,c.2.1,c.2.2.1,c.2.2.2,()),((),(),e.1,e.2.1,()),e.2.2.1,e.2.2.2,()))) (fun c=>(c.2.1,c.2.2.1,c.2.2.2.1,c.2.2.2.2)) (fun {R} c a nx dn rt=>quf c.1 c.2.1 c.2.2.1 c.2.2.2.1 c.2.2.2.2 a.1 a.2.1 a.2.2.1 a.2.2.2.1 a.2.2.2.2 nx dn rt)],resU 102 tt [] [.cell 4 114] qwu (fun x=>x.1.1)⟩
theorem qhk:CtxM Tryz.prog qhd:=mkG fits mixed (mC q31 (mC quq m0))
theorem q1aj:SummOK Tryz.prog qhd 1 (lc 4 Tryz.f98 35991):=lp rfl qhk .z s0 (fun c a=>((c.1,(),(),c.2.1,c.2.2.1,a,()),((c.2.2.2.1,c.2.2.2.2.1,c.2.2.2.2.2.1,c.2.2.2.2.2.2.1,()),((),(),c.2.2.2.2.2.2.2.1,c.2.2.2.2.2.2.2.2.1,()),c.2.2.2.2.2.2.2.2.2.1,c.2.2.2.2.2.2.2.2.2.2,()))) (fun y=>((y.1.1,y.1.2.2.2.1,y.1.2.2.2.2.1,y.2.1.1,y.2.1.2.1,y.2.1.2.2.1,y.2.1.2.2.2.1,y.2.2.1.2.2.1,y.2.2.1.2.2.2.1,y.2.2.2.1,y.2.2.2.2.1),y.1.2.2.2.2.2.1))
theorem q19q:SummOK Tryz.prog qhd 2 (lc 2 Tryz.f98 151):=lp rfl qhk (.two .z (.two (.one (.two .z (.two .z (.two (.s 1) (.two .z (.two (.two .z (.two (.two (.d [0,1,0,0,8,0,0,64,0,448,960,0,2048,0,14336,30720,65503,131039,262143,524287] [17,19] []) .z) .z)) .z)))))) .z)) (sC q1aj s0) (fun c a=>((c.1,(),(),a.1,()),((c.2.1,c.2.2.1,c.2.2.2.1,c.2.2.2.2,()),((),(),a.2.1,a.2.2.1,()),a.2.2.2.1,a.2.2.2.2,()))) (fun y=>((y.2.1.1,y.2.1.2.1,y.2.1.2.2.1,y.2.1.2.2.2.1),(y.2.2.1.2.2.1,y.2.2.1.2.2.2.1,y.2.2.2.1,y.2.2.2.2.1)))
theorem q18y:SummOK Tryz.prog qhd 0 (lc 0 Tryz.f98 75):=lp rfl qhk (.two .z (.two .z (.two (.one (.two .z (.d [0,1,0,4,12,31,63,127] [5,7] []))) .z))) s0 (fun c a=>((c.1,(),(),c.2.1,c.2.2.1,a.1,()),((c.2.2.2.1,c.2.2.2.2.1,c.2.2.2.2.2.1,c.2.2.2.2.2.2.1,()),((),(),c.2.2.2.2.2.2.2.1,c.2.2.2.2.2.2.2.2.1,()),a.2,c.2.2.2.2.2.2.2.2.2,()))) (fun y=>((y.1.1,y.2.1.1,y.2.1.2.1,y.2.1.2.2.1,y.2.1.2.2.2.1,y.2.2.1.2.2.1,y.2.2.1.2.2.2.1,y.2.2.2.2.1),y.2.2.2.1))
noncomputable abbrev qyo:Mdl:=(mdlOf (.cons (.d false qT2) (.cons (.d false qT0) .nil)) [] [] 1 qwu (B:=q1r) (fun b=>((b,()),(()))) (fun a=>q11w a.1.1 a.1.2.1))
theorem q17t:MdlOK Tryz.prog 98 qyo:=fnA Tryz.func98 rfl qhk (.two .z (.two .z (.two (.two .z (.s 0)) (.two (.two .z (.s 2)) .z)))) (sC q18y (sC q19q s0))
def q122:Shp:=⟨[(0,.d true qT0),(1,.d true qT0)],[]⟩
noncomputable abbrev q1h9:Ctx ((Int×Int)):=⟨20,tt,false,false,[],gam [(96,q118),(97,q11c),(98,qyo)],lam [],resU 20 tt [] [.tmp 2,.tmp 3] q122 (fun x=>(x.1.1,x.1.2.1))⟩
theorem q1fc:CtxM Tryz.prog q1h9:=mkG fits mixed (mC q1b0 (mC q1ba (mC q17t m0)))
noncomputable abbrev q140:Mdl:=(mdlOf (.cons (.d false qT2) .nil) [] [] 2 q122 (B:=(Int×Int)) (fun b=>((b.1,b.2,()),(()))) (fun a=>q16h a.1.1))
theorem q1bl:MdlOK Tryz.prog 56 q140:=fnA Tryz.func56 rfl q1fc .z s0
def qjk:Shp:=⟨[(0,.d true .bool)],[]⟩
noncomputable abbrev qzw:Ctx (Bool):=⟨15,tt,false,false,[],gam [],lam [],resU 15 tt [] [.tmp 3] qjk (fun x=>x.1.1)⟩
theorem qz6:CtxM Tryz.prog qzw:=mkG fits mixed m0
noncomputable abbrev qmr:Mdl:=(mdlOf (.cons (.d false qT1) (.cons (.rp false qT0) .nil)) [] [] 1 qjk (B:=Bool) (fun b=>((b,()),(()))) (fun a=>qoy a.1.1 a.1.2.1))
theorem qvf:MdlOK Tryz.prog 99 qmr:=fnA Tryz.func99 rfl qz6 .z s0
def qbq:Shp:=⟨[(0,.d true qT0)],[]⟩
noncomputable abbrev qc7:Ctx (Int):=⟨19,tt,false,false,[],gam [(99,qmr)],lam [qd _ 19 [] qon (C:=(qL2×Int×Int)) (S:=Int) (fun x=>((x.1.1,x.1.2.1.1,x.1.2.2.1),x.1.2.2.2.1)) qnx (CE:=Unit) (E:=Unit) (fun c e=>((()),(()))) (fun c=>()) (fun {R} c a nx dn rt=>q9g c.1 c.2.1 c.2.2 a nx dn rt)],resU 19 tt [] [.tmp 4] qbq (fun x=>x.1.1)⟩
theorem qce:CtxM Tryz.prog qc7:=mkG fits mixed (mC qvf m0)
theorem qpq:SummOK Tryz.prog qc7 0 (lc 0 Tryz.f111 37):=lp rfl qce .z s0 (fun c a=>((c.1,(c.2.1,()),c.2.2,a,()),(()))) (fun y=>((),()))
noncomputable abbrev qcn:Mdl:=(mdlOf (.cons (.d false qT2) (.cons (.fn 99 (.cons (.rp false qT0) .nil)) .nil)) [] [] 1 qbq (B:=Int) (fun b=>((b,()),(()))) (fun a=>qd7 a.1.1 a.1.2.1.1))
theorem qpb:MdlOK Tryz.prog 111 qcn:=fnA Tryz.func111 rfl qce (.two .z (.two (.two .z (.s 0)) .z)) (sC qpq s0)
def q80:Shp:=⟨[(0,.d true .bool)],[]⟩
noncomputable abbrev qnd:Ctx (Bool):=⟨9,tt,false,false,[],gam [(111,qcn)],lam [],resU 9 tt [] [.tmp 4] q80 (fun x=>x.1.1)⟩
theorem qn7:CtxM Tryz.prog qnd:=mkG fits mixed (mC qpb m0)
noncomputable abbrev q8z:Mdl:=(mdlOf (.cons (.d false qT2) (.cons (.fn 99 (.cons (.rp false qT0) .nil)) .nil)) [] [] 1 q80 (B:=Bool) (fun b=>((b,()),(()))) (fun a=>q9j a.1.1 a.1.2.1.1))
theorem qjh:MdlOK Tryz.prog 65 q8z:=fnA Tryz.func65 rfl qn7 .z s0
def qof:Shp:=⟨[(0,.d true .bool)],[]⟩
noncomputable abbrev qpw:Ctx (Bool):=⟨15,tt,false,false,[],gam [(65,q8z)],lam [qd _ 15 [] qzg (C:=(qL2×Int)) (S:=Int) (fun x=>((x.1.1,x.1.2.1),x.1.2.2.1)) qy3 (CE:=Unit) (E:=Unit) (fun c e=>((()),(()))) (fun c=>()) (fun {R} c a nx dn rt=>qn3 c.1 c.2 a nx dn rt)],resU 15 tt [] [.tmp 4] qof (fun x=>x.1.1)⟩
theorem qq4:CtxM Tryz.prog qpw:=mkG fits mixed (mC qjh m0)
theorem q10w:SummOK Tryz.prog qpw 0 (lc 0 Tryz.f58 37):=lp rfl qq4 .z s0 (fun c a=>((c.1,c.2,a,()),(()))) (fun y=>((),()))
noncomputable abbrev qef:Mdl:=(mdlOf (.cons (.d false qT2) (.cons (.d false qT0) .nil)) [] [] 1 qof (B:=Bool) (fun b=>((b,()),(()))) (fun a=>qgs a.1.1 a.1.2.1))
theorem qmk:MdlOK Tryz.prog 58 qef:=fnA Tryz.func58 rfl qq4 (.two .z (.two (.two .z (.s 0)) .z)) (sC q10w s0)
def qfb:Shp:=⟨[(0,.d true .bool)],[]⟩
noncomputable abbrev qtj:Ctx (Bool):=⟨7,tt,false,false,[],gam [(58,qef)],lam [],resU 7 tt [] [.tmp 2] qfb (fun x=>x.1.1)⟩
theorem qu5:CtxM Tryz.prog qtj:=mkG fits mixed (mC qmk m0)
noncomputable abbrev qh1:Mdl:=(mdlOf (.cons (.rp false qT2) (.cons (.rp false Net.ty) .nil)) [] [] 1 qfb (B:=Bool) (fun b=>((b,()),(()))) (fun a=>qhx a.1.1 a.1.2.1))
theorem qrm:MdlOK Tryz.prog 57 qh1:=fnA Tryz.func57 rfl qu5 .z s0
def qc0:Shp:=⟨[(0,.d true .bool)],[]⟩
noncomputable abbrev qrc:Ctx (Bool):=⟨6,tt,false,false,[],gam [(57,qh1)],lam [],resU 6 tt [] [.tmp 2] qc0 (fun x=>x.1.1)⟩
theorem qr4:CtxM Tryz.prog qrc:=mkG fits mixed (mC qrm m0)
noncomputable abbrev qd8:Mdl:=(mdlOf (.cons (.fn 57 (.cons (.rp false qT2) (.cons (.rp false Net.ty) .nil))) .nil) [] [] 1 qc0 (B:=Bool) (fun b=>((b,()),(()))) (fun a=>qe5 a.1.1.1 a.1.1.2.1))
theorem qpj:MdlOK Tryz.prog 62 qd8:=fnA Tryz.func62 rfl qr4 .z s0
def qfe:Shp:=⟨[(0,.d true .bool)],[]⟩
noncomputable abbrev qtf:Ctx (Bool):=⟨8,tt,false,false,[],gam [(58,qef)],lam [],resU 8 tt [] [.tmp 2] qfe (fun x=>x.1.1)⟩
theorem qut:CtxM Tryz.prog qtf:=mkG fits mixed (mC qmk m0)
noncomputable abbrev qgg:Mdl:=(mdlOf (.cons (.rp false qT2) (.cons (.rp false Net.ty) .nil)) [] [] 1 qfe (B:=Bool) (fun b=>((b,()),(()))) (fun a=>qi2 a.1.1 a.1.2.1))
theorem qrk:MdlOK Tryz.prog 59 qgg:=fnA Tryz.func59 rfl qut .z s0
def qcj:Shp:=⟨[(0,.d true .bool)],[]⟩
noncomputable abbrev qr9:Ctx (Bool):=⟨6,tt,false,false,[],gam [(59,qgg)],lam [],resU 6 tt [] [.tmp 2] qcj (fun x=>x.1.1)⟩
theorem qr7:CtxM Tryz.prog qr9:=mkG fits mixed (mC qrk m0)
noncomputable abbrev qd1:Mdl:=(mdlOf (.cons (.fn 59 (.cons (.rp false qT2) (.cons (.rp false Net.ty) .nil))) .nil) [] [] 1 qcj (B:=Bool) (fun b=>((b,()),(()))) (fun a=>qdw a.1.1.1 a.1.1.2.1))
theorem qpn:MdlOK Tryz.prog 62 qd1:=fnA Tryz.func62 rfl qr7 .z s0
def qf9:Shp:=⟨[(0,.d true .bool)],[]⟩
noncomputable abbrev qu0:Ctx (Bool):=⟨9,tt,false,false,[],gam [(43,qde)],lam [],resU 9 tt [] [.tmp 2] qf9 (fun x=>x.1.1)⟩
theorem qui:CtxM Tryz.prog qu0:=mkG fits mixed (mC qja m0)
noncomputable abbrev qg7:Mdl:=(mdlOf (.cons (.rp false qT0) (.cons (.rp false Net.ty) .nil)) [] [] 1 qf9 (B:=Bool) (fun b=>((b,()),(()))) (fun a=>qhv a.1.1 a.1.2.1))
theorem qrj:MdlOK Tryz.prog 60 qg7:=fnA Tryz.func60 rfl qui (.two .z (.two (.d [0,0,2,6,14,31,63] [] []) .z)) s0
def qch:Shp:=⟨[(0,.d true .bool)],[]⟩
noncomputable abbrev qqw:Ctx (Bool):=⟨6,tt,false,false,[],gam [(60,qg7)],lam [],resU 6 tt [] [.tmp 2] qch (fun x=>x.1.1)⟩
theorem qra:CtxM Tryz.prog qqw:=mkG fits mixed (mC qrj m0)
noncomputable abbrev qcz:Mdl:=(mdlOf (.cons (.fn 60 (.cons (.rp false qT0) (.cons (.rp false Net.ty) .nil))) .nil) [] [] 1 qch (B:=Bool) (fun b=>((b,()),(()))) (fun a=>qe1 a.1.1.1 a.1.1.2.1))
theorem qpp:MdlOK Tryz.prog 62 qcz:=fnA Tryz.func62 rfl qra .z s0
def q2d:Shp:=⟨[(0,.d true qT0)],[.cs 25 1 3 (.cons (.fn 57 (.cons (.ptr 1) (.cons (.ptr 2) .nil))) (.cons (.fn 59 (.cons (.ptr 3) (.cons (.ptr 2) .nil))) (.cons (.fn 60 (.cons (.ptr 4) (.cons (.ptr 2) .nil))) .nil))),.cs 42 1 1 (.cons (.d true qT2) .nil),.cs 24 4 1 (.cons (.d true qT0) (.cons (.d true (.slice Trans.ty)) (.cons (.d true qT0) (.cons (.d true qT0) .nil)))),.cs 42 1 1 (.cons (.d true qT2) .nil),.cs 3 1 1 (.cons (.d true qT0) .nil)]⟩
noncomputable abbrev q7w:Ctx ((Int×qL2×Int×(List Trans)×Int×Int×qL2×Int)):=⟨19,tt,false,false,[true,true,true,true,true],gam [(62,qd8),(62,qd1),(62,qcz)],lam [],resU 19 tt [true,true,true,true,true] [.tmp 4] q2d (fun x=>(x.1.1,x.2.2.1.1,x.2.2.2.1.1,x.2.2.2.1.2.1,x.2.2.2.1.2.2.1,x.2.2.2.1.2.2.2.1,x.2.2.2.2.1.1,x.2.2.2.2.2.1.1))⟩
theorem q7v:CtxM Tryz.prog q7w:=mkG fits mixed (mC qpj (mC qpn (mC qpp m0)))
noncomputable abbrev q2j:Mdl:=(mdlOf (.cons (.own 0) (.cons (.fn 62 .nil) .nil)) [.cs 25 1 3 (.cons (.fn 57 (.cons (.ptr 1) (.cons (.ptr 2) .nil))) (.cons (.fn 59 (.cons (.ptr 3) (.cons (.ptr 2) .nil))) (.cons (.fn 60 (.cons (.ptr 4) (.cons (.ptr 2) .nil))) .nil))),.cs 42 1 1 (.cons (.d true qT2) .nil),.cs 24 4 1 (.cons (.d false qT0) (.cons (.d true (.slice Trans.ty)) (.cons (.d false qT0) (.cons (.d false qT0) .nil)))),.cs 42 1 1 (.cons (.d true qT2) .nil),.cs 3 1 1 (.cons (.d false qT0) .nil)] [true,true,true,true,true] 1 q2d (B:=(Int×qL2×Int×(List Trans)×Int×Int×qL2×Int)) (fun b=>((b.1,()),((((),(),()),((),(),()),((),(),()),()),(b.2.1,()),(b.2.2.1,b.2.2.2.1,b.2.2.2.2.1,b.2.2.2.2.2.1,()),(b.2.2.2.2.2.2.1,()),(b.2.2.2.2.2.2.2,()),()))) (fun a=>q2p a.2.2.1.1 a.2.2.2.1.1 a.2.2.2.1.2.1 a.2.2.2.1.2.2.1 a.2.2.2.1.2.2.2.1 a.2.2.2.2.1.1 a.2.2.2.2.2.1.1))
theorem q71:MdlOK Tryz.prog 100 q2j:=fnA Tryz.func100 rfl q7v (.two .z (.two (.two .z (.one (.u 4 .z))) .z)) s0
def q1z:Shp:=⟨[(0,.d true .bool)],[.cs 25 1 3 (.cons (.fn 57 (.cons (.ptr 1) (.cons (.ptr 2) .nil))) (.cons (.fn 59 (.cons (.ptr 3) (.cons (.ptr 2) .nil))) (.cons (.fn 60 (.cons (.ptr 4) (.cons (.ptr 2) .nil))) .nil))),.cs 42 1 1 (.cons (.d true qT2) .nil),.cs 24 4 1 (.cons (.d true qT0) (.cons (.d true (.slice Trans.ty)) (.cons (.d true qT0) (.cons (.d true qT0) .nil)))),.cs 42 1 1 (.cons (.d true qT2) .nil),.cs 3 1 1 (.cons (.d true qT0) .nil)]⟩
noncomputable abbrev q6u:Ctx ((Bool×qL2×Int×(List Trans)×Int×Int×qL2×Int)):=⟨9,tt,false,false,[true,true,true,true,true],gam [(100,q2j)],lam [],resU 9 tt [true,true,true,true,true] [.tmp 4] q1z (fun x=>(x.1.1,x.2.2.1.1,x.2.2.2.1.1,x.2.2.2.1.2.1,x.2.2.2.1.2.2.1,x.2.2.2.1.2.2.2.1,x.2.2.2.2.1.1,x.2.2.2.2.2.1.1))⟩
theorem q6r:CtxM Tryz.prog q6u:=mkG fits mixed (mC q71 m0)
noncomputable abbrev q22:Mdl:=(mdlOf (.cons (.own 0) (.cons (.fn 62 .nil) .nil)) [.cs 25 1 3 (.cons (.fn 57 (.cons (.ptr 1) (.cons (.ptr 2) .nil))) (.cons (.fn 59 (.cons (.ptr 3) (.cons (.ptr 2) .nil))) (.cons (.fn 60 (.cons (.ptr 4) (.cons (.ptr 2) .nil))) .nil))),.cs 42 1 1 (.cons (.d true qT2) .nil),.cs 24 4 1 (.cons (.d false qT0) (.cons (.d true (.slice Trans.ty)) (.cons (.d false qT0) (.cons (.d false qT0) .nil)))),.cs 42 1 1 (.cons (.d true qT2) .nil),.cs 3 1 1 (.cons (.d false qT0) .nil)] [true,true,true,true,true] 1 q1z (B:=(Bool×qL2×Int×(List Trans)×Int×Int×qL2×Int)) (fun b=>((b.1,()),((((),(),()),((),(),()),((),(),()),()),(b.2.1,()),(b.2.2.1,b.2.2.2.1,b.2.2.2.2.1,b.2.2.2.2.2.1,()),(b.2.2.2.2.2.2.1,()),(b.2.2.2.2.2.2.2,()),()))) (fun a=>q26 a.2.2.1.1 a.2.2.2.1.1 a.2.2.2.1.2.1 a.2.2.2.1.2.2.1 a.2.2.2.1.2.2.2.1 a.2.2.2.2.1.1 a.2.2.2.2.2.1.1))
theorem q5u:MdlOK Tryz.prog 61 q22:=fnA Tryz.func61 rfl q6r .z s0
def qho:Shp:=⟨[(0,.d true .bool),(1,.d true qT0)],[]⟩
noncomputable abbrev qxz:Ctx ((Bool×Int)):=⟨61,tt,false,false,[],gam [(41,q3l),(42,qaa),(52,qmi),(53,q139),(54,qru),(55,qt7),(56,q140),(61,q22)],lam [],resU 61 tt [] [.tmp 2,.tmp 3] qho (fun x=>(x.1.1,x.1.2.1))⟩
theorem qxq:CtxM Tryz.prog qxz:=mkG fits mixed (mC q2z (mC qdd (mC qv4 (mC q1cy (mC q12a (mC q130 (mC q1bl (mC q5u m0))))))))
noncomputable abbrev qjx:Mdl:=(mdlOf (.cons (.d true Net.ty) .nil) [] [] 2 qho (B:=(Bool×Int)) (fun b=>((b.1,b.2,()),(()))) (fun a=>qms a.1.1))
theorem qt8:MdlOK Tryz.prog 19 qjx:=fnA Tryz.func19 rfl qxq .z s0
def qyi:Shp:=⟨[(0,.d true (.int .u32))],[]⟩
noncomputable abbrev q11i:Ctx (Int):=⟨18,tt,false,false,[],gam [],lam [qd _ 18 [] q19s (C:=(qL1×Int)) (S:=(Int×Int)) (fun x=>((x.1.2.1,x.1.2.2.1),(x.1.1,x.1.2.2.2.1))) q1ab (CE:=Unit) (E:=Int) (fun c e=>((e,()),(()))) (fun c=>()) (fun {R} c a nx dn rt=>qwt c.1 c.2 a.1 a.2 nx dn rt)],resU 18 tt [] [.tmp 2] qyi (fun x=>x.1.1)⟩
theorem q11p:CtxM Tryz.prog q11i:=mkG fits mixed m0
theorem q1c7:SummOK Tryz.prog q11i 0 (lc 0 Tryz.f146 75):=lp rfl q11p .z s0 (fun c a=>((a.1,c.1,c.2,a.2,()),(()))) (fun y=>((),y.1.1))
noncomputable abbrev q11a:Mdl:=(mdlOf (.cons (.d false qT1) .nil) [] [] 1 qyi (B:=Int) (fun b=>((b,()),(()))) (fun a=>qtu a.1.1))
theorem q1ai:MdlOK Tryz.prog 146 q11a:=fnA Tryz.func146 rfl q11p (.two .z (.two .z (.two (.two .z (.s 0)) .z))) (sC q1c7 s0)
def qu9:Shp:=⟨[(0,.nl false (.own 0))],[.arr 121 (.fz true) [0] (.int .u32)]⟩
noncomputable abbrev qae:Ctx (qL1):=⟨106,tt,false,false,[],gam [(146,q11a)],lam [qd _ 106 [] q15r (C:=((List Trans)×Int×Int×(List Trans)×Int×Int)) (S:=(Int×qL1×qL1)) (fun x=>((x.1.2.2.2.1,x.1.2.2.2.2.1,x.2.1.1,x.2.1.2.1,x.2.1.2.2.1,x.2.1.2.2.2.1),(x.1.2.2.2.2.2.1,x.2.2.1,x.2.2.2.1))) q15n (CE:=(Int×(List Trans)×Int×Int)) (E:=(qL1×qL1)) (fun c e=>(((),(),(),()),((c.1,c.2.1,c.2.2.1,c.2.2.2,()),e.1,e.2,()))) (fun c=>(c.2.2.1,c.2.2.2.1,c.2.2.2.2.1,c.2.2.2.2.2)) (fun {R} c a nx dn rt=>qs8 c.1 c.2.1 c.2.2.1 c.2.2.2.1 c.2.2.2.2.1 c.2.2.2.2.2 a.1 a.2.1 a.2.2 nx dn rt),
 qd _ 106 [] q15d (C:=(qL1×qL1×Int×Int×Int×(List Trans)×Int×Int×qL1)) (S:=(Int×(List Bool))) (fun x=>((x.1.2.1,x.1.2.2.1,x.1.2.2.2.2.2.1,x.1.2.2.2.2.2.2.1,x.2.1.1,x.2.1.2.1,x.2.1.2.2.1,x.2.1.2.2.2.1,x.2.2.2.1),(x.1.2.2.2.2.2.2.2.1,x.2.2.1))) q15o (CE:=(qL1×qL1×Int×Int×(List Trans)×Int×Int×qL1)) (E:=(List Bool)) (fun c e=>(((),c.1,c.2.1,(),(),c.2.2.1,()),((c.2.2.2.1,c.2.2.2.2.1,c.2.2.2.2.2.1,c.2.2.2.2.2.2.1,()),e,c.2.2.2.2.2.2.2,()))) (fun c=>(c.1,c.2.1,c.2.2.1,c.2.2.2.2.1,c.2.2.2.2.2.1,c.2.2.2.2.2.2.1,c.2.2.2.2.2.2.2.1,c.2.2.2.2.2.2.2.2)) (fun {R} c a nx dn rt=>qs3 c.1 c.2.1 c.2.2.1 c.2.2.2.1 c.2.2.2.2.1 c.2.2.2.2.2.1 c.2.2.2.2.2.2.1 c.2.2.2.2.2.2.2.1 c.2.2.2.2.2.2.2.2 a.1 a.2 nx dn rt),
 qd _ 106 [] q152 (C:=(qL1×qL1×Int×Int×Int×(List Trans)×Int×Int×(List Bool)×qL1)) (S:=(Bool×Int)) (fun x=>((x.1.2.1,x.1.2.2.1,x.1.2.2.2.2.2.1,x.1.2.2.2.2.2.2.2.1,x.2.1.1,x.2.1.2.1,x.2.1.2.2.1,x.2.1.2.2.2.1,x.2.2.1,x.2.2.2.1),(x.1.2.2.2.2.2.2.1,x.1.2.2.2.2.2.2.2.2.1))) q14j (CE:=(qL1×qL1×Int×Int×(List Trans)×Int×Int×(List Bool)×qL1)) (E:=Bool) (fun c e=>(((),c.1,c.2.1,(),(),c.2.2.1,e,()),((c.2.2.2.1,c.2.2.2.2.1,c.2.2.2.2.2.1,c.2.2.2.2.2.2.1,()),c.2.2.2.2.2.2.2.1,c.2.2.2.2.2.2.2.2,()))) (fun c=>(c.1,c.2.1,c.2.2.1,c.2.2.2.2.1,c.2.2.2.2.2.1,c.2.2.2.2.2.2.1,c.2.2.2.2.2.2.2.1,c.2.2.2.2.2.2.2.2.1,c.2.2.2.2.2.2.2.2.2)) (fun {R} c a nx dn rt=>qrw c.1 c.2.1 c.2.2.1 c.2.2.2.1 c.2.2.2.2.1 c.2.2.2.2.2.1 c.2.2.2.2.2.2.1 c.2.2.2.2.2.2.2.1 c.2.2.2.2.2.2.2.2.1 c.2.2.2.2.2.2.2.2.2 a.1 a.2 nx dn rt),
 qd _ 106 [] q15s (C:=(qL1×qL1×Int×(List Trans)×Int×Int)) (S:=(Int×(List Bool)×qL1)) (fun x=>((x.1.2.1,x.1.2.2.1,x.2.1.1,x.2.1.2.1,x.2.1.2.2.1,x.2.1.2.2.2.1),(x.1.2.2.2.2.2.1,x.2.2.1,x.2.2.2.1))) q14d (CE:=Unit) (E:=qL1) (fun c e=>(((),()),(e,()))) (fun c=>()) (fun {R} c a nx dn rt=>qrx c.1 c.2.1 c.2.2.1 c.2.2.2.1 c.2.2.2.2.1 c.2.2.2.2.2 a.1 a.2.1 a.2.2 nx dn rt)],resU 106 tt [] [.tmp 2] qu9 (fun x=>x.2.1)⟩
theorem qa2:CtxM Tryz.prog qae:=mkG fits mixed (mC q1ai m0)
theorem q16s:SummOK Tryz.prog qae 2 (lc 6 Tryz.f107 619103):=lp rfl qa2 .z s0 (fun c a=>(((),c.1,c.2.1,(),(),c.2.2.1,a.1,c.2.2.2.1,a.2,()),((c.2.2.2.2.1,c.2.2.2.2.2.1,c.2.2.2.2.2.2.1,c.2.2.2.2.2.2.2.1,()),c.2.2.2.2.2.2.2.2.1,c.2.2.2.2.2.2.2.2.2,()))) (fun y=>((y.1.2.1,y.1.2.2.1,y.1.2.2.2.2.2.1,y.2.1.1,y.2.1.2.1,y.2.1.2.2.1,y.2.1.2.2.2.1,y.2.2.1,y.2.2.2.1),y.1.2.2.2.2.2.2.1))
theorem q186:SummOK Tryz.prog qae 1 (lc 4 Tryz.f107 74335):=lp rfl qa2 .z s0 (fun c a=>(((),c.1,c.2.1,(),(),c.2.2.1,c.2.2.2.1,a.1,()),((c.2.2.2.2.1,c.2.2.2.2.2.1,c.2.2.2.2.2.2.1,c.2.2.2.2.2.2.2.1,()),a.2,c.2.2.2.2.2.2.2.2,()))) (fun y=>((y.1.2.1,y.1.2.2.1,y.1.2.2.2.2.2.1,y.2.1.1,y.2.1.2.1,y.2.1.2.2.1,y.2.1.2.2.2.1,y.2.2.2.1),y.2.2.1))
theorem q16r:SummOK Tryz.prog qae 3 (lc 2 Tryz.f107 607):=lp rfl qa2 (.two .z (.two (.one (.two (.two .z (.s 1)) (.two .z (.two .z (.two (.two .z (.s 2)) .z))))) .z)) (sC q186 (sC q16s s0)) (fun c a=>(((),c.1,c.2.1,(),(),a.1,()),((c.2.2.1,c.2.2.2.1,c.2.2.2.2.1,c.2.2.2.2.2,()),a.2.1,a.2.2,()))) (fun y=>((),y.2.1))
theorem q16t:SummOK Tryz.prog qae 0 (lc 0 Tryz.f107 75):=lp rfl qa2 (.two .z (.two .z (.two (.one (.two .z (.d [0,0,2,6,14,31,0,0,128,447,959,2047,4095,8191] [5,11,12,13] [1]))) .z))) s0 (fun c a=>(((),(),(),c.1,c.2.1,a.1,()),((c.2.2.1,c.2.2.2.1,c.2.2.2.2.1,c.2.2.2.2.2,()),a.2.1,a.2.2,()))) (fun y=>((y.2.1.1,y.2.1.2.1,y.2.1.2.2.1,y.2.1.2.2.2.1),(y.2.2.1,y.2.2.2.1)))
noncomputable abbrev qw8:Mdl:=(mdlOf (.cons (.d false Net.ty) .nil) [] [] 1 qu9 (B:=qL1) (fun b=>(((),()),(b,()))) (fun a=>qy2 a.1.1))
theorem q14r:MdlOK Tryz.prog 107 qw8:=fnA Tryz.func107 rfl qa2 (.two .z (.two .z (.two (.two .z (.s 0)) (.two .z (.two .z (.two (.two .z (.s 3)) .z)))))) (sC q16t (sC q16r s0))
def qrb:Shp:=⟨[(0,.d true qT0)],[]⟩
noncomputable abbrev q15f:Ctx (Int):=⟨8,tt,false,false,[],gam [(110,q1a)],lam [],resU 8 tt [] [.tmp 4] qrb (fun x=>x.1.1)⟩
theorem q14a:CtxM Tryz.prog q15f:=mkG fits mixed (mC q1c m0)
noncomputable abbrev q25:Mdl:=(mdlOf (.cons (.d false qT1) (.cons (.d false qT1) .nil)) [] [] 1 qrb (B:=Int) (fun b=>((b,()),(()))) (fun a=>qs a.1.1 a.1.2.1))
theorem q2a:MdlOK Tryz.prog 109 q25:=fnA Tryz.func109 rfl q14a .z s0
def q5l:Shp:=⟨[],[.arr 48 (.fz true) [3] qT1]⟩
noncomputable abbrev q2n:Ctx (qL2):=⟨53,tt,false,false,[true],gam [(109,q25)],lam [qd _ 53 [true] qew (C:=(Int×Int×Int)) (S:=(Int×qL2)) (fun x=>((x.1.2.1,x.1.2.2.1,x.1.2.2.2.2.1),(x.1.2.2.2.2.2.1,x.2.1))) qeo (CE:=(Int×Int×Int)) (E:=qL2) (fun c e=>(((),c.1,c.2.1,(()),c.2.2,()),(e,()))) (fun c=>(c.1,c.2.1,c.2.2)) (fun {R} c a nx dn rt=>q55 c.1 c.2.1 c.2.2 a.1 a.2 nx dn rt),
 qd _ 53 [true] qez (C:=(Int×Int)) (S:=(Int×qL2)) (fun x=>((x.1.2.1,x.1.2.2.1),(x.1.2.2.2.2.1,x.2.1))) qei (CE:=Unit) (E:=qL2) (fun c e=>((()),(e,()))) (fun c=>()) (fun {R} c a nx dn rt=>q58 c.1 c.2 a.1 a.2 nx dn rt)],resU 53 tt [true] [] q5l (fun x=>x.2.1)⟩
theorem q2q:CtxM Tryz.prog q2n:=mkG fits mixed (mC q2a m0)
theorem qfq:SummOK Tryz.prog q2n 0 (lc 2 Tryz.f169 585):=lp rfl q2q (.two (.two (.d [0,0,3,7,15,15,15,111,239,15,15,1039,3599,7695,16383,32767,65535] [] []) .z) (.two (.one (.d [0,0,0,0,8,0,0,64,224,480,0,0,3072,7168,16355,32739,65535,131071] [15,17] [])) .z)) s0 (fun c a=>(((),c.1,c.2.1,(()),c.2.2,a.1,()),(a.2,()))) (fun y=>((y.1.2.1,y.1.2.2.1,y.1.2.2.2.2.1),y.2.1))
theorem qfm:SummOK Tryz.prog q2n 1 (lc 0 Tryz.f169 9):=lp rfl q2q (.two .z (.two (.one (.two .z (.s 0))) .z)) (sC qfq s0) (fun c a=>(((),c.1,c.2,(()),a.1,()),(a.2,()))) (fun y=>((),y.2.1))
noncomputable abbrev q5t:Mdl:=(mdlOf (.cons (.own 0) (.cons (.d false qT0) (.cons (.d false qT0) (.cons (.fn 109 .nil) .nil)))) [.arr 48 (.fz true) [3] qT1] [true] 0 q5l (B:=qL2) (fun b=>((()),(b,()))) (fun a=>q6g a.1.2.1 a.1.2.2.1 a.2.1))
theorem qet:MdlOK Tryz.prog 169 q5t:=fnA Tryz.func169 rfl q2q (.two .z (.s 1)) (sC qfm s0)
def q8a:Shp:=⟨[],[.arr 48 (.fz true) [3] qT1]⟩
noncomputable abbrev q43:Ctx (qL2):=⟨82,tt,false,false,[true],gam [(109,q25)],lam [q29 _ 82 [true] qjb (A:=(Int×Int×Int×Int×qL2)) (fun x=>(x.1.2.1,x.1.2.2.1,x.1.2.2.2.2.1,x.1.2.2.2.2.2.1,x.2.1)) qk3 (CE:=(Int×Int×Int)) (E:=qL2) (fun c e=>(((),c.1,c.2.1,(()),c.2.2,()),(e,()))) (fun c=>(c.1,c.2.1,c.2.2.2.1)) (fun {R} c dn rt=>q7t c.1 c.2.1 c.2.2.1 c.2.2.2.1 c.2.2.2.2 dn rt),
 qd _ 82 [true] qjf (C:=(Int×Int)) (S:=(Int×qL2)) (fun x=>((x.1.2.1,x.1.2.2.1),(x.1.2.2.2.2.1,x.2.1))) qj5 (CE:=Unit) (E:=qL2) (fun c e=>((()),(e,()))) (fun c=>()) (fun {R} c a nx dn rt=>q7u c.1 c.2 a.1 a.2 nx dn rt)],resU 82 tt [true] [] q8a (fun x=>x.2.1)⟩
theorem q41:CtxM Tryz.prog q43:=mkG fits mixed (mC q2a m0)
theorem qlk:SummOK Tryz.prog q43 0 (jc Tryz.f186 241):=jn rfl q41 (.two (.two (.d [0,0,0,0,12,30,62,0,0,0,768,1920,3968,8191,16383,32767] [] []) .z) (.two (.d [0,0,0,6,0,0,0,96,0,0,0,1536,3840,7936,0,0,0,98304,245760,507904,1048335,2096911,4194303,8388607] [21,23] []) .z)) s0 (fun c=>(((),c.1,c.2.1,(()),c.2.2.1,c.2.2.2.1,()),(c.2.2.2.2,()))) (fun y=>((y.1.2.1,y.1.2.2.1,y.1.2.2.2.2.1),y.2.1))
theorem qld:SummOK Tryz.prog q43 1 (lc 0 Tryz.f186 9):=lp rfl q41 (.one (.two .z (.two .z (.two (.two (.d [0,1,0,7,15,31,31,31,31,415,991,2015,31,31,31,24607,57375,127007,258079,524287,1048575,2097151] [] []) .z) (.s 0))))) (sC qlk s0) (fun c a=>(((),c.1,c.2,(()),a.1,()),(a.2,()))) (fun y=>((),y.2.1))
noncomputable abbrev q91:Mdl:=(mdlOf (.cons (.own 0) (.cons (.d false qT0) (.cons (.d false qT0) (.cons (.d false qT0) (.cons (.fn 109 .nil) .nil))))) [.arr 48 (.fz true) [3] qT1] [true] 0 q8a (B:=qL2) (fun b=>((()),(b,()))) (fun a=>q4n a.1.2.1 a.1.2.2.1 a.1.2.2.2.1 a.2.1))
theorem qkd:MdlOK Tryz.prog 186 q91:=fnA Tryz.func186 rfl q41 (.two .z (.s 1)) (sC qld s0)
def q8e:Shp:=⟨[],[.arr 48 (.fz true) [3] qT1]⟩
noncomputable abbrev q46:Ctx (qL2):=⟨60,tt,false,false,[true],gam [(186,q91)],lam [qd _ 60 [true] qkj (C:=(Int×Int×Int)) (S:=(Int×qL2)) (fun x=>((x.1.2.2.1,x.1.2.2.2.1,x.1.2.2.2.2.1),(x.1.2.2.2.2.2.1,x.2.1))) qjo (CE:=(Int×Int×Int)) (E:=qL2) (fun c e=>(((),(()),c.1,c.2.1,c.2.2,()),(e,()))) (fun c=>(c.1,c.2.1,c.2.2)) (fun {R} c a nx dn rt=>q7i c.1 c.2.1 c.2.2 a.1 a.2 nx dn rt),
 qd _ 60 [true] qkw (C:=(Int×Int)) (S:=(Int×qL2)) (fun x=>((x.1.2.2.1,x.1.2.2.2.1),(x.1.2.2.2.2.1,x.2.1))) qkx (CE:=Unit) (E:=qL2) (fun c e=>((()),(e,()))) (fun c=>()) (fun {R} c a nx dn rt=>q7r c.1 c.2 a.1 a.2 nx dn rt)],resU 60 tt [true] [] q8e (fun x=>x.2.1)⟩
theorem q45:CtxM Tryz.prog q46:=mkG fits mixed (mC qkd m0)
theorem qlb:SummOK Tryz.prog q46 0 (lc 0 Tryz.f170 151):=lp rfl q45 .z s0 (fun c a=>(((),(()),c.1,c.2.1,c.2.2,a.1,()),(a.2,()))) (fun y=>((y.1.2.2.1,y.1.2.2.2.1,y.1.2.2.2.2.1),y.2.1))
theorem qm6:SummOK Tryz.prog q46 1 (lc 2 Tryz.f170 159):=lp rfl q45 (.two .z (.two (.one (.two (.d [0,0,0,0,0,24,0,0,0,384,960,1984,0,0,12288,28672,65475,131011,262143,524287] [17,19] []) .z)) .z)) s0 (fun c a=>(((),(()),c.1,c.2,a.1,()),(a.2,()))) (fun y=>((),y.2.1))
noncomputable abbrev q94:Mdl:=(mdlOf (.cons (.own 0) (.cons (.d false qT0) (.cons (.d false qT0) (.cons (.fn 109 .nil) .nil)))) [.arr 48 (.fz true) [3] qT1] [true] 0 q8e (B:=qL2) (fun b=>((()),(b,()))) (fun a=>qa5 a.1.2.1 a.1.2.2.1 a.2.1))
theorem qk7:MdlOK Tryz.prog 170 q94:=fnA Tryz.func170 rfl q45 (.two .z (.two .z (.two .z (.two (.two .z (.s 0)) (.two .z (.s 1)))))) (sC qlb (sC qm6 s0))
def q5k:Shp:=⟨[],[.arr 48 (.fz true) [3] qT1]⟩
noncomputable abbrev q5p:Ctx (qL2):=⟨67,tt,false,false,[true],gam [(187,qb8),(188,qca)],lam [qd _ 67 [true] qep (C:=(Int×Int×Int)) (S:=(Int×qL2×Int)) (fun x=>((x.1.2.1,x.1.2.2.1,x.1.2.2.2.2.1),(x.1.2.2.2.2.2.1,x.2.1,x.2.2.1.1))) qeh (CE:=Unit) (E:=qL2) (fun c e=>((()),(e,()))) (fun c=>()) (fun {R} c a nx dn rt=>q53 c.1 c.2.1 c.2.2 a.1 a.2.1 a.2.2 nx dn rt)],resU 67 tt [true] [] q5k (fun x=>x.2.1)⟩
theorem q5r:CtxM Tryz.prog q5p:=mkG fits mixed (mC qgq (mC qi7 m0))
theorem qfx:SummOK Tryz.prog q5p 0 (lc 0 Tryz.f171 315):=lp rfl q5r (.two .z (.two (.one (.two .z (.two .z (.d [0,0,0,0,0,24,0,0,0,384,960,1984,0,0,12288,28672,65475,131011,262143,524287] [17,19] [])))) .z)) s0 (fun c a=>(((),c.1,c.2.1,(),c.2.2,a.1,()),(a.2.1,(a.2.2,()),()))) (fun y=>((),y.2.1))
noncomputable abbrev q60:Mdl:=(mdlOf (.cons (.own 0) (.cons (.d false qT0) (.cons (.d false qT0) (.cons (.fn 109 .nil) .nil)))) [.arr 48 (.fz true) [3] qT1] [true] 0 q5k (B:=qL2) (fun b=>((()),(b,()))) (fun a=>q6e a.1.2.1 a.1.2.2.1 a.2.1))
theorem qen:MdlOK Tryz.prog 171 q60:=fnA Tryz.func171 rfl q5r (.two .z (.two .z (.two (.two .z (.two .z (.two .z (.s 0)))) .z))) (sC qfx s0)
def q9u:Shp:=⟨[(0,.d true qT0),(1,.d true qT0)],[.cs 3 1 1 (.cons (.d true qT0) .nil)]⟩
noncomputable abbrev qph:Ctx ((Int×Int×Int)):=⟨32,tt,false,false,[true],gam [(109,q25)],lam [],resU 32 tt [true] [.tmp 10,.tmp 11] q9u (fun x=>(x.1.1,x.1.2.1,x.2.1.1))⟩
theorem qpf:CtxM Tryz.prog qph:=mkG fits mixed (mC q2a m0)
noncomputable abbrev qbg:Mdl:=(mdlOf (.cons (.d false qT2) (.cons (.d false qT0) (.cons (.d false qT0) (.cons (.ptr 0) (.cons (.fn 109 .nil) .nil))))) [.cs 3 1 1 (.cons (.d false qT0) .nil)] [true] 2 q9u (B:=(Int×Int×Int)) (fun b=>((b.1,b.2.1,()),((b.2.2,()),()))) (fun a=>q2y a.1.1 a.1.2.1 a.1.2.2.1 a.2.1.1))
theorem qn5:MdlOK Tryz.prog 192 qbg:=fnA Tryz.func192 rfl qpf (.two .z (.two (.two (.d [0,0,0,6,14,0,0,96,224,511,1023] [] []) .z) .z)) s0
def q9p:Shp:=⟨[(0,.d true qT0)],[.cs 3 1 1 (.cons (.d true qT0) .nil)]⟩
noncomputable abbrev qpd:Ctx ((Int×Int)):=⟨41,tt,false,false,[true],gam [(192,qbg)],lam [],resU 41 tt [true] [.tmp 12] q9p (fun x=>(x.1.1,x.2.1.1))⟩
theorem qpi:CtxM Tryz.prog qpd:=mkG fits mixed (mC qn5 m0)
noncomputable abbrev q4z:Mdl:=(mdlOf (.cons (.d false qT2) (.cons (.d false qT0) (.cons (.d false qT0) (.cons (.d false qT0) (.cons (.ptr 0) (.cons (.fn 109 .nil) .nil)))))) [.cs 3 1 1 (.cons (.d false qT0) .nil)] [true] 1 q9p (B:=(Int×Int)) (fun b=>((b.1,()),((b.2,()),()))) (fun a=>q2x a.1.1 a.1.2.1 a.1.2.2.1 a.1.2.2.2.1 a.2.1.1))
theorem q8u:MdlOK Tryz.prog 190 q4z:=fnA Tryz.func190 rfl qpi .z s0
def q59:Shp:=⟨[(0,.d true qT0)],[.cs 3 1 1 (.cons (.d true qT0) .nil)]⟩
noncomputable abbrev qfn:Ctx ((Int×Int)):=⟨18,tt,false,false,[true],gam [(190,q4z)],lam [],resU 18 tt [true] [.tmp 8] q59 (fun x=>(x.1.1,x.2.1.1))⟩
theorem qfg:CtxM Tryz.prog qfn:=mkG fits mixed (mC q8u m0)
noncomputable abbrev q5d:Mdl:=(mdlOf (.cons (.d false qT2) (.cons (.d false qT0) (.cons (.ptr 0) (.cons (.fn 109 .nil) .nil)))) [.cs 3 1 1 (.cons (.d false qT0) .nil)] [true] 1 q59 (B:=(Int×Int)) (fun b=>((b.1,()),((b.2,()),()))) (fun a=>q1s a.1.1 a.1.2.1 a.2.1.1))
theorem qe4:MdlOK Tryz.prog 189 q5d:=fnA Tryz.func189 rfl qfg .z s0
def q6m:Shp:=⟨[(0,.d true qT0),(1,.d true qT0)],[]⟩
noncomputable abbrev q7a:Ctx ((Int×Int)):=⟨63,tt,false,false,[],gam [(189,q5d),(190,q4z)],lam [q29 _ 63 [] qg9 (A:=(Int×Int)) (fun x=>(x.1.2.1,x.2.1.1)) qgv (CE:=Unit) (E:=Unit) (fun c e=>((()),(()))) (fun c=>()) (fun {R} c dn rt=>q64 c.1 c.2 dn rt)],resU 63 tt [] [.tmp 8,.tmp 9] q6m (fun x=>(x.1.1,x.1.2.1))⟩
theorem q72:CtxM Tryz.prog q7a:=mkG fits mixed (mC qe4 (mC q8u m0))
theorem qh9:SummOK Tryz.prog q7a 0 (jc Tryz.f172 255):=jn rfl q72 .z s0 (fun c=>(((),c.1,()),((c.2,()),()))) (fun y=>((),()))
noncomputable abbrev q6y:Mdl:=(mdlOf (.cons (.d false qT2) (.cons (.d false qT0) (.cons (.d false qT0) (.cons (.fn 109 .nil) .nil)))) [] [] 2 q6m (B:=(Int×Int)) (fun b=>((b.1,b.2,()),(()))) (fun a=>q3j a.1.1 a.1.2.1 a.1.2.2.1))
theorem qgf:MdlOK Tryz.prog 172 q6y:=fnA Tryz.func172 rfl q72 (.two .z (.two .z (.two .z (.two .z (.two .z (.two .z (.two .z (.s 0)))))))) (sC qh9 s0)
def q62:Shp:=⟨[],[.arr 48 (.fz true) [3] qT1]⟩
noncomputable abbrev q6a:Ctx (qL2):=⟨34,tt,false,false,[true],gam [],lam [qd _ 34 [true] qfr (C:=Unit) (S:=(Int×Int×qL2)) (fun x=>((),(x.1.2.1,x.1.2.2.1,x.2.1))) qfl (CE:=Unit) (E:=qL2) (fun c e=>((()),(e,()))) (fun c=>()) (fun {R} c a nx dn rt=>q5j  a.1 a.2.1 a.2.2 nx dn rt)],resU 34 tt [true] [] q62 (fun x=>x.2.1)⟩
theorem q67:CtxM Tryz.prog q6a:=mkG fits mixed m0
theorem qgr:SummOK Tryz.prog q6a 0 (lc 0 Tryz.f173 19):=lp rfl q67 (.two .z (.one (.two (.d [0,0,0,0,0,0,48,112,0,0,768,1792,4083,8179,16383,32767] [13,15] []) .z))) s0 (fun c a=>(((),a.1,a.2.1,()),(a.2.2,()))) (fun y=>((),y.2.1))
noncomputable abbrev q6k:Mdl:=(mdlOf (.cons (.own 0) (.cons (.d false qT0) (.cons (.d false qT0) (.cons (.fn 109 .nil) .nil)))) [.arr 48 (.fz true) [3] qT1] [true] 0 q62 (B:=qL2) (fun b=>((()),(b,()))) (fun a=>q35 a.1.2.1 a.1.2.2.1 a.2.1))
theorem qfh:MdlOK Tryz.prog 173 q6k:=fnA Tryz.func173 rfl q67 (.two .z (.two .z (.s 0))) (sC qgr s0)
def q3n:Shp:=⟨[(0,.d true .bool)],[.arr 48 (.fz true) [3] qT1]⟩
noncomputable abbrev q13:Ctx ((Bool×qL2)):=⟨141,tt,false,false,[true],gam [(109,q25)],lam [qd _ 141 [true] q9m (C:=(Int×Int×Int×qL2)) (S:=Int) (fun x=>((x.1.2.1,x.1.2.2.1,x.1.2.2.2.2.2.1,x.2.1),x.1.2.2.2.2.1)) qa0 (CE:=(Int×Int×Int×qL2)) (E:=Int) (fun c e=>(((),c.1,c.2.1,(()),e,c.2.2.1,()),(c.2.2.2,()))) (fun c=>(c.1,c.2.1,c.2.2.1,c.2.2.2)) (fun {R} c a nx dn rt=>q3f c.1 c.2.1 c.2.2.1 c.2.2.2 a nx dn rt),
 qd _ 141 [true] q9d (C:=(Int×Int×Int×Int)) (S:=(Int×qL2)) (fun x=>((x.1.2.1,x.1.2.2.1,x.1.2.2.2.2.1,x.1.2.2.2.2.2.1),(x.1.2.2.2.2.2.2.1,x.2.1))) q98 (CE:=(Int×Int×Int×Int)) (E:=qL2) (fun c e=>(((),c.1,c.2.1,(()),c.2.2.1,c.2.2.2,()),(e,()))) (fun c=>(c.1,c.2.1,c.2.2.1,c.2.2.2)) (fun {R} c a nx dn rt=>q3a c.1 c.2.1 c.2.2.1 c.2.2.2 a.1 a.2 nx dn rt),
 qd _ 141 [true] q9k (C:=(Int×Int×Int×Int)) (S:=(Int×qL2)) (fun x=>((x.1.2.1,x.1.2.2.1,x.1.2.2.2.2.1,x.1.2.2.2.2.2.1),(x.1.2.2.2.2.2.2.1,x.2.1))) q9l (CE:=(Int×Int×Int×Int)) (E:=qL2) (fun c e=>(((),c.1,c.2.1,(()),c.2.2.1,c.2.2.2,()),(e,()))) (fun c=>(c.1,c.2.1,c.2.2.1,c.2.2.2)) (fun {R} c a nx dn rt=>q3b c.1 c.2.1 c.2.2.1 c.2.2.2 a.1 a.2 nx dn rt),
 q29 _ 141 [true] q9q (A:=(Int×Int×Int×Int×qL2)) (fun x=>(x.1.2.1,x.1.2.2.1,x.1.2.2.2.2.1,x.1.2.2.2.2.2.1,x.2.1)) q9s (CE:=(Int×Int×Int×Int)) (E:=qL2) (fun c e=>(((),c.1,c.2.1,(()),c.2.2.1,c.2.2.2,()),(e,()))) (fun c=>(c.1,c.2.1,c.2.2.1,c.2.2.2.1)) (fun {R} c dn rt=>q3d c.1 c.2.1 c.2.2.1 c.2.2.2.1 c.2.2.2.2 dn rt),
 qd _ 141 [true] q9o (C:=(Int×Int)) (S:=(Int×Int×qL2)) (fun x=>((x.1.2.1,x.1.2.2.1),(x.1.2.2.2.2.1,x.1.2.2.2.2.2.1,x.2.1))) q9c (CE:=Unit) (E:=qL2) (fun c e=>((()),(e,()))) (fun c=>()) (fun {R} c a nx dn rt=>q38 c.1 c.2 a.1 a.2.1 a.2.2 nx dn rt)],resU 141 tt [true] [.tmp 8] q3n (fun x=>(x.1.1,x.2.1))⟩
theorem q11:CtxM Tryz.prog q13:=mkG fits mixed (mC q2a m0)
theorem qb2:SummOK Tryz.prog q13 1 (lc 4 Tryz.f174 613963):=lp rfl q11 (.two .z (.two (.one (.two (.two (.d [0,0,0,6,14,0,0,64,224,480,1023,2047,4095] [] []) .z) (.d [0,0,0,0,8,0,0,64,224,480,0,0,3072,7168,16355,32739,65535,131071] [15,17] []))) .z)) s0 (fun c a=>(((),c.1,c.2.1,(()),c.2.2.1,c.2.2.2,a.1,()),(a.2,()))) (fun y=>((y.1.2.1,y.1.2.2.1,y.1.2.2.2.2.1,y.1.2.2.2.2.2.1),y.2.1))
theorem qb7:SummOK Tryz.prog q13 2 (lc 6 Tryz.f174 622155):=lp rfl q11 (.two .z (.two (.one (.two (.two (.d [0,0,0,6,14,0,0,64,224,480,1023,2047,4095] [] []) .z) (.d [0,0,0,0,8,0,0,64,224,480,0,0,3072,7168,16355,32739,65535,131071] [15,17] []))) .z)) s0 (fun c a=>(((),c.1,c.2.1,(()),c.2.2.1,c.2.2.2,a.1,()),(a.2,()))) (fun y=>((y.1.2.1,y.1.2.2.1,y.1.2.2.2.2.1,y.1.2.2.2.2.2.1),y.2.1))
theorem qaz:SummOK Tryz.prog q13 3 (jc Tryz.f174 32331):=jn rfl q11 (.two .z (.two (.two .z (.s 2)) .z)) (sC qb7 s0) (fun c=>(((),c.1,c.2.1,(()),c.2.2.1,c.2.2.2.1,()),(c.2.2.2.2,()))) (fun y=>((y.1.2.1,y.1.2.2.1,y.1.2.2.2.2.1,y.1.2.2.2.2.2.1),y.2.1))
theorem qap:SummOK Tryz.prog q13 0 (lc 2 Tryz.f174 4171):=lp rfl q11 (.two (.two (.d [0,0,3,7,15,15,15,111,239,15,15,1039,3599,7695,16383,32767,65535,131071] [] []) .z) .z) s0 (fun c a=>(((),c.1,c.2.1,(()),a,c.2.2.1,()),(c.2.2.2,()))) (fun y=>((y.1.2.1,y.1.2.2.1,y.1.2.2.2.2.2.1,y.2.1),y.1.2.2.2.2.1))
theorem qaq:SummOK Tryz.prog q13 4 (lc 0 Tryz.f174 75):=lp rfl q11 (.two .z (.two (.one (.two (.s 0) (.two .z (.two .z (.two (.d [0,0,0,0,8,0,0,64,224,480,0,0,3072,7168,16355,32739,65535,131071] [15,17] []) (.two (.two .z (.two (.two .z (.s 1)) .z)) (.s 3))))))) .z)) (sC qap (sC qb2 (sC qaz s0))) (fun c a=>(((),c.1,c.2,(()),a.1,a.2.1,()),(a.2.2,()))) (fun y=>((),y.2.1))
noncomputable abbrev q3t:Mdl:=(mdlOf (.cons (.own 0) (.cons (.d false qT0) (.cons (.d false qT0) (.cons (.fn 109 .nil) .nil)))) [.arr 48 (.fz true) [3] qT1] [true] 1 q3n (B:=(Bool×qL2)) (fun b=>((b.1,()),(b.2,()))) (fun a=>q3w a.1.2.1 a.1.2.2.1 a.2.1))
theorem qad:MdlOK Tryz.prog 174 q3t:=fnA Tryz.func174 rfl q11 (.two .z (.two .z (.two (.two .z (.s 4)) .z))) (sC qaq s0)
def q52:Shp:=⟨[(0,.d true qT0)],[.arr 48 (.fz true) [3] qT1]⟩
noncomputable abbrev q1o:Ctx ((Int×qL2)):=⟨90,tt,false,false,[true],gam [(109,q25)],lam [qd _ 90 [true] qdy (C:=(Int×Int×qL2)) (S:=Int) (fun x=>((x.1.2.1,x.1.2.2.2.2.1,x.2.1),x.1.2.2.2.1)) qdm (CE:=(Int×Int×qL2)) (E:=Int) (fun c e=>(((),c.1,(()),e,c.2.1,()),(c.2.2,()))) (fun c=>(c.1,c.2.1,c.2.2)) (fun {R} c a nx dn rt=>q4w c.1 c.2.1 c.2.2 a nx dn rt),
 qd _ 90 [true] qe2 (C:=(Int×Int×qL2)) (S:=Int) (fun x=>((x.1.2.1,x.1.2.2.2.1,x.2.1),x.1.2.2.2.2.1)) qdr (CE:=(Int×Int×qL2)) (E:=Int) (fun c e=>(((),c.1,(()),c.2.1,e,()),(c.2.2,()))) (fun c=>(c.1,c.2.1,c.2.2)) (fun {R} c a nx dn rt=>q4t c.1 c.2.1 c.2.2 a nx dn rt),
 qd _ 90 [true] qe3 (C:=Int) (S:=(Int×Int×qL2)) (fun x=>(x.1.2.1,(x.1.2.2.2.1,x.1.2.2.2.2.1,x.2.1))) qdj (CE:=Unit) (E:=(Int×qL2)) (fun c e=>((e.1,()),(e.2,()))) (fun c=>()) (fun {R} c a nx dn rt=>q4v c a.1 a.2.1 a.2.2 nx dn rt)],resU 90 tt [true] [.tmp 10] q52 (fun x=>(x.1.1,x.2.1))⟩
theorem q1n:CtxM Tryz.prog q1o:=mkG fits mixed (mC q2a m0)
theorem qf0:SummOK Tryz.prog q1o 1 (lc 4 Tryz.f175 2183):=lp rfl q1n (.two (.two (.d [0,0,3,7,15,15,15,111,239,15,15,1551,3599,8191,16383,32767] [] []) .z) .z) s0 (fun c a=>(((),c.1,(()),c.2.1,a,()),(c.2.2,()))) (fun y=>((y.1.2.1,y.1.2.2.2.1,y.2.1),y.1.2.2.2.2.1))
theorem qec:SummOK Tryz.prog q1o 0 (lc 2 Tryz.f175 1031):=lp rfl q1n (.two (.two (.d [0,0,3,7,15,15,15,111,239,15,15,1551,3599,8191,16383,32767,65535] [] []) .z) .z) s0 (fun c a=>(((),c.1,(()),a,c.2.1,()),(c.2.2,()))) (fun y=>((y.1.2.1,y.1.2.2.2.2.1,y.2.1),y.1.2.2.2.1))
theorem qer:SummOK Tryz.prog q1o 2 (lc 0 Tryz.f175 71):=lp rfl q1n (.one (.two (.s 0) (.two (.s 1) (.two .z (.two (.d [0,0,0,0,0,0,48,112,0,0,768,1792,4083,8179,16383,32767] [13,15] []) .z))))) (sC qec (sC qf0 s0)) (fun c a=>(((),c,(()),a.1,a.2.1,()),(a.2.2,()))) (fun y=>((),(y.1.1,y.2.1)))
noncomputable abbrev q5f:Mdl:=(mdlOf (.cons (.own 0) (.cons (.d false qT0) (.cons (.d false qT0) (.cons (.d false qT0) (.cons (.fn 109 .nil) .nil))))) [.arr 48 (.fz true) [3] qT1] [true] 1 q52 (B:=(Int×qL2)) (fun b=>((b.1,()),(b.2,()))) (fun a=>qr a.1.2.1 a.1.2.2.1 a.1.2.2.2.1 a.2.1))
theorem qdo:MdlOK Tryz.prog 175 q5f:=fnA Tryz.func175 rfl q1n (.two .z (.two (.d [0,0,0,0,0,0,48,112,0,0,768,1792,4083,8179,16383,32767] [13,15] []) (.two .z (.two (.s 2) .z)))) (sC qer s0)
def q7m:Shp:=⟨[(0,.d true qT0),(1,.d true .bool)],[.arr 48 (.fz true) [3] qT1]⟩
noncomputable abbrev q1d:Ctx ((Int×Bool×qL2)):=⟨178,tt,false,false,[true],gam [(109,q25)],lam [qd _ 178 [true] qj0 (C:=(Int×Int×qL2)) (S:=Int) (fun x=>((x.1.2.1,x.1.2.2.2.2.1,x.2.1),x.1.2.2.2.1)) qid (CE:=(Int×Int×qL2)) (E:=Int) (fun c e=>(((),c.1,(()),e,c.2.1,()),(c.2.2,()))) (fun c=>(c.1,c.2.1,c.2.2)) (fun {R} c a nx dn rt=>q70 c.1 c.2.1 c.2.2 a nx dn rt),
 qd _ 178 [true] qim (C:=(Int×Int×qL2)) (S:=Int) (fun x=>((x.1.2.1,x.1.2.2.2.1,x.2.1),x.1.2.2.2.2.1)) qiw (CE:=(Int×Int×qL2)) (E:=Int) (fun c e=>(((),c.1,(()),c.2.1,e,()),(c.2.2,()))) (fun c=>(c.1,c.2.1,c.2.2)) (fun {R} c a nx dn rt=>q78 c.1 c.2.1 c.2.2 a nx dn rt),
 qd _ 178 [true] qix (C:=(Int×Int×qL2)) (S:=Int) (fun x=>((x.1.2.1,x.1.2.2.2.2.1,x.2.1),x.1.2.2.2.1)) qie (CE:=(Int×Int×qL2)) (E:=Int) (fun c e=>(((),c.1,(()),e,c.2.1,()),(c.2.2,()))) (fun c=>(c.1,c.2.1,c.2.2)) (fun {R} c a nx dn rt=>q74 c.1 c.2.1 c.2.2 a nx dn rt),
 qd _ 178 [true] qio (C:=(Int×Int×qL2)) (S:=Int) (fun x=>((x.1.2.1,x.1.2.2.2.1,x.2.1),x.1.2.2.2.2.1)) qit (CE:=(Int×Int×qL2)) (E:=Int) (fun c e=>(((),c.1,(()),c.2.1,e,()),(c.2.2,()))) (fun c=>(c.1,c.2.1,c.2.2)) (fun {R} c a nx dn rt=>q6x c.1 c.2.1 c.2.2 a nx dn rt),
 qd _ 178 [true] qia (C:=Int) (S:=(Int×Int×qL2)) (fun x=>(x.1.2.1,(x.1.2.2.2.1,x.1.2.2.2.2.1,x.2.1))) qiv (CE:=Int) (E:=(Int×qL2)) (fun c e=>(((),c,e.1,()),(e.2,()))) (fun c=>c) (fun {R} c a nx dn rt=>q7c c a.1 a.2.1 a.2.2 nx dn rt)],resU 178 tt [true] [.tmp 10,.tmp 11] q7m (fun x=>(x.1.1,x.1.2.1,x.2.1))⟩
theorem q1f:CtxM Tryz.prog q1d:=mkG fits mixed (mC q2a m0)
theorem qk6:SummOK Tryz.prog q1d 3 (lc 8 Tryz.f176 139775):=lp rfl q1f (.two (.two (.d [0,0,3,7,15,15,15,111,239,15,15,1551,3599,8191,16383,32767,65535] [] []) .z) .z) s0 (fun c a=>(((),c.1,(()),c.2.1,a,()),(c.2.2,()))) (fun y=>((y.1.2.1,y.1.2.2.2.1,y.2.1),y.1.2.2.2.2.1))
theorem qjr:SummOK Tryz.prog q1d 2 (lc 6 Tryz.f176 66047):=lp rfl q1f (.two (.two (.d [0,0,3,7,15,15,15,111,239,15,15,1551,3599,8191,16383,32767] [] []) .z) .z) s0 (fun c a=>(((),c.1,(()),a,c.2.1,()),(c.2.2,()))) (fun y=>((y.1.2.1,y.1.2.2.2.2.1,y.2.1),y.1.2.2.2.1))
theorem qkc:SummOK Tryz.prog q1d 4 (lc 4 Tryz.f176 4607):=lp rfl q1f (.one (.two (.s 2) (.two (.s 3) (.two .z (.two (.d [0,0,0,0,0,0,48,112,0,0,768,1792,4083,8179,16383,32767] [13,15] []) .z))))) (sC qjr (sC qk6 s0)) (fun c a=>(((),c,(()),a.1,a.2.1,()),(a.2.2,()))) (fun y=>(y.1.2.1,(y.1.2.2.1,y.2.1)))
theorem qjz:SummOK Tryz.prog q1d 1 (lc 2 Tryz.f176 143):=lp rfl q1f (.two (.two (.d [0,0,3,7,15,15,15,111,239,15,15,1551,3599,8191,16383,32767,65535] [] []) .z) .z) s0 (fun c a=>(((),c.1,(()),c.2.1,a,()),(c.2.2,()))) (fun y=>((y.1.2.1,y.1.2.2.2.1,y.2.1),y.1.2.2.2.2.1))
theorem qko:SummOK Tryz.prog q1d 0 (lc 0 Tryz.f176 71):=lp rfl q1f (.two (.two (.d [0,0,3,7,15,15,15,111,239,15,15,1551,3599,8191,16383,32767] [] []) .z) .z) s0 (fun c a=>(((),c.1,(()),a,c.2.1,()),(c.2.2,()))) (fun y=>((y.1.2.1,y.1.2.2.2.2.1,y.2.1),y.1.2.2.2.1))
noncomputable abbrev q8j:Mdl:=(mdlOf (.cons (.own 0) (.cons (.d false qT0) (.cons (.d false qT0) (.cons (.d false qT0) (.cons (.fn 109 .nil) .nil))))) [.arr 48 (.fz true) [3] qT1] [true] 2 q7m (B:=(Int×Bool×qL2)) (fun b=>((b.1,b.2.1,()),(b.2.2,()))) (fun a=>q93 a.1.2.1 a.1.2.2.1 a.1.2.2.2.1 a.2.1))
theorem qin:MdlOK Tryz.prog 176 q8j:=fnA Tryz.func176 rfl q1f (.two .z (.two (.d [0,0,0,0,0,0,48,112,0,0,768,1792,4083,8179,16383,32767] [13,15] []) (.two .z (.two (.s 0) (.two (.s 1) (.two (.two .z (.two (.two (.d [0,0,0,0,0,0,48,112,0,0,768,1792,4083,8179,16383,32767] [13,15] []) .z) .z)) (.two (.d [0,0,0,0,0,0,48,112,0,0,768,1792,4083,8179,16383,32767] [13,15] []) (.two .z (.two .z (.two (.s 4) (.two (.d [0,0,0,0,0,0,48,112,0,0,768,1792,4083,8179,16383,32767] [13,15] []) .z))))))))))) (sC qko (sC qjz (sC qkc s0)))
def qx:Shp:=⟨[],[.arr 48 (.fz true) [3] qT1]⟩
noncomputable abbrev q2g (rec:((Unit×Int×Int×Int×(Unit)×Unit)×(qL2×Unit))→Option qL2):Ctx (qL2):=⟨148,tt,false,false,[true],gam [(169,q5t),(170,q94),(171,q60),(172,q6y),(173,q6k),(174,q3t),(109,q25),(175,q5f),(176,q8j),(147,(mdlOf (.cons (.own 0) (.cons (.d false qT0) (.cons (.d false qT0) (.cons (.d false qT0) (.cons (.fn 109 .nil) .nil))))) [.arr 48 (.fz true) [3] qT1] [true] 0 qx (B:=qL2) (fun b=>((()),(b,()))) rec))],lam [q29 _ 148 [true] qm2 (A:=(Int×Int×Int×Bool×Bool×Int×Int×Bool×qL2)) (fun x=>(x.1.2.1,x.1.2.2.1,x.1.2.2.2.1,x.1.2.2.2.2.2.1,x.1.2.2.2.2.2.2.1,x.1.2.2.2.2.2.2.2.1,x.1.2.2.2.2.2.2.2.2.1,x.1.2.2.2.2.2.2.2.2.2.1,x.2.1)) qm5 (CE:=(Int×Int×Int×Bool×Bool×Int×Int)) (E:=qL2) (fun c e=>(((),c.1,c.2.1,c.2.2.1,(()),c.2.2.2.1,c.2.2.2.2.1,c.2.2.2.2.2.1,c.2.2.2.2.2.2,()),(e,()))) (fun c=>(c.1,c.2.1,c.2.2.1,c.2.2.2.1,c.2.2.2.2.1,c.2.2.2.2.2.1,c.2.2.2.2.2.2.1)) (fun {R} c dn rt=>q81 rec c.1 c.2.1 c.2.2.1 c.2.2.2.1 c.2.2.2.2.1 c.2.2.2.2.2.1 c.2.2.2.2.2.2.1 c.2.2.2.2.2.2.2.1 c.2.2.2.2.2.2.2.2 dn rt),
 q29 _ 148 [true] qlw (A:=(Int×Int×Int×Int×Int×qL2)) (fun x=>(x.1.2.1,x.1.2.2.1,x.1.2.2.2.1,x.1.2.2.2.2.2.1,x.1.2.2.2.2.2.2.1,x.2.1)) ql9 (CE:=Int) (E:=(Int×Int×Bool×Bool×qL2)) (fun c e=>(((),e.1,e.2.1,c,(()),e.2.2.1,e.2.2.2.1,()),(e.2.2.2.2,()))) (fun c=>c.2.2.1) (fun {R} c dn rt=>q88 rec c.1 c.2.1 c.2.2.1 c.2.2.2.1 c.2.2.2.2.1 c.2.2.2.2.2 dn rt),
 qd _ 148 [true] qmb (C:=Unit) (S:=(Int×Int×Int×Bool×Bool×qL2)) (fun x=>((),(x.1.2.1,x.1.2.2.1,x.1.2.2.2.1,x.1.2.2.2.2.2.1,x.1.2.2.2.2.2.2.1,x.2.1))) qlr (CE:=Unit) (E:=Unit) (fun c e=>((()),(()))) (fun c=>()) (fun {R} c a nx dn rt=>q89 rec  a.1 a.2.1 a.2.2.1 a.2.2.2.1 a.2.2.2.2.1 a.2.2.2.2.2 nx dn rt)],resU 148 tt [true] [] qx (fun x=>x.2.1)⟩
theorem q2h (rec:((Unit×Int×Int×Int×(Unit)×Unit)×(qL2×Unit))→Option qL2) (hrec:MdlOK Tryz.prog 147 (mdlOf (.cons (.own 0) (.cons (.d false qT0) (.cons (.d false qT0) (.cons (.d false qT0) (.cons (.fn 109 .nil) .nil))))) [.arr 48 (.fz true) [3] qT1] [true] 0 qx (B:=qL2) (fun b=>((()),(b,()))) rec)):CtxM Tryz.prog (q2g rec):=mkG fits mixed (mC qet (mC qk7 (mC qen (mC qgf (mC qfh (mC qad (mC q2a (mC qdo (mC qin (mC hrec m0))))))))))
theorem qnq (rec:((Unit×Int×Int×Int×(Unit)×Unit)×(qL2×Unit))→Option qL2) (hrec:MdlOK Tryz.prog 147 (mdlOf (.cons (.own 0) (.cons (.d false qT0) (.cons (.d false qT0) (.cons (.d false qT0) (.cons (.fn 109 .nil) .nil))))) [.arr 48 (.fz true) [3] qT1] [true] 0 qx (B:=qL2) (fun b=>((()),(b,()))) rec)):SummOK Tryz.prog (q2g rec) 0 (jc Tryz.f147 14307):=jn rfl (q2h rec hrec) .z s0 (fun c=>(((),c.1,c.2.1,c.2.2.1,(()),c.2.2.2.1,c.2.2.2.2.1,c.2.2.2.2.2.1,c.2.2.2.2.2.2.1,c.2.2.2.2.2.2.2.1,()),(c.2.2.2.2.2.2.2.2,()))) (fun y=>((y.1.2.1,y.1.2.2.1,y.1.2.2.2.1,y.1.2.2.2.2.2.1,y.1.2.2.2.2.2.2.1,y.1.2.2.2.2.2.2.2.1,y.1.2.2.2.2.2.2.2.2.1),y.2.1))
theorem qnm (rec:((Unit×Int×Int×Int×(Unit)×Unit)×(qL2×Unit))→Option qL2) (hrec:MdlOK Tryz.prog 147 (mdlOf (.cons (.own 0) (.cons (.d false qT0) (.cons (.d false qT0) (.cons (.d false qT0) (.cons (.fn 109 .nil) .nil))))) [.arr 48 (.fz true) [3] qT1] [true] 0 qx (B:=qL2) (fun b=>((()),(b,()))) rec)):SummOK Tryz.prog (q2g rec) 1 (jc Tryz.f147 16355):=jn rfl (q2h rec hrec) .z s0 (fun c=>(((),c.1,c.2.1,c.2.2.1,(()),c.2.2.2.1,c.2.2.2.2.1,()),(c.2.2.2.2.2,()))) (fun y=>(y.1.2.2.2.1,(y.1.2.1,y.1.2.2.1,y.1.2.2.2.2.2.1,y.1.2.2.2.2.2.2.1,y.2.1)))
theorem qn6 (rec:((Unit×Int×Int×Int×(Unit)×Unit)×(qL2×Unit))→Option qL2) (hrec:MdlOK Tryz.prog 147 (mdlOf (.cons (.own 0) (.cons (.d false qT0) (.cons (.d false qT0) (.cons (.d false qT0) (.cons (.fn 109 .nil) .nil))))) [.arr 48 (.fz true) [3] qT1] [true] 0 qx (B:=qL2) (fun b=>((()),(b,()))) rec)):SummOK Tryz.prog (q2g rec) 2 (lc 0 Tryz.f147 19):=lp rfl (q2h rec hrec) (.one (.two .z (.two .z (.two .z (.two .z (.two .z (.two .z (.two (.two .z (.s 0)) (.two (.two (.d [0,1,3,7,7,7,39,119,247,7,7,1543,3591,8191,16383,32767,65535] [] []) .z) (.s 1)))))))))) (sC (qnq rec hrec) (sC (qnm rec hrec) s0)) (fun c a=>(((),a.1,a.2.1,a.2.2.1,(()),a.2.2.2.1,a.2.2.2.2.1,()),(a.2.2.2.2.2,()))) (fun y=>((),()))
noncomputable abbrev qag:Mdl:=(mdlOf (.cons (.own 0) (.cons (.d false qT0) (.cons (.d false qT0) (.cons (.d false qT0) (.cons (.fn 109 .nil) .nil))))) [.arr 48 (.fz true) [3] qT1] [true] 0 qx (B:=qL2) (fun b=>((()),(b,()))) (fun (a:((Unit×Int×Int×Int×(Unit)×Unit)×(qL2×Unit)))=>q99 a))
theorem qk8 (rec:((Unit×Int×Int×Int×(Unit)×Unit)×(qL2×Unit))→Option qL2) (hrec:MdlOK Tryz.prog 147 (mdlOf (.cons (.own 0) (.cons (.d false qT0) (.cons (.d false qT0) (.cons (.d false qT0) (.cons (.fn 109 .nil) .nil))))) [.arr 48 (.fz true) [3] qT1] [true] 0 qx (B:=qL2) (fun b=>((()),(b,()))) rec)):MdlOK Tryz.prog 147 (mdlOf (.cons (.own 0) (.cons (.d false qT0) (.cons (.d false qT0) (.cons (.d false qT0) (.cons (.fn 109 .nil) .nil))))) [.arr 48 (.fz true) [3] qT1] [true] 0 qx (B:=qL2) (fun b=>((()),(b,()))) ((fun (rec:((Unit×Int×Int×Int×(Unit)×Unit)×(qL2×Unit))→Option qL2) (a:((Unit×Int×Int×Int×(Unit)×Unit)×(qL2×Unit)))=>q4o rec a.1.2.1 a.1.2.2.1 a.1.2.2.2.1 a.2.1) rec)):=fnA Tryz.func147 rfl (q2h rec hrec) (.two .z (.two .z (.s 2))) (sC (qn6 rec hrec) s0)
theorem qmc:MdlOK Tryz.prog 147 qag :=
 rec_ok (c:=bodyOf Tryz.f147) (l:=(.cons (.own 0) (.cons (.d false qT0) (.cons (.d false qT0) (.cons (.d false qT0) (.cons (.fn 109 .nil) .nil)))))) (objs:=[.arr 48 (.fz true) [3] qT1]) (kp:=[true]) (k:=0) (sh:=qx) (mk:=(fun b=>((()),(b,())))) (F:=(fun (rec:((Unit×Int×Int×Int×(Unit)×Unit)×(qL2×Unit))→Option qL2) (a:((Unit×Int×Int×Int×(Unit)×Unit)×(qL2×Unit)))=>q4o rec a.1.2.1 a.1.2.2.1 a.1.2.2.2.1 a.2.1)) Tryz.func147 (by rfl) (by kernel_rfl) (by kernel_rfl) qk8
def qbe:Shp:=⟨[],[.arr 48 (.fz true) [3] qT1]⟩
noncomputable abbrev qqc:Ctx (qL2):=⟨14,tt,false,false,[true],gam [(148,qwb),(147,qag)],lam [],resU 14 tt [true] [] qbe (fun x=>x.2.1)⟩
theorem qqi:CtxM Tryz.prog qqc:=mkG fits mixed (mC qxl (mC qmc m0))
noncomputable abbrev qc3:Mdl:=(mdlOf (.cons (.own 0) (.cons (.fn 109 .nil) .nil)) [.arr 48 (.fz true) [3] qT1] [true] 0 qbe (B:=qL2) (fun b=>((()),(b,()))) (fun a=>qd2 a.2.1))
theorem qo2:MdlOK Tryz.prog 108 qc3:=fnA Tryz.func108 rfl qqi .z s0
def qta:Shp:=⟨[(0,.nl false (.own 0)),(1,.d true qT0)],[.arr 48 (.fz true) [3] qT1]⟩
noncomputable abbrev qp2:Ctx ((Int×qL2)):=⟨47,tt,false,false,[],gam [(41,q3l),(107,qw8),(108,qc3)],lam [qd _ 47 [] q14w (C:=(Int×qL1×Int×Int×Int×Int×(List Trans)×Int×Int×qL2)) (S:=(Int×qL1)) (fun x=>((x.1.2.2.1,x.1.2.2.2.2.1,x.1.2.2.2.2.2.1,x.1.2.2.2.2.2.2.1,x.1.2.2.2.2.2.2.2.1,x.2.1.1,x.2.1.2.1,x.2.1.2.2.1,x.2.1.2.2.2.1,x.2.2.1),(x.1.2.2.2.2.2.2.2.2.1,x.2.2.2.1))) q14k (CE:=(qL1×Int×Int×Int×(List Trans)×Int×Int×qL2)) (E:=qL1) (fun c e=>(((),(),(),c.1,c.2.1,c.2.2.1,()),((c.2.2.2.1,c.2.2.2.2.1,c.2.2.2.2.2.1,c.2.2.2.2.2.2.1,()),c.2.2.2.2.2.2.2,e,()))) (fun c=>(c.2.1,c.2.2.1,c.2.2.2.1,c.2.2.2.2.2.1,c.2.2.2.2.2.2.1,c.2.2.2.2.2.2.2.1,c.2.2.2.2.2.2.2.2.1,c.2.2.2.2.2.2.2.2.2)) (fun {R} c a nx dn rt=>qrt c.1 c.2.1 c.2.2.1 c.2.2.2.1 c.2.2.2.2.1 c.2.2.2.2.2.1 c.2.2.2.2.2.2.1 c.2.2.2.2.2.2.2.1 c.2.2.2.2.2.2.2.2.1 c.2.2.2.2.2.2.2.2.2 a.1 a.2 nx dn rt),
 qd _ 47 [] q14s (C:=(qL1×Int×Int×(List Trans)×Int×Int)) (S:=(Int×qL2)) (fun x=>((x.1.2.2.1,x.1.2.2.2.1,x.2.1.1,x.2.1.2.1,x.2.1.2.2.1,x.2.1.2.2.2.1),(x.1.2.2.2.2.1,x.2.2.1))) q14l (CE:=Unit) (E:=qL2) (fun c e=>(((),()),(e,()))) (fun c=>()) (fun {R} c a nx dn rt=>qry c.1 c.2.1 c.2.2.1 c.2.2.2.1 c.2.2.2.2.1 c.2.2.2.2.2 a.1 a.2 nx dn rt)],resU 47 tt [] [.tmp 2,.tmp 3] qta (fun x=>(x.1.2.1,x.2.1))⟩
theorem qp3:CtxM Tryz.prog qp2:=mkG fits mixed (mC q2z (mC q14r (mC qo2 m0)))
theorem q173:SummOK Tryz.prog qp2 0 (lc 3 Tryz.f64 154007):=lp rfl qp3 .z s0 (fun c a=>(((),(),c.1,(),c.2.1,c.2.2.1,c.2.2.2.1,c.2.2.2.2.1,a.1,()),((c.2.2.2.2.2.1,c.2.2.2.2.2.2.1,c.2.2.2.2.2.2.2.1,c.2.2.2.2.2.2.2.2.1,()),c.2.2.2.2.2.2.2.2.2,a.2,()))) (fun y=>((y.1.2.2.2.1,y.1.2.2.2.2.1,y.1.2.2.2.2.2.1,y.2.1.1,y.2.1.2.1,y.2.1.2.2.1,y.2.1.2.2.2.1,y.2.2.1),y.2.2.2.1))
theorem q17m:SummOK Tryz.prog qp2 1 (lc 1 Tryz.f64 151):=lp rfl qp3 (.two .z (.two .z (.two (.one (.two .z (.two .z (.two (.two .z (.s 0)) .z)))) .z))) (sC q173 s0) (fun c a=>(((),(),c.1,c.2.1,a.1,()),((c.2.2.1,c.2.2.2.1,c.2.2.2.2.1,c.2.2.2.2.2,()),a.2,()))) (fun y=>((),y.2.1))
noncomputable abbrev qwg:Mdl:=(mdlOf (.cons (.d false Net.ty) .nil) [] [] 2 qta (B:=(Int×qL2)) (fun b=>(((),b.1,()),(b.2,()))) (fun a=>qz2 a.1.1))
theorem q14f:MdlOK Tryz.prog 64 qwg:=fnA Tryz.func64 rfl qp3 (.two .z (.two .z (.two .z (.two (.two .z (.s 1)) .z)))) (sC q17m s0)
def qp4:Shp:=⟨[(0,.d true .bool)],[]⟩
noncomputable abbrev q128:Ctx (Bool):=⟨9,tt,false,false,[],gam [(35,q1v)],lam [],resU 9 tt [] [.tmp 3] qp4 (fun x=>x.1.1)⟩
theorem q126:CtxM Tryz.prog q128:=mkG fits mixed (mC q21 m0)
noncomputable abbrev qpv:Mdl:=(mdlOf (.cons (.d false qT1) (.cons (.rp false Net.ty) .nil)) [] [] 1 qp4 (B:=Bool) (fun b=>((b,()),(()))) (fun a=>qr8 a.1.1 a.1.2.1))
theorem qzn:MdlOK Tryz.prog 66 qpv:=fnA Tryz.func66 rfl q126 .z s0
def qbl:Shp:=⟨[(0,.d true qT0)],[]⟩
noncomputable abbrev qcu:Ctx (Int):=⟨19,tt,false,false,[],gam [(66,qpv)],lam [qd _ 19 [] qo0 (C:=(qL2×Net×Int)) (S:=Int) (fun x=>((x.1.1,x.1.2.1.1,x.1.2.2.1),x.1.2.2.2.1)) qo8 (CE:=Unit) (E:=Unit) (fun c e=>((()),(()))) (fun c=>()) (fun {R} c a nx dn rt=>qa8 c.1 c.2.1 c.2.2 a nx dn rt)],resU 19 tt [] [.tmp 4] qbl (fun x=>x.1.1)⟩
theorem qcb:CtxM Tryz.prog qcu:=mkG fits mixed (mC qzn m0)
theorem qpu:SummOK Tryz.prog qcu 0 (lc 0 Tryz.f111 37):=lp rfl qcb .z s0 (fun c a=>((c.1,(c.2.1,()),c.2.2,a,()),(()))) (fun y=>((),()))
noncomputable abbrev qc2:Mdl:=(mdlOf (.cons (.d false qT2) (.cons (.fn 66 (.cons (.rp false Net.ty) .nil)) .nil)) [] [] 1 qbl (B:=Int) (fun b=>((b,()),(()))) (fun a=>qd5 a.1.1 a.1.2.1.1))
theorem qp6:MdlOK Tryz.prog 111 qc2:=fnA Tryz.func111 rfl qcb (.two .z (.two (.two .z (.s 0)) .z)) (sC qpu s0)
def q82:Shp:=⟨[(0,.d true .bool)],[]⟩
noncomputable abbrev qn9:Ctx (Bool):=⟨9,tt,false,false,[],gam [(111,qc2)],lam [],resU 9 tt [] [.tmp 4] q82 (fun x=>x.1.1)⟩
theorem qng:CtxM Tryz.prog qn9:=mkG fits mixed (mC qp6 m0)
noncomputable abbrev q8s:Mdl:=(mdlOf (.cons (.d false qT2) (.cons (.fn 66 (.cons (.rp false Net.ty) .nil)) .nil)) [] [] 1 q82 (B:=Bool) (fun b=>((b,()),(()))) (fun a=>qa7 a.1.1 a.1.2.1.1))
theorem qjt:MdlOK Tryz.prog 65 q8s:=fnA Tryz.func65 rfl qng .z s0
def qr3:Shp:=⟨[(0,.d true .bool),(1,.d true qT0)],[]⟩
noncomputable abbrev q14m:Ctx ((Bool×Int)):=⟨43,tt,false,false,[],gam [(12,qik),(42,qaa),(19,qjx),(64,qwg),(65,q8s)],lam [],resU 43 tt [] [.tmp 2,.tmp 3] qr3 (fun x=>(x.1.1,x.1.2.1))⟩
theorem q15i:CtxM Tryz.prog q14m:=mkG fits mixed (mC qpz (mC qdd (mC qt8 (mC q14f (mC qjt m0)))))
noncomputable abbrev qsb:Mdl:=(mdlOf (.cons (.d false Net.ty) .nil) [] [] 2 qr3 (B:=(Bool×Int)) (fun b=>((b.1,b.2,()),(()))) (fun a=>qlq a.1.1))
theorem q12f:MdlOK Tryz.prog 21 qsb:=fnA Tryz.func21 rfl q15i .z s0
def qwr:Shp:=⟨[(0,.d true .bool),(1,.d true qT0)],[]⟩
noncomputable abbrev q1bt:Ctx ((Bool×Int)):=⟨9,tt,false,false,[],gam [(41,q3l),(42,qaa)],lam [],resU 9 tt [] [.tmp 2,.tmp 3] qwr (fun x=>(x.1.1,x.1.2.1))⟩
theorem q1cs:CtxM Tryz.prog q1bt:=mkG fits mixed (mC q2z (mC qdd m0))
noncomputable abbrev qqd:Mdl:=(mdlOf (.cons (.d false Net.ty) .nil) [] [] 2 qwr (B:=(Bool×Int)) (fun b=>((b.1,b.2,()),(()))) (fun a=>qky a.1.1))
theorem qum:MdlOK Tryz.prog 10 qqd:=fnA Tryz.func10 rfl q1cs .z s0
def q123:Shp:=⟨[(0,.d true .bool)],[]⟩
noncomputable abbrev q1gn:Ctx (Bool):=⟨93,tt,false,false,[],gam [(38,q1dh),(11,qdf),(21,qsb),(10,qqd),(26,qcr)],lam [],resU 93 tt [] [.tmp 0] q123 (fun x=>x.1.1)⟩
theorem q1h7:CtxM Tryz.prog q1gn:=mkG fits mixed (mC q1i4 (mC qk2 (mC q12f (mC qum (mC qi4 m0)))))
noncomputable abbrev q13y:Mdl:=(mdlOf .nil [] [] 1 q123 (B:=Bool) (fun b=>((b,()),(()))) (fun a=>qxp ))
theorem q1bh:MdlOK Tryz.prog 8 q13y:=fnA Tryz.func8 rfl q1h7 .z s0
def qvs:Shp:=⟨[(0,.d true .bool)],[]⟩
noncomputable abbrev q1cf:Ctx (Bool):=⟨19,tt,false,false,[],gam [],lam [],resU 19 tt [] [.tmp 2] qvs (fun x=>x.1.1)⟩
theorem q1c3:CtxM Tryz.prog q1cf:=mkG fits mixed m0
noncomputable abbrev qyt:Mdl:=(mdlOf (.cons (.d false Trans.ty) .nil) [] [] 1 qvs (B:=Bool) (fun b=>((b,()),(()))) (fun a=>ql0 a.1.1))
theorem q17w:MdlOK Tryz.prog 40 qyt:=fnA Tryz.func40 rfl q1c3 .z s0
def q49:Shp:=⟨[(0,.d true qT0)],[]⟩
noncomputable abbrev q4k:Ctx (Int):=⟨19,tt,false,false,[],gam [(40,qyt)],lam [qd _ 19 [] qcg (C:=((List Trans)×Int)) (S:=Int) (fun x=>((x.1.1,x.1.2.2.1),x.1.2.2.2.1)) qco (CE:=Unit) (E:=Unit) (fun c e=>((()),(()))) (fun c=>()) (fun {R} c a nx dn rt=>q1i c.1 c.2 a nx dn rt)],resU 19 tt [] [.tmp 4] q49 (fun x=>x.1.1)⟩
theorem q4a:CtxM Tryz.prog q4k:=mkG fits mixed (mC q17w m0)
theorem qcy:SummOK Tryz.prog q4k 0 (lc 0 Tryz.f83 37):=lp rfl q4a .z s0 (fun c a=>((c.1,(()),c.2,a,()),(()))) (fun y=>((),()))
noncomputable abbrev q4f:Mdl:=(mdlOf (.cons (.d false (.slice Trans.ty)) (.cons (.fn 40 .nil) .nil)) [] [] 1 q49 (B:=Int) (fun b=>((b,()),(()))) (fun a=>q20 a.1.1))
theorem qcx:MdlOK Tryz.prog 83 q4f:=fnA Tryz.func83 rfl q4a (.two .z (.two (.two .z (.s 0)) .z)) (sC qcy s0)
def q3m:Shp:=⟨[(0,.d true .bool)],[]⟩
noncomputable abbrev qbt:Ctx (Bool):=⟨9,tt,false,false,[],gam [(83,q4f)],lam [],resU 9 tt [] [.tmp 4] q3m (fun x=>x.1.1)⟩
theorem qbu:CtxM Tryz.prog qbt:=mkG fits mixed (mC qcx m0)
noncomputable abbrev q3s:Mdl:=(mdlOf (.cons (.d false (.slice Trans.ty)) (.cons (.fn 40 .nil) .nil)) [] [] 1 q3m (B:=Bool) (fun b=>((b,()),(()))) (fun a=>qy a.1.1))
theorem q9y:MdlOK Tryz.prog 39 q3s:=fnA Tryz.func39 rfl qbu .z s0
def q115:Shp:=⟨[(0,.d true .bool)],[]⟩
noncomputable abbrev q1fe:Ctx (Bool):=⟨34,tt,false,false,[],gam [(39,q3s)],lam [],resU 34 tt [] [.tmp 2] q115 (fun x=>x.1.1)⟩
theorem q1gb:CtxM Tryz.prog q1fe:=mkG fits mixed (mC q9y m0)
noncomputable abbrev q137:Mdl:=(mdlOf (.cons (.d false Net.ty) .nil) [] [] 1 q115 (B:=Bool) (fun b=>((b,()),(()))) (fun a=>qqt a.1.1))
theorem q1cm:MdlOK Tryz.prog 9 q137:=fnA Tryz.func9 rfl q1gb .z s0
def qyf:Shp:=⟨[(0,.d true .bool)],[]⟩
noncomputable abbrev q1f4:Ctx (Bool):=⟨17,tt,false,false,[],gam [],lam [],resU 17 tt [] [.tmp 2] qyf (fun x=>x.1.1)⟩
theorem q1ee:CtxM Tryz.prog q1f4:=mkG fits mixed m0
noncomputable abbrev q11t:Mdl:=(mdlOf (.cons (.d false (.int .u8)) .nil) [] [] 1 qyf (B:=Bool) (fun b=>((b,()),(()))) (fun a=>qgy a.1.1))
theorem q19e:MdlOK Tryz.prog 91 q11t:=fnA Tryz.func91 rfl q1ee .z s0
def qz3:Shp:=⟨[(0,.d true .bool)],[]⟩
noncomputable abbrev q111:Ctx (Bool):=⟨52,tt,false,false,[],gam [(91,q11t)],lam [qd _ 52 [] q1ak (C:=ByteArray) (S:=Int) (fun x=>(x.1.1,x.1.2.1)) q19r (CE:=Unit) (E:=Unit) (fun c e=>((()),(()))) (fun c=>()) (fun {R} c a nx dn rt=>qa6 c a nx dn rt)],resU 52 tt [] [.tmp 2] qz3 (fun x=>x.1.1)⟩
theorem q112:CtxM Tryz.prog q111:=mkG fits mixed (mC q19e m0)
theorem q1cp:SummOK Tryz.prog q111 0 (lc 0 Tryz.f47 75):=lp rfl q112 .z s0 (fun c a=>((c,a,()),(()))) (fun y=>((),()))
noncomputable abbrev q11b:Mdl:=(mdlOf (.cons (.d false .str) .nil) [] [] 1 qz3 (B:=Bool) (fun b=>((b,()),(()))) (fun a=>qp9 a.1.1))
theorem q195:MdlOK Tryz.prog 47 q11b:=fnA Tryz.func47 rfl q112 (.two .z (.two .z (.two (.two .z (.s 0)) .z))) (sC q1cp s0)
def qyk:Shp:=⟨[(0,.d true .bool)],[]⟩
noncomputable abbrev q11m:Ctx (Bool):=⟨41,tt,false,false,[],gam [],lam [qd _ 41 [] q194 (C:=(Int×qL1)) (S:=Int) (fun x=>((x.1.1,x.1.2.1),x.1.2.2.1)) q19w (CE:=Unit) (E:=Unit) (fun c e=>((()),(()))) (fun c=>()) (fun {R} c a nx dn rt=>q6i c.1 c.2 a nx dn rt)],resU 41 tt [] [.tmp 4] qyk (fun x=>x.1.1)⟩
theorem q114:CtxM Tryz.prog q11m:=mkG fits mixed m0
theorem q1bu:SummOK Tryz.prog q11m 0 (lc 0 Tryz.f48 37):=lp rfl q114 (.two .z (.two (.one (.two (.d [0,0,3,7,15,31,63,63,255,511,63,2047,4095,8191,16383,32767,65535,131071,131071,393215,1048575,2097151,131071,131071,12713983,29491199,67108863,134217727,268435455] [] []) .z)) .z)) s0 (fun c a=>((c.1,c.2,a,()),(()))) (fun y=>((),()))
noncomputable abbrev q11n:Mdl:=(mdlOf (.cons (.d false qT0) (.cons (.d false qT1) .nil)) [] [] 1 qyk (B:=Bool) (fun b=>((b,()),(()))) (fun a=>q8h a.1.1 a.1.2.1))
theorem q18s:MdlOK Tryz.prog 48 q11n:=fnA Tryz.func48 rfl q114 (.two .z (.two (.two .z (.s 0)) .z)) (sC q1bu s0)
def q11x:Shp:=⟨[(0,.d true .bool)],[]⟩
noncomputable abbrev q136:Ctx (Bool):=⟨80,tt,false,false,[],gam [(47,q11b),(48,q11n)],lam [qd _ 80 [] q1cg (C:=(Int×(List Trans)×Int×Int)) (S:=Int) (fun x=>((x.2.1.1,x.2.1.2.1,x.2.1.2.2.1,x.2.1.2.2.2.1),x.1.2.1)) q1cr (CE:=Unit) (E:=Unit) (fun c e=>((()),(()))) (fun c=>()) (fun {R} c a nx dn rt=>qhi c.1 c.2.1 c.2.2.1 c.2.2.2 a nx dn rt)],resU 80 tt [] [.tmp 2] q11x (fun x=>x.1.1)⟩
theorem q141:CtxM Tryz.prog q136:=mkG fits mixed (mC q195 (mC q18s m0))
theorem q1f5:SummOK Tryz.prog q136 0 (lc 0 Tryz.f15 75):=lp rfl q141 .z s0 (fun c a=>(((),a,()),((c.1,c.2.1,c.2.2.1,c.2.2.2,()),()))) (fun y=>((),()))
noncomputable abbrev qp7:Mdl:=(mdlOf (.cons (.d false Net.ty) .nil) [] [] 1 q11x (B:=Bool) (fun b=>((b,()),(()))) (fun a=>qe9 a.1.1))
theorem qqp:MdlOK Tryz.prog 15 qp7:=fnA Tryz.func15 rfl q141 (.two .z (.two .z (.two (.two .z (.s 0)) .z))) (sC q1f5 s0)
def q16d:Shp:=⟨[(0,.d true .bool)],[]⟩
noncomputable abbrev q19n:Ctx (Bool):=⟨18,tt,false,false,[],gam [],lam [qd _ 18 [] q1g8 (C:=(qL1×Int)) (S:=Int) (fun x=>((x.1.1,x.1.2.1),x.1.2.2.1)) q1gu (CE:=Unit) (E:=Unit) (fun c e=>((()),(()))) (fun c=>()) (fun {R} c a nx dn rt=>qot c.1 c.2 a nx dn rt)],resU 18 tt [] [.tmp 4] q16d (fun x=>x.1.1)⟩
theorem q1b7:CtxM Tryz.prog q19n:=mkG fits mixed m0
theorem q1hy:SummOK Tryz.prog q19n 0 (lc 0 Tryz.f68 37):=lp rfl q1b7 .z s0 (fun c a=>((c.1,c.2,a,()),(()))) (fun y=>((),()))
noncomputable abbrev qo6:Mdl:=(mdlOf (.cons (.d false qT1) (.cons (.d false qT0) .nil)) [] [] 1 q16d (B:=Bool) (fun b=>((b,()),(()))) (fun a=>q5w a.1.1 a.1.2.1))
theorem qor:MdlOK Tryz.prog 68 qo6:=fnA Tryz.func68 rfl q1b7 (.two .z (.two (.two .z (.s 0)) .z)) (sC q1hy s0)
def q11v:Shp:=⟨[(0,.own 0)],[.arr 3 (.fz true) [0] qT0]⟩
noncomputable abbrev qpa:Ctx (qL1):=⟨72,tt,false,false,[],gam [(68,qo6)],lam [qd _ 72 [] q1c6 (C:=(Int×Int×Int×(List Trans)×Int×Int)) (S:=(Int×qL1)) (fun x=>((x.1.2.2.1,x.1.2.2.2.1,x.2.1.1,x.2.1.2.1,x.2.1.2.2.1,x.2.1.2.2.2.1),(x.1.2.2.2.2.1,x.2.2.1))) q1ct (CE:=(Int×Int×Int×(List Trans)×Int×Int)) (E:=qL1) (fun c e=>(((),(),c.1,c.2.1,()),((c.2.2.1,c.2.2.2.1,c.2.2.2.2.1,c.2.2.2.2.2,()),e,()))) (fun c=>(c.1,c.2.1,c.2.2.1,c.2.2.2.1,c.2.2.2.2.1,c.2.2.2.2.2)) (fun {R} c a nx dn rt=>qcv c.1 c.2.1 c.2.2.1 c.2.2.2.1 c.2.2.2.2.1 c.2.2.2.2.2 a.1 a.2 nx dn rt),
 qd _ 72 [] q1dc (C:=(Int×Int×(List Trans)×Int×Int)) (S:=(Int×qL1)) (fun x=>((x.1.2.2.1,x.2.1.1,x.2.1.2.1,x.2.1.2.2.1,x.2.1.2.2.2.1),(x.1.2.2.2.1,x.2.2.1))) q1d3 (CE:=(Int×Int×(List Trans)×Int×Int)) (E:=qL1) (fun c e=>(((),(),c.1,()),((c.2.1,c.2.2.1,c.2.2.2.1,c.2.2.2.2,()),e,()))) (fun c=>(c.1,c.2.1,c.2.2.1,c.2.2.2.1,c.2.2.2.2)) (fun {R} c a nx dn rt=>qc9 c.1 c.2.1 c.2.2.1 c.2.2.2.1 c.2.2.2.2 a.1 a.2 nx dn rt),
 qd _ 72 [] q1ca (C:=(Int×(List Trans)×Int×Int)) (S:=(Int×qL1)) (fun x=>((x.2.1.1,x.2.1.2.1,x.2.1.2.2.1,x.2.1.2.2.2.1),(x.1.2.2.1,x.2.2.1))) q1cx (CE:=Unit) (E:=qL1) (fun c e=>(((),()),(e,()))) (fun c=>()) (fun {R} c a nx dn rt=>qhj c.1 c.2.1 c.2.2.1 c.2.2.2 a.1 a.2 nx dn rt)],resU 72 tt [] [.tmp 4] q11v (fun x=>x.2.1)⟩
theorem qom:CtxM Tryz.prog qpa:=mkG fits mixed (mC qor m0)
theorem q1f8:SummOK Tryz.prog qpa 0 (lc 4 Tryz.f69 627275):=lp rfl qom .z s0 (fun c a=>(((),(),c.1,c.2.1,a.1,()),((c.2.2.1,c.2.2.2.1,c.2.2.2.2.1,c.2.2.2.2.2,()),a.2,()))) (fun y=>((y.1.2.2.1,y.1.2.2.2.1,y.2.1.1,y.2.1.2.1,y.2.1.2.2.1,y.2.1.2.2.2.1),y.2.2.1))
theorem q1et:SummOK Tryz.prog qpa 1 (lc 2 Tryz.f69 4683):=lp rfl qom (.two .z (.two (.one (.two (.two (.d [0,1,0,7,15,31,0,0,192,448,1023,2047] [] []) .z) (.two .z (.s 0)))) .z)) (sC q1f8 s0) (fun c a=>(((),(),c.1,a.1,()),((c.2.1,c.2.2.1,c.2.2.2.1,c.2.2.2.2,()),a.2,()))) (fun y=>((y.1.2.2.1,y.2.1.1,y.2.1.2.1,y.2.1.2.2.1,y.2.1.2.2.2.1),y.2.2.1))
theorem q1f2:SummOK Tryz.prog qpa 2 (lc 0 Tryz.f69 75):=lp rfl qom (.two .z (.two (.one (.two .z (.s 1))) .z)) (sC q1et s0) (fun c a=>(((),(),a.1,()),((c.1,c.2.1,c.2.2.1,c.2.2.2,()),a.2,()))) (fun y=>((),y.2.1))
noncomputable abbrev q12m:Mdl:=(mdlOf (.cons (.d false Net.ty) (.cons (.d false qT0) .nil)) [] [] 1 q11v (B:=qL1) (fun b=>(((),()),(b,()))) (fun a=>qjw a.1.1 a.1.2.1))
theorem q1bj:MdlOK Tryz.prog 69 q12m:=fnA Tryz.func69 rfl qom (.two .z (.two .z (.two (.two .z (.s 2)) .z))) (sC q1f2 s0)
def qvx:Shp:=⟨[(0,.d true Net.ty)],[]⟩
noncomputable abbrev qy5:Ctx (Net):=⟨42,tt,false,false,[],gam [],lam [qd _ 42 [] q17v (C:=(Int×(List Trans)×Int×Int×Int×(List Trans)×Int×Int×Int×Int×Int)) (S:=(Int×(List Trans))) (fun x=>((x.2.1.1,x.2.1.2.1,x.2.1.2.2.1,x.2.1.2.2.2.1,x.2.2.1.1,x.2.2.1.2.1,x.2.2.1.2.2.1,x.2.2.1.2.2.2.1,x.2.2.2.1.1,x.2.2.2.1.2.2.1,x.2.2.2.1.2.2.2.1),(x.1.2.2.2.1,x.2.2.2.2.1))) q17d (CE:=(Int×(List Trans)×Int×Int×Int×Int×Int)) (E:=(List Trans)) (fun c e=>(((),(),()),((c.1,c.2.1,c.2.2.1,c.2.2.2.1,()),(c.2.2.2.2.1,(),c.2.2.2.2.2.1,c.2.2.2.2.2.2,()),e,()))) (fun c=>(c.2.2.2.2.1,c.2.2.2.2.2.1,c.2.2.2.2.2.2.1,c.2.2.2.2.2.2.2.1,c.2.2.2.2.2.2.2.2.1,c.2.2.2.2.2.2.2.2.2.1,c.2.2.2.2.2.2.2.2.2.2)) (fun {R} c a nx dn rt=>qdh c.1 c.2.1 c.2.2.1 c.2.2.2.1 c.2.2.2.2.1 c.2.2.2.2.2.1 c.2.2.2.2.2.2.1 c.2.2.2.2.2.2.2.1 c.2.2.2.2.2.2.2.2.1 c.2.2.2.2.2.2.2.2.2.1 c.2.2.2.2.2.2.2.2.2.2 a.1 a.2 nx dn rt)],resU 42 tt [] [.cell 2 24] qvx (fun x=>x.1.1)⟩
theorem qyr:CtxM Tryz.prog qy5:=mkG fits mixed m0
theorem q19t:SummOK Tryz.prog qy5 0 (lc 0 Tryz.f70 75):=lp rfl qyr (.two .z (.two (.one (.two .z (.d [0,1,0,4,0,0,32,112,0,0,512,2032,4092,8188,16383,32767,65535] [7,11,12,13,14,16] []))) .z)) s0 (fun c a=>(((),(),(),a.1,()),((c.1,c.2.1,c.2.2.1,c.2.2.2.1,()),(c.2.2.2.2.1,c.2.2.2.2.2.1,c.2.2.2.2.2.2.1,c.2.2.2.2.2.2.2.1,()),(c.2.2.2.2.2.2.2.2.1,(),c.2.2.2.2.2.2.2.2.2.1,c.2.2.2.2.2.2.2.2.2.2,()),a.2,()))) (fun y=>((y.2.1.1,y.2.1.2.1,y.2.1.2.2.1,y.2.1.2.2.2.1,y.2.2.1.1,y.2.2.1.2.2.1,y.2.2.1.2.2.2.1),y.2.2.2.1))
noncomputable abbrev qza:Mdl:=(mdlOf (.cons (.d false Net.ty) .nil) [] [] 1 qvx (B:=Net) (fun b=>((b,()),(()))) (fun a=>ql1 a.1.1))
theorem q18d:MdlOK Tryz.prog 70 qza:=fnA Tryz.func70 rfl qyr (.two .z (.two .z (.two (.two .z (.s 0)) .z))) (sC q19t s0)
def q13l:Shp:=⟨[(0,.d true .bool)],[]⟩
noncomputable abbrev q166:Ctx (Bool):=⟨18,tt,false,false,[],gam [(68,qo6)],lam [qd _ 18 [] q1f7 (C:=(qL1×qL1)) (S:=Int) (fun x=>((x.1.1,x.1.2.1),x.1.2.2.1)) q1ej (CE:=Unit) (E:=Unit) (fun c e=>((()),(()))) (fun c=>()) (fun {R} c a nx dn rt=>qkz c.1 c.2 a nx dn rt)],resU 18 tt [] [.tmp 4] q13l (fun x=>x.1.1)⟩
theorem q15z:CtxM Tryz.prog q166:=mkG fits mixed (mC qor m0)
theorem q1go:SummOK Tryz.prog q166 0 (lc 0 Tryz.f71 37):=lp rfl q15z .z s0 (fun c a=>((c.1,c.2,a,()),(()))) (fun y=>((),()))
noncomputable abbrev q16j:Mdl:=(mdlOf (.cons (.d false qT1) (.cons (.d false qT1) .nil)) [] [] 1 q13l (B:=Bool) (fun b=>((b,()),(()))) (fun a=>qo5 a.1.1 a.1.2.1))
theorem q1es:MdlOK Tryz.prog 71 q16j:=fnA Tryz.func71 rfl q15z (.two .z (.two (.two .z (.s 0)) .z)) (sC q1go s0)
def qu8:Shp:=⟨[(0,.d true .bool)],[]⟩
noncomputable abbrev qod:Ctx (Bool):=⟨81,tt,false,false,[],gam [(15,qp7),(69,q12m),(70,qza),(68,qo6),(71,q16j)],lam [qd _ 81 [] q14u (C:=(qL1×qL1×Int×(List Trans)×Int×Int)) (S:=Int) (fun x=>((x.1.2.1,x.1.2.2.1,x.2.1.1,x.2.1.2.1,x.2.1.2.2.1,x.2.1.2.2.2.1),x.1.2.2.2.1)) q153 (CE:=(qL1×qL1×Int×(List Trans)×Int×Int)) (E:=Unit) (fun c e=>(((),c.1,c.2.1,()),((c.2.2.1,c.2.2.2.1,c.2.2.2.2.1,c.2.2.2.2.2,()),()))) (fun c=>(c.1,c.2.1,c.2.2.1,c.2.2.2.1,c.2.2.2.2.1,c.2.2.2.2.2)) (fun {R} c a nx dn rt=>q75 c.1 c.2.1 c.2.2.1 c.2.2.2.1 c.2.2.2.2.1 c.2.2.2.2.2 a nx dn rt),
 qd _ 81 [] q14q (C:=(qL1×qL1×Int×(List Trans)×Int×Int)) (S:=Int) (fun x=>((x.1.2.1,x.1.2.2.1,x.2.1.1,x.2.1.2.1,x.2.1.2.2.1,x.2.1.2.2.2.1),x.1.2.2.2.1)) q150 (CE:=Unit) (E:=Unit) (fun c e=>((()),(()))) (fun c=>()) (fun {R} c a nx dn rt=>qbz c.1 c.2.1 c.2.2.1 c.2.2.2.1 c.2.2.2.2.1 c.2.2.2.2.2 a nx dn rt)],resU 81 tt [] [.tmp 2] qu8 (fun x=>x.1.1)⟩
theorem qoz:CtxM Tryz.prog qod:=mkG fits mixed (mC qqp (mC q1bj (mC q18d (mC qor (mC q1es m0)))))
theorem q17r:SummOK Tryz.prog qod 1 (lc 2 Tryz.f23 607):=lp rfl qoz .z s0 (fun c a=>(((),c.1,c.2.1,a,()),((c.2.2.1,c.2.2.2.1,c.2.2.2.2.1,c.2.2.2.2.2,()),()))) (fun y=>((),()))
theorem q17s:SummOK Tryz.prog qod 0 (lc 0 Tryz.f23 303):=lp rfl qoz .z s0 (fun c a=>(((),c.1,c.2.1,a,()),((c.2.2.1,c.2.2.2.1,c.2.2.2.2.1,c.2.2.2.2.2,()),()))) (fun y=>((y.1.2.1,y.1.2.2.1,y.2.1.1,y.2.1.2.1,y.2.1.2.2.1,y.2.1.2.2.2.1),()))
noncomputable abbrev qw7:Mdl:=(mdlOf (.cons (.d false Net.ty) .nil) [] [] 1 qu8 (B:=Bool) (fun b=>((b,()),(()))) (fun a=>q7y a.1.1))
theorem q15j:MdlOK Tryz.prog 23 qw7:=fnA Tryz.func23 rfl qoz (.two .z (.two .z (.two .z (.two (.d [0,1,0,4,15,31] [] []) (.two (.two .z (.s 0)) (.two (.two .z (.s 1)) .z)))))) (sC q17s (sC q17r s0))
def q117:Shp:=⟨[(0,.d true Net.ty),(1,.d true qT0)],[]⟩
noncomputable abbrev q1gw:Ctx ((Net×Int)):=⟨41,tt,false,false,[],gam [(15,qp7),(23,qw7)],lam [],resU 41 tt [] [.cell 2 24,.tmp 3] q117 (fun x=>(x.1.1,x.1.2.1))⟩
theorem q1h3:CtxM Tryz.prog q1gw:=mkG fits mixed (mC qqp (mC q15j m0))
noncomputable abbrev q13m:Mdl:=(mdlOf (.cons (.d true Net.ty) .nil) [] [] 2 q117 (B:=(Net×Int)) (fun b=>((b.1,b.2,()),(()))) (fun a=>qqs a.1.1))
theorem q1bs:MdlOK Tryz.prog 13 q13m:=fnA Tryz.func13 rfl q1h3 (.two .z (.two .z (.two .z (.two .z (.two .z (.two (.d [0,1,0,4,15,0,32,96,0,256,768,2016,4064,8191,16383,32767] [4,13,15] []) .z)))))) s0
def qw9:Shp:=⟨[(0,.d true .bool)],[]⟩
noncomputable abbrev qyq:Ctx (Bool):=⟨26,tt,false,false,[],gam [],lam [qd _ 26 [] q180 (C:=(qL1×qL1)) (S:=Int) (fun x=>((x.1.1,x.1.2.1),x.1.2.2.1)) q17j (CE:=Unit) (E:=Unit) (fun c e=>((()),(()))) (fun c=>()) (fun {R} c a nx dn rt=>q87 c.1 c.2 a nx dn rt)],resU 26 tt [] [.tmp 4] qw9 (fun x=>x.1.1)⟩
theorem qz4:CtxM Tryz.prog qyq:=mkG fits mixed m0
theorem q19k:SummOK Tryz.prog qyq 0 (lc 0 Tryz.f46 75):=lp rfl qz4 (.two .z (.two (.one (.two (.d [0,0,3,7,0,0,48,112,255] [] []) .z)) .z)) s0 (fun c a=>((c.1,c.2,a,()),(()))) (fun y=>((),()))
noncomputable abbrev qhf:Mdl:=(mdlOf (.cons (.d false qT1) (.cons (.d false qT1) .nil)) [] [] 1 qw9 (B:=Bool) (fun b=>((b,()),(()))) (fun a=>q4x a.1.1 a.1.2.1))
theorem qll:MdlOK Tryz.prog 46 qhf:=fnA Tryz.func46 rfl qz4 (.two .z (.two .z (.two (.two .z (.s 0)) .z))) (sC q19k s0)
def q12k:Shp:=⟨[(0,.d true .bool)],[]⟩
noncomputable abbrev q16g:Ctx (Bool):=⟨86,tt,false,false,[],gam [(46,qhf)],lam [qd _ 86 [] q1ed (C:=(Int×(List Trans)×Int×Int×Int×(List Trans)×Int×Int)) (S:=Int) (fun x=>((x.2.1.1,x.2.1.2.1,x.2.1.2.2.1,x.2.1.2.2.2.1,x.2.2.1.1,x.2.2.1.2.1,x.2.2.1.2.2.1,x.2.2.1.2.2.2.1),x.1.2.2.1)) q1eh (CE:=Unit) (E:=Unit) (fun c e=>((()),(()))) (fun c=>()) (fun {R} c a nx dn rt=>ql2 c.1 c.2.1 c.2.2.1 c.2.2.2.1 c.2.2.2.2.1 c.2.2.2.2.2.1 c.2.2.2.2.2.2.1 c.2.2.2.2.2.2.2 a nx dn rt)],resU 86 tt [] [.tmp 4] q12k (fun x=>x.1.1)⟩
theorem q16m:CtxM Tryz.prog q16g:=mkG fits mixed (mC qll m0)
theorem q1fk:SummOK Tryz.prog q16g 0 (lc 0 Tryz.f14 75):=lp rfl q16m (.two .z (.two (.one (.two (.d [0,1,0,7,15,31,0,64,0,448,960,1984,4095,8191,16383,32767,16383,131071,262143,524287,16383,1064959,16383,7356415,15745023,32522239,67108863,134217727,268435455,536870911,1073741823,2147483647,1073741823,8589934591,17179869183,34359738367,1073741823,69793218559,1073741823,482110078975,1031865892863,2131377520639,4398046511103,8796093022207,17592186044415] [] []) .z)) .z)) s0 (fun c a=>(((),(),a,()),((c.1,c.2.1,c.2.2.1,c.2.2.2.1,()),(c.2.2.2.2.1,c.2.2.2.2.2.1,c.2.2.2.2.2.2.1,c.2.2.2.2.2.2.2,()),()))) (fun y=>((),()))
noncomputable abbrev q163:Mdl:=(mdlOf (.cons (.d false Net.ty) (.cons (.d false Net.ty) .nil)) [] [] 1 q12k (B:=Bool) (fun b=>((b,()),(()))) (fun a=>qop a.1.1 a.1.2.1))
theorem q1ef:MdlOK Tryz.prog 14 q163:=fnA Tryz.func14 rfl q16m (.two .z (.two .z (.two (.two .z (.s 0)) .z))) (sC q1fk s0)
def qzk:Shp:=⟨[(0,.d true .bool)],[]⟩
noncomputable abbrev q11r:Ctx (Bool):=⟨18,tt,false,false,[],gam [(68,qo6)],lam [qd _ 18 [] q18w (C:=(qL1×qL1)) (S:=Int) (fun x=>((x.1.1,x.1.2.1),x.1.2.2.1)) q19b (CE:=Unit) (E:=Unit) (fun c e=>((()),(()))) (fun c=>()) (fun {R} c a nx dn rt=>qf4 c.1 c.2 a nx dn rt)],resU 18 tt [] [.tmp 4] qzk (fun x=>x.1.1)⟩
theorem q11s:CtxM Tryz.prog q11r:=mkG fits mixed (mC qor m0)
theorem q1bm:SummOK Tryz.prog q11r 0 (lc 0 Tryz.f49 37):=lp rfl q11s .z s0 (fun c a=>((c.1,c.2,a,()),(()))) (fun y=>((),()))
noncomputable abbrev q11d:Mdl:=(mdlOf (.cons (.d false qT1) (.cons (.d false qT1) .nil)) [] [] 1 qzk (B:=Bool) (fun b=>((b,()),(()))) (fun a=>qo9 a.1.1 a.1.2.1))
theorem q192:MdlOK Tryz.prog 49 q11d:=fnA Tryz.func49 rfl q11s (.two .z (.two (.two .z (.s 0)) .z)) (sC q1bm s0)
def q19u:Shp:=⟨[(0,.d true .bool)],[]⟩
noncomputable abbrev q13n:Ctx (Bool):=⟨40,tt,false,false,[],gam [(49,q11d),(46,qhf)],lam [qd _ 40 [] q1hk (C:=(Int×Int×(List Trans)×Int×Int)) (S:=Int) (fun x=>((x.1.2.1,x.2.1.1,x.2.1.2.1,x.2.1.2.2.1,x.2.1.2.2.2.1),x.1.2.2.1)) q1hd (CE:=(Int×Int×(List Trans)×Int×Int)) (E:=Unit) (fun c e=>(((),c.1,()),((c.2.1,c.2.2.1,c.2.2.2.1,c.2.2.2.2,()),()))) (fun c=>(c.1,c.2.1,c.2.2.1,c.2.2.2.1,c.2.2.2.2)) (fun {R} c a nx dn rt=>qk4 c.1 c.2.1 c.2.2.1 c.2.2.2.1 c.2.2.2.2 a nx dn rt),
 qd _ 40 [] q1hq (C:=(Int×(List Trans)×Int×Int)) (S:=Int) (fun x=>((x.2.1.1,x.2.1.2.1,x.2.1.2.2.1,x.2.1.2.2.2.1),x.1.2.1)) q1ht (CE:=Unit) (E:=Unit) (fun c e=>((()),(()))) (fun c=>()) (fun {R} c a nx dn rt=>qj6 c.1 c.2.1 c.2.2.1 c.2.2.2 a nx dn rt)],resU 40 tt [] [.tmp 2] q19u (fun x=>x.1.1)⟩
theorem q12u:CtxM Tryz.prog q13n:=mkG fits mixed (mC q192 (mC qll m0))
theorem q1k4:SummOK Tryz.prog q13n 0 (lc 2 Tryz.f16 2341):=lp rfl q12u (.two .z (.two (.one (.two (.d [0,1,0,7,15,31,0,64,0,448,960,1984,63,8191] [] []) .z)) .z)) s0 (fun c a=>(((),c.1,a,()),((c.2.1,c.2.2.1,c.2.2.2.1,c.2.2.2.2,()),()))) (fun y=>((y.1.2.1,y.2.1.1,y.2.1.2.1,y.2.1.2.2.1,y.2.1.2.2.2.1),()))
theorem q1k3:SummOK Tryz.prog q13n 1 (lc 0 Tryz.f16 37):=lp rfl q12u (.two .z (.two (.one (.two .z (.s 0))) .z)) (sC q1k4 s0) (fun c a=>(((),a,()),((c.1,c.2.1,c.2.2.1,c.2.2.2,()),()))) (fun y=>((),()))
noncomputable abbrev q1do:Mdl:=(mdlOf (.cons (.d false Net.ty) .nil) [] [] 1 q19u (B:=Bool) (fun b=>((b,()),(()))) (fun a=>quu a.1.1))
theorem q1hw:MdlOK Tryz.prog 16 q1do:=fnA Tryz.func16 rfl q12u (.two .z (.two (.two .z (.s 1)) .z)) (sC q1k3 s0)
def qzi:Shp:=⟨[(0,.own 0)],[.arr 4 (.fz true) [0] .bool]⟩
noncomputable abbrev qdv:Ctx ((List Bool)):=⟨77,tt,false,false,[],gam [],lam [qd _ 77 [] q1bb (C:=(Bool×Int×qL1×Int×(List Trans)×Int×Int)) (S:=(Bool×Int×(List Bool))) (fun x=>((x.1.1,x.1.2.2.2.2.1,x.1.2.2.2.2.2.1,x.2.1.1,x.2.1.2.1,x.2.1.2.2.1,x.2.1.2.2.2.1),(x.1.2.2.2.1,x.1.2.2.2.2.2.2.1,x.2.2.1))) q1b5 (CE:=(Bool×Int×Int×(List Trans)×Int×Int)) (E:=(Bool×(List Bool))) (fun c e=>((c.1,(),(),e.1,c.2.1,()),((c.2.2.1,c.2.2.2.1,c.2.2.2.2.1,c.2.2.2.2.2,()),e.2,()))) (fun c=>(c.1,c.2.1,c.2.2.2.1,c.2.2.2.2.1,c.2.2.2.2.2.1,c.2.2.2.2.2.2)) (fun {R} c a nx dn rt=>qfd c.1 c.2.1 c.2.2.1 c.2.2.2.1 c.2.2.2.2.1 c.2.2.2.2.2.1 c.2.2.2.2.2.2 a.1 a.2.1 a.2.2 nx dn rt),
 q29 _ 77 [] q19y (A:=(Bool×Bool×Int×qL1×Int×(List Trans)×Int×Int×(List Bool))) (fun x=>(x.1.1,x.1.2.2.2.1,x.1.2.2.2.2.1,x.1.2.2.2.2.2.1,x.2.1.1,x.2.1.2.1,x.2.1.2.2.1,x.2.1.2.2.2.1,x.2.2.1)) q1an (CE:=(Bool×Int×Int×(List Trans)×Int×Int)) (E:=(Bool×(List Bool))) (fun c e=>((c.1,(),(),e.1,c.2.1,()),((c.2.2.1,c.2.2.2.1,c.2.2.2.2.1,c.2.2.2.2.2,()),e.2,()))) (fun c=>(c.1,c.2.2.1,c.2.2.2.2.1,c.2.2.2.2.2.1,c.2.2.2.2.2.2.1,c.2.2.2.2.2.2.2.1)) (fun {R} c dn rt=>qo4 c.1 c.2.1 c.2.2.1 c.2.2.2.1 c.2.2.2.2.1 c.2.2.2.2.2.1 c.2.2.2.2.2.2.1 c.2.2.2.2.2.2.2.1 c.2.2.2.2.2.2.2.2 dn rt),
 qd _ 77 [] q1az (C:=(Bool×Int×(List Trans)×Int×Int)) (S:=(Bool×Int×(List Bool))) (fun x=>((x.1.1,x.2.1.1,x.2.1.2.1,x.2.1.2.2.1,x.2.1.2.2.2.1),(x.1.2.2.2.1,x.1.2.2.2.2.1,x.2.2.1))) q1a1 (CE:=(Bool×Int×(List Trans)×Int×Int)) (E:=(Bool×(List Bool))) (fun c e=>((c.1,(),(),e.1,()),((c.2.1,c.2.2.1,c.2.2.2.1,c.2.2.2.2,()),e.2,()))) (fun c=>(c.1,c.2.1,c.2.2.1,c.2.2.2.1,c.2.2.2.2)) (fun {R} c a nx dn rt=>q9t c.1 c.2.1 c.2.2.1 c.2.2.2.1 c.2.2.2.2 a.1 a.2.1 a.2.2 nx dn rt),
 qd _ 77 [] q1ap (C:=(Bool×Int×(List Trans)×Int×Int)) (S:=(Bool×(List Bool))) (fun x=>((x.1.1,x.2.1.1,x.2.1.2.1,x.2.1.2.2.1,x.2.1.2.2.2.1),(x.1.2.2.2.1,x.2.2.1))) q19o (CE:=Unit) (E:=(List Bool)) (fun c e=>(((),()),(e,()))) (fun c=>()) (fun {R} c a nx dn rt=>qp8 c.1 c.2.1 c.2.2.1 c.2.2.2.1 c.2.2.2.2 a.1 a.2 nx dn rt)],resU 77 tt [] [.tmp 6] qzi (fun x=>x.2.1)⟩
theorem qdn:CtxM Tryz.prog qdv:=mkG fits mixed m0
theorem q1c4:SummOK Tryz.prog qdv 0 (lc 4 Tryz.f50 5187223):=lp rfl qdn (.two .z (.two (.one (.two (.d [0,0,3,7,0,16,0,112,15,511] [] []) (.two (.d [0,0,3,7,0,0,48,112,255] [] []) .z))) .z)) s0 (fun c a=>((c.1,(),(),a.1,c.2.1,c.2.2.1,a.2.1,()),((c.2.2.2.1,c.2.2.2.2.1,c.2.2.2.2.2.1,c.2.2.2.2.2.2,()),a.2.2,()))) (fun y=>((y.1.1,y.1.2.2.2.2.1,y.2.1.1,y.2.1.2.1,y.2.1.2.2.1,y.2.1.2.2.2.1),(y.1.2.2.2.1,y.2.2.1)))
theorem q1cq:SummOK Tryz.prog qdv 1 (jc Tryz.f50 992919):=jn rfl qdn (.two .z (.s 0)) (sC q1c4 s0) (fun c=>((c.1,(),(),c.2.1,c.2.2.1,c.2.2.2.1,()),((c.2.2.2.2.1,c.2.2.2.2.2.1,c.2.2.2.2.2.2.1,c.2.2.2.2.2.2.2.1,()),c.2.2.2.2.2.2.2.2,()))) (fun y=>((y.1.1,y.1.2.2.2.2.1,y.2.1.1,y.2.1.2.1,y.2.1.2.2.1,y.2.1.2.2.2.1),(y.1.2.2.2.1,y.2.2.1)))
theorem q1bp:SummOK Tryz.prog qdv 2 (lc 2 Tryz.f50 9879):=lp rfl qdn (.two .z (.two (.one (.two .z (.two .z (.two .z (.s 1))))) .z)) (sC q1cq s0) (fun c a=>((c.1,(),(),a.1,a.2.1,()),((c.2.1,c.2.2.1,c.2.2.2.1,c.2.2.2.2,()),a.2.2,()))) (fun y=>((y.1.1,y.2.1.1,y.2.1.2.1,y.2.1.2.2.1,y.2.1.2.2.2.1),(y.1.2.2.2.1,y.2.2.1)))
theorem q1bw:SummOK Tryz.prog qdv 3 (lc 0 Tryz.f50 151):=lp rfl qdn (.two .z (.one (.two .z (.two .z (.s 2))))) (sC q1bp s0) (fun c a=>((c.1,(),(),a.1,()),((c.2.1,c.2.2.1,c.2.2.2.1,c.2.2.2.2,()),a.2,()))) (fun y=>((),y.2.1))
noncomputable abbrev q11o:Mdl:=(mdlOf (.cons (.d false Net.ty) (.cons (.d false qT0) (.cons (.d false .bool) .nil))) [] [] 1 qzi (B:=(List Bool)) (fun b=>(((),()),(b,()))) (fun a=>qo3 a.1.1 a.1.2.1 a.1.2.2.1))
theorem q1am:MdlOK Tryz.prog 50 q11o:=fnA Tryz.func50 rfl qdn (.two .z (.two .z (.two .z (.two (.two .z (.s 3)) .z)))) (sC q1bw s0)
def qwj:Shp:=⟨[(0,.d true q0.ty)],[]⟩
noncomputable abbrev qyh:Ctx (q0):=⟨43,tt,false,false,[],gam [],lam [qd _ 43 [] q188 (C:=((List Bool)×Int×(List Trans)×Int×Int×qL1×qL1)) (S:=(Int×qL1×qL1)) (fun x=>((x.1.1,x.2.1.1,x.2.1.2.1,x.2.1.2.2.1,x.2.1.2.2.2.1,x.2.2.1.1,x.2.2.1.2.1),(x.1.2.2.2.2.1,x.2.2.2.2.1,x.2.2.2.2.2.1))) q17g (CE:=(qL1×qL1)) (E:=(qL1×qL1)) (fun c e=>(((),(),()),((c.1,c.2,()),((),(),()),e.1,e.2,()))) (fun c=>(c.2.2.2.2.2.1,c.2.2.2.2.2.2)) (fun {R} c a nx dn rt=>qdb c.1 c.2.1 c.2.2.1 c.2.2.2.1 c.2.2.2.2.1 c.2.2.2.2.2.1 c.2.2.2.2.2.2 a.1 a.2.1 a.2.2 nx dn rt)],resU 43 tt [] [.cell 4 69] qwj (fun x=>x.1.1)⟩
theorem qys:CtxM Tryz.prog qyh:=mkG fits mixed m0
theorem q1ac:SummOK Tryz.prog qyh 0 (lc 0 Tryz.f51 75):=lp rfl qys .z s0 (fun c a=>((c.1,(),(),(),a.1,()),((c.2.1,c.2.2.1,c.2.2.2.1,c.2.2.2.2.1,()),(c.2.2.2.2.2.1,c.2.2.2.2.2.2,()),((),(),()),a.2.1,a.2.2,()))) (fun y=>((y.2.1.1,y.2.1.2.1),(y.2.2.2.1,y.2.2.2.2.1)))
noncomputable abbrev qzq:Mdl:=(mdlOf (.cons (.d false Net.ty) (.cons (.d false (.slice .bool)) .nil)) [] [] 1 qwj (B:=q0) (fun b=>((b,()),(()))) (fun a=>ql3 a.1.1 a.1.2.1))
theorem q18h:MdlOK Tryz.prog 51 qzq:=fnA Tryz.func51 rfl qys (.two .z (.two .z (.two (.two .z (.s 0)) .z))) (sC q1ac s0)
def qts:Shp:=⟨[(0,.nl false (.own 0))],[.arr 69 (.fz true) [3,3] q0.ty]⟩
noncomputable abbrev qow:Ctx ((List q0)):=⟨54,tt,false,false,[],gam [(50,q11o),(51,qzq)],lam [qd _ 54 [] q15b (C:=(Int×(List Bool)×Int×(List Trans)×Int×Int×(List q0))) (S:=(Int×(List Bool))) (fun x=>((x.1.2.2.2.1,x.1.2.2.2.2.1,x.2.1.1,x.2.1.2.1,x.2.1.2.2.1,x.2.1.2.2.2.1,x.2.2.2.1),(x.1.2.2.2.2.2.1,x.2.2.1))) q14t (CE:=(Int×(List Bool)×Int×(List Trans)×Int×Int×(List q0))) (E:=(List Bool)) (fun c e=>(((),(),(),c.1,c.2.1,()),((c.2.2.1,c.2.2.2.1,c.2.2.2.2.1,c.2.2.2.2.2.1,()),e,c.2.2.2.2.2.2,()))) (fun c=>(c.1,c.2.1,c.2.2.1,c.2.2.2.1,c.2.2.2.2.1,c.2.2.2.2.2.1,c.2.2.2.2.2.2)) (fun {R} c a nx dn rt=>qbx c.1 c.2.1 c.2.2.1 c.2.2.2.1 c.2.2.2.2.1 c.2.2.2.2.2.1 c.2.2.2.2.2.2 a.1 a.2 nx dn rt),
 qd _ 54 [] q14y (C:=(Int×(List Trans)×Int×Int)) (S:=(Int×(List Bool)×(List q0))) (fun x=>((x.2.1.1,x.2.1.2.1,x.2.1.2.2.1,x.2.1.2.2.2.1),(x.1.2.2.2.1,x.2.2.1,x.2.2.2.1))) q158 (CE:=Unit) (E:=(List q0)) (fun c e=>(((),()),(e,()))) (fun c=>()) (fun {R} c a nx dn rt=>qbw c.1 c.2.1 c.2.2.1 c.2.2.2 a.1 a.2.1 a.2.2 nx dn rt)],resU 54 tt [] [.tmp 2] qts (fun x=>x.2.1)⟩
theorem qp5:CtxM Tryz.prog qow:=mkG fits mixed (mC q1am (mC q18h m0))
theorem q17i:SummOK Tryz.prog qow 0 (lc 2 Tryz.f18 76951):=lp rfl qp5 .z s0 (fun c a=>(((),(),(),c.1,c.2.1,a.1,()),((c.2.2.1,c.2.2.2.1,c.2.2.2.2.1,c.2.2.2.2.2.1,()),a.2,c.2.2.2.2.2.2,()))) (fun y=>((y.1.2.2.2.1,y.1.2.2.2.2.1,y.2.1.1,y.2.1.2.1,y.2.1.2.2.1,y.2.1.2.2.2.1,y.2.2.2.1),y.2.2.1))
theorem q18r:SummOK Tryz.prog qow 1 (lc 0 Tryz.f18 151):=lp rfl qp5 (.two .z (.two (.one (.two .z (.two .z (.two (.two .z (.s 0)) .z)))) .z)) (sC q17i s0) (fun c a=>(((),(),(),a.1,()),((c.1,c.2.1,c.2.2.1,c.2.2.2,()),a.2.1,a.2.2,()))) (fun y=>((),y.2.1))
noncomputable abbrev qw5:Mdl:=(mdlOf (.cons (.d false Net.ty) .nil) [] [] 1 qts (B:=(List q0)) (fun b=>(((),()),(b,()))) (fun a=>qc8 a.1.1))
theorem q14c:MdlOK Tryz.prog 18 qw5:=fnA Tryz.func18 rfl qp5 (.two .z (.two .z (.two .z (.two (.two .z (.s 1)) .z)))) (sC q18r s0)
def q12h:Shp:=⟨[(0,.d true .bool)],[]⟩
noncomputable abbrev q167:Ctx (Bool):=⟨43,tt,false,false,[],gam [(46,qhf)],lam [qd _ 43 [] q1f3 (C:=((List q0)×(List q0))) (S:=Int) (fun x=>((x.1.1,x.1.2.1),x.1.2.2.1)) q1f1 (CE:=Unit) (E:=Unit) (fun c e=>((()),(()))) (fun c=>()) (fun {R} c a nx dn rt=>ql4 c.1 c.2 a nx dn rt)],resU 43 tt [] [.tmp 4] q12h (fun x=>x.1.1)⟩
theorem q16o:CtxM Tryz.prog q167:=mkG fits mixed (mC qll m0)
theorem q1fl:SummOK Tryz.prog q167 0 (lc 0 Tryz.f17 75):=lp rfl q16o (.two .z (.two (.one (.two (.d [0,0,3,7,15,0,0,96,224,480,1023,2047,4095,8191,8191,32767,65535,131071,8191,8191,794623,1843199,3940351,8388607,16777215,33554431] [] []) .z)) .z)) s0 (fun c a=>((c.1,c.2,a,()),(()))) (fun y=>((),()))
noncomputable abbrev q15w:Mdl:=(mdlOf (.cons (.d false (.slice q0.ty)) (.cons (.d false (.slice q0.ty)) .nil)) [] [] 1 q12h (B:=Bool) (fun b=>((b,()),(()))) (fun a=>qoa a.1.1 a.1.2.1))
theorem q1ew:MdlOK Tryz.prog 17 q15w:=fnA Tryz.func17 rfl q16o (.two .z (.two .z (.two (.two .z (.s 0)) .z))) (sC q1fl s0)
def qi3:Shp:=⟨[(0,.d true .bool)],[]⟩
noncomputable abbrev qxj:Ctx (Bool):=⟨80,tt,false,false,[],gam [(8,q13y),(9,q137),(10,qqd),(11,qdf),(12,qik),(13,q13m),(14,q163),(15,qp7),(16,q1do),(18,qw5),(17,q15w)],lam [],resU 80 tt [] [.tmp 2] qi3 (fun x=>x.1.1)⟩
theorem qxc:CtxM Tryz.prog qxj:=mkG fits mixed (mC q1bh (mC q1cm (mC qum (mC qk2 (mC qpz (mC q1bs (mC q1ef (mC qqp (mC q1hw (mC q14c (mC q1ew m0)))))))))))
noncomputable abbrev qxy:Mdl:=(mdlOf (.cons (.d true Net.ty) .nil) [] [] 1 qi3 (B:=Bool) (fun b=>((b,()),(()))) (fun a=>qcq a.1.1))
theorem quh:MdlOK Tryz.prog 3 qxy:=fnA Tryz.func3 rfl qxc .z s0
end Go.Proofs.YtclbndfjhjladaaGreat
