/-
  The functions compute what their models say. Made by program (mg3.py) out of the translation.
-/
import Derived.Test.YtclbndfjhjladaaZ3Md
import Derived.Test.YtclbndfjhjladaaZ3Tt
set_option linter.all false
set_option maxRecDepth 100000
namespace Go.Proofs.Ytclbndfjhjladaa
open Go.K Go.M
def q17q:Shp:=⟨[(0,.d true Trans.ty)],[.arr 0 (.fz true) [] qT0,.arr 0 (.fz true) [] qT0]⟩
noncomputable abbrev q1fu:Ctx ((Trans×qL1×qL1)):=⟨11,tt,false,false,[false,false],gam [],lam [],resU 11 tt [false,false] [.cell 6 36] q17q (fun x=>(x.1.1,x.2.1,x.2.2.1))⟩
theorem q1fx:CtxM Try.prog q1fu:=mkG fits mixed m0
noncomputable abbrev q1an:Mdl:=(mdlOf (.cons (.d false .str) (.cons (.own 0) (.cons (.own 1) .nil))) [.arr 3 (.fz true) [0] qT0,.arr 3 (.fz true) [0] qT0] [false,false] 1 q17q (B:=(Trans×qL1×qL1)) (fun b=>((b.1,()),(b.2.1,b.2.2,()))) (fun a=>qfg a.1.1 a.2.1 a.2.2.1))
theorem q1d7:MdlOK Try.prog 14 q1an:=fnA Try.func14 rfl q1fx .z s0
def q10b:Shp:=⟨[(0,.d true .bool)],[]⟩
noncomputable abbrev q1bn:Ctx (Bool):=⟨17,tt,false,false,[],gam [],lam [],resU 17 tt [] [.tmp 2] q10b (fun x=>x.1.1)⟩
theorem q1cz:CtxM Try.prog q1bn:=mkG fits mixed m0
noncomputable abbrev qu6:Mdl:=(mdlOf (.cons (.d false (.int .u8)) .nil) [] [] 1 q10b (B:=Bool) (fun b=>((b,()),(()))) (fun a=>qjc a.1.1))
theorem qxo:MdlOK Try.prog 56 qu6:=fnA Try.func56 rfl q1cz .z s0
def q148:Shp:=⟨[(0,.d true .bool)],[]⟩
noncomputable abbrev q1fl:Ctx (Bool):=⟨25,tt,false,false,[],gam [(56,qu6)],lam [],resU 25 tt [] [.tmp 2] q148 (fun x=>x.1.1)⟩
theorem q1f8:CtxM Try.prog q1fl:=mkG fits mixed (mC qxo m0)
noncomputable abbrev q17x:Mdl:=(mdlOf (.cons (.d false (.int .u8)) .nil) [] [] 1 q148 (B:=Bool) (fun b=>((b,()),(()))) (fun a=>qvx a.1.1))
theorem q1ct:MdlOK Try.prog 57 q17x:=fnA Try.func57 rfl q1f8 .z s0
def qzz:Shp:=⟨[(0,.d true .bool)],[]⟩
noncomputable abbrev q11v:Ctx (Bool):=⟨29,tt,false,false,[],gam [(56,qu6),(57,q17x)],lam [q0 _ 29 [] q18v (C:=(ByteArray×Int)) (S:=Int) (fun x=>((x.1.1,x.1.2.1),x.1.2.2.1)) q18x (CE:=Unit) (E:=Unit) (fun c e=>((()),(()))) (fun c=>()) (fun {R} c a nx dn rt=>qbi c.1 c.2 a nx dn rt)],resU 29 tt [] [.tmp 2] qzz (fun x=>x.1.1)⟩
theorem q128:CtxM Try.prog q11v:=mkG fits mixed (mC qxo (mC q1ct m0))
theorem q1b3:SummOK Try.prog q11v 0 (lc 0 Try.f32 75):=lp rfl q128 .z s0 (fun c a=>((c.1,c.2,a,()),(()))) (fun y=>((),()))
noncomputable abbrev q123:Mdl:=(mdlOf (.cons (.d false .str) .nil) [] [] 1 qzz (B:=Bool) (fun b=>((b,()),(()))) (fun a=>qpp a.1.1))
theorem q19i:MdlOK Try.prog 32 q123:=fnA Try.func32 rfl q128 (.two .z (.two .z (.two (.two .z (.s 0)) .z))) (sC q1b3 s0)
def qyl:Shp:=⟨[(0,.d true .bool)],[]⟩
noncomputable abbrev q10k:Ctx (Bool):=⟨36,tt,false,false,[],gam [],lam [q0 _ 36 [] q17r (C:=(qL1×qL1×Int×Int×(List Trans)×Int×Int)) (S:=Int) (fun x=>((x.1.1,x.1.2.2.1,x.1.2.2.2.1,x.2.1.1,x.2.1.2.1,x.2.1.2.2.1,x.2.1.2.2.2.1),x.1.2.2.2.2.1)) q17j (CE:=Unit) (E:=Unit) (fun c e=>((()),(()))) (fun c=>()) (fun {R} c a nx dn rt=>q5q c.1 c.2.1 c.2.2.1 c.2.2.2.1 c.2.2.2.2.1 c.2.2.2.2.2.1 c.2.2.2.2.2.2 a nx dn rt)],resU 36 tt [] [.tmp 4] qyl (fun x=>x.1.1)⟩
theorem q10j:CtxM Try.prog q10k:=mkG fits mixed m0
theorem q18m:SummOK Try.prog q10k 0 (lc 0 Try.f33 37):=lp rfl q10j .z s0 (fun c a=>((c.1,(),c.2.1,c.2.2.1,a,()),((c.2.2.2.1,c.2.2.2.2.1,c.2.2.2.2.2.1,c.2.2.2.2.2.2,()),()))) (fun y=>((),()))
noncomputable abbrev qzr:Mdl:=(mdlOf (.cons (.d false Net.ty) (.cons (.d false qT1) .nil)) [] [] 1 qyl (B:=Bool) (fun b=>((b,()),(()))) (fun a=>q43 a.1.1 a.1.2.1))
theorem q178:MdlOK Try.prog 33 qzr:=fnA Try.func33 rfl q10j (.two .z (.two (.two .z (.s 0)) .z)) (sC q18m s0)
def q101:Shp:=⟨[(0,.d true .bool)],[]⟩
noncomputable abbrev q11c:Ctx (Bool):=⟨62,tt,false,false,[],gam [(32,q123),(33,qzr)],lam [q0 _ 62 [] q19c (C:=((List Trans)×Int×Int×(List Trans)×Int×Int)) (S:=Int) (fun x=>((x.1.2.1,x.1.2.2.1,x.2.1.1,x.2.1.2.1,x.2.1.2.2.1,x.2.1.2.2.2.1),x.1.2.2.2.1)) q19f (CE:=(Int×(List Trans)×Int×Int)) (E:=Unit) (fun c e=>(((),()),((c.1,c.2.1,c.2.2.1,c.2.2.2,()),()))) (fun c=>(c.2.2.1,c.2.2.2.1,c.2.2.2.2.1,c.2.2.2.2.2)) (fun {R} c a nx dn rt=>qh3 c.1 c.2.1 c.2.2.1 c.2.2.2.1 c.2.2.2.2.1 c.2.2.2.2.2 a nx dn rt)],resU 62 tt [] [.tmp 2] q101 (fun x=>x.1.1)⟩
theorem q118:CtxM Try.prog q11c:=mkG fits mixed (mC q19i (mC q178 m0))
theorem q1b7:SummOK Try.prog q11c 0 (lc 0 Try.f20 75):=lp rfl q118 .z s0 (fun c a=>(((),c.1,c.2.1,a,()),((c.2.2.1,c.2.2.2.1,c.2.2.2.2.1,c.2.2.2.2.2,()),()))) (fun y=>((y.2.1.1,y.2.1.2.1,y.2.1.2.2.1,y.2.1.2.2.2.1),()))
noncomputable abbrev q31:Mdl:=(mdlOf (.cons (.d false Net.ty) .nil) [] [] 1 q101 (B:=Bool) (fun b=>((b,()),(()))) (fun a=>q2i a.1.1))
theorem q2l:MdlOK Try.prog 20 q31:=fnA Try.func20 rfl q118 (.two .z (.two .z (.two (.two .z (.s 0)) .z))) (sC q1b7 s0)
def qhn:Shp:=⟨[(0,.ptr 0)],[.cs 64 2 1 (.cons (.d true qT0) (.cons (.own 1) .nil)),.arr 3 (.fz true) [0] qT0]⟩
noncomputable abbrev qil:Ctx ((Int×qL1)):=⟨33,tt,false,false,[],gam [],lam [q0 _ 33 [] qt5 (C:=(Int×Int)) (S:=(Int×qL1)) (fun x=>((x.1.2.1,x.2.1.1),(x.1.2.2.1,x.2.2.1))) qtf (CE:=Int) (E:=qL1) (fun c e=>(((),()),((c,(),()),e,()))) (fun c=>c.2) (fun {R} c a nx dn rt=>q4c c.1 c.2 a.1 a.2 nx dn rt)],resU 33 tt [] [.tmp 2] qhn (fun x=>(x.2.1.1,x.2.2.1))⟩
theorem qj9:CtxM Try.prog qil:=mkG fits mixed m0
theorem qv0:SummOK Try.prog qil 0 (lc 0 Try.f34 75):=lp rfl qj9 .z s0 (fun c a=>(((),c.1,a.1,()),((c.2,(),()),a.2,()))) (fun y=>(y.2.1.1,y.2.2.1))
noncomputable abbrev qa5:Mdl:=(mdlOf (.cons (.d false Net.ty) .nil) [] [] 1 qhn (B:=(Int×qL1)) (fun b=>(((),()),((b.1,(),()),b.2,()))) (fun a=>q3q a.1.1))
theorem qgd:MdlOK Try.prog 34 qa5:=fnA Try.func34 rfl qj9 (.two .z (.two (.d [0,1,0,4,0,16,48,124,252,511,1023,2047] [] []) (.two (.two .z (.s 0)) .z))) (sC qv0 s0)
def qee:Shp:=⟨[(0,.d true qT0)],[.cs 64 2 1 (.cons (.d true qT0) (.cons (.own 1) .nil)),.arr 3 (.fz true) [0] qT0]⟩
noncomputable abbrev qgf:Ctx ((Int×Int×qL1)):=⟨41,tt,false,false,[true,true],gam [],lam [q0 _ 41 [true,true] qqs (C:=Int) (S:=(Int×qL1)) (fun x=>(x.2.1.1,(x.1.2.1,x.2.2.1))) qr4 (CE:=Int) (E:=(Int×qL1)) (fun c e=>((e.1,()),((c,(),()),e.2,()))) (fun c=>c) (fun {R} c a nx dn rt=>q3g c a.1 a.2 nx dn rt)],resU 41 tt [true,true] [.tmp 4] qee (fun x=>(x.1.1,x.2.1.1,x.2.2.1))⟩
theorem qga:CtxM Try.prog qgf:=mkG fits mixed m0
theorem qs7:SummOK Try.prog qgf 0 (lc 0 Try.f36 17):=lp rfl qga (.two .z (.one (.two (.d [0,1,3,7,0,0,32,96,224,0,512,1536,3584,0,15872,32256,65504,131040,262143,524287] [19] []) .z))) s0 (fun c a=>(((),a.1,()),((c,(),()),a.2,()))) (fun y=>(y.2.1.1,(y.1.1,y.2.2.1)))
noncomputable abbrev q46:Mdl:=(mdlOf (.cons (.ptr 0) (.cons (.d false qT0) .nil)) [.cs 64 2 1 (.cons (.d false qT0) (.cons (.own 1) .nil)),.arr 3 (.fz true) [0] qT0] [true,true] 1 qee (B:=(Int×Int×qL1)) (fun b=>((b.1,()),((b.2.1,(),()),b.2.2,()))) (fun a=>q19 a.1.2.1 a.2.1.1 a.2.2.1))
theorem q6b:MdlOK Try.prog 36 q46:=fnA Try.func36 rfl qga (.two .z (.two (.s 0) .z)) (sC qs7 s0)
def qdl:Shp:=⟨[],[.cs 64 2 1 (.cons (.d true qT0) (.cons (.own 1) .nil)),.arr 3 (.fz true) [0] qT0]⟩
noncomputable abbrev qrv:Ctx ((Int×qL1)):=⟨30,tt,false,false,[true,true],gam [(36,q46)],lam [],resU 30 tt [true,true] [] qdl (fun x=>(x.2.1.1,x.2.2.1))⟩
theorem qs5:CtxM Try.prog qrv:=mkG fits mixed (mC q6b m0)
noncomputable abbrev q6t:Mdl:=(mdlOf (.cons (.ptr 0) (.cons (.d false qT0) (.cons (.d false qT0) .nil))) [.cs 64 2 1 (.cons (.d false qT0) (.cons (.own 1) .nil)),.arr 3 (.fz true) [0] qT0] [true,true] 0 qdl (B:=(Int×qL1)) (fun b=>((()),((b.1,(),()),b.2,()))) (fun a=>q1b a.1.2.1 a.1.2.2.1 a.2.1.1 a.2.2.1))
theorem qcw:MdlOK Try.prog 35 q6t:=fnA Try.func35 rfl qs5 (.two (.d [0,0,3,0,0,16,48,112,0,496,1023,2047,4095] [2,10,11,12] []) .z) s0
def qkw:Shp:=⟨[(0,.nl false (.own 0))],[.arr 34 .own [3,3] St8.ty]⟩
noncomputable abbrev q4k:Ctx ((List St8)):=⟨99,tt,false,false,[],gam [(34,qa5),(35,q6t),(36,q46)],lam [q0 _ 99 [] qwi (C:=(Int×(List Trans)×Int×Int×qL1×Int×Int×(List Trans)×Int×Int)) (S:=(Int×Int×qL1)) (fun x=>((x.1.2.2.1,x.1.2.2.2.1,x.1.2.2.2.2.1,x.1.2.2.2.2.2.1,x.1.2.2.2.2.2.2.1,x.1.2.2.2.2.2.2.2.1,x.2.1.1,x.2.1.2.1,x.2.1.2.2.1,x.2.1.2.2.2.1),(x.1.2.2.2.2.2.2.2.2.1,x.2.2.1.1,x.2.2.2.1))) qwp (CE:=((List Trans)×Int×Int×Int×(List Trans)×Int×Int)) (E:=(Int×qL1)) (fun c e=>(((),(),c.1,c.2.1,c.2.2.1,()),((c.2.2.2.1,c.2.2.2.2.1,c.2.2.2.2.2.1,c.2.2.2.2.2.2,()),(e.1,(),()),e.2,()))) (fun c=>(c.2.1,c.2.2.1,c.2.2.2.1,c.2.2.2.2.2.2.1,c.2.2.2.2.2.2.2.1,c.2.2.2.2.2.2.2.2.1,c.2.2.2.2.2.2.2.2.2)) (fun {R} c a nx dn rt=>q1l c.1 c.2.1 c.2.2.1 c.2.2.2.1 c.2.2.2.2.1 c.2.2.2.2.2.1 c.2.2.2.2.2.2.1 c.2.2.2.2.2.2.2.1 c.2.2.2.2.2.2.2.2.1 c.2.2.2.2.2.2.2.2.2 a.1 a.2.1 a.2.2 nx dn rt),
 q0 _ 99 [] qwh (C:=((List Trans)×Int×Int×(List Trans)×Int×Int)) (S:=(Int×Int×qL1)) (fun x=>((x.1.2.2.1,x.1.2.2.2.1,x.2.1.1,x.2.1.2.1,x.2.1.2.2.1,x.2.1.2.2.2.1),(x.1.2.2.2.2.1,x.2.2.1.1,x.2.2.2.1))) qwr (CE:=(Int×(List Trans)×Int×Int)) (E:=(Int×qL1)) (fun c e=>(((),(),()),((c.1,c.2.1,c.2.2.1,c.2.2.2,()),(e.1,(),()),e.2,()))) (fun c=>(c.2.2.1,c.2.2.2.1,c.2.2.2.2.1,c.2.2.2.2.2)) (fun {R} c a nx dn rt=>q58 c.1 c.2.1 c.2.2.1 c.2.2.2.1 c.2.2.2.2.1 c.2.2.2.2.2 a.1 a.2.1 a.2.2 nx dn rt),
 q2g _ 99 [] qwc (A:=(Int×Int×Int×Int×Int×(List Trans)×Int×Int×Int×(List (Int×Int))×(List St8)×qL1)) (fun x=>(x.1.2.2.2.2.1,x.1.2.2.2.2.2.1,x.1.2.2.2.2.2.2.1,x.1.2.2.2.2.2.2.2.1,x.2.1.1,x.2.1.2.1,x.2.1.2.2.1,x.2.1.2.2.2.1,x.2.2.1.1,x.2.2.2.1,x.2.2.2.2.1,x.2.2.2.2.2.1)) qw4 (CE:=(Int×Int×Int×(List Trans)×Int×Int×Int×(List (Int×Int))×qL1)) (E:=(List St8)) (fun c e=>(((),(),(),(),c.1,c.2.1,()),((c.2.2.1,c.2.2.2.1,c.2.2.2.2.1,c.2.2.2.2.2.1,()),(c.2.2.2.2.2.2.1,(),()),c.2.2.2.2.2.2.2.1,e,c.2.2.2.2.2.2.2.2,()))) (fun c=>(c.2.2.1,c.2.2.2.1,c.2.2.2.2.1,c.2.2.2.2.2.1,c.2.2.2.2.2.2.1,c.2.2.2.2.2.2.2.1,c.2.2.2.2.2.2.2.2.1,c.2.2.2.2.2.2.2.2.2.1,c.2.2.2.2.2.2.2.2.2.2.2)) (fun {R} c dn rt=>q59 c.1 c.2.1 c.2.2.1 c.2.2.2.1 c.2.2.2.2.1 c.2.2.2.2.2.1 c.2.2.2.2.2.2.1 c.2.2.2.2.2.2.2.1 c.2.2.2.2.2.2.2.2.1 c.2.2.2.2.2.2.2.2.2.1 c.2.2.2.2.2.2.2.2.2.2.1 c.2.2.2.2.2.2.2.2.2.2.2 dn rt),
 q0 _ 99 [] qw9 (C:=(Int×Int×(List Trans)×Int×Int)) (S:=(Int×Int×(List (Int×Int))×(List St8)×qL1)) (fun x=>((x.1.2.2.2.2.1,x.2.1.1,x.2.1.2.1,x.2.1.2.2.1,x.2.1.2.2.2.1),(x.1.2.2.2.2.2.1,x.2.2.1.1,x.2.2.2.1,x.2.2.2.2.1,x.2.2.2.2.2.1))) qws (CE:=Unit) (E:=(List St8)) (fun c e=>(((),()),(e,()))) (fun c=>()) (fun {R} c a nx dn rt=>q37 c.1 c.2.1 c.2.2.1 c.2.2.2.1 c.2.2.2.2 a.1 a.2.1 a.2.2.1 a.2.2.2.1 a.2.2.2.2 nx dn rt)],resU 99 tt [] [.tmp 2] qkw (fun x=>x.2.1)⟩
theorem q4h:CtxM Try.prog q4k:=mkG fits mixed (mC qgd (mC qcw (mC q6b m0)))
theorem qxs:SummOK Try.prog q4k 2 (jc Try.f21 255583):=jn rfl q4h (.two .z (.two (.d [0,0,0,0,12,28,60,0,128,508,3,2047,4095] [9,12] []) (.d [0,0,0,0,12,28,60,0,0,256,896,1920,4092,3,16383,32767] [12,15] []))) s0 (fun c=>(((),(),(),(),c.1,c.2.1,c.2.2.1,c.2.2.2.1,()),((c.2.2.2.2.1,c.2.2.2.2.2.1,c.2.2.2.2.2.2.1,c.2.2.2.2.2.2.2.1,()),(c.2.2.2.2.2.2.2.2.1,(),()),c.2.2.2.2.2.2.2.2.2.1,c.2.2.2.2.2.2.2.2.2.2.1,c.2.2.2.2.2.2.2.2.2.2.2,()))) (fun y=>((y.1.2.2.2.2.1,y.1.2.2.2.2.2.1,y.2.1.1,y.2.1.2.1,y.2.1.2.2.1,y.2.1.2.2.2.1,y.2.2.1.1,y.2.2.2.1,y.2.2.2.2.2.1),y.2.2.2.2.1))
theorem qyk:SummOK Try.prog q4k 0 (lc 2 Try.f21 19659):=lp rfl q4h .z s0 (fun c a=>(((),(),c.1,c.2.1,c.2.2.1,c.2.2.2.1,c.2.2.2.2.1,c.2.2.2.2.2.1,a.1,()),((c.2.2.2.2.2.2.1,c.2.2.2.2.2.2.2.1,c.2.2.2.2.2.2.2.2.1,c.2.2.2.2.2.2.2.2.2,()),(a.2.1,(),()),a.2.2,()))) (fun y=>((y.1.2.2.1,y.1.2.2.2.1,y.1.2.2.2.2.1,y.2.1.1,y.2.1.2.1,y.2.1.2.2.1,y.2.1.2.2.2.1),(y.2.2.1.1,y.2.2.2.1)))
theorem qxv:SummOK Try.prog q4k 3 (lc 4 Try.f21 607):=lp rfl q4h (.two .z (.two .z (.two (.one (.two .z (.two .z (.two .z (.two .z (.s 2)))))) .z))) (sC qxs s0) (fun c a=>(((),(),(),(),c.1,a.1,()),((c.2.1,c.2.2.1,c.2.2.2.1,c.2.2.2.2,()),(a.2.1,(),()),a.2.2.1,a.2.2.2.1,a.2.2.2.2,()))) (fun y=>((),y.2.1))
theorem qxn:SummOK Try.prog q4k 1 (lc 0 Try.f21 75):=lp rfl q4h (.two .z (.two .z (.two (.one (.two .z (.two .z (.s 0)))) .z))) (sC qyk s0) (fun c a=>(((),(),c.1,c.2.1,a.1,()),((c.2.2.1,c.2.2.2.1,c.2.2.2.2.1,c.2.2.2.2.2,()),(a.2.1,(),()),a.2.2,()))) (fun y=>((y.2.1.1,y.2.1.2.1,y.2.1.2.2.1,y.2.1.2.2.2.1),(y.2.2.1.1,y.2.2.2.1)))
noncomputable abbrev qd9:Mdl:=(mdlOf (.cons (.d false Net.ty) .nil) [] [] 1 qkw (B:=(List St8)) (fun b=>(((),()),(b,()))) (fun a=>q30 a.1.1))
theorem qij:MdlOK Try.prog 21 qd9:=fnA Try.func21 rfl q4h (.two .z (.two .z (.two (.two .z (.s 1)) (.two .z (.two .z (.two (.two .z (.s 3)) .z)))))) (sC qxn (sC qxv s0))
def ql9:Shp:=⟨[(0,.nl false (.own 0)),(1,.d true qT0)],[.arr 34 .own [3,3] St8.ty]⟩
noncomputable abbrev qyy:Ctx ((Int×(List St8))):=⟨9,tt,false,false,[],gam [(20,q31),(21,qd9)],lam [],resU 9 tt [] [.tmp 2,.tmp 3] ql9 (fun x=>(x.1.2.1,x.2.1))⟩
theorem qzn:CtxM Try.prog qyy:=mkG fits mixed (mC q2l (mC qij m0))
noncomputable abbrev qdc:Mdl:=(mdlOf (.cons (.d false Net.ty) .nil) [] [] 2 ql9 (B:=(Int×(List St8))) (fun b=>(((),b.1,()),(b.2,()))) (fun a=>q80 a.1.1))
theorem qj6:MdlOK Try.prog 7 qdc:=fnA Try.func7 rfl qzn .z s0
def qj4:Shp:=⟨[(0,.d true qT0)],[]⟩
noncomputable abbrev ql5:Ctx (Int):=⟨19,tt,false,false,[],gam [],lam [q0 _ 19 [] qv2 (C:=(qL1×Int×Int)) (S:=Int) (fun x=>((x.1.1,x.1.2.1,x.1.2.2.1),x.1.2.2.2.1)) quu (CE:=Unit) (E:=Unit) (fun c e=>((()),(()))) (fun c=>()) (fun {R} c a nx dn rt=>q4p c.1 c.2.1 c.2.2 a nx dn rt)],resU 19 tt [] [.tmp 4] qj4 (fun x=>x.1.1)⟩
theorem qku:CtxM Try.prog ql5:=mkG fits mixed m0
theorem qw0:SummOK Try.prog ql5 0 (lc 0 Try.f24 37):=lp rfl qku .z s0 (fun c a=>((c.1,c.2.1,c.2.2,a,()),(()))) (fun y=>((),()))
noncomputable abbrev qlb:Mdl:=(mdlOf (.cons (.d false qT1) (.cons (.d false qT0) .nil)) [] [] 1 qj4 (B:=Int) (fun b=>((b,()),(()))) (fun a=>qd8 a.1.1 a.1.2.1))
theorem qug:MdlOK Try.prog 24 qlb:=fnA Try.func24 rfl qku (.two .z (.two (.two .z (.s 0)) .z)) (sC qw0 s0)
def qec:Shp:=⟨[(0,.d true .bool)],[]⟩
noncomputable abbrev qt0:Ctx (Bool):=⟨9,tt,false,false,[],gam [(24,qlb)],lam [],resU 9 tt [] [.tmp 4] qec (fun x=>x.1.1)⟩
theorem qsn:CtxM Try.prog qt0:=mkG fits mixed (mC qug m0)
noncomputable abbrev q1a:Mdl:=(mdlOf (.cons (.d false qT1) (.cons (.d false qT0) .nil)) [] [] 1 qec (B:=Bool) (fun b=>((b,()),(()))) (fun a=>qq a.1.1 a.1.2.1))
theorem q1e:MdlOK Try.prog 11 q1a:=fnA Try.func11 rfl qsn .z s0
def qrk:Shp:=⟨[(0,.d true .bool)],[]⟩
noncomputable abbrev q16d:Ctx (Bool):=⟨8,tt,false,false,[],gam [],lam [],resU 8 tt [] [.tmp 3] qrk (fun x=>x.1.1)⟩
theorem q165:CtxM Try.prog q16d:=mkG fits mixed m0
noncomputable abbrev qti:Mdl:=(mdlOf (.cons (.d false qT0) (.cons (.rp false (.slice .bool)) .nil)) [] [] 1 qrk (B:=Bool) (fun b=>((b,()),(()))) (fun a=>qve a.1.1 a.1.2.1))
theorem q11f:MdlOK Try.prog 73 qti:=fnA Try.func73 rfl q165 .z s0
def qai:Shp:=⟨[(0,.d true qT0)],[]⟩
noncomputable abbrev qc9:Ctx (Int):=⟨19,tt,false,false,[],gam [(73,qti)],lam [q0 _ 19 [] qo4 (C:=(qL1×(List Bool)×Int)) (S:=Int) (fun x=>((x.1.1,x.1.2.1.1,x.1.2.2.1),x.1.2.2.2.1)) qmx (CE:=Unit) (E:=Unit) (fun c e=>((()),(()))) (fun c=>()) (fun {R} c a nx dn rt=>q90 c.1 c.2.1 c.2.2 a nx dn rt)],resU 19 tt [] [.tmp 4] qai (fun x=>x.1.1)⟩
theorem qck:CtxM Try.prog qc9:=mkG fits mixed (mC q11f m0)
theorem qoe:SummOK Try.prog qc9 0 (lc 0 Try.f23 37):=lp rfl qck .z s0 (fun c a=>((c.1,(c.2.1,()),c.2.2,a,()),(()))) (fun y=>((),()))
noncomputable abbrev qbo:Mdl:=(mdlOf (.cons (.d false qT1) (.cons (.fn 73 (.cons (.rp false (.slice .bool)) .nil)) .nil)) [] [] 1 qai (B:=Int) (fun b=>((b,()),(()))) (fun a=>qcu a.1.1 a.1.2.1.1))
theorem qnd:MdlOK Try.prog 23 qbo:=fnA Try.func23 rfl qck (.two .z (.two (.two .z (.s 0)) .z)) (sC qoe s0)
def q7w:Shp:=⟨[(0,.d true .bool)],[]⟩
noncomputable abbrev qlq:Ctx (Bool):=⟨9,tt,false,false,[],gam [(23,qbo)],lam [],resU 9 tt [] [.tmp 4] q7w (fun x=>x.1.1)⟩
theorem qmg:CtxM Try.prog qlq:=mkG fits mixed (mC qnd m0)
noncomputable abbrev q8i:Mdl:=(mdlOf (.cons (.d false qT1) (.cons (.fn 73 (.cons (.rp false (.slice .bool)) .nil)) .nil)) [] [] 1 q7w (B:=Bool) (fun b=>((b,()),(()))) (fun a=>q4g a.1.1 a.1.2.1.1))
theorem qik:MdlOK Try.prog 9 q8i:=fnA Try.func9 rfl qmg .z s0
def qvq:Shp:=⟨[(0,.own 0),(1,.own 1)],[.arr 4 (.fz true) [0] .bool,.arr 4 (.fz true) [0] .bool]⟩
noncomputable abbrev qh7:Ctx (((List Bool)×(List Bool))):=⟨69,tt,false,false,[],gam [(9,q8i)],lam [q0 _ 69 [] q164 (C:=(Bool×Bool×(List Trans)×Int×Int×qL1×Int×Int×(List Trans)×Int×Int×(List Bool))) (S:=(Int×(List Bool))) (fun x=>((x.1.1,x.1.2.2.2.2.1,x.1.2.2.2.2.2.1,x.1.2.2.2.2.2.2.1,x.1.2.2.2.2.2.2.2.1,x.1.2.2.2.2.2.2.2.2.1,x.1.2.2.2.2.2.2.2.2.2.1,x.2.1.1,x.2.1.2.1,x.2.1.2.2.1,x.2.1.2.2.2.1,x.2.2.2.1),(x.1.2.2.2.2.2.2.2.2.2.2.1,x.2.2.2.2.1))) q167 (CE:=(Bool×Bool×(List Trans)×Int×Int×Int×(List Trans)×Int×Int×(List Bool))) (E:=(List Bool)) (fun c e=>((c.1,(),(),(),c.2.1,c.2.2.1,c.2.2.2.1,c.2.2.2.2.1,()),((c.2.2.2.2.2.1,c.2.2.2.2.2.2.1,c.2.2.2.2.2.2.2.1,c.2.2.2.2.2.2.2.2.1,()),((),()),c.2.2.2.2.2.2.2.2.2,e,()))) (fun c=>(c.1,c.2.1,c.2.2.1,c.2.2.2.1,c.2.2.2.2.1,c.2.2.2.2.2.2.2.1,c.2.2.2.2.2.2.2.2.1,c.2.2.2.2.2.2.2.2.2.1,c.2.2.2.2.2.2.2.2.2.2.1,c.2.2.2.2.2.2.2.2.2.2.2)) (fun {R} c a nx dn rt=>qsp c.1 c.2.1 c.2.2.1 c.2.2.2.1 c.2.2.2.2.1 c.2.2.2.2.2.1 c.2.2.2.2.2.2.1 c.2.2.2.2.2.2.2.1 c.2.2.2.2.2.2.2.2.1 c.2.2.2.2.2.2.2.2.2.1 c.2.2.2.2.2.2.2.2.2.2.1 c.2.2.2.2.2.2.2.2.2.2.2 a.1 a.2 nx dn rt),
 q0 _ 69 [] q162 (C:=(Bool×(List Trans)×Int×Int×(List Trans)×Int×Int)) (S:=(Bool×Int×(List Bool)×(List Bool))) (fun x=>((x.1.1,x.1.2.2.2.2.2.1,x.1.2.2.2.2.2.2.1,x.2.1.1,x.2.1.2.1,x.2.1.2.2.1,x.2.1.2.2.2.1),(x.1.2.2.2.2.1,x.1.2.2.2.2.2.2.2.1,x.2.2.2.1,x.2.2.2.2.1))) q15h (CE:=(Bool×Int×(List Trans)×Int×Int)) (E:=(Bool×(List Bool)×(List Bool))) (fun c e=>((c.1,(),(),(),e.1,()),((c.2.1,c.2.2.1,c.2.2.2.1,c.2.2.2.2,()),((),()),e.2.1,e.2.2,()))) (fun c=>(c.1,c.2.2.2.1,c.2.2.2.2.1,c.2.2.2.2.2.1,c.2.2.2.2.2.2)) (fun {R} c a nx dn rt=>qt6 c.1 c.2.1 c.2.2.1 c.2.2.2.1 c.2.2.2.2.1 c.2.2.2.2.2.1 c.2.2.2.2.2.2 a.1 a.2.1 a.2.2.1 a.2.2.2 nx dn rt),
 q0 _ 69 [] q150 (C:=(Bool×Int×(List Trans)×Int×Int)) (S:=(Bool×(List Bool)×(List Bool))) (fun x=>((x.1.1,x.2.1.1,x.2.1.2.1,x.2.1.2.2.1,x.2.1.2.2.2.1),(x.1.2.2.2.2.1,x.2.2.2.1,x.2.2.2.2.1))) q15q (CE:=Unit) (E:=((List Bool)×(List Bool))) (fun c e=>(((),(),()),(((),()),e.1,e.2,()))) (fun c=>()) (fun {R} c a nx dn rt=>qsl c.1 c.2.1 c.2.2.1 c.2.2.2.1 c.2.2.2.2 a.1 a.2.1 a.2.2 nx dn rt)],resU 69 tt [] [.tmp 6,.tmp 7] qvq (fun x=>(x.2.1,x.2.2.1))⟩
theorem qgx:CtxM Try.prog qh7:=mkG fits mixed (mC qik m0)
theorem q16z:SummOK Try.prog qh7 0 (lc 4 Try.f58 41838231):=lp rfl qgx .z s0 (fun c a=>((c.1,(),(),(),c.2.1,c.2.2.1,c.2.2.2.1,c.2.2.2.2.1,c.2.2.2.2.2.1,c.2.2.2.2.2.2.1,a.1,()),((c.2.2.2.2.2.2.2.1,c.2.2.2.2.2.2.2.2.1,c.2.2.2.2.2.2.2.2.2.1,c.2.2.2.2.2.2.2.2.2.2.1,()),((),()),c.2.2.2.2.2.2.2.2.2.2.2,a.2,()))) (fun y=>((y.1.1,y.1.2.2.2.2.1,y.1.2.2.2.2.2.1,y.1.2.2.2.2.2.2.1,y.1.2.2.2.2.2.2.2.1,y.2.1.1,y.2.1.2.1,y.2.1.2.2.1,y.2.1.2.2.2.1,y.2.2.2.1),y.2.2.2.2.1))
theorem q16w:SummOK Try.prog qh7 1 (lc 2 Try.f58 9879):=lp rfl qgx (.two .z (.two .z (.two (.one (.two .z (.two (.d [0,1,0,4,3,31] [] []) (.two .z (.two .z (.two .z (.two .z (.s 0)))))))) .z))) (sC q16z s0) (fun c a=>((c.1,(),(),(),a.1,c.2.1,c.2.2.1,a.2.1,()),((c.2.2.2.1,c.2.2.2.2.1,c.2.2.2.2.2.1,c.2.2.2.2.2.2,()),((),()),a.2.2.1,a.2.2.2,()))) (fun y=>((y.1.1,y.2.1.1,y.2.1.2.1,y.2.1.2.2.1,y.2.1.2.2.2.1),(y.1.2.2.2.2.1,y.2.2.2.1,y.2.2.2.2.1)))
theorem q16h:SummOK Try.prog qh7 2 (lc 0 Try.f58 151):=lp rfl qgx (.two .z (.one (.two .z (.two .z (.s 1))))) (sC q16w s0) (fun c a=>((c.1,(),(),(),a.1,()),((c.2.1,c.2.2.1,c.2.2.2.1,c.2.2.2.2,()),((),()),a.2.1,a.2.2,()))) (fun y=>((),(y.2.2.1,y.2.2.2.1)))
noncomputable abbrev qxg:Mdl:=(mdlOf (.cons (.d false Net.ty) (.cons (.d false qT0) (.cons (.d false .bool) .nil))) [] [] 2 qvq (B:=((List Bool)×(List Bool))) (fun b=>(((),(),()),(b.1,b.2,()))) (fun a=>qqt a.1.1 a.1.2.1 a.1.2.2.1))
theorem q15f:MdlOK Try.prog 58 qxg:=fnA Try.func58 rfl qgx (.two .z (.two (.d [0,1,3,0,8,24,56,0,135,511] [8] []) (.two .z (.two (.two .z (.s 2)) .z)))) (sC q16h s0)
def qfb:Shp:=⟨[(0,.d true qT0)],[]⟩
noncomputable abbrev qhd:Ctx (Int):=⟨19,tt,false,false,[],gam [],lam [q0 _ 19 [] qsa (C:=((List Bool)×Bool×Int)) (S:=Int) (fun x=>((x.1.1,x.1.2.1,x.1.2.2.1),x.1.2.2.2.1)) qry (CE:=Unit) (E:=Unit) (fun c e=>((()),(()))) (fun c=>()) (fun {R} c a nx dn rt=>qef c.1 c.2.1 c.2.2 a nx dn rt)],resU 19 tt [] [.tmp 4] qfb (fun x=>x.1.1)⟩
theorem qha:CtxM Try.prog qhd:=mkG fits mixed m0
theorem qty:SummOK Try.prog qhd 0 (lc 0 Try.f74 37):=lp rfl qha .z s0 (fun c a=>((c.1,c.2.1,c.2.2,a,()),(()))) (fun y=>((),()))
noncomputable abbrev qhj:Mdl:=(mdlOf (.cons (.d false (.slice .bool)) (.cons (.d false .bool) .nil)) [] [] 1 qfb (B:=Int) (fun b=>((b,()),(()))) (fun a=>qhx a.1.1 a.1.2.1))
theorem qs4:MdlOK Try.prog 74 qhj:=fnA Try.func74 rfl qha (.two .z (.two (.two .z (.s 0)) .z)) (sC qty s0)
def qd3:Shp:=⟨[(0,.d true .bool)],[]⟩
noncomputable abbrev qr3:Ctx (Bool):=⟨9,tt,false,false,[],gam [(74,qhj)],lam [],resU 9 tt [] [.tmp 4] qd3 (fun x=>x.1.1)⟩
theorem qr5:CtxM Try.prog qr3:=mkG fits mixed (mC qs4 m0)
noncomputable abbrev qdo:Mdl:=(mdlOf (.cons (.d false (.slice .bool)) (.cons (.d false .bool) .nil)) [] [] 1 qd3 (B:=Bool) (fun b=>((b,()),(()))) (fun a=>q24 a.1.1 a.1.2.1))
theorem qpl:MdlOK Try.prog 59 qdo:=fnA Try.func59 rfl qr5 .z s0
def qtq:Shp:=⟨[(0,.d true .bool)],[]⟩
noncomputable abbrev qnb:Ctx (Bool):=⟨65,tt,false,false,[],gam [(20,q31),(11,q1a),(58,qxg),(59,qdo)],lam [q0 _ 65 [] q13k (C:=((List Trans)×Int×Int×(List Trans)×Int×Int)) (S:=Int) (fun x=>((x.1.2.1,x.1.2.2.1,x.2.1.1,x.2.1.2.1,x.2.1.2.2.1,x.2.1.2.2.2.1),x.1.2.2.2.1)) q13c (CE:=(Int×(List Trans)×Int×Int)) (E:=Unit) (fun c e=>(((),()),((c.1,c.2.1,c.2.2.1,c.2.2.2,()),()))) (fun c=>(c.2.2.1,c.2.2.2.1,c.2.2.2.2.1,c.2.2.2.2.2)) (fun {R} c a nx dn rt=>qrh c.1 c.2.1 c.2.2.1 c.2.2.2.1 c.2.2.2.2.1 c.2.2.2.2.2 a nx dn rt),
 q0 _ 65 [] q133 (C:=((List Bool)×Int×Int×(List Trans)×Int×Int)) (S:=Int) (fun x=>((x.1.2.1,x.1.2.2.1,x.2.1.1,x.2.1.2.1,x.2.1.2.2.1,x.2.1.2.2.2.1),x.1.2.2.2.1)) q13i (CE:=Unit) (E:=Unit) (fun c e=>((()),(()))) (fun c=>()) (fun {R} c a nx dn rt=>qrr c.1 c.2.1 c.2.2.1 c.2.2.2.1 c.2.2.2.2.1 c.2.2.2.2.2 a nx dn rt)],resU 65 tt [] [.tmp 2] qtq (fun x=>x.1.1)⟩
theorem qn6:CtxM Try.prog qnb:=mkG fits mixed (mC q2l (mC q1e (mC q15f (mC qpl m0))))
theorem q159:SummOK Try.prog qnb 1 (lc 2 Try.f38 151):=lp rfl qn6 .z s0 (fun c a=>(((),c.1,c.2.1,a,()),((c.2.2.1,c.2.2.2.1,c.2.2.2.2.1,c.2.2.2.2.2,()),()))) (fun y=>((),()))
theorem q161:SummOK Try.prog qnb 0 (lc 0 Try.f38 75):=lp rfl qn6 .z s0 (fun c a=>(((),c.1,c.2.1,a,()),((c.2.2.1,c.2.2.2.1,c.2.2.2.2.1,c.2.2.2.2.2,()),()))) (fun y=>((y.2.1.1,y.2.1.2.1,y.2.1.2.2.1,y.2.1.2.2.2.1),()))
noncomputable abbrev qvv:Mdl:=(mdlOf (.cons (.d false Net.ty) .nil) [] [] 1 qtq (B:=Bool) (fun b=>((b,()),(()))) (fun a=>qx8 a.1.1))
theorem q13g:MdlOK Try.prog 38 qvv:=fnA Try.func38 rfl qn6 (.two .z (.two .z (.two (.two .z (.s 0)) (.two (.two .z (.s 1)) .z)))) (sC q161 (sC q159 s0))
def qge:Shp:=⟨[(0,.own 0)],[.arr 3 (.fz true) [0] qT0]⟩
noncomputable abbrev qun:Ctx (qL1):=⟨8,tt,false,false,[],gam [],lam [],resU 8 tt [] [.tmp 2] qge (fun x=>x.2.1)⟩
theorem qum:CtxM Try.prog qun:=mkG fits mixed m0
noncomputable abbrev quy:Mdl:=(mdlOf (.cons (.nl false (.d false qT1)) .nil) [] [] 1 qge (B:=qL1) (fun b=>(((),()),(b,()))) (fun a=>qjb a.1.1))
theorem qsg:MdlOK Try.prog 39 quy:=fnA Try.func39 rfl qum .z s0
def q7o:Shp:=⟨[(0,.own 0)],[.arr 3 (.fz true) [0] qT0]⟩
noncomputable abbrev qut:Ctx (qL1):=⟨8,tt,false,false,[],gam [],lam [],resU 8 tt [] [.tmp 2] q7o (fun x=>x.2.1)⟩
theorem quq:CtxM Try.prog qut:=mkG fits mixed m0
noncomputable abbrev qv1:Mdl:=(mdlOf (.cons (.nl true (.d false qT1)) .nil) [] [] 1 q7o (B:=qL1) (fun b=>(((),()),(b,()))) (fun a=>q9l a.1.1))
theorem qrx:MdlOK Try.prog 39 qv1:=fnA Try.func39 rfl quq .z s0
noncomputable abbrev q28:Mdl:=(mdlOf (.cons (.d false qT1) .nil) [] [] 1 q7o (fun (b:qL1)=>(((),()),(b,()))) (fun (a:((qL1×Unit)×(Unit)))=>q1k a.1.1))
theorem q2q:MdlOK Try.prog 39 q28:=by
 refine q1g1 (q1j5 _ _) qsg qrx (by kernel_rfl) (fun a b h=>⟨?_,h⟩)
 obtain ⟨⟨xs,u1⟩,u2⟩:=a
 cases xs with
 | nil => exact h
 | cons x l =>
   have e:decide ((((x::l).length:Nat):Int)=0)=false:=decide_eq_false (by simp only [List.length_cons]; omega)
   simp only [q1k,q9l] at h
   simp only [qjb,e,cond_false]
   exact h
def qqf:Shp:=⟨[(0,.d true Net.ty),(1,.d true qT0)],[]⟩
noncomputable abbrev qri:Ctx ((Net×Int)):=⟨60,tt,false,false,[],gam [(20,q31),(38,qvv),(39,q28)],lam [q0 _ 60 [] q10s (C:=((List Trans)×Int×Int×(List Trans)×Int×Int×Int×(List Trans)×Int×Int×Int×Int×Int)) (S:=(Int×(List Trans))) (fun x=>((x.1.2.2.2.1,x.1.2.2.2.2.1,x.2.1.1,x.2.1.2.1,x.2.1.2.2.1,x.2.1.2.2.2.1,x.2.2.1.1,x.2.2.1.2.1,x.2.2.1.2.2.1,x.2.2.1.2.2.2.1,x.2.2.2.1.1,x.2.2.2.1.2.2.1,x.2.2.2.1.2.2.2.1),(x.1.2.2.2.2.2.1,x.2.2.2.2.1))) q10x (CE:=(Int×(List Trans)×Int×Int×Int×(List Trans)×Int×Int×Int×Int×Int)) (E:=(List Trans)) (fun c e=>(((),(),(),()),((c.1,c.2.1,c.2.2.1,c.2.2.2.1,()),(c.2.2.2.2.1,c.2.2.2.2.2.1,c.2.2.2.2.2.2.1,c.2.2.2.2.2.2.2.1,()),(c.2.2.2.2.2.2.2.2.1,(),c.2.2.2.2.2.2.2.2.2.1,c.2.2.2.2.2.2.2.2.2.2,()),e,()))) (fun c=>(c.2.2.1,c.2.2.2.1,c.2.2.2.2.1,c.2.2.2.2.2.1,c.2.2.2.2.2.2.1,c.2.2.2.2.2.2.2.1,c.2.2.2.2.2.2.2.2.1,c.2.2.2.2.2.2.2.2.2.1,c.2.2.2.2.2.2.2.2.2.2.1,c.2.2.2.2.2.2.2.2.2.2.2.1,c.2.2.2.2.2.2.2.2.2.2.2.2)) (fun {R} c a nx dn rt=>qoy c.1 c.2.1 c.2.2.1 c.2.2.2.1 c.2.2.2.2.1 c.2.2.2.2.2.1 c.2.2.2.2.2.2.1 c.2.2.2.2.2.2.2.1 c.2.2.2.2.2.2.2.2.1 c.2.2.2.2.2.2.2.2.2.1 c.2.2.2.2.2.2.2.2.2.2.1 c.2.2.2.2.2.2.2.2.2.2.2.1 c.2.2.2.2.2.2.2.2.2.2.2.2 a.1 a.2 nx dn rt)],resU 60 tt [] [.cell 2 24,.tmp 3] qqf (fun x=>(x.1.1,x.1.2.1))⟩
theorem qrj:CtxM Try.prog qri:=mkG fits mixed (mC q2l (mC q13g (mC q2q m0)))
theorem q11x:SummOK Try.prog qri 0 (lc 1 Try.f25 303):=lp rfl qrj (.two .z (.two .z (.two (.one (.two .z (.d [0,1,0,4,0,16,48,0,128,496,1020,2044,4095,8191,16383] [12,14] []))) .z))) s0 (fun c a=>(((),(),(),c.1,c.2.1,a.1,()),((c.2.2.1,c.2.2.2.1,c.2.2.2.2.1,c.2.2.2.2.2.1,()),(c.2.2.2.2.2.2.1,c.2.2.2.2.2.2.2.1,c.2.2.2.2.2.2.2.2.1,c.2.2.2.2.2.2.2.2.2.1,()),(c.2.2.2.2.2.2.2.2.2.2.1,(),c.2.2.2.2.2.2.2.2.2.2.2.1,c.2.2.2.2.2.2.2.2.2.2.2.2,()),a.2,()))) (fun y=>((y.2.1.1,y.2.1.2.1,y.2.1.2.2.1,y.2.1.2.2.2.1,y.2.2.1.1,y.2.2.1.2.1,y.2.2.1.2.2.1,y.2.2.1.2.2.2.1,y.2.2.2.1.1,y.2.2.2.1.2.2.1,y.2.2.2.1.2.2.2.1),y.2.2.2.2.1))
noncomputable abbrev qrf:Mdl:=(mdlOf (.cons (.d false Net.ty) .nil) [] [] 2 qqf (B:=(Net×Int)) (fun b=>((b.1,b.2,()),(()))) (fun a=>qtt a.1.1))
theorem q10z:MdlOK Try.prog 25 qrf:=fnA Try.func25 rfl qrj (.two .z (.two .z (.two .z (.two .z (.two (.two .z (.s 0)) .z))))) (sC q11x s0)
def ql3:Shp:=⟨[(0,.d true .bool)],[]⟩
noncomputable abbrev qzg:Ctx (Bool):=⟨8,tt,false,false,[],gam [(11,q1a)],lam [],resU 8 tt [] [.tmp 3] ql3 (fun x=>x.1.1)⟩
theorem qz5:CtxM Try.prog qzg:=mkG fits mixed (mC q1e m0)
noncomputable abbrev qnp:Mdl:=(mdlOf (.cons (.d false qT0) (.cons (.rp false Trans.ty) .nil)) [] [] 1 ql3 (B:=Bool) (fun b=>((b,()),(()))) (fun a=>q81 a.1.1 a.1.2.1))
theorem qwk:MdlOK Try.prog 37 qnp:=fnA Try.func37 rfl qz5 .z s0
def qao:Shp:=⟨[(0,.d true qT0)],[]⟩
noncomputable abbrev qcd:Ctx (Int):=⟨19,tt,false,false,[],gam [(37,qnp)],lam [q0 _ 19 [] qnk (C:=(qL1×Trans×Int)) (S:=Int) (fun x=>((x.1.1,x.1.2.1.1,x.1.2.2.1),x.1.2.2.2.1)) qms (CE:=Unit) (E:=Unit) (fun c e=>((()),(()))) (fun c=>()) (fun {R} c a nx dn rt=>q22 c.1 c.2.1 c.2.2 a nx dn rt)],resU 19 tt [] [.tmp 4] qao (fun x=>x.1.1)⟩
theorem qbp:CtxM Try.prog qcd:=mkG fits mixed (mC qwk m0)
theorem qoh:SummOK Try.prog qcd 0 (lc 0 Try.f23 37):=lp rfl qbp .z s0 (fun c a=>((c.1,(c.2.1,()),c.2.2,a,()),(()))) (fun y=>((),()))
noncomputable abbrev qch:Mdl:=(mdlOf (.cons (.d false qT1) (.cons (.fn 37 (.cons (.rp false Trans.ty) .nil)) .nil)) [] [] 1 qao (B:=Int) (fun b=>((b,()),(()))) (fun a=>q5g a.1.1 a.1.2.1.1))
theorem qns:MdlOK Try.prog 23 qch:=fnA Try.func23 rfl qbp (.two .z (.two (.two .z (.s 0)) .z)) (sC qoh s0)
def q7f:Shp:=⟨[(0,.d true .bool)],[]⟩
noncomputable abbrev qlx:Ctx (Bool):=⟨9,tt,false,false,[],gam [(23,qch)],lam [],resU 9 tt [] [.tmp 4] q7f (fun x=>x.1.1)⟩
theorem qmc:CtxM Try.prog qlx:=mkG fits mixed (mC qns m0)
noncomputable abbrev q8k:Mdl:=(mdlOf (.cons (.d false qT1) (.cons (.fn 37 (.cons (.rp false Trans.ty) .nil)) .nil)) [] [] 1 q7f (B:=Bool) (fun b=>((b,()),(()))) (fun a=>q21 a.1.1 a.1.2.1.1))
theorem qj7:MdlOK Try.prog 9 q8k:=fnA Try.func9 rfl qmc .z s0
def qid:Shp:=⟨[(0,.d true .bool)],[]⟩
noncomputable abbrev qla:Ctx (Bool):=⟨26,tt,false,false,[],gam [],lam [q0 _ 26 [] qv3 (C:=(qL1×qL1×Int)) (S:=Int) (fun x=>((x.1.1,x.1.2.1,x.1.2.2.1),x.1.2.2.2.1)) quf (CE:=Unit) (E:=Unit) (fun c e=>((()),(()))) (fun c=>()) (fun {R} c a nx dn rt=>q2p c.1 c.2.1 c.2.2 a nx dn rt)],resU 26 tt [] [.tmp 4] qid (fun x=>x.1.1)⟩
theorem qlf:CtxM Try.prog qla:=mkG fits mixed m0
theorem qwx:SummOK Try.prog qla 0 (lc 0 Try.f12 75):=lp rfl qlf (.two .z (.two .z (.two (.one (.two .z (.two (.d [0,0,3,7,0,0,48,112,255] [] []) .z))) .z))) s0 (fun c a=>((c.1,c.2.1,c.2.2,a,()),(()))) (fun y=>((),()))
noncomputable abbrev q5u:Mdl:=(mdlOf (.cons (.d false qT1) (.cons (.d false qT1) .nil)) [] [] 1 qid (B:=Bool) (fun b=>((b,()),(()))) (fun a=>q2m a.1.1 a.1.2.1))
theorem q8n:MdlOK Try.prog 12 q5u:=fnA Try.func12 rfl qlf (.two .z (.two .z (.two (.two .z (.s 0)) .z))) (sC qwx s0)
def qox:Shp:=⟨[(0,.d true .bool)],[]⟩
noncomputable abbrev qfu:Ctx (Bool):=⟨38,tt,false,false,[],gam [(9,q8k),(12,q5u)],lam [q0 _ 38 [] qzd (C:=((List Trans)×Int×Int×(List Trans)×Int×Int×(List Trans)×Int×Int×ByteArray×qL1×qL1)) (S:=Int) (fun x=>((x.1.2.2.1,x.1.2.2.2.1,x.1.2.2.2.2.1,x.1.2.2.2.2.2.1,x.1.2.2.2.2.2.2.1,x.2.1.1,x.2.1.2.1,x.2.1.2.2.1,x.2.1.2.2.2.1,x.2.2.1.1,x.2.2.1.2.1,x.2.2.1.2.2.1),x.1.2.2.2.2.2.2.2.1)) qz1 (CE:=((List Trans)×Int×Int×Int×(List Trans)×Int×Int)) (E:=Unit) (fun c e=>(((),c.1,c.2.1,c.2.2.1,()),((c.2.2.2.1,c.2.2.2.2.1,c.2.2.2.2.2.1,c.2.2.2.2.2.2,()),()))) (fun c=>(c.1,c.2.1,c.2.2.1,c.2.2.2.2.2.1,c.2.2.2.2.2.2.1,c.2.2.2.2.2.2.2.1,c.2.2.2.2.2.2.2.2.1)) (fun {R} c a nx dn rt=>q44 c.1 c.2.1 c.2.2.1 c.2.2.2.1 c.2.2.2.2.1 c.2.2.2.2.2.1 c.2.2.2.2.2.2.1 c.2.2.2.2.2.2.2.1 c.2.2.2.2.2.2.2.2.1 c.2.2.2.2.2.2.2.2.2.1 c.2.2.2.2.2.2.2.2.2.2.1 c.2.2.2.2.2.2.2.2.2.2.2 a nx dn rt),
 q0 _ 38 [] qzp (C:=((List Trans)×Int×Int×(List Trans)×Int×Int)) (S:=Int) (fun x=>((x.1.2.1,x.1.2.2.1,x.2.1.1,x.2.1.2.1,x.2.1.2.2.1,x.2.1.2.2.2.1),x.1.2.2.2.1)) qzh (CE:=Unit) (E:=Unit) (fun c e=>((()),(()))) (fun c=>()) (fun {R} c a nx dn rt=>q47 c.1 c.2.1 c.2.2.1 c.2.2.2.1 c.2.2.2.2.1 c.2.2.2.2.2 a nx dn rt)],resU 38 tt [] [.tmp 2] qox (fun x=>x.1.1)⟩
theorem qgh:CtxM Try.prog qfu:=mkG fits mixed (mC qj7 (mC q8n m0))
theorem q10m:SummOK Try.prog qfu 0 (lc 2 Try.f22 9829):=lp rfl qgh .z s0 (fun c a=>(((),(),c.1,c.2.1,c.2.2.1,c.2.2.2.1,c.2.2.2.2.1,a,()),((c.2.2.2.2.2.1,c.2.2.2.2.2.2.1,c.2.2.2.2.2.2.2.1,c.2.2.2.2.2.2.2.2.1,()),(c.2.2.2.2.2.2.2.2.2.1,c.2.2.2.2.2.2.2.2.2.2.1,c.2.2.2.2.2.2.2.2.2.2.2,()),()))) (fun y=>((y.1.2.1,y.1.2.2.1,y.1.2.2.2.1,y.2.1.1,y.2.1.2.1,y.2.1.2.2.1,y.2.1.2.2.2.1),()))
theorem q10p:SummOK Try.prog qfu 1 (lc 0 Try.f22 37):=lp rfl qgh (.two .z (.two .z (.two (.one (.two .z (.two .z (.s 0)))) .z))) (sC q10m s0) (fun c a=>(((),c.1,c.2.1,a,()),((c.2.2.1,c.2.2.2.1,c.2.2.2.2.1,c.2.2.2.2.2,()),()))) (fun y=>((),()))
noncomputable abbrev q8u:Mdl:=(mdlOf (.cons (.d false Net.ty) .nil) [] [] 1 qox (B:=Bool) (fun b=>((b,()),(()))) (fun a=>q2t a.1.1))
theorem qdd:MdlOK Try.prog 22 q8u:=fnA Try.func22 rfl qgh (.two .z (.two (.two .z (.s 1)) .z)) (sC q10p s0)
def ql7:Shp:=⟨[(0,.own 0)],[.arr 3 (.fz true) [0] qT0]⟩
noncomputable abbrev qyw:Ctx (qL1):=⟨27,tt,false,false,[],gam [],lam [],resU 27 tt [] [.tmp 4] ql7 (fun x=>x.2.1)⟩
theorem qyq:CtxM Try.prog qyw:=mkG fits mixed m0
noncomputable abbrev qn7:Mdl:=(mdlOf (.cons (.e) (.cons (.d false qT0) .nil)) [] [] 1 ql7 (B:=qL1) (fun b=>(((),()),(b,()))) (fun a=>qp2 a.1.2.1))
theorem qwy:MdlOK Try.prog 75 qn7:=fnA Try.func75 rfl qyq .z s0
def qhk:Shp:=⟨[(0,.own 0)],[.arr 3 (.fz true) [0] qT0]⟩
noncomputable abbrev qa3:Ctx (qL1):=⟨36,tt,false,false,[],gam [(75,qn7)],lam [q0 _ 36 [] qtm (C:=(qL2×qL2×Int)) (S:=(Int×Int)) (fun x=>((x.1.1,x.1.2.2.1,x.1.2.2.2.1),(x.1.2.1,x.1.2.2.2.2.1))) qt4 (CE:=qL2) (E:=Int) (fun c e=>((c,e,()),(()))) (fun c=>c.1) (fun {R} c a nx dn rt=>qg9 c.1 c.2.1 c.2.2 a.1 a.2 nx dn rt),
 q0 _ 36 [] qu7 (C:=(qL2×Int)) (S:=(Int×qL1)) (fun x=>((x.1.2.1,x.1.2.2.1),(x.1.2.2.2.1,x.2.1))) qtc (CE:=Unit) (E:=qL1) (fun c e=>(((),()),(e,()))) (fun c=>()) (fun {R} c a nx dn rt=>qg1 c.1 c.2 a.1 a.2 nx dn rt)],resU 36 tt [] [.tmp 2] qhk (fun x=>x.2.1)⟩
theorem qa2:CtxM Try.prog qa3:=mkG fits mixed (mC qwy m0)
theorem qul:SummOK Try.prog qa3 1 (lc 2 Try.f60 303):=lp rfl qa2 .z s0 (fun c a=>(((),c.1,c.2,a.1,()),(a.2,()))) (fun y=>((),y.2.1))
theorem qux:SummOK Try.prog qa3 0 (lc 0 Try.f60 75):=lp rfl qa2 .z s0 (fun c a=>((c.1,a.1,c.2.1,c.2.2,a.2,()),(()))) (fun y=>(y.1.1,y.1.2.1))
noncomputable abbrev qie:Mdl:=(mdlOf (.cons (.d false qT2) .nil) [] [] 1 qhk (B:=qL1) (fun b=>(((),()),(b,()))) (fun a=>qkt a.1.1))
theorem qst:MdlOK Try.prog 60 qie:=fnA Try.func60 rfl qa2 (.two .z (.two .z (.two (.two .z (.s 0)) (.two .z (.two (.two .z (.s 1)) .z))))) (sC qux (sC qul s0))
def qiq:Shp:=⟨[(0,.d true .bool)],[]⟩
noncomputable abbrev q60:Ctx (Bool):=⟨55,tt,false,false,[],gam [(34,qa5),(60,qie),(35,q6t),(36,q46)],lam [q0 _ 55 [] qui (C:=(Int×(List Trans)×Int×Int×qL1×Int)) (S:=(Int×Int×qL1)) (fun x=>((x.1.2.1,x.1.2.2.1,x.1.2.2.2.1,x.1.2.2.2.2.1,x.1.2.2.2.2.2.1,x.1.2.2.2.2.2.2.1),(x.1.2.2.2.2.2.2.2.1,x.2.1.1,x.2.2.1))) qup (CE:=((List Trans)×Int×Int)) (E:=(Int×qL1)) (fun c e=>(((),c.1,c.2.1,c.2.2,()),((e.1,(),()),e.2,()))) (fun c=>(c.2.1,c.2.2.1,c.2.2.2.1)) (fun {R} c a nx dn rt=>qhl c.1 c.2.1 c.2.2.1 c.2.2.2.1 c.2.2.2.2.1 c.2.2.2.2.2 a.1 a.2.1 a.2.2 nx dn rt),
 q0 _ 55 [] quz (C:=((List Trans)×Int)) (S:=(Int×Int×qL1)) (fun x=>((x.1.2.1,x.1.2.2.1),(x.1.2.2.2.1,x.2.1.1,x.2.2.1))) quv (CE:=Unit) (E:=(Int×qL1)) (fun c e=>(((),()),((e.1,(),()),e.2,()))) (fun c=>()) (fun {R} c a nx dn rt=>qho c.1 c.2 a.1 a.2.1 a.2.2 nx dn rt),
 q0 _ 55 [] qur (C:=Int) (S:=(Int×Int×qL1)) (fun x=>(x.1.2.1,(x.1.2.2.1,x.2.1.1,x.2.2.1))) quj (CE:=Unit) (E:=Unit) (fun c e=>((()),(()))) (fun c=>()) (fun {R} c a nx dn rt=>qhq c a.1 a.2.1 a.2.2 nx dn rt)],resU 55 tt [] [.tmp 2] qiq (fun x=>x.1.1)⟩
theorem q5w:CtxM Try.prog q60:=mkG fits mixed (mC qgd (mC qst (mC qcw (mC q6b m0))))
theorem qx0:SummOK Try.prog q60 0 (lc 2 Try.f40 39319):=lp rfl q5w .z s0 (fun c a=>(((),c.1,c.2.1,c.2.2.1,c.2.2.2.1,c.2.2.2.2.1,c.2.2.2.2.2,a.1,()),((a.2.1,(),()),a.2.2,()))) (fun y=>((y.1.2.1,y.1.2.2.1,y.1.2.2.2.1),(y.2.1.1,y.2.2.1)))
theorem qwb:SummOK Try.prog q60 2 (lc 4 Try.f40 303):=lp rfl q5w .z s0 (fun c a=>(((),c,a.1,()),((a.2.1,(),()),a.2.2,()))) (fun y=>((),()))
theorem qwg:SummOK Try.prog q60 1 (lc 0 Try.f40 151):=lp rfl q5w (.two .z (.two .z (.two (.one (.two .z (.two .z (.s 0)))) .z))) (sC qx0 s0) (fun c a=>(((),c.1,c.2,a.1,()),((a.2.1,(),()),a.2.2,()))) (fun y=>((),(y.2.1.1,y.2.2.1)))
noncomputable abbrev ql2:Mdl:=(mdlOf (.cons (.d false Net.ty) .nil) [] [] 1 qiq (B:=Bool) (fun b=>((b,()),(()))) (fun a=>qnt a.1.1))
theorem quc:MdlOK Try.prog 40 ql2:=fnA Try.func40 rfl q5w (.two .z (.two .z (.two .z (.two (.two .z (.s 1)) (.two (.two .z (.s 2)) .z))))) (sC qwg (sC qwb s0))
def q126:Shp:=⟨[(0,.d true .bool)],[]⟩
noncomputable abbrev q1du:Ctx (Bool):=⟨12,tt,false,false,[],gam [],lam [],resU 12 tt [] [.tmp 2] q126 (fun x=>x.1.1)⟩
theorem q1d6:CtxM Try.prog q1du:=mkG fits mixed m0
noncomputable abbrev qwu:Mdl:=(mdlOf (.cons (.d false Net.ty) .nil) [] [] 1 q126 (B:=Bool) (fun b=>((b,()),(()))) (fun a=>qze a.1.1))
theorem q100:MdlOK Try.prog 61 qwu:=fnA Try.func61 rfl q1d6 .z s0
def q10i:Shp:=⟨[(0,.d true qT0)],[]⟩
noncomputable abbrev q1br:Ctx (Int):=⟨27,tt,false,false,[],gam [(11,q1a)],lam [],resU 27 tt [] [.tmp 4] q10i (fun x=>x.1.1)⟩
theorem q1c2:CtxM Try.prog q1br:=mkG fits mixed (mC q1e m0)
noncomputable abbrev qtx:Mdl:=(mdlOf (.cons (.d false Trans.ty) (.cons (.d false qT0) .nil)) [] [] 1 q10i (B:=Int) (fun b=>((b,()),(()))) (fun a=>qw6 a.1.1 a.1.2.1))
theorem qx9:MdlOK Try.prog 62 qtx:=fnA Try.func62 rfl q1c2 (.two .z (.two (.d [0,1,0,7,0,16,0,127,255,511] [] []) .z)) s0
def q17z:Shp:=⟨[(0,.d true qT0)],[]⟩
noncomputable abbrev q116:Ctx (Int):=⟨24,tt,false,false,[],gam [],lam [q0 _ 24 [] q1dv (C:=(qL1×Int×Int)) (S:=(Int×Int)) (fun x=>((x.1.2.2.1,x.1.2.2.2.1,x.1.2.2.2.2.1),(x.1.1,x.1.2.1))) q1df (CE:=(qL1×Int×Int)) (E:=Int) (fun c e=>((e,c.1,c.2.1,c.2.2,()),(()))) (fun c=>(c.1,c.2.1,c.2.2)) (fun {R} c a nx dn rt=>q14g c.1 c.2.1 c.2.2 a.1 a.2 nx dn rt),
 q0 _ 24 [] q1dl (C:=(qL1×Int)) (S:=(Int×Int)) (fun x=>((x.1.2.1,x.1.2.2.1),(x.1.1,x.1.2.2.2.1))) q1dn (CE:=Unit) (E:=Int) (fun c e=>((e,()),(()))) (fun c=>()) (fun {R} c a nx dn rt=>q13y c.1 c.2 a.1 a.2 nx dn rt)],resU 24 tt [] [.tmp 2] q17z (fun x=>x.1.1)⟩
theorem q129:CtxM Try.prog q116:=mkG fits mixed m0
theorem q1fg:SummOK Try.prog q116 0 (lc 2 Try.f101 19659):=lp rfl q129 (.two .z (.one (.d [0,0,0,6,3,31] [] []))) s0 (fun c a=>((a.1,a.2,c.1,c.2.1,c.2.2,()),(()))) (fun y=>((y.1.2.1,y.1.2.2.1,y.1.2.2.2.1),y.1.1))
theorem q1ey:SummOK Try.prog q116 1 (lc 0 Try.f101 75):=lp rfl q129 (.two .z (.two .z (.two (.one (.two .z (.two .z (.s 0)))) .z))) (sC q1fg s0) (fun c a=>((a.1,c.1,c.2,a.2,()),(()))) (fun y=>((),y.1.1))
noncomputable abbrev q11m:Mdl:=(mdlOf (.cons (.d false qT1) .nil) [] [] 1 q17z (B:=Int) (fun b=>((b,()),(()))) (fun a=>q15a a.1.1))
theorem q140:MdlOK Try.prog 101 q11m:=fnA Try.func101 rfl q129 (.two .z (.two .z (.two (.two .z (.s 1)) .z))) (sC q1ey s0)
def q14f:Shp:=⟨[(0,.d true (.int .u64))],[]⟩
noncomputable abbrev q16x:Ctx (Int):=⟨21,tt,false,false,[],gam [],lam [q0 _ 21 [] q1cc (C:=(qL1×Int)) (S:=(Int×Int)) (fun x=>((x.1.2.1,x.1.2.2.1),(x.1.1,x.1.2.2.2.1))) q1d3 (CE:=Unit) (E:=Int) (fun c e=>((e,()),(()))) (fun c=>()) (fun {R} c a nx dn rt=>q11o c.1 c.2 a.1 a.2 nx dn rt)],resU 21 tt [] [.tmp 2] q14f (fun x=>x.1.1)⟩
theorem q16u:CtxM Try.prog q16x:=mkG fits mixed m0
theorem q1dd:SummOK Try.prog q16x 0 (lc 0 Try.f102 75):=lp rfl q16u .z s0 (fun c a=>((a.1,c.1,c.2,a.2,()),(()))) (fun y=>((),y.1.1))
noncomputable abbrev qzk:Mdl:=(mdlOf (.cons (.d false qT1) .nil) [] [] 1 q14f (B:=Int) (fun b=>((b,()),(()))) (fun a=>qgm a.1.1))
theorem q120:MdlOK Try.prog 102 qzk:=fnA Try.func102 rfl q16u (.two .z (.two .z (.two (.two .z (.s 0)) .z))) (sC q1dd s0)
def qvb:Shp:=⟨[],[.cs 101 2 1 (.cons (.own 1) (.cons (.own 2) .nil)),.arr 33 (.fz true) [3] qT1,.arr 33 (.fz true) [3] qT1]⟩
noncomputable abbrev qp5:Ctx ((qL2×qL2)):=⟨116,tt,false,false,[true,false,false],gam [(39,q28),(101,q11m),(102,qzk)],lam [q0 _ 116 [true,false,false] q15o (C:=(qL1×qL1×Int×Int×qL2×qL2)) (S:=Int) (fun x=>((x.1.2.1,x.1.2.2.1,x.1.2.2.2.1,x.1.2.2.2.2.2.1,x.2.2.1,x.2.2.2.1),x.1.2.2.2.2.2.2.1)) q16e (CE:=(qL1×qL1×Int×qL2×qL2)) (E:=Unit) (fun c e=>(((),c.1,c.2.1,c.2.2.1,()),(((),(),()),c.2.2.2.1,c.2.2.2.2,()))) (fun c=>(c.1,c.2.1,c.2.2.1,c.2.2.2.2.2,c.2.2.2.2.1)) (fun {R} c a nx dn rt=>qsr c.1 c.2.1 c.2.2.1 c.2.2.2.1 c.2.2.2.2.1 c.2.2.2.2.2 a nx dn rt),
 q0 _ 116 [true,false,false] q153 (C:=(qL1×qL1×Int×qL2×Int×qL2×qL2)) (S:=(Int×qL2×qL2)) (fun x=>((x.1.2.1,x.1.2.2.1,x.1.2.2.2.1,x.1.2.2.2.2.2.1,x.1.2.2.2.2.2.2.1,x.2.1.1,x.2.1.2.1),(x.1.2.2.2.2.2.2.2.1,x.2.2.2.1,x.2.2.2.2.1))) q15t (CE:=(qL1×qL1×qL2×qL2)) (E:=(qL2×qL2)) (fun c e=>(((),c.1,c.2.1,(),()),((c.2.2.1,c.2.2.2,()),((),(),()),e.1,e.2,()))) (fun c=>(c.1,c.2.1,c.2.2.2.2.2.1,c.2.2.2.2.2.2)) (fun {R} c a nx dn rt=>qu8 c.1 c.2.1 c.2.2.1 c.2.2.2.1 c.2.2.2.2.1 c.2.2.2.2.2.1 c.2.2.2.2.2.2 a.1 a.2.1 a.2.2 nx dn rt)],resU 116 tt [true,false,false] [] qvb (fun x=>(x.2.2.1,x.2.2.2.1))⟩
theorem qpe:CtxM Try.prog qp5:=mkG fits mixed (mC q2q (mC q140 (mC q120 m0)))
theorem q186:SummOK Try.prog qp5 1 (lc 6 Try.f93 303):=lp rfl qpe (.two .z (.two .z (.two (.one (.two .z (.two .z (.two (.d [0,1,0,4,12,28,0,124,252,508,1023,0,2048,0,8192,32767,8191,131071,262143,524287] [10,15,17,19] []) .z)))) .z))) s0 (fun c a=>(((),c.1,c.2.1,c.2.2.1,(),c.2.2.2.1,c.2.2.2.2.1,a.1,()),((c.2.2.2.2.2.1,c.2.2.2.2.2.2,()),((),(),()),a.2.1,a.2.2,()))) (fun y=>((y.1.2.1,y.1.2.2.1,y.2.1.1,y.2.1.2.1),(y.2.2.2.1,y.2.2.2.2.1)))
theorem q17d:SummOK Try.prog qp5 0 (lc 4 Try.f93 75):=lp rfl qpe .z s0 (fun c a=>(((),c.1,c.2.1,c.2.2.1,(),c.2.2.2.1,a,()),(((),(),()),c.2.2.2.2.1,c.2.2.2.2.2,()))) (fun y=>((y.1.2.1,y.1.2.2.1,y.1.2.2.2.1,y.2.2.1,y.2.2.2.1),()))
noncomputable abbrev qy1:Mdl:=(mdlOf (.cons (.ptr 0) (.cons (.d true qT1) (.cons (.d true qT1) .nil))) [.cs 101 2 1 (.cons (.own 1) (.cons (.own 2) .nil)),.arr 33 (.fz true) [3] qT1,.arr 33 (.fz true) [3] qT1] [true,false,false] 0 qvb (B:=(qL2×qL2)) (fun b=>((()),(((),(),()),b.1,b.2,()))) (fun a=>q10f a.1.2.1 a.1.2.2.1 a.2.2.1 a.2.2.2.1))
theorem q16b:MdlOK Try.prog 93 qy1:=fnA Try.func93 rfl qpe (.two .z (.two .z (.two (.two .z (.s 0)) (.two .z (.two (.two .z (.s 1)) (.d [0,0,0,4,0,16,60,0,128,0,512,2044,4093,8189,16381,32767,65535,131071] [6,11,14,17] [])))))) (sC q17d (sC q186 s0))
def q16k:Shp:=⟨[(0,.own 0)],[.arr 3 (.fz true) [0] qT0]⟩
noncomputable abbrev q1ac:Ctx (qL1):=⟨37,tt,false,false,[],gam [],lam [q0 _ 37 [] q1dq (C:=(Int×qL1×Int×qL1×Int)) (S:=(Int×qL1)) (fun x=>((x.1.1,x.1.2.1,x.1.2.2.1,x.1.2.2.2.1,x.1.2.2.2.2.2.1),(x.1.2.2.2.2.2.2.1,x.2.1))) q1de (CE:=Unit) (E:=qL1) (fun c e=>(((),()),(e,()))) (fun c=>()) (fun {R} c a nx dn rt=>q146 c.1 c.2.1 c.2.2.1 c.2.2.2.1 c.2.2.2.2 a.1 a.2 nx dn rt)],resU 37 tt [] [.tmp 8] q16k (fun x=>x.2.1)⟩
theorem q1ay:CtxM Try.prog q1ac:=mkG fits mixed m0
theorem q1ez:SummOK Try.prog q1ac 0 (lc 0 Try.f94 75):=lp rfl q1ay (.two .z (.two .z (.two (.one (.two .z (.d [0,0,0,0,0,24,56,124,0,0,0,1536,3584,7936,16380,32767,65535] [16] []))) .z))) s0 (fun c a=>((c.1,c.2.1,c.2.2.1,c.2.2.2.1,(),c.2.2.2.2,a.1,()),(a.2,()))) (fun y=>((),y.2.1))
noncomputable abbrev q1aq:Mdl:=(mdlOf (.cons (.d false qT0) (.cons (.d false qT1) (.cons (.d false qT0) (.cons (.d false qT1) .nil)))) [] [] 1 q16k (B:=qL1) (fun b=>(((),()),(b,()))) (fun a=>q14p a.1.1 a.1.2.1 a.1.2.2.1 a.1.2.2.2.1))
theorem q1di:MdlOK Try.prog 94 q1aq:=fnA Try.func94 rfl q1ay (.two .z (.two .z (.two (.two .z (.s 0)) .z))) (sC q1ez s0)
def qtp:Shp:=⟨[],[.cs 101 2 1 (.cons (.own 1) (.cons (.own 2) .nil)),.arr 33 (.fz true) [3] qT1,.arr 33 (.fz true) [3] qT1,.arr 0 (.fz true) [] qT0,.arr 0 (.fz true) [] qT0]⟩
noncomputable abbrev q61:Ctx ((qL2×qL2×qL1×qL1)):=⟨116,tt,false,false,[true,false,false,false,false],gam [(39,q28),(101,q11m),(102,qzk)],lam [q0 _ 116 [true,false,false,false,false] q137 (C:=(Int×Int×qL1×qL2×qL2)) (S:=(Int×qL1)) (fun x=>((x.1.2.2.2.1,x.1.2.2.2.2.1,x.2.2.2.1,x.2.2.2.2.1,x.2.2.2.2.2.1),(x.1.2.2.2.2.2.1,x.2.2.1))) q12z (CE:=(Int×qL1×qL2×qL2)) (E:=qL1) (fun c e=>(((),(),(),c.1,()),(((),(),()),e,c.2.1,c.2.2.1,c.2.2.2,()))) (fun c=>(c.1,c.2.2.1,c.2.2.2.1,c.2.2.2.2)) (fun {R} c a nx dn rt=>qr9 c.1 c.2.1 c.2.2.1 c.2.2.2.1 c.2.2.2.2 a.1 a.2 nx dn rt),
 q0 _ 116 [true,false,false,false,false] q13f (C:=(qL1×Int×Int×qL2×qL2)) (S:=(Int×qL1×qL1)) (fun x=>((x.1.2.1,x.1.2.2.2.1,x.1.2.2.2.2.1,x.2.2.2.1,x.2.2.2.2.1),(x.1.2.2.2.2.2.1,x.2.2.1,x.2.2.2.2.2.1))) q12t (CE:=(qL1×qL2×qL2)) (E:=(qL1×qL1)) (fun c e=>(((),c.1,(),()),(((),(),()),e.1,c.2.1,c.2.2,e.2,()))) (fun c=>(c.1,c.2.2.2.1,c.2.2.2.2)) (fun {R} c a nx dn rt=>qro c.1 c.2.1 c.2.2.1 c.2.2.2.1 c.2.2.2.2 a.1 a.2.1 a.2.2 nx dn rt),
 q0 _ 116 [true,false,false,false,false] q130 (C:=(qL1×qL1×Int×Int×qL2×qL2)) (S:=(Int×qL1×qL1)) (fun x=>((x.1.2.1,x.1.2.2.1,x.1.2.2.2.1,x.1.2.2.2.2.2.1,x.2.2.1,x.2.2.2.1),(x.1.2.2.2.2.2.2.1,x.2.2.2.2.1,x.2.2.2.2.2.1))) q12s (CE:=(qL1×qL1×Int×qL2×qL2)) (E:=(qL1×qL1)) (fun c e=>(((),c.1,c.2.1,c.2.2.1,()),(((),(),()),c.2.2.2.1,c.2.2.2.2,e.1,e.2,()))) (fun c=>(c.1,c.2.1,c.2.2.1,c.2.2.2.2.2,c.2.2.2.2.1)) (fun {R} c a nx dn rt=>qra c.1 c.2.1 c.2.2.1 c.2.2.2.1 c.2.2.2.2.1 c.2.2.2.2.2 a.1 a.2.1 a.2.2 nx dn rt),
 q0 _ 116 [true,false,false,false,false] q13p (C:=(qL1×qL1×Int×qL2×Int×qL2×qL2)) (S:=(Int×qL2×qL2×qL1)) (fun x=>((x.1.2.1,x.1.2.2.1,x.1.2.2.2.1,x.1.2.2.2.2.2.1,x.1.2.2.2.2.2.2.1,x.2.1.1,x.2.1.2.1),(x.1.2.2.2.2.2.2.2.1,x.2.2.2.1,x.2.2.2.2.1,x.2.2.2.2.2.1))) q13l (CE:=(qL1×qL1×qL2×qL2)) (E:=(qL2×qL2×qL1)) (fun c e=>(((),c.1,c.2.1,(),()),((c.2.2.1,c.2.2.2,()),((),(),()),e.1,e.2.1,e.2.2,()))) (fun c=>(c.1,c.2.1,c.2.2.2.2.2.1,c.2.2.2.2.2.2)) (fun {R} c a nx dn rt=>qre c.1 c.2.1 c.2.2.1 c.2.2.2.1 c.2.2.2.2.1 c.2.2.2.2.2.1 c.2.2.2.2.2.2 a.1 a.2.1 a.2.2.1 a.2.2.2 nx dn rt),
 q2g _ 116 [true,false,false,false,false] q13w (A:=(qL1×qL1×qL2×qL2×qL1×qL1)) (fun x=>(x.1.2.1,x.1.2.2.1,x.2.2.1,x.2.2.2.1,x.2.2.2.2.1,x.2.2.2.2.2.1)) q12x (CE:=Unit) (E:=(qL2×qL2×qL1×qL1)) (fun c e=>((()),(((),(),()),e.1,e.2.1,e.2.2.1,e.2.2.2,()))) (fun c=>()) (fun {R} c dn rt=>qrp c.1 c.2.1 c.2.2.1 c.2.2.2.1 c.2.2.2.2.1 c.2.2.2.2.2 dn rt)],resU 116 tt [true,false,false,false,false] [] qtp (fun x=>(x.2.2.1,x.2.2.2.1,x.2.2.2.2.1,x.2.2.2.2.2.1))⟩
theorem q5v:CtxM Try.prog q61:=mkG fits mixed (mC q2q (mC q140 (mC q120 m0)))
theorem q14o:SummOK Try.prog q61 0 (lc 0 Try.f93 294):=lp rfl q5v .z s0 (fun c a=>(((),(),(),c.1,c.2.1,a.1,()),(((),(),()),a.2,c.2.2.1,c.2.2.2.1,c.2.2.2.2,()))) (fun y=>((y.1.2.2.2.1,y.2.2.2.1,y.2.2.2.2.1,y.2.2.2.2.2.1),y.2.2.1))
theorem q15z:SummOK Try.prog q61 1 (lc 2 Try.f93 310):=lp rfl q5v .z s0 (fun c a=>(((),c.1,(),c.2.1,c.2.2.1,a.1,()),(((),(),()),a.2.1,c.2.2.2.1,c.2.2.2.2,a.2.2,()))) (fun y=>((y.1.2.1,y.2.2.2.1,y.2.2.2.2.1),(y.2.2.1,y.2.2.2.2.2.1)))
theorem q15s:SummOK Try.prog q61 3 (lc 6 Try.f93 303):=lp rfl q5v (.two .z (.two .z (.two (.one (.two .z (.two .z (.two (.d [0,1,0,4,12,28,0,124,252,508,1023,0,2048,0,8192,32767,8191,131071,262143,524287] [10,15,17,19] []) .z)))) .z))) s0 (fun c a=>(((),c.1,c.2.1,c.2.2.1,(),c.2.2.2.1,c.2.2.2.2.1,a.1,()),((c.2.2.2.2.2.1,c.2.2.2.2.2.2,()),((),(),()),a.2.1,a.2.2.1,a.2.2.2,()))) (fun y=>((y.1.2.1,y.1.2.2.1,y.2.1.1,y.2.1.2.1),(y.2.2.2.1,y.2.2.2.2.1,y.2.2.2.2.2.1)))
theorem q15v:SummOK Try.prog q61 2 (lc 4 Try.f93 75):=lp rfl q5v .z s0 (fun c a=>(((),c.1,c.2.1,c.2.2.1,(),c.2.2.2.1,a.1,()),(((),(),()),c.2.2.2.2.1,c.2.2.2.2.2,a.2.1,a.2.2,()))) (fun y=>((y.1.2.1,y.1.2.2.1,y.1.2.2.2.1,y.2.2.1,y.2.2.2.1),(y.2.2.2.2.1,y.2.2.2.2.2.1)))
theorem q15p:SummOK Try.prog q61 4 (jc Try.f93 3):=jn rfl q5v (.two .z (.two (.two .z (.s 2)) (.two .z (.two (.two .z (.s 3)) (.d [0,0,0,4,0,16,60,0,128,0,512,2044,4093,8189,16381,32767,65535,131071] [6,11,14,17] []))))) (sC q15v (sC q15s s0)) (fun c=>(((),c.1,c.2.1,()),(((),(),()),c.2.2.1,c.2.2.2.1,c.2.2.2.2.1,c.2.2.2.2.2,()))) (fun y=>((),(y.2.2.1,y.2.2.2.1,y.2.2.2.2.1,y.2.2.2.2.2.1)))
noncomputable abbrev qvp:Mdl:=(mdlOf (.cons (.ptr 0) (.cons (.own 1) (.cons (.own 2) .nil))) [.cs 101 2 1 (.cons (.own 3) (.cons (.own 4) .nil)),.arr 3 (.fz true) [0] qT0,.arr 3 (.fz true) [0] qT0,.arr 33 (.fz true) [3] qT1,.arr 33 (.fz true) [3] qT1] [true,false,false,false,false] 0 qtp (B:=(qL2×qL2×qL1×qL1)) (fun b=>((()),(((),(),()),b.1,b.2.1,b.2.2.1,b.2.2.2,()))) (fun a=>qxk a.2.2.1 a.2.2.2.1 a.2.2.2.2.1 a.2.2.2.2.2.1))
theorem q13q:MdlOK Try.prog 93 qvp:=fnA Try.func93 rfl q5v (.two (.two .z (.two .z (.two (.two (.two .z (.s 0)) (.two .z (.s 1))) .z))) (.s 4)) (sC q14o (sC q15z (sC q15p s0)))
def qkx:Shp:=⟨[(0,.d true .bool)],[.cs 101 2 1 (.cons (.own 1) (.cons (.own 2) .nil)),.arr 33 (.fz true) [3] qT1,.arr 33 (.fz true) [3] qT1]⟩
noncomputable abbrev q6u:Ctx ((Bool×qL2×qL2)):=⟨142,tt,false,false,[true,false,false],gam [(93,qy1),(93,qvp),(94,q1aq)],lam [q0 _ 142 [true,false,false] qw8 (C:=(Int×Int×qL2×qL2)) (S:=(Int×qL2×qL2)) (fun x=>((x.1.2.1,x.1.2.2.2.1,x.2.2.2.1,x.2.2.2.2.1),(x.1.2.2.2.2.1,x.2.2.2.2.2.1,x.2.2.2.2.2.2.1))) qwn (CE:=(Int×qL2×qL2)) (E:=(qL2×qL2)) (fun c e=>(((),c.1,(),()),(((),(),()),((),(),()),c.2.1,c.2.2,e.1,e.2,()))) (fun c=>(c.1,c.2.2.1,c.2.2.2)) (fun {R} c a nx dn rt=>qif c.1 c.2.1 c.2.2.1 c.2.2.2 a.1 a.2.1 a.2.2 nx dn rt),
 q0 _ 142 [true,false,false] qwf (C:=(Int×Int×Int×Int×Int×qL2×qL2)) (S:=(Int×qL2×qL2)) (fun x=>((x.1.2.1,x.1.2.2.2.1,x.1.2.2.2.2.1,x.1.2.2.2.2.2.1,x.1.2.2.2.2.2.2.1,x.2.2.2.1,x.2.2.2.2.1),(x.1.2.2.2.2.2.2.2.1,x.2.2.2.2.2.1,x.2.2.2.2.2.2.1))) qwd (CE:=(Int×Int×Int×qL2×qL2)) (E:=(qL2×qL2)) (fun c e=>(((),c.1,(),c.2.1,c.2.2.1,()),(((),(),()),((),(),()),c.2.2.2.1,c.2.2.2.2,e.1,e.2,()))) (fun c=>(c.1,c.2.2.1,c.2.2.2.1,c.2.2.2.2.2.1,c.2.2.2.2.2.2)) (fun {R} c a nx dn rt=>qim c.1 c.2.1 c.2.2.1 c.2.2.2.1 c.2.2.2.2.1 c.2.2.2.2.2.1 c.2.2.2.2.2.2 a.1 a.2.1 a.2.2 nx dn rt),
 q0 _ 142 [true,false,false] qwm (C:=(Int×Int×qL2×qL2)) (S:=(Int×qL2×qL2)) (fun x=>((x.1.2.1,x.1.2.2.2.1,x.2.2.2.1,x.2.2.2.2.1),(x.1.2.2.2.2.1,x.2.2.2.2.2.1,x.2.2.2.2.2.2.1))) qwt (CE:=(qL2×qL2)) (E:=(qL2×qL2)) (fun c e=>(((),(),()),(((),(),()),((),(),()),c.1,c.2,e.1,e.2,()))) (fun c=>(c.2.2.1,c.2.2.2)) (fun {R} c a nx dn rt=>qj1 c.1 c.2.1 c.2.2.1 c.2.2.2 a.1 a.2.1 a.2.2 nx dn rt)],resU 142 tt [true,false,false] [.tmp 4] qkx (fun x=>(x.1.1,x.2.2.1,x.2.2.2.1))⟩
theorem q6s:CtxM Try.prog q6u:=mkG fits mixed (mC q16b (mC q13q (mC q1di m0)))
theorem qxt:SummOK Try.prog q6u 1 (lc 4 Try.f76 39319):=lp rfl q6s (.two .z (.two .z (.two (.one (.two .z (.two (.d [0,1,3,7,0,31,63,0,255,511,0,1024,3072,7168,0,31744,64512,0,261120,523264,1023,2097151] [] []) (.two .z (.two (.d [0,0,2,0,8,24,56,0,248,504,0,0,2048,6144,14336,0,63488,129024,262142,0,524288,0,2097152,6291456,14680064,0,65011712,132120576,0,0,536870912,1610612736,3758096384,0,16642998272,33822867456,68719476734,137438953471] [37] []) .z))))) .z))) s0 (fun c a=>(((),c.1,(),c.2.1,c.2.2.1,c.2.2.2.1,c.2.2.2.2.1,a.1,()),(((),(),()),((),(),()),c.2.2.2.2.2.1,c.2.2.2.2.2.2,a.2.1,a.2.2,()))) (fun y=>((y.1.2.1,y.1.2.2.2.1,y.1.2.2.2.2.1,y.2.2.2.1,y.2.2.2.2.1),(y.2.2.2.2.2.1,y.2.2.2.2.2.2.1)))
theorem qxf:SummOK Try.prog q6u 2 (lc 2 Try.f76 151):=lp rfl q6s (.two .z (.two .z (.two (.one (.two .z (.two .z (.s 1)))) .z))) (sC qxt s0) (fun c a=>(((),c.1,(),c.2.1,a.1,()),(((),(),()),((),(),()),c.2.2.1,c.2.2.2,a.2.1,a.2.2,()))) (fun y=>((y.2.2.2.1,y.2.2.2.2.1),(y.2.2.2.2.2.1,y.2.2.2.2.2.2.1)))
theorem qxj:SummOK Try.prog q6u 0 (lc 0 Try.f76 75):=lp rfl q6s (.two .z (.two .z (.two (.one (.two .z (.two .z (.two (.d [0,0,2,6,14,0,62,126,0,256,768,1792,0,7936,16128,32767] [15] []) .z)))) .z))) s0 (fun c a=>(((),c.1,(),c.2.1,a.1,()),(((),(),()),((),(),()),c.2.2.1,c.2.2.2,a.2.1,a.2.2,()))) (fun y=>((y.1.2.1,y.2.2.2.1,y.2.2.2.2.1),(y.2.2.2.2.2.1,y.2.2.2.2.2.2.1)))
noncomputable abbrev qn3:Mdl:=(mdlOf (.cons (.ptr 0) (.cons (.d false qT0) .nil)) [.cs 101 2 1 (.cons (.own 1) (.cons (.own 2) .nil)),.arr 33 (.fz true) [3] qT1,.arr 33 (.fz true) [3] qT1] [true,false,false] 1 qkx (B:=(Bool×qL2×qL2)) (fun b=>((b.1,()),(((),(),()),b.2.1,b.2.2,()))) (fun a=>qou a.1.2.1 a.2.2.1 a.2.2.2.1))
theorem qwl:MdlOK Try.prog 76 qn3:=fnA Try.func76 rfl q6s (.two .z (.two .z (.two (.two .z (.s 0)) (.two (.two .z (.s 2)) .z)))) (sC qxj (sC qxf s0))
def q119:Shp:=⟨[(0,.d true qT0)],[]⟩
noncomputable abbrev q145:Ctx (Int):=⟨25,tt,false,false,[],gam [],lam [q2g _ 25 [] q1b1 (A:=(Int×Int)) (fun x=>(x.1.1,x.1.2.1)) q1bj (CE:=Unit) (E:=Unit) (fun c e=>((()),(()))) (fun c=>()) (fun {R} c dn rt=>qzx c.1 c.2 dn rt)],resU 25 tt [] [.tmp 2] q119 (fun x=>x.1.1)⟩
theorem q14c:CtxM Try.prog q145:=mkG fits mixed m0
theorem q1cg:SummOK Try.prog q145 0 (jc Try.f91 15):=jn rfl q14c .z s0 (fun c=>((c.1,c.2,()),(()))) (fun y=>((),()))
noncomputable abbrev q14e:Mdl:=(mdlOf (.cons (.d false (.int .u64)) .nil) [] [] 1 q119 (B:=Int) (fun b=>((b,()),(()))) (fun a=>q16f a.1.1))
theorem q1be:MdlOK Try.prog 91 q14e:=fnA Try.func91 rfl q14c (.two .z (.two .z (.two .z (.s 0)))) (sC q1cg s0)
def q175:Shp:=⟨[(0,.d true qT0)],[]⟩
noncomputable abbrev q1gv:Ctx (Int):=⟨8,tt,false,false,[],gam [(91,q14e)],lam [],resU 8 tt [] [.tmp 2] q175 (fun x=>x.1.1)⟩
theorem q1g3:CtxM Try.prog q1gv:=mkG fits mixed (mC q1be m0)
noncomputable abbrev qvz:Mdl:=(mdlOf (.cons (.d false (.int .u64)) .nil) [] [] 1 q175 (B:=Int) (fun b=>((b,()),(()))) (fun a=>qzb a.1.1))
theorem qwj:MdlOK Try.prog 71 qvz:=fnA Try.func71 rfl q1g3 .z s0
def qvi:Shp:=⟨[(0,.d true .bool)],[]⟩
noncomputable abbrev q1a3:Ctx (Bool):=⟨6,tt,false,false,[],gam [],lam [],resU 6 tt [] [.tmp 2] qvi (fun x=>x.1.1)⟩
theorem q19y:CtxM Try.prog q1a3:=mkG fits mixed m0
noncomputable abbrev qym:Mdl:=(mdlOf (.cons (.d false qT0) .nil) [] [] 1 qvi (B:=Bool) (fun b=>((b,()),(()))) (fun a=>qqu a.1.1))
theorem q15d:MdlOK Try.prog 92 qym:=fnA Try.func92 rfl q19y .z s0
def qrd:Shp:=⟨[(0,.d true qT0)],[]⟩
noncomputable abbrev q14l:Ctx (Int):=⟨20,tt,false,false,[],gam [(92,qym)],lam [],resU 20 tt [] [.tmp 4] qrd (fun x=>x.1.1)⟩
theorem q168:CtxM Try.prog q14l:=mkG fits mixed (mC q15d m0)
noncomputable abbrev qto:Mdl:=(mdlOf (.cons (.d false qT0) (.cons (.d false qT0) .nil)) [] [] 1 qrd (B:=Int) (fun b=>((b,()),(()))) (fun a=>qv7 a.1.1 a.1.2.1))
theorem q11z:MdlOK Try.prog 72 qto:=fnA Try.func72 rfl q168 .z s0
def qfn:Shp:=⟨[(0,.d true qT0)],[]⟩
noncomputable abbrev qhb:Ctx (Int):=⟨36,tt,false,false,[],gam [(72,qto)],lam [q0 _ 36 [] qsd (C:=(qL1×qL1×qL1×Int)) (S:=Int) (fun x=>((x.1.1,x.1.2.1,x.1.2.2.1,x.1.2.2.2.1),x.1.2.2.2.2.1)) qse (CE:=(qL1×qL1)) (E:=Unit) (fun c e=>((c.1,c.2,()),(()))) (fun c=>(c.1,c.2.1)) (fun {R} c a nx dn rt=>qeg c.1 c.2.1 c.2.2.1 c.2.2.2 a nx dn rt)],resU 36 tt [] [.tmp 4] qfn (fun x=>x.1.1)⟩
theorem qhc:CtxM Try.prog qhb:=mkG fits mixed (mC q11z m0)
theorem qsm:SummOK Try.prog qhb 0 (lc 0 Try.f54 37):=lp rfl qhc .z s0 (fun c a=>((c.1,c.2.1,c.2.2.1,c.2.2.2,a,()),(()))) (fun y=>((y.1.1,y.1.2.1),()))
noncomputable abbrev q12:Mdl:=(mdlOf (.cons (.d false qT1) (.cons (.d false qT1) .nil)) [] [] 1 qfn (B:=Int) (fun b=>((b,()),(()))) (fun a=>qa a.1.1 a.1.2.1))
theorem q13:MdlOK Try.prog 54 q12:=fnA Try.func54 rfl qhc (.two .z (.two (.two .z (.s 0)) .z)) (sC qsm s0)
def q5k:Shp:=⟨[],[.arr 33 (.fz true) [3] qT1]⟩
noncomputable abbrev q2o:Ctx (qL2):=⟨53,tt,false,false,[true],gam [(54,q12)],lam [q0 _ 53 [true] qet (C:=(Int×Int×Int)) (S:=(Int×qL2)) (fun x=>((x.1.2.1,x.1.2.2.1,x.1.2.2.2.2.1),(x.1.2.2.2.2.2.1,x.2.1))) qf8 (CE:=(Int×Int×Int)) (E:=qL2) (fun c e=>(((),c.1,c.2.1,(()),c.2.2,()),(e,()))) (fun c=>(c.1,c.2.1,c.2.2)) (fun {R} c a nx dn rt=>q54 c.1 c.2.1 c.2.2 a.1 a.2 nx dn rt),
 q0 _ 53 [true] qf9 (C:=(Int×Int)) (S:=(Int×qL2)) (fun x=>((x.1.2.1,x.1.2.2.1),(x.1.2.2.2.2.1,x.2.1))) qeo (CE:=Unit) (E:=qL2) (fun c e=>((()),(e,()))) (fun c=>()) (fun {R} c a nx dn rt=>q4y c.1 c.2 a.1 a.2 nx dn rt)],resU 53 tt [true] [] q5k (fun x=>x.2.1)⟩
theorem q2n:CtxM Try.prog q2o:=mkG fits mixed (mC q13 m0)
theorem qgi:SummOK Try.prog q2o 0 (lc 2 Try.f82 585):=lp rfl q2n (.two (.two (.d [0,0,3,7,15,15,15,111,239,15,15,1039,3599,7695,16383,32767,65535] [] []) .z) (.two (.one (.d [0,0,0,0,8,0,0,64,224,480,0,0,3072,7168,16355,32739,65535,131071] [15,17] [])) .z)) s0 (fun c a=>(((),c.1,c.2.1,(()),c.2.2,a.1,()),(a.2,()))) (fun y=>((y.1.2.1,y.1.2.2.1,y.1.2.2.2.2.1),y.2.1))
theorem qfq:SummOK Try.prog q2o 1 (lc 0 Try.f82 9):=lp rfl q2n (.two .z (.two (.one (.two .z (.s 0))) .z)) (sC qgi s0) (fun c a=>(((),c.1,c.2,(()),a.1,()),(a.2,()))) (fun y=>((),y.2.1))
noncomputable abbrev q5p:Mdl:=(mdlOf (.cons (.own 0) (.cons (.d false qT0) (.cons (.d false qT0) (.cons (.fn 54 .nil) .nil)))) [.arr 33 (.fz true) [3] qT1] [true] 0 q5k (B:=qL2) (fun b=>((()),(b,()))) (fun a=>q6o a.1.2.1 a.1.2.2.1 a.2.1))
theorem qeq:MdlOK Try.prog 82 q5p:=fnA Try.func82 rfl q2n (.two .z (.s 1)) (sC qfq s0)
def q83:Shp:=⟨[],[.arr 33 (.fz true) [3] qT1]⟩
noncomputable abbrev q45:Ctx (qL2):=⟨82,tt,false,false,[true],gam [(54,q12)],lam [q2g _ 82 [true] qjh (A:=(Int×Int×Int×Int×qL2)) (fun x=>(x.1.2.1,x.1.2.2.1,x.1.2.2.2.2.1,x.1.2.2.2.2.2.1,x.2.1)) qjz (CE:=(Int×Int×Int)) (E:=qL2) (fun c e=>(((),c.1,c.2.1,(()),c.2.2,()),(e,()))) (fun c=>(c.1,c.2.1,c.2.2.2.1)) (fun {R} c dn rt=>q7k c.1 c.2.1 c.2.2.1 c.2.2.2.1 c.2.2.2.2 dn rt),
 q0 _ 82 [true] qk5 (C:=(Int×Int)) (S:=(Int×qL2)) (fun x=>((x.1.2.1,x.1.2.2.1),(x.1.2.2.2.2.1,x.2.1))) qk8 (CE:=Unit) (E:=qL2) (fun c e=>((()),(e,()))) (fun c=>()) (fun {R} c a nx dn rt=>q7y c.1 c.2 a.1 a.2 nx dn rt)],resU 82 tt [true] [] q83 (fun x=>x.2.1)⟩
theorem q40:CtxM Try.prog q45:=mkG fits mixed (mC q13 m0)
theorem qlj:SummOK Try.prog q45 0 (jc Try.f96 241):=jn rfl q40 (.two (.two (.d [0,0,0,0,12,30,62,0,0,0,768,1920,3968,8191,16383,32767] [] []) .z) (.two (.d [0,0,0,6,0,0,0,96,0,0,0,1536,3840,7936,0,0,0,98304,245760,507904,1048335,2096911,4194303,8388607] [21,23] []) .z)) s0 (fun c=>(((),c.1,c.2.1,(()),c.2.2.1,c.2.2.2.1,()),(c.2.2.2.2,()))) (fun y=>((y.1.2.1,y.1.2.2.1,y.1.2.2.2.2.1),y.2.1))
theorem qmn:SummOK Try.prog q45 1 (lc 0 Try.f96 9):=lp rfl q40 (.one (.two .z (.two .z (.two (.two (.d [0,1,0,7,15,31,31,31,31,415,991,2015,31,31,31,24607,57375,127007,258079,524287,1048575,2097151] [] []) .z) (.s 0))))) (sC qlj s0) (fun c a=>(((),c.1,c.2,(()),a.1,()),(a.2,()))) (fun y=>((),y.2.1))
noncomputable abbrev q8t:Mdl:=(mdlOf (.cons (.own 0) (.cons (.d false qT0) (.cons (.d false qT0) (.cons (.d false qT0) (.cons (.fn 54 .nil) .nil))))) [.arr 33 (.fz true) [3] qT1] [true] 0 q83 (B:=qL2) (fun b=>((()),(b,()))) (fun a=>q4o a.1.2.1 a.1.2.2.1 a.1.2.2.2.1 a.2.1))
theorem qkn:MdlOK Try.prog 96 q8t:=fnA Try.func96 rfl q40 (.two .z (.s 1)) (sC qmn s0)
def q8a:Shp:=⟨[],[.arr 33 (.fz true) [3] qT1]⟩
noncomputable abbrev q4a:Ctx (qL2):=⟨60,tt,false,false,[true],gam [(96,q8t)],lam [q0 _ 60 [true] qjp (C:=(Int×Int×Int)) (S:=(Int×qL2)) (fun x=>((x.1.2.2.1,x.1.2.2.2.1,x.1.2.2.2.2.1),(x.1.2.2.2.2.2.1,x.2.1))) qk4 (CE:=(Int×Int×Int)) (E:=qL2) (fun c e=>(((),(()),c.1,c.2.1,c.2.2,()),(e,()))) (fun c=>(c.1,c.2.1,c.2.2)) (fun {R} c a nx dn rt=>q7l c.1 c.2.1 c.2.2 a.1 a.2 nx dn rt),
 q0 _ 60 [true] qjw (C:=(Int×Int)) (S:=(Int×qL2)) (fun x=>((x.1.2.2.1,x.1.2.2.2.1),(x.1.2.2.2.2.1,x.2.1))) qjq (CE:=Unit) (E:=qL2) (fun c e=>((()),(e,()))) (fun c=>()) (fun {R} c a nx dn rt=>q7u c.1 c.2 a.1 a.2 nx dn rt)],resU 60 tt [true] [] q8a (fun x=>x.2.1)⟩
theorem q4i:CtxM Try.prog q4a:=mkG fits mixed (mC qkn m0)
theorem qmh:SummOK Try.prog q4a 0 (lc 0 Try.f83 151):=lp rfl q4i .z s0 (fun c a=>(((),(()),c.1,c.2.1,c.2.2,a.1,()),(a.2,()))) (fun y=>((y.1.2.2.1,y.1.2.2.2.1,y.1.2.2.2.2.1),y.2.1))
theorem qme:SummOK Try.prog q4a 1 (lc 2 Try.f83 159):=lp rfl q4i (.two .z (.two (.one (.two (.d [0,0,0,0,0,24,0,0,0,384,960,1984,0,0,12288,28672,65475,131011,262143,524287] [17,19] []) .z)) .z)) s0 (fun c a=>(((),(()),c.1,c.2,a.1,()),(a.2,()))) (fun y=>((),y.2.1))
noncomputable abbrev q8q:Mdl:=(mdlOf (.cons (.own 0) (.cons (.d false qT0) (.cons (.d false qT0) (.cons (.fn 54 .nil) .nil)))) [.arr 33 (.fz true) [3] qT1] [true] 0 q8a (B:=qL2) (fun b=>((()),(b,()))) (fun a=>qaa a.1.2.1 a.1.2.2.1 a.2.1))
theorem qkp:MdlOK Try.prog 83 q8q:=fnA Try.func83 rfl q4i (.two .z (.two .z (.two .z (.two (.two .z (.s 0)) (.two .z (.s 1)))))) (sC qmh (sC qme s0))
def qhi:Shp:=⟨[(0,.d true (.int .u64))],[]⟩
noncomputable abbrev qwq:Ctx (Int):=⟨7,tt,false,false,[],gam [(71,qvz)],lam [],resU 7 tt [] [.tmp 2] qhi (fun x=>x.1.1)⟩
theorem qw1:CtxM Try.prog qwq:=mkG fits mixed (mC qwj m0)
noncomputable abbrev q9p:Mdl:=(mdlOf (.cons (.d false qT0) .nil) [] [] 1 qhi (B:=Int) (fun b=>((b,()),(()))) (fun a=>qbn a.1.1))
theorem qgc:MdlOK Try.prog 97 q9p:=fnA Try.func97 rfl qw1 .z s0
def qhw:Shp:=⟨[(0,.d true (.int .u64))],[.cs 115 1 1 (.cons (.d true (.int .u64)) .nil)]⟩
noncomputable abbrev qx3:Ctx ((Int×Int)):=⟨33,tt,false,false,[true],gam [],lam [],resU 33 tt [true] [.tmp 2] qhw (fun x=>(x.1.1,x.2.1.1))⟩
theorem qyd:CtxM Try.prog qx3:=mkG fits mixed m0
noncomputable abbrev qbs:Mdl:=(mdlOf (.cons (.ptr 0) .nil) [.cs 115 1 1 (.cons (.d false (.int .u64)) .nil)] [true] 1 qhw (B:=(Int×Int)) (fun b=>((b.1,()),((b.2,()),()))) (fun a=>qda a.2.1.1))
theorem qhh:MdlOK Try.prog 98 qbs:=fnA Try.func98 rfl qyd (.two .z (.two (.d [0,1,3,0,8,24,56,127,255,511] [9] []) (.two (.d [0,1,3,0,8,24,56,127,255,511] [9] []) (.two (.d [0,1,3,0,8,24,56,127,255,511] [9] []) .z)))) s0
def q5i:Shp:=⟨[],[.arr 33 (.fz true) [3] qT1]⟩
noncomputable abbrev q66:Ctx (qL2):=⟨67,tt,false,false,[true],gam [(97,q9p),(98,qbs)],lam [q0 _ 67 [true] qez (C:=(Int×Int×Int)) (S:=(Int×qL2×Int)) (fun x=>((x.1.2.1,x.1.2.2.1,x.1.2.2.2.2.1),(x.1.2.2.2.2.2.1,x.2.1,x.2.2.1.1))) qf0 (CE:=Unit) (E:=qL2) (fun c e=>((()),(e,()))) (fun c=>()) (fun {R} c a nx dn rt=>q4z c.1 c.2.1 c.2.2 a.1 a.2.1 a.2.2 nx dn rt)],resU 67 tt [true] [] q5i (fun x=>x.2.1)⟩
theorem q5r:CtxM Try.prog q66:=mkG fits mixed (mC qgc (mC qhh m0))
theorem qfk:SummOK Try.prog q66 0 (lc 0 Try.f84 315):=lp rfl q5r (.two .z (.two (.one (.two .z (.two .z (.d [0,0,0,0,0,24,0,0,0,384,960,1984,0,0,12288,28672,65475,131011,262143,524287] [17,19] [])))) .z)) s0 (fun c a=>(((),c.1,c.2.1,(),c.2.2,a.1,()),(a.2.1,(a.2.2,()),()))) (fun y=>((),y.2.1))
noncomputable abbrev q5z:Mdl:=(mdlOf (.cons (.own 0) (.cons (.d false qT0) (.cons (.d false qT0) (.cons (.fn 54 .nil) .nil)))) [.arr 33 (.fz true) [3] qT1] [true] 0 q5i (B:=qL2) (fun b=>((()),(b,()))) (fun a=>q6q a.1.2.1 a.1.2.2.1 a.2.1))
theorem qey:MdlOK Try.prog 84 q5z:=fnA Try.func84 rfl q5r (.two .z (.two .z (.two (.two .z (.two .z (.two .z (.s 0)))) .z))) (sC qfk s0)
def qad:Shp:=⟨[(0,.d true qT0),(1,.d true qT0)],[.cs 3 1 1 (.cons (.d true qT0) .nil)]⟩
noncomputable abbrev qpf:Ctx ((Int×Int×Int)):=⟨32,tt,false,false,[true],gam [(54,q12)],lam [],resU 32 tt [true] [.tmp 10,.tmp 11] qad (fun x=>(x.1.1,x.1.2.1,x.2.1.1))⟩
theorem qpd:CtxM Try.prog qpf:=mkG fits mixed (mC q13 m0)
noncomputable abbrev qbh:Mdl:=(mdlOf (.cons (.d false qT2) (.cons (.d false qT0) (.cons (.d false qT0) (.cons (.ptr 0) (.cons (.fn 54 .nil) .nil))))) [.cs 3 1 1 (.cons (.d false qT0) .nil)] [true] 2 qad (B:=(Int×Int×Int)) (fun b=>((b.1,b.2.1,()),((b.2.2,()),()))) (fun a=>q2z a.1.1 a.1.2.1 a.1.2.2.1 a.2.1.1))
theorem qn4:MdlOK Try.prog 103 qbh:=fnA Try.func103 rfl qpd (.two .z (.two (.two (.d [0,0,0,6,14,0,0,96,224,511,1023] [] []) .z) .z)) s0
def qam:Shp:=⟨[(0,.d true qT0)],[.cs 3 1 1 (.cons (.d true qT0) .nil)]⟩
noncomputable abbrev qpc:Ctx ((Int×Int)):=⟨41,tt,false,false,[true],gam [(103,qbh)],lam [],resU 41 tt [true] [.tmp 12] qam (fun x=>(x.1.1,x.2.1.1))⟩
theorem qpg:CtxM Try.prog qpc:=mkG fits mixed (mC qn4 m0)
noncomputable abbrev q4w:Mdl:=(mdlOf (.cons (.d false qT2) (.cons (.d false qT0) (.cons (.d false qT0) (.cons (.d false qT0) (.cons (.ptr 0) (.cons (.fn 54 .nil) .nil)))))) [.cs 3 1 1 (.cons (.d false qT0) .nil)] [true] 1 qam (B:=(Int×Int)) (fun b=>((b.1,()),((b.2,()),()))) (fun a=>q2w a.1.1 a.1.2.1 a.1.2.2.1 a.1.2.2.2.1 a.2.1.1))
theorem q96:MdlOK Try.prog 100 q4w:=fnA Try.func100 rfl qpg .z s0
def q56:Shp:=⟨[(0,.d true qT0)],[.cs 3 1 1 (.cons (.d true qT0) .nil)]⟩
noncomputable abbrev qfz:Ctx ((Int×Int)):=⟨18,tt,false,false,[true],gam [(100,q4w)],lam [],resU 18 tt [true] [.tmp 8] q56 (fun x=>(x.1.1,x.2.1.1))⟩
theorem qfj:CtxM Try.prog qfz:=mkG fits mixed (mC q96 m0)
noncomputable abbrev q5f:Mdl:=(mdlOf (.cons (.d false qT2) (.cons (.d false qT0) (.cons (.ptr 0) (.cons (.fn 54 .nil) .nil)))) [.cs 3 1 1 (.cons (.d false qT0) .nil)] [true] 1 q56 (B:=(Int×Int)) (fun b=>((b.1,()),((b.2,()),()))) (fun a=>q1n a.1.1 a.1.2.1 a.2.1.1))
theorem qdv:MdlOK Try.prog 99 q5f:=fnA Try.func99 rfl qfj .z s0
def q6k:Shp:=⟨[(0,.d true qT0),(1,.d true qT0)],[]⟩
noncomputable abbrev q6x:Ctx ((Int×Int)):=⟨63,tt,false,false,[],gam [(99,q5f),(100,q4w)],lam [q2g _ 63 [] qh5 (A:=(Int×Int)) (fun x=>(x.1.2.1,x.2.1.1)) qh6 (CE:=Unit) (E:=Unit) (fun c e=>((()),(()))) (fun c=>()) (fun {R} c dn rt=>q64 c.1 c.2 dn rt)],resU 63 tt [] [.tmp 8,.tmp 9] q6k (fun x=>(x.1.1,x.1.2.1))⟩
theorem q70:CtxM Try.prog q6x:=mkG fits mixed (mC qdv (mC q96 m0))
theorem qht:SummOK Try.prog q6x 0 (jc Try.f85 255):=jn rfl q70 .z s0 (fun c=>(((),c.1,()),((c.2,()),()))) (fun y=>((),()))
noncomputable abbrev q73:Mdl:=(mdlOf (.cons (.d false qT2) (.cons (.d false qT0) (.cons (.d false qT0) (.cons (.fn 54 .nil) .nil)))) [] [] 2 q6k (B:=(Int×Int)) (fun b=>((b.1,b.2,()),(()))) (fun a=>q3n a.1.1 a.1.2.1 a.1.2.2.1))
theorem qgy:MdlOK Try.prog 85 q73:=fnA Try.func85 rfl q70 (.two .z (.two .z (.two .z (.two .z (.two .z (.two .z (.two .z (.s 0)))))))) (sC qht s0)
def q63:Shp:=⟨[],[.arr 33 (.fz true) [3] qT1]⟩
noncomputable abbrev q6g:Ctx (qL2):=⟨34,tt,false,false,[true],gam [],lam [q0 _ 34 [true] qgj (C:=Unit) (S:=(Int×Int×qL2)) (fun x=>((),(x.1.2.1,x.1.2.2.1,x.2.1))) qg0 (CE:=Unit) (E:=qL2) (fun c e=>((()),(e,()))) (fun c=>()) (fun {R} c a nx dn rt=>q5h  a.1 a.2.1 a.2.2 nx dn rt)],resU 34 tt [true] [] q63 (fun x=>x.2.1)⟩
theorem q6n:CtxM Try.prog q6g:=mkG fits mixed m0
theorem qgw:SummOK Try.prog q6g 0 (lc 0 Try.f86 19):=lp rfl q6n (.two .z (.one (.two (.d [0,0,0,0,0,0,48,112,0,0,768,1792,4083,8179,16383,32767] [13,15] []) .z))) s0 (fun c a=>(((),a.1,a.2.1,()),(a.2.2,()))) (fun y=>((),y.2.1))
noncomputable abbrev q6f:Mdl:=(mdlOf (.cons (.own 0) (.cons (.d false qT0) (.cons (.d false qT0) (.cons (.fn 54 .nil) .nil)))) [.arr 33 (.fz true) [3] qT1] [true] 0 q63 (B:=qL2) (fun b=>((()),(b,()))) (fun a=>q3f a.1.2.1 a.1.2.2.1 a.2.1))
theorem qfd:MdlOK Try.prog 86 q6f:=fnA Try.func86 rfl q6n (.two .z (.two .z (.s 0))) (sC qgw s0)
def q3j:Shp:=⟨[(0,.d true .bool)],[.arr 33 (.fz true) [3] qT1]⟩
noncomputable abbrev qu:Ctx ((Bool×qL2)):=⟨141,tt,false,false,[true],gam [(54,q12)],lam [q0 _ 141 [true] q9f (C:=(Int×Int×Int×qL2)) (S:=Int) (fun x=>((x.1.2.1,x.1.2.2.1,x.1.2.2.2.2.2.1,x.2.1),x.1.2.2.2.2.1)) q9g (CE:=(Int×Int×Int×qL2)) (E:=Int) (fun c e=>(((),c.1,c.2.1,(()),e,c.2.2.1,()),(c.2.2.2,()))) (fun c=>(c.1,c.2.1,c.2.2.1,c.2.2.2)) (fun {R} c a nx dn rt=>q38 c.1 c.2.1 c.2.2.1 c.2.2.2 a nx dn rt),
 q0 _ 141 [true] q9k (C:=(Int×Int×Int×Int)) (S:=(Int×qL2)) (fun x=>((x.1.2.1,x.1.2.2.1,x.1.2.2.2.2.1,x.1.2.2.2.2.2.1),(x.1.2.2.2.2.2.2.1,x.2.1))) q9m (CE:=(Int×Int×Int×Int)) (E:=qL2) (fun c e=>(((),c.1,c.2.1,(()),c.2.2.1,c.2.2.2,()),(e,()))) (fun c=>(c.1,c.2.1,c.2.2.1,c.2.2.2)) (fun {R} c a nx dn rt=>q3a c.1 c.2.1 c.2.2.1 c.2.2.2 a.1 a.2 nx dn rt),
 q0 _ 141 [true] q9v (C:=(Int×Int×Int×Int)) (S:=(Int×qL2)) (fun x=>((x.1.2.1,x.1.2.2.1,x.1.2.2.2.2.1,x.1.2.2.2.2.2.1),(x.1.2.2.2.2.2.2.1,x.2.1))) q9w (CE:=(Int×Int×Int×Int)) (E:=qL2) (fun c e=>(((),c.1,c.2.1,(()),c.2.2.1,c.2.2.2,()),(e,()))) (fun c=>(c.1,c.2.1,c.2.2.1,c.2.2.2)) (fun {R} c a nx dn rt=>q33 c.1 c.2.1 c.2.2.1 c.2.2.2 a.1 a.2 nx dn rt),
 q2g _ 141 [true] qa1 (A:=(Int×Int×Int×Int×qL2)) (fun x=>(x.1.2.1,x.1.2.2.1,x.1.2.2.2.2.1,x.1.2.2.2.2.2.1,x.2.1)) q9o (CE:=(Int×Int×Int×Int)) (E:=qL2) (fun c e=>(((),c.1,c.2.1,(()),c.2.2.1,c.2.2.2,()),(e,()))) (fun c=>(c.1,c.2.1,c.2.2.1,c.2.2.2.1)) (fun {R} c dn rt=>q3d c.1 c.2.1 c.2.2.1 c.2.2.2.1 c.2.2.2.2 dn rt),
 q0 _ 141 [true] qa0 (C:=(Int×Int)) (S:=(Int×Int×qL2)) (fun x=>((x.1.2.1,x.1.2.2.1),(x.1.2.2.2.2.1,x.1.2.2.2.2.2.1,x.2.1))) q9t (CE:=Unit) (E:=qL2) (fun c e=>((()),(e,()))) (fun c=>()) (fun {R} c a nx dn rt=>q34 c.1 c.2 a.1 a.2.1 a.2.2 nx dn rt)],resU 141 tt [true] [.tmp 8] q3j (fun x=>(x.1.1,x.2.1))⟩
theorem qt:CtxM Try.prog qu:=mkG fits mixed (mC q13 m0)
theorem qb1:SummOK Try.prog qu 1 (lc 4 Try.f87 613963):=lp rfl qt (.two .z (.two (.one (.two (.two (.d [0,0,0,6,14,0,0,64,224,480,1023,2047,4095] [] []) .z) (.d [0,0,0,0,8,0,0,64,224,480,0,0,3072,7168,16355,32739,65535,131071] [15,17] []))) .z)) s0 (fun c a=>(((),c.1,c.2.1,(()),c.2.2.1,c.2.2.2,a.1,()),(a.2,()))) (fun y=>((y.1.2.1,y.1.2.2.1,y.1.2.2.2.2.1,y.1.2.2.2.2.2.1),y.2.1))
theorem qaz:SummOK Try.prog qu 2 (lc 6 Try.f87 622155):=lp rfl qt (.two .z (.two (.one (.two (.two (.d [0,0,0,6,14,0,0,64,224,480,1023,2047,4095] [] []) .z) (.d [0,0,0,0,8,0,0,64,224,480,0,0,3072,7168,16355,32739,65535,131071] [15,17] []))) .z)) s0 (fun c a=>(((),c.1,c.2.1,(()),c.2.2.1,c.2.2.2,a.1,()),(a.2,()))) (fun y=>((y.1.2.1,y.1.2.2.1,y.1.2.2.2.2.1,y.1.2.2.2.2.2.1),y.2.1))
theorem qaw:SummOK Try.prog qu 3 (jc Try.f87 32331):=jn rfl qt (.two .z (.two (.two .z (.s 2)) .z)) (sC qaz s0) (fun c=>(((),c.1,c.2.1,(()),c.2.2.1,c.2.2.2.1,()),(c.2.2.2.2,()))) (fun y=>((y.1.2.1,y.1.2.2.1,y.1.2.2.2.2.1,y.1.2.2.2.2.2.1),y.2.1))
theorem qbb:SummOK Try.prog qu 0 (lc 2 Try.f87 4171):=lp rfl qt (.two (.two (.d [0,0,3,7,15,15,15,111,239,15,15,1039,3599,7695,16383,32767,65535,131071] [] []) .z) .z) s0 (fun c a=>(((),c.1,c.2.1,(()),a,c.2.2.1,()),(c.2.2.2,()))) (fun y=>((y.1.2.1,y.1.2.2.1,y.1.2.2.2.2.2.1,y.2.1),y.1.2.2.2.2.1))
theorem qay:SummOK Try.prog qu 4 (lc 0 Try.f87 75):=lp rfl qt (.two .z (.two (.one (.two (.s 0) (.two .z (.two .z (.two (.d [0,0,0,0,8,0,0,64,224,480,0,0,3072,7168,16355,32739,65535,131071] [15,17] []) (.two (.two .z (.two (.two .z (.s 1)) .z)) (.s 3))))))) .z)) (sC qbb (sC qb1 (sC qaw s0))) (fun c a=>(((),c.1,c.2,(()),a.1,a.2.1,()),(a.2.2,()))) (fun y=>((),y.2.1))
noncomputable abbrev q3r:Mdl:=(mdlOf (.cons (.own 0) (.cons (.d false qT0) (.cons (.d false qT0) (.cons (.fn 54 .nil) .nil)))) [.arr 33 (.fz true) [3] qT1] [true] 1 q3j (B:=(Bool×qL2)) (fun b=>((b.1,()),(b.2,()))) (fun a=>q3w a.1.2.1 a.1.2.2.1 a.2.1))
theorem q9r:MdlOK Try.prog 87 q3r:=fnA Try.func87 rfl qt (.two .z (.two .z (.two (.two .z (.s 4)) .z))) (sC qay s0)
def q50:Shp:=⟨[(0,.d true qT0)],[.arr 33 (.fz true) [3] qT1]⟩
noncomputable abbrev q1g:Ctx ((Int×qL2)):=⟨90,tt,false,false,[true],gam [(54,q12)],lam [q0 _ 90 [true] qe7 (C:=(Int×Int×qL2)) (S:=Int) (fun x=>((x.1.2.1,x.1.2.2.2.2.1,x.2.1),x.1.2.2.2.1)) qe5 (CE:=(Int×Int×qL2)) (E:=Int) (fun c e=>(((),c.1,(()),e,c.2.1,()),(c.2.2,()))) (fun c=>(c.1,c.2.1,c.2.2)) (fun {R} c a nx dn rt=>q4r c.1 c.2.1 c.2.2 a nx dn rt),
 q0 _ 90 [true] qdy (C:=(Int×Int×qL2)) (S:=Int) (fun x=>((x.1.2.1,x.1.2.2.2.1,x.2.1),x.1.2.2.2.2.1)) qe6 (CE:=(Int×Int×qL2)) (E:=Int) (fun c e=>(((),c.1,(()),c.2.1,e,()),(c.2.2,()))) (fun c=>(c.1,c.2.1,c.2.2)) (fun {R} c a nx dn rt=>q4v c.1 c.2.1 c.2.2 a nx dn rt),
 q0 _ 90 [true] qe4 (C:=Int) (S:=(Int×Int×qL2)) (fun x=>(x.1.2.1,(x.1.2.2.2.1,x.1.2.2.2.2.1,x.2.1))) qe1 (CE:=Unit) (E:=(Int×qL2)) (fun c e=>((e.1,()),(e.2,()))) (fun c=>()) (fun {R} c a nx dn rt=>q4q c a.1 a.2.1 a.2.2 nx dn rt)],resU 90 tt [true] [.tmp 10] q50 (fun x=>(x.1.1,x.2.1))⟩
theorem q1h:CtxM Try.prog q1g:=mkG fits mixed (mC q13 m0)
theorem qek:SummOK Try.prog q1g 1 (lc 4 Try.f88 2183):=lp rfl q1h (.two (.two (.d [0,0,3,7,15,15,15,111,239,15,15,1551,3599,8191,16383,32767] [] []) .z) .z) s0 (fun c a=>(((),c.1,(()),c.2.1,a,()),(c.2.2,()))) (fun y=>((y.1.2.1,y.1.2.2.2.1,y.2.1),y.1.2.2.2.2.1))
theorem qf6:SummOK Try.prog q1g 0 (lc 2 Try.f88 1031):=lp rfl q1h (.two (.two (.d [0,0,3,7,15,15,15,111,239,15,15,1551,3599,8191,16383,32767,65535] [] []) .z) .z) s0 (fun c a=>(((),c.1,(()),a,c.2.1,()),(c.2.2,()))) (fun y=>((y.1.2.1,y.1.2.2.2.2.1,y.2.1),y.1.2.2.2.1))
theorem qev:SummOK Try.prog q1g 2 (lc 0 Try.f88 71):=lp rfl q1h (.one (.two (.s 0) (.two (.s 1) (.two .z (.two (.d [0,0,0,0,0,0,48,112,0,0,768,1792,4083,8179,16383,32767] [13,15] []) .z))))) (sC qf6 (sC qek s0)) (fun c a=>(((),c,(()),a.1,a.2.1,()),(a.2.2,()))) (fun y=>((),(y.1.1,y.2.1)))
noncomputable abbrev q5e:Mdl:=(mdlOf (.cons (.own 0) (.cons (.d false qT0) (.cons (.d false qT0) (.cons (.d false qT0) (.cons (.fn 54 .nil) .nil))))) [.arr 33 (.fz true) [3] qT1] [true] 1 q50 (B:=(Int×qL2)) (fun b=>((b.1,()),(b.2,()))) (fun a=>qi a.1.2.1 a.1.2.2.1 a.1.2.2.2.1 a.2.1))
theorem qe3:MdlOK Try.prog 88 q5e:=fnA Try.func88 rfl q1h (.two .z (.two (.d [0,0,0,0,0,0,48,112,0,0,768,1792,4083,8179,16383,32767] [13,15] []) (.two .z (.two (.s 2) .z)))) (sC qev s0)
def q7h:Shp:=⟨[(0,.d true qT0),(1,.d true .bool)],[.arr 33 (.fz true) [3] qT1]⟩
noncomputable abbrev q14:Ctx ((Int×Bool×qL2)):=⟨178,tt,false,false,[true],gam [(54,q12)],lam [q0 _ 178 [true] qj8 (C:=(Int×Int×qL2)) (S:=Int) (fun x=>((x.1.2.1,x.1.2.2.2.2.1,x.2.1),x.1.2.2.2.1)) qj0 (CE:=(Int×Int×qL2)) (E:=Int) (fun c e=>(((),c.1,(()),e,c.2.1,()),(c.2.2,()))) (fun c=>(c.1,c.2.1,c.2.2)) (fun {R} c a nx dn rt=>q6v c.1 c.2.1 c.2.2 a nx dn rt),
 q0 _ 178 [true] qi7 (C:=(Int×Int×qL2)) (S:=Int) (fun x=>((x.1.2.1,x.1.2.2.2.1,x.2.1),x.1.2.2.2.2.1)) qi6 (CE:=(Int×Int×qL2)) (E:=Int) (fun c e=>(((),c.1,(()),c.2.1,e,()),(c.2.2,()))) (fun c=>(c.1,c.2.1,c.2.2)) (fun {R} c a nx dn rt=>q79 c.1 c.2.1 c.2.2 a nx dn rt),
 q0 _ 178 [true] qic (C:=(Int×Int×qL2)) (S:=Int) (fun x=>((x.1.2.1,x.1.2.2.2.2.1,x.2.1),x.1.2.2.2.1)) qin (CE:=(Int×Int×qL2)) (E:=Int) (fun c e=>(((),c.1,(()),e,c.2.1,()),(c.2.2,()))) (fun c=>(c.1,c.2.1,c.2.2)) (fun {R} c a nx dn rt=>q74 c.1 c.2.1 c.2.2 a nx dn rt),
 q0 _ 178 [true] qj5 (C:=(Int×Int×qL2)) (S:=Int) (fun x=>((x.1.2.1,x.1.2.2.2.1,x.2.1),x.1.2.2.2.2.1)) qi0 (CE:=(Int×Int×qL2)) (E:=Int) (fun c e=>(((),c.1,(()),c.2.1,e,()),(c.2.2,()))) (fun c=>(c.1,c.2.1,c.2.2)) (fun {R} c a nx dn rt=>q72 c.1 c.2.1 c.2.2 a nx dn rt),
 q0 _ 178 [true] qii (C:=Int) (S:=(Int×Int×qL2)) (fun x=>(x.1.2.1,(x.1.2.2.2.1,x.1.2.2.2.2.1,x.2.1))) qit (CE:=Int) (E:=(Int×qL2)) (fun c e=>(((),c,e.1,()),(e.2,()))) (fun c=>c) (fun {R} c a nx dn rt=>q77 c a.1 a.2.1 a.2.2 nx dn rt)],resU 178 tt [true] [.tmp 10,.tmp 11] q7h (fun x=>(x.1.1,x.1.2.1,x.2.1))⟩
theorem q15:CtxM Try.prog q14:=mkG fits mixed (mC q13 m0)
theorem qko:SummOK Try.prog q14 3 (lc 8 Try.f89 139775):=lp rfl q15 (.two (.two (.d [0,0,3,7,15,15,15,111,239,15,15,1551,3599,8191,16383,32767,65535] [] []) .z) .z) s0 (fun c a=>(((),c.1,(()),c.2.1,a,()),(c.2.2,()))) (fun y=>((y.1.2.1,y.1.2.2.2.1,y.2.1),y.1.2.2.2.2.1))
theorem qji:SummOK Try.prog q14 2 (lc 6 Try.f89 66047):=lp rfl q15 (.two (.two (.d [0,0,3,7,15,15,15,111,239,15,15,1551,3599,8191,16383,32767] [] []) .z) .z) s0 (fun c a=>(((),c.1,(()),a,c.2.1,()),(c.2.2,()))) (fun y=>((y.1.2.1,y.1.2.2.2.2.1,y.2.1),y.1.2.2.2.1))
theorem qkl:SummOK Try.prog q14 4 (lc 4 Try.f89 4607):=lp rfl q15 (.one (.two (.s 2) (.two (.s 3) (.two .z (.two (.d [0,0,0,0,0,0,48,112,0,0,768,1792,4083,8179,16383,32767] [13,15] []) .z))))) (sC qji (sC qko s0)) (fun c a=>(((),c,(()),a.1,a.2.1,()),(a.2.2,()))) (fun y=>(y.1.2.1,(y.1.2.2.1,y.2.1)))
theorem qkm:SummOK Try.prog q14 1 (lc 2 Try.f89 143):=lp rfl q15 (.two (.two (.d [0,0,3,7,15,15,15,111,239,15,15,1551,3599,8191,16383,32767,65535] [] []) .z) .z) s0 (fun c a=>(((),c.1,(()),c.2.1,a,()),(c.2.2,()))) (fun y=>((y.1.2.1,y.1.2.2.2.1,y.2.1),y.1.2.2.2.2.1))
theorem qjr:SummOK Try.prog q14 0 (lc 0 Try.f89 71):=lp rfl q15 (.two (.two (.d [0,0,3,7,15,15,15,111,239,15,15,1551,3599,8191,16383,32767] [] []) .z) .z) s0 (fun c a=>(((),c.1,(()),a,c.2.1,()),(c.2.2,()))) (fun y=>((y.1.2.1,y.1.2.2.2.2.1,y.2.1),y.1.2.2.2.1))
noncomputable abbrev q87:Mdl:=(mdlOf (.cons (.own 0) (.cons (.d false qT0) (.cons (.d false qT0) (.cons (.d false qT0) (.cons (.fn 54 .nil) .nil))))) [.arr 33 (.fz true) [3] qT1] [true] 2 q7h (B:=(Int×Bool×qL2)) (fun b=>((b.1,b.2.1,()),(b.2.2,()))) (fun a=>q8y a.1.2.1 a.1.2.2.1 a.1.2.2.2.1 a.2.1))
theorem qj2:MdlOK Try.prog 89 q87:=fnA Try.func89 rfl q15 (.two .z (.two (.d [0,0,0,0,0,0,48,112,0,0,768,1792,4083,8179,16383,32767] [13,15] []) (.two .z (.two (.s 0) (.two (.s 1) (.two (.two .z (.two (.two (.d [0,0,0,0,0,0,48,112,0,0,768,1792,4083,8179,16383,32767] [13,15] []) .z) .z)) (.two (.d [0,0,0,0,0,0,48,112,0,0,768,1792,4083,8179,16383,32767] [13,15] []) (.two .z (.two .z (.two (.s 4) (.two (.d [0,0,0,0,0,0,48,112,0,0,768,1792,4083,8179,16383,32767] [13,15] []) .z))))))))))) (sC qjr (sC qkm (sC qkl s0)))
def qo:Shp:=⟨[],[.arr 33 (.fz true) [3] qT1]⟩
noncomputable abbrev q2b (rec:((Unit×Int×Int×Int×(Unit)×Unit)×(qL2×Unit))→Option qL2):Ctx (qL2):=⟨148,tt,false,false,[true],gam [(82,q5p),(83,q8q),(84,q5z),(85,q73),(86,q6f),(87,q3r),(54,q12),(88,q5e),(89,q87),(70,(mdlOf (.cons (.own 0) (.cons (.d false qT0) (.cons (.d false qT0) (.cons (.d false qT0) (.cons (.fn 54 .nil) .nil))))) [.arr 33 (.fz true) [3] qT1] [true] 0 qo (B:=qL2) (fun b=>((()),(b,()))) rec))],lam [q2g _ 148 [true] qlw (A:=(Int×Int×Int×Bool×Bool×Int×Int×Bool×qL2)) (fun x=>(x.1.2.1,x.1.2.2.1,x.1.2.2.2.1,x.1.2.2.2.2.2.1,x.1.2.2.2.2.2.2.1,x.1.2.2.2.2.2.2.2.1,x.1.2.2.2.2.2.2.2.2.1,x.1.2.2.2.2.2.2.2.2.2.1,x.2.1)) qly (CE:=(Int×Int×Int×Bool×Bool×Int×Int)) (E:=qL2) (fun c e=>(((),c.1,c.2.1,c.2.2.1,(()),c.2.2.2.1,c.2.2.2.2.1,c.2.2.2.2.2.1,c.2.2.2.2.2.2,()),(e,()))) (fun c=>(c.1,c.2.1,c.2.2.1,c.2.2.2.1,c.2.2.2.2.1,c.2.2.2.2.2.1,c.2.2.2.2.2.2.1)) (fun {R} c dn rt=>q86 rec c.1 c.2.1 c.2.2.1 c.2.2.2.1 c.2.2.2.2.1 c.2.2.2.2.2.1 c.2.2.2.2.2.2.1 c.2.2.2.2.2.2.2.1 c.2.2.2.2.2.2.2.2 dn rt),
 q2g _ 148 [true] qmm (A:=(Int×Int×Int×Int×Int×qL2)) (fun x=>(x.1.2.1,x.1.2.2.1,x.1.2.2.2.1,x.1.2.2.2.2.2.1,x.1.2.2.2.2.2.2.1,x.2.1)) qlo (CE:=Int) (E:=(Int×Int×Bool×Bool×qL2)) (fun c e=>(((),e.1,e.2.1,c,(()),e.2.2.1,e.2.2.2.1,()),(e.2.2.2.2,()))) (fun c=>c.2.2.1) (fun {R} c dn rt=>q82 rec c.1 c.2.1 c.2.2.1 c.2.2.2.1 c.2.2.2.2.1 c.2.2.2.2.2 dn rt),
 q0 _ 148 [true] qm7 (C:=Unit) (S:=(Int×Int×Int×Bool×Bool×qL2)) (fun x=>((),(x.1.2.1,x.1.2.2.1,x.1.2.2.2.1,x.1.2.2.2.2.2.1,x.1.2.2.2.2.2.2.1,x.2.1))) qmj (CE:=Unit) (E:=Unit) (fun c e=>((()),(()))) (fun c=>()) (fun {R} c a nx dn rt=>q84 rec  a.1 a.2.1 a.2.2.1 a.2.2.2.1 a.2.2.2.2.1 a.2.2.2.2.2 nx dn rt)],resU 148 tt [true] [] qo (fun x=>x.2.1)⟩
theorem q2c (rec:((Unit×Int×Int×Int×(Unit)×Unit)×(qL2×Unit))→Option qL2) (hrec:MdlOK Try.prog 70 (mdlOf (.cons (.own 0) (.cons (.d false qT0) (.cons (.d false qT0) (.cons (.d false qT0) (.cons (.fn 54 .nil) .nil))))) [.arr 33 (.fz true) [3] qT1] [true] 0 qo (B:=qL2) (fun b=>((()),(b,()))) rec)):CtxM Try.prog (q2b rec):=mkG fits mixed (mC qeq (mC qkp (mC qey (mC qgy (mC qfd (mC q9r (mC q13 (mC qe3 (mC qj2 (mC hrec m0))))))))))
theorem qnz (rec:((Unit×Int×Int×Int×(Unit)×Unit)×(qL2×Unit))→Option qL2) (hrec:MdlOK Try.prog 70 (mdlOf (.cons (.own 0) (.cons (.d false qT0) (.cons (.d false qT0) (.cons (.d false qT0) (.cons (.fn 54 .nil) .nil))))) [.arr 33 (.fz true) [3] qT1] [true] 0 qo (B:=qL2) (fun b=>((()),(b,()))) rec)):SummOK Try.prog (q2b rec) 0 (jc Try.f70 14307):=jn rfl (q2c rec hrec) .z s0 (fun c=>(((),c.1,c.2.1,c.2.2.1,(()),c.2.2.2.1,c.2.2.2.2.1,c.2.2.2.2.2.1,c.2.2.2.2.2.2.1,c.2.2.2.2.2.2.2.1,()),(c.2.2.2.2.2.2.2.2,()))) (fun y=>((y.1.2.1,y.1.2.2.1,y.1.2.2.2.1,y.1.2.2.2.2.2.1,y.1.2.2.2.2.2.2.1,y.1.2.2.2.2.2.2.2.1,y.1.2.2.2.2.2.2.2.2.1),y.2.1))
theorem qo5 (rec:((Unit×Int×Int×Int×(Unit)×Unit)×(qL2×Unit))→Option qL2) (hrec:MdlOK Try.prog 70 (mdlOf (.cons (.own 0) (.cons (.d false qT0) (.cons (.d false qT0) (.cons (.d false qT0) (.cons (.fn 54 .nil) .nil))))) [.arr 33 (.fz true) [3] qT1] [true] 0 qo (B:=qL2) (fun b=>((()),(b,()))) rec)):SummOK Try.prog (q2b rec) 1 (jc Try.f70 16355):=jn rfl (q2c rec hrec) .z s0 (fun c=>(((),c.1,c.2.1,c.2.2.1,(()),c.2.2.2.1,c.2.2.2.2.1,()),(c.2.2.2.2.2,()))) (fun y=>(y.1.2.2.2.1,(y.1.2.1,y.1.2.2.1,y.1.2.2.2.2.2.1,y.1.2.2.2.2.2.2.1,y.2.1)))
theorem qnc (rec:((Unit×Int×Int×Int×(Unit)×Unit)×(qL2×Unit))→Option qL2) (hrec:MdlOK Try.prog 70 (mdlOf (.cons (.own 0) (.cons (.d false qT0) (.cons (.d false qT0) (.cons (.d false qT0) (.cons (.fn 54 .nil) .nil))))) [.arr 33 (.fz true) [3] qT1] [true] 0 qo (B:=qL2) (fun b=>((()),(b,()))) rec)):SummOK Try.prog (q2b rec) 2 (lc 0 Try.f70 19):=lp rfl (q2c rec hrec) (.one (.two .z (.two .z (.two .z (.two .z (.two .z (.two .z (.two (.two .z (.s 0)) (.two (.two (.d [0,1,3,7,7,7,39,119,247,7,7,1543,3591,8191,16383,32767,65535] [] []) .z) (.s 1)))))))))) (sC (qnz rec hrec) (sC (qo5 rec hrec) s0)) (fun c a=>(((),a.1,a.2.1,a.2.2.1,(()),a.2.2.2.1,a.2.2.2.2.1,()),(a.2.2.2.2.2,()))) (fun y=>((),()))
noncomputable abbrev qan:Mdl:=(mdlOf (.cons (.own 0) (.cons (.d false qT0) (.cons (.d false qT0) (.cons (.d false qT0) (.cons (.fn 54 .nil) .nil))))) [.arr 33 (.fz true) [3] qT1] [true] 0 qo (B:=qL2) (fun b=>((()),(b,()))) (fun (a:((Unit×Int×Int×Int×(Unit)×Unit)×(qL2×Unit)))=>qat a))
theorem qkb (rec:((Unit×Int×Int×Int×(Unit)×Unit)×(qL2×Unit))→Option qL2) (hrec:MdlOK Try.prog 70 (mdlOf (.cons (.own 0) (.cons (.d false qT0) (.cons (.d false qT0) (.cons (.d false qT0) (.cons (.fn 54 .nil) .nil))))) [.arr 33 (.fz true) [3] qT1] [true] 0 qo (B:=qL2) (fun b=>((()),(b,()))) rec)):MdlOK Try.prog 70 (mdlOf (.cons (.own 0) (.cons (.d false qT0) (.cons (.d false qT0) (.cons (.d false qT0) (.cons (.fn 54 .nil) .nil))))) [.arr 33 (.fz true) [3] qT1] [true] 0 qo (B:=qL2) (fun b=>((()),(b,()))) ((fun (rec:((Unit×Int×Int×Int×(Unit)×Unit)×(qL2×Unit))→Option qL2) (a:((Unit×Int×Int×Int×(Unit)×Unit)×(qL2×Unit)))=>q4l rec a.1.2.1 a.1.2.2.1 a.1.2.2.2.1 a.2.1) rec)):=fnA Try.func70 rfl (q2c rec hrec) (.two .z (.two .z (.s 2))) (sC (qnc rec hrec) s0)
theorem qm4:MdlOK Try.prog 70 qan :=
 rec_ok (c:=bodyOf Try.f70) (l:=(.cons (.own 0) (.cons (.d false qT0) (.cons (.d false qT0) (.cons (.d false qT0) (.cons (.fn 54 .nil) .nil)))))) (objs:=[.arr 33 (.fz true) [3] qT1]) (kp:=[true]) (k:=0) (sh:=qo) (mk:=(fun b=>((()),(b,())))) (F:=(fun (rec:((Unit×Int×Int×Int×(Unit)×Unit)×(qL2×Unit))→Option qL2) (a:((Unit×Int×Int×Int×(Unit)×Unit)×(qL2×Unit)))=>q4l rec a.1.2.1 a.1.2.2.1 a.1.2.2.2.1 a.2.1)) Try.func70 (by rfl) (by kernel_rfl) (by kernel_rfl) qkb
def qcf:Shp:=⟨[],[.arr 33 (.fz true) [3] qT1]⟩
noncomputable abbrev qqc:Ctx (qL2):=⟨14,tt,false,false,[true],gam [(71,qvz),(70,qan)],lam [],resU 14 tt [true] [] qcf (fun x=>x.2.1)⟩
theorem qqm:CtxM Try.prog qqc:=mkG fits mixed (mC qwj (mC qm4 m0))
noncomputable abbrev qct:Mdl:=(mdlOf (.cons (.own 0) (.cons (.fn 54 .nil) .nil)) [.arr 33 (.fz true) [3] qT1] [true] 0 qcf (B:=qL2) (fun b=>((()),(b,()))) (fun a=>qdj a.2.1))
theorem qoo:MdlOK Try.prog 52 qct:=fnA Try.func52 rfl qqm .z s0
def qtl:Shp:=⟨[(0,.d true .bool)],[]⟩
noncomputable abbrev q183:Ctx (Bool):=⟨5,tt,false,false,[],gam [],lam [],resU 5 tt [] [.tmp 2] qtl (fun x=>x.1.1)⟩
theorem q18a:CtxM Try.prog q183:=mkG fits mixed m0
noncomputable abbrev qvo:Mdl:=(mdlOf (.cons (.d false qT0) .nil) [] [] 1 qtl (B:=Bool) (fun b=>((b,()),(()))) (fun a=>qxu a.1.1))
theorem q13s:MdlOK Try.prog 77 qvo:=fnA Try.func77 rfl q18a .z s0
def qal:Shp:=⟨[(0,.d true qT0)],[]⟩
noncomputable abbrev qci:Ctx (Int):=⟨19,tt,false,false,[],gam [(77,qvo)],lam [q0 _ 19 [] qnl (C:=(qL1×Int)) (S:=Int) (fun x=>((x.1.1,x.1.2.2.1),x.1.2.2.2.1)) qn1 (CE:=Unit) (E:=Unit) (fun c e=>((()),(()))) (fun c=>()) (fun {R} c a nx dn rt=>q9a c.1 c.2 a nx dn rt)],resU 19 tt [] [.tmp 4] qal (fun x=>x.1.1)⟩
theorem qce:CtxM Try.prog qci:=mkG fits mixed (mC q13s m0)
theorem qog:SummOK Try.prog qci 0 (lc 0 Try.f23 37):=lp rfl qce .z s0 (fun c a=>((c.1,(()),c.2,a,()),(()))) (fun y=>((),()))
noncomputable abbrev qcp:Mdl:=(mdlOf (.cons (.d false qT1) (.cons (.fn 77 .nil) .nil)) [] [] 1 qal (B:=Int) (fun b=>((b,()),(()))) (fun a=>qcy a.1.1))
theorem qnx:MdlOK Try.prog 23 qcp:=fnA Try.func23 rfl qce (.two .z (.two (.two .z (.s 0)) .z)) (sC qog s0)
def q7v:Shp:=⟨[(0,.d true .bool)],[]⟩
noncomputable abbrev qm0:Ctx (Bool):=⟨9,tt,false,false,[],gam [(23,qcp)],lam [],resU 9 tt [] [.tmp 4] q7v (fun x=>x.1.1)⟩
theorem qmb:CtxM Try.prog qm0:=mkG fits mixed (mC qnx m0)
noncomputable abbrev q85:Mdl:=(mdlOf (.cons (.d false qT1) (.cons (.fn 77 .nil) .nil)) [] [] 1 q7v (B:=Bool) (fun b=>((b,()),(()))) (fun a=>q9d a.1.1))
theorem qiw:MdlOK Try.prog 9 q85:=fnA Try.func9 rfl qmb .z s0
def qxq:Shp:=⟨[(0,.d true qT2),(1,.d true qT0)],[]⟩
noncomputable abbrev qdg:Ctx ((qL2×Int)):=⟨83,tt,false,false,[],gam [(39,q28),(76,qn3),(52,qct),(9,q85)],lam [q0 _ 83 [] q185 (C:=(qL2×qL2×Int)) (S:=(Int×qL2×qL2)) (fun x=>((x.1.1,x.1.2.2.1,x.1.2.2.2.1),(x.1.2.2.2.2.1,x.2.2.1,x.2.2.2.1))) q17t (CE:=qL2) (E:=(qL2×qL2)) (fun c e=>((c,(),()),(((),(),()),e.1,e.2,()))) (fun c=>c.1) (fun {R} c a nx dn rt=>qv6 c.1 c.2.1 c.2.2 a.1 a.2.1 a.2.2 nx dn rt),
 q0 _ 83 [] q16o (C:=Int) (S:=(Int×qL2×qL2)) (fun x=>(x.1.2.1,(x.1.2.2.1,x.2.2.1,x.2.2.2.1))) q17c (CE:=Unit) (E:=(qL2×qL2)) (fun c e=>(((),()),(((),(),()),e.1,e.2,()))) (fun c=>()) (fun {R} c a nx dn rt=>qvu c a.1 a.2.1 a.2.2 nx dn rt),
 q0 _ 83 [] q17g (C:=(qL2×qL2×Int)) (S:=Int) (fun x=>((x.1.1,x.1.2.1,x.1.2.2.1),x.1.2.2.2.1)) q16p (CE:=qL2) (E:=Unit) (fun c e=>((c,()),(()))) (fun c=>c.1) (fun {R} c a nx dn rt=>qvf c.1 c.2.1 c.2.2 a nx dn rt),
 q2g _ 83 [] q18k (A:=(qL2×qL2)) (fun x=>(x.2.1.1,x.2.2.1)) q171 (CE:=Unit) (E:=Unit) (fun c e=>((()),(()))) (fun c=>()) (fun {R} c dn rt=>qvk c.1 c.2 dn rt)],resU 83 tt [] [.tmp 2,.tmp 3] qxq (fun x=>(x.1.1,x.1.2.1))⟩
theorem qdi:CtxM Try.prog qdg:=mkG fits mixed (mC q2q (mC qwl (mC qoo (mC qiw m0))))
theorem q191:SummOK Try.prog qdg 2 (lc 4 Try.f63 2431):=lp rfl qdi .z s0 (fun c a=>((c.1,c.2.1,c.2.2,a,()),(()))) (fun y=>(y.1.1,()))
theorem q19w:SummOK Try.prog qdg 1 (lc 2 Try.f63 599):=lp rfl qdi .z s0 (fun c a=>(((),c,a.1,()),(((),(),()),a.2.1,a.2.2,()))) (fun y=>((),(y.2.2.1,y.2.2.2.1)))
theorem q192:SummOK Try.prog qdg 0 (lc 0 Try.f63 75):=lp rfl qdi (.two .z (.two .z (.two (.one (.two .z (.two .z (.two .z (.d [0,0,0,4,12,28,0,64,192,508,0,1024,3072,7168,0,16384,65532,131069,262141,524285,1048575,2097151,4194303] [9,16,19,22] []))))) .z))) s0 (fun c a=>((c.1,(),c.2.1,c.2.2,a.1,()),(((),(),()),a.2.1,a.2.2,()))) (fun y=>(y.1.1,(y.2.2.1,y.2.2.2.1)))
theorem q19o:SummOK Try.prog qdg 3 (jc Try.f63 31):=jn rfl qdi (.two .z (.two .z (.two .z (.two (.two .z (.s 2)) .z)))) (sC q191 s0) (fun c=>(((),()),((c.1,(),()),c.2,()))) (fun y=>((),()))
noncomputable abbrev qr1:Mdl:=(mdlOf (.cons (.d false qT2) .nil) [] [] 2 qxq (B:=(qL2×Int)) (fun b=>((b.1,b.2,()),(()))) (fun a=>qt8 a.1.1))
theorem qvd:MdlOK Try.prog 63 qr1:=fnA Try.func63 rfl qdi (.two .z (.two .z (.two (.two .z (.s 0)) (.two (.two .z (.two (.two .z (.s 1)) .z)) (.s 3))))) (sC q192 (sC q19w (sC q19o s0)))
def qzq:Shp:=⟨[(0,.d true qT2),(1,.d true qT0)],[]⟩
noncomputable abbrev qt3:Ctx ((qL2×Int)):=⟨43,tt,false,false,[],gam [(20,q31),(61,qwu),(62,qtx),(63,qr1)],lam [q0 _ 43 [] q19a (C:=(Int×Int×Int×(List Trans)×Int×Int×(List Trans)×Int×Int×qL2)) (S:=(Int×qL1)) (fun x=>((x.1.2.2.1,x.1.2.2.2.2.1,x.1.2.2.2.2.2.1,x.1.2.2.2.2.2.2.1,x.1.2.2.2.2.2.2.2.1,x.2.1.1,x.2.1.2.1,x.2.1.2.2.1,x.2.1.2.2.2.1,x.2.2.1),(x.1.2.2.2.2.2.2.2.2.1,x.2.2.2.1))) q1a0 (CE:=(Int×Int×Int×(List Trans)×Int×Int×qL2)) (E:=qL1) (fun c e=>(((),(),(),c.1,c.2.1,()),((c.2.2.1,c.2.2.2.1,c.2.2.2.2.1,c.2.2.2.2.2.1,()),c.2.2.2.2.2.2,e,()))) (fun c=>(c.2.1,c.2.2.1,c.2.2.2.2.2.1,c.2.2.2.2.2.2.1,c.2.2.2.2.2.2.2.1,c.2.2.2.2.2.2.2.2.1,c.2.2.2.2.2.2.2.2.2)) (fun {R} c a nx dn rt=>qye c.1 c.2.1 c.2.2.1 c.2.2.2.1 c.2.2.2.2.1 c.2.2.2.2.2.1 c.2.2.2.2.2.2.1 c.2.2.2.2.2.2.2.1 c.2.2.2.2.2.2.2.2.1 c.2.2.2.2.2.2.2.2.2 a.1 a.2 nx dn rt),
 q0 _ 43 [] q1a4 (C:=(Int×Int×(List Trans)×Int×Int)) (S:=(Int×qL2)) (fun x=>((x.1.2.2.1,x.2.1.1,x.2.1.2.1,x.2.1.2.2.1,x.2.1.2.2.2.1),(x.1.2.2.2.1,x.2.2.1))) q18u (CE:=Unit) (E:=qL2) (fun c e=>(((),()),(e,()))) (fun c=>()) (fun {R} c a nx dn rt=>qyj c.1 c.2.1 c.2.2.1 c.2.2.2.1 c.2.2.2.2 a.1 a.2 nx dn rt)],resU 43 tt [] [.tmp 2,.tmp 3] qzq (fun x=>(x.1.1,x.1.2.1))⟩
theorem qtv:CtxM Try.prog qt3:=mkG fits mixed (mC q2l (mC q100 (mC qx9 (mC qvd m0))))
theorem q1b9:SummOK Try.prog qt3 0 (lc 2 Try.f41 308015):=lp rfl qtv .z s0 (fun c a=>(((),(),c.1,(),c.2.1,c.2.2.1,c.2.2.2.1,c.2.2.2.2.1,a.1,()),((c.2.2.2.2.2.1,c.2.2.2.2.2.2.1,c.2.2.2.2.2.2.2.1,c.2.2.2.2.2.2.2.2.1,()),c.2.2.2.2.2.2.2.2.2,a.2,()))) (fun y=>((y.1.2.2.2.1,y.1.2.2.2.2.1,y.2.1.1,y.2.1.2.1,y.2.1.2.2.1,y.2.1.2.2.2.1,y.2.2.1),y.2.2.2.1))
theorem q1b0:SummOK Try.prog qt3 1 (lc 0 Try.f41 303):=lp rfl qtv (.two .z (.two .z (.two (.one (.two .z (.two .z (.two (.two .z (.s 0)) .z)))) .z))) (sC q1b9 s0) (fun c a=>(((),(),c.1,a.1,()),((c.2.1,c.2.2.1,c.2.2.2.1,c.2.2.2.2,()),a.2,()))) (fun y=>((),y.2.1))
noncomputable abbrev q113:Mdl:=(mdlOf (.cons (.d false Net.ty) .nil) [] [] 2 qzq (B:=(qL2×Int)) (fun b=>((b.1,b.2,()),(()))) (fun a=>q14h a.1.1))
theorem q19d:MdlOK Try.prog 41 q113:=fnA Try.func41 rfl qtv (.two .z (.two .z (.two .z (.two .z (.two (.two .z (.s 1)) .z))))) (sC q1b0 s0)
def qqo:Shp:=⟨[(0,.d true qT2),(1,.d true qT0)],[]⟩
noncomputable abbrev qhs:Ctx ((qL2×Int)):=⟨43,tt,false,false,[],gam [(20,q31),(61,qwu),(62,qtx),(63,qr1)],lam [q0 _ 43 [] q10n (C:=((List Trans)×Int×Int×Int×Int×(List Trans)×Int×Int×qL2×ByteArray×qL1×qL1)) (S:=(Int×qL1)) (fun x=>((x.1.2.2.2.2.1,x.1.2.2.2.2.2.1,x.1.2.2.2.2.2.2.1,x.1.2.2.2.2.2.2.2.1,x.2.1.1,x.2.1.2.1,x.2.1.2.2.1,x.2.1.2.2.2.1,x.2.2.1,x.2.2.2.1.1,x.2.2.2.1.2.1,x.2.2.2.1.2.2.1),(x.1.2.2.2.2.2.2.2.2.1,x.2.2.2.2.1))) q10r (CE:=((List Trans)×Int×Int×Int×(List Trans)×Int×Int×qL2)) (E:=qL1) (fun c e=>(((),(),(),c.1,c.2.1,c.2.2.1,()),((c.2.2.2.1,c.2.2.2.2.1,c.2.2.2.2.2.1,c.2.2.2.2.2.2.1,()),c.2.2.2.2.2.2.2,e,()))) (fun c=>(c.1,c.2.1,c.2.2.1,c.2.2.2.2.1,c.2.2.2.2.2.1,c.2.2.2.2.2.2.1,c.2.2.2.2.2.2.2.1,c.2.2.2.2.2.2.2.2.1)) (fun {R} c a nx dn rt=>qoz c.1 c.2.1 c.2.2.1 c.2.2.2.1 c.2.2.2.2.1 c.2.2.2.2.2.1 c.2.2.2.2.2.2.1 c.2.2.2.2.2.2.2.1 c.2.2.2.2.2.2.2.2.1 c.2.2.2.2.2.2.2.2.2.1 c.2.2.2.2.2.2.2.2.2.2.1 c.2.2.2.2.2.2.2.2.2.2.2 a.1 a.2 nx dn rt),
 q0 _ 43 [] q10w (C:=((List Trans)×Int×Int×(List Trans)×Int×Int)) (S:=(Int×qL2)) (fun x=>((x.1.2.2.1,x.1.2.2.2.1,x.2.1.1,x.2.1.2.1,x.2.1.2.2.1,x.2.1.2.2.2.1),(x.1.2.2.2.2.1,x.2.2.1))) q10t (CE:=Unit) (E:=qL2) (fun c e=>(((),()),(e,()))) (fun c=>()) (fun {R} c a nx dn rt=>qp4 c.1 c.2.1 c.2.2.1 c.2.2.2.1 c.2.2.2.2.1 c.2.2.2.2.2 a.1 a.2 nx dn rt)],resU 43 tt [] [.tmp 2,.tmp 3] qqo (fun x=>(x.1.1,x.1.2.1))⟩
theorem qhv:CtxM Try.prog qhs:=mkG fits mixed (mC q2l (mC q100 (mC qx9 (mC qvd m0))))
theorem q122:SummOK Try.prog qhs 0 (lc 2 Try.f42 308015):=lp rfl qhv .z s0 (fun c a=>(((),(),(),(),c.1,c.2.1,c.2.2.1,c.2.2.2.1,a.1,()),((c.2.2.2.2.1,c.2.2.2.2.2.1,c.2.2.2.2.2.2.1,c.2.2.2.2.2.2.2.1,()),c.2.2.2.2.2.2.2.2.1,(c.2.2.2.2.2.2.2.2.2.1,c.2.2.2.2.2.2.2.2.2.2.1,c.2.2.2.2.2.2.2.2.2.2.2,()),a.2,()))) (fun y=>((y.1.2.2.2.1,y.1.2.2.2.2.1,y.1.2.2.2.2.2.1,y.2.1.1,y.2.1.2.1,y.2.1.2.2.1,y.2.1.2.2.2.1,y.2.2.1),y.2.2.2.1))
theorem q11w:SummOK Try.prog qhs 1 (lc 0 Try.f42 303):=lp rfl qhv (.two .z (.two .z (.two (.one (.two .z (.two .z (.two (.two .z (.s 0)) .z)))) .z))) (sC q122 s0) (fun c a=>(((),(),c.1,c.2.1,a.1,()),((c.2.2.1,c.2.2.2.1,c.2.2.2.2.1,c.2.2.2.2.2,()),a.2,()))) (fun y=>((),y.2.1))
noncomputable abbrev qrt:Mdl:=(mdlOf (.cons (.d false Net.ty) .nil) [] [] 2 qqo (B:=(qL2×Int)) (fun b=>((b.1,b.2,()),(()))) (fun a=>qt7 a.1.1))
theorem q10q:MdlOK Try.prog 42 qrt:=fnA Try.func42 rfl qhv (.two .z (.two .z (.two .z (.two .z (.two (.two .z (.s 1)) .z))))) (sC q11w s0)
def qru:Shp:=⟨[(0,.own 0),(1,.d true qT0)],[.arr 33 .own [3] qT1]⟩
noncomputable abbrev qk7:Ctx ((Int×qL2)):=⟨80,tt,false,false,[],gam [(20,q31),(11,q1a)],lam [q0 _ 80 [] q11s (C:=(Int×Int×Int×(List Trans)×Int×Int×(List Trans)×Int×Int)) (S:=(Int×qL2)) (fun x=>((x.1.2.2.1,x.1.2.2.2.1,x.1.2.2.2.2.1,x.1.2.2.2.2.2.1,x.1.2.2.2.2.2.2.1,x.2.1.1,x.2.1.2.1,x.2.1.2.2.1,x.2.1.2.2.2.1),(x.1.2.2.2.2.2.2.2.1,x.2.2.1))) q11l (CE:=(Int×Int×Int×(List Trans)×Int×Int)) (E:=qL2) (fun c e=>(((),(),c.1,c.2.1,()),((c.2.2.1,c.2.2.2.1,c.2.2.2.2.1,c.2.2.2.2.2,()),e,()))) (fun c=>(c.2.1,c.2.2.1,c.2.2.2.2.2.1,c.2.2.2.2.2.2.1,c.2.2.2.2.2.2.2.1,c.2.2.2.2.2.2.2.2)) (fun {R} c a nx dn rt=>qq7 c.1 c.2.1 c.2.2.1 c.2.2.2.1 c.2.2.2.2.1 c.2.2.2.2.2.1 c.2.2.2.2.2.2.1 c.2.2.2.2.2.2.2.1 c.2.2.2.2.2.2.2.2 a.1 a.2 nx dn rt),
 q0 _ 80 [] q11e (C:=(Int×Int×(List Trans)×Int×Int)) (S:=(Int×qL2)) (fun x=>((x.1.2.2.1,x.2.1.1,x.2.1.2.1,x.2.1.2.2.1,x.2.1.2.2.2.1),(x.1.2.2.2.1,x.2.2.1))) q121 (CE:=Unit) (E:=qL2) (fun c e=>(((),()),(e,()))) (fun c=>()) (fun {R} c a nx dn rt=>qq2 c.1 c.2.1 c.2.2.1 c.2.2.2.1 c.2.2.2.2 a.1 a.2 nx dn rt)],resU 80 tt [] [.tmp 2,.tmp 3] qru (fun x=>(x.1.2.1,x.2.1))⟩
theorem qkd:CtxM Try.prog qk7:=mkG fits mixed (mC q2l (mC q1e m0))
theorem q12u:SummOK Try.prog qk7 0 (lc 3 Try.f43 80279):=lp rfl qkd .z s0 (fun c a=>(((),(),c.1,c.2.1,c.2.2.1,c.2.2.2.1,c.2.2.2.2.1,a.1,()),((c.2.2.2.2.2.1,c.2.2.2.2.2.2.1,c.2.2.2.2.2.2.2.1,c.2.2.2.2.2.2.2.2,()),a.2,()))) (fun y=>((y.1.2.2.1,y.1.2.2.2.1,y.2.1.1,y.2.1.2.1,y.2.1.2.2.1,y.2.1.2.2.2.1),y.2.2.1))
theorem q13x:SummOK Try.prog qk7 1 (lc 1 Try.f43 151):=lp rfl qkd (.two .z (.two .z (.two (.one (.two .z (.two .z (.two .z (.s 0))))) .z))) (sC q12u s0) (fun c a=>(((),(),c.1,a.1,()),((c.2.1,c.2.2.1,c.2.2.2.1,c.2.2.2.2,()),a.2,()))) (fun y=>((),y.2.1))
noncomputable abbrev qtn:Mdl:=(mdlOf (.cons (.d false Net.ty) .nil) [] [] 2 qru (B:=(Int×qL2)) (fun b=>(((),b.1,()),(b.2,()))) (fun a=>qv5 a.1.1))
theorem q11r:MdlOK Try.prog 43 qtn:=fnA Try.func43 rfl qkd (.two .z (.two .z (.two .z (.two (.two .z (.s 1)) .z)))) (sC q13x s0)
def qqa:Shp:=⟨[(0,.d true .bool)],[]⟩
noncomputable abbrev q13n:Ctx (Bool):=⟨9,tt,false,false,[],gam [],lam [],resU 9 tt [] [.tmp 2] qqa (fun x=>x.1.1)⟩
theorem q13a:CtxM Try.prog q13n:=mkG fits mixed m0
noncomputable abbrev qrl:Mdl:=(mdlOf (.cons (.d false qT0) .nil) [] [] 1 qqa (B:=Bool) (fun b=>((b,()),(()))) (fun a=>qt9 a.1.1))
theorem q10v:MdlOK Try.prog 95 qrl:=fnA Try.func95 rfl q13a .z s0
def qas:Shp:=⟨[(0,.d true qT0)],[]⟩
noncomputable abbrev qbx:Ctx (Int):=⟨19,tt,false,false,[],gam [(95,qrl)],lam [q0 _ 19 [] qmv (C:=(qL1×Int)) (S:=Int) (fun x=>((x.1.1,x.1.2.2.1),x.1.2.2.2.1)) qng (CE:=Unit) (E:=Unit) (fun c e=>((()),(()))) (fun c=>()) (fun {R} c a nx dn rt=>q95 c.1 c.2 a nx dn rt)],resU 19 tt [] [.tmp 4] qas (fun x=>x.1.1)⟩
theorem qcg:CtxM Try.prog qbx:=mkG fits mixed (mC q10v m0)
theorem qod:SummOK Try.prog qbx 0 (lc 0 Try.f23 37):=lp rfl qcg .z s0 (fun c a=>((c.1,(()),c.2,a,()),(()))) (fun y=>((),()))
noncomputable abbrev qco:Mdl:=(mdlOf (.cons (.d false qT1) (.cons (.fn 95 .nil) .nil)) [] [] 1 qas (B:=Int) (fun b=>((b,()),(()))) (fun a=>qd4 a.1.1))
theorem qni:MdlOK Try.prog 23 qco:=fnA Try.func23 rfl qcg (.two .z (.two (.two .z (.s 0)) .z)) (sC qod s0)
def q7t:Shp:=⟨[(0,.d true .bool)],[]⟩
noncomputable abbrev qmq:Ctx (Bool):=⟨9,tt,false,false,[],gam [(23,qco)],lam [],resU 9 tt [] [.tmp 4] q7t (fun x=>x.1.1)⟩
theorem qmd:CtxM Try.prog qmq:=mkG fits mixed (mC qni m0)
noncomputable abbrev q8j:Mdl:=(mdlOf (.cons (.d false qT1) (.cons (.fn 95 .nil) .nil)) [] [] 1 q7t (B:=Bool) (fun b=>((b,()),(()))) (fun a=>q97 a.1.1))
theorem qi4:MdlOK Try.prog 9 q8j:=fnA Try.func9 rfl qmd .z s0
def qu0:Shp:=⟨[(0,.d true .bool)],[]⟩
noncomputable abbrev q18f:Ctx (Bool):=⟨6,tt,false,false,[],gam [(9,q8j)],lam [],resU 6 tt [] [.tmp 2] qu0 (fun x=>x.1.1)⟩
theorem q17l:CtxM Try.prog q18f:=mkG fits mixed (mC qi4 m0)
noncomputable abbrev qvj:Mdl:=(mdlOf (.cons (.d false qT1) .nil) [] [] 1 qu0 (B:=Bool) (fun b=>((b,()),(()))) (fun a=>qxm a.1.1))
theorem q13v:MdlOK Try.prog 79 qvj:=fnA Try.func79 rfl q17l .z s0
def qsy:Shp:=⟨[(0,.d true .bool)],[]⟩
noncomputable abbrev q18c:Ctx (Bool):=⟨16,tt,false,false,[],gam [(79,qvj)],lam [],resU 16 tt [] [.tmp 3] qsy (fun x=>x.1.1)⟩
theorem q174:CtxM Try.prog q18c:=mkG fits mixed (mC q13v m0)
noncomputable abbrev qva:Mdl:=(mdlOf (.cons (.d false qT1) (.cons (.rp false qT2) .nil)) [] [] 1 qsy (B:=Bool) (fun b=>((b,()),(()))) (fun a=>qy8 a.1.1 a.1.2.1))
theorem q132:MdlOK Try.prog 78 qva:=fnA Try.func78 rfl q174 .z s0
def qaj:Shp:=⟨[(0,.d true qT0)],[]⟩
noncomputable abbrev qc3:Ctx (Int):=⟨19,tt,false,false,[],gam [(78,qva)],lam [q0 _ 19 [] qmu (C:=(qL2×qL2×Int)) (S:=Int) (fun x=>((x.1.1,x.1.2.1.1,x.1.2.2.1),x.1.2.2.2.1)) qo2 (CE:=Unit) (E:=Unit) (fun c e=>((()),(()))) (fun c=>()) (fun {R} c a nx dn rt=>q92 c.1 c.2.1 c.2.2 a nx dn rt)],resU 19 tt [] [.tmp 4] qaj (fun x=>x.1.1)⟩
theorem qc8:CtxM Try.prog qc3:=mkG fits mixed (mC q132 m0)
theorem qon:SummOK Try.prog qc3 0 (lc 0 Try.f55 37):=lp rfl qc8 .z s0 (fun c a=>((c.1,(c.2.1,()),c.2.2,a,()),(()))) (fun y=>((),()))
noncomputable abbrev qcj:Mdl:=(mdlOf (.cons (.d false qT2) (.cons (.fn 78 (.cons (.rp false qT2) .nil)) .nil)) [] [] 1 qaj (B:=Int) (fun b=>((b,()),(()))) (fun a=>qcv a.1.1 a.1.2.1.1))
theorem qnn:MdlOK Try.prog 55 qcj:=fnA Try.func55 rfl qc8 (.two .z (.two (.two .z (.s 0)) .z)) (sC qon s0)
def q7n:Shp:=⟨[(0,.d true .bool)],[]⟩
noncomputable abbrev qm8:Ctx (Bool):=⟨9,tt,false,false,[],gam [(55,qcj)],lam [],resU 9 tt [] [.tmp 4] q7n (fun x=>x.1.1)⟩
theorem qlz:CtxM Try.prog qm8:=mkG fits mixed (mC qnn m0)
noncomputable abbrev q8l:Mdl:=(mdlOf (.cons (.d false qT2) (.cons (.fn 78 (.cons (.rp false qT2) .nil)) .nil)) [] [] 1 q7n (B:=Bool) (fun b=>((b,()),(()))) (fun a=>q94 a.1.1 a.1.2.1.1))
theorem qi5:MdlOK Try.prog 28 q8l:=fnA Try.func28 rfl qlz .z s0
def qxa:Shp:=⟨[(0,.d true .bool)],[]⟩
noncomputable abbrev q1az:Ctx (Bool):=⟨29,tt,false,false,[],gam [(28,q8l)],lam [],resU 29 tt [] [.tmp 2] qxa (fun x=>x.1.1)⟩
theorem q1bd:CtxM Try.prog q1az:=mkG fits mixed (mC qi5 m0)
noncomputable abbrev qzu:Mdl:=(mdlOf (.cons (.d false qT2) .nil) [] [] 1 qxa (B:=Bool) (fun b=>((b,()),(()))) (fun a=>q11p a.1.1))
theorem q187:MdlOK Try.prog 64 qzu:=fnA Try.func64 rfl q1bd .z s0
def q111:Shp:=⟨[(0,.d true qT0)],[]⟩
noncomputable abbrev q1dm:Ctx (Int):=⟨7,tt,false,false,[],gam [],lam [],resU 7 tt [] [.tmp 2] q111 (fun x=>x.1.1)⟩
theorem q1do:CtxM Try.prog q1dm:=mkG fits mixed m0
noncomputable abbrev q14a:Mdl:=(mdlOf (.cons (.d false qT0) .nil) [] [] 1 q111 (B:=Int) (fun b=>((b,()),(()))) (fun a=>q17o a.1.1))
theorem q1b4:MdlOK Try.prog 80 q14a:=fnA Try.func80 rfl q1do .z s0
def qyi:Shp:=⟨[(0,.d true .bool)],[]⟩
noncomputable abbrev qqw:Ctx (Bool):=⟨33,tt,false,false,[],gam [(80,q14a)],lam [q0 _ 33 [] q18h (C:=(Int×qL2×Int×Int×qL1×Int)) (S:=(Int×Int)) (fun x=>((x.1.1,x.1.2.2.1,x.1.2.2.2.1,x.1.2.2.2.2.1,x.1.2.2.2.2.2.1,x.1.2.2.2.2.2.2.1),(x.1.2.1,x.1.2.2.2.2.2.2.2.1))) q16l (CE:=(Int×qL2×Int×Int)) (E:=Int) (fun c e=>((c.1,e,c.2.1,c.2.2.1,c.2.2.2,()),(()))) (fun c=>(c.1,c.2.1,c.2.2.1,c.2.2.2.1)) (fun {R} c a nx dn rt=>qvh c.1 c.2.1 c.2.2.1 c.2.2.2.1 c.2.2.2.2.1 c.2.2.2.2.2 a.1 a.2 nx dn rt),
 q0 _ 33 [] q182 (C:=(qL2×Int)) (S:=(Int×Int)) (fun x=>((x.1.2.1,x.1.2.2.1),(x.1.1,x.1.2.2.2.1))) q16r (CE:=Unit) (E:=Unit) (fun c e=>((()),(()))) (fun c=>()) (fun {R} c a nx dn rt=>qv9 c.1 c.2 a.1 a.2 nx dn rt)],resU 33 tt [] [.tmp 2] qyi (fun x=>x.1.1)⟩
theorem qr0:CtxM Try.prog qqw:=mkG fits mixed (mC q1b4 m0)
theorem q190:SummOK Try.prog qqw 0 (lc 2 Try.f65 77003):=lp rfl qr0 .z s0 (fun c a=>((c.1,a.1,c.2.1,c.2.2.1,c.2.2.2.1,c.2.2.2.2.1,c.2.2.2.2.2,a.2,()),(()))) (fun y=>((y.1.1,y.1.2.2.1,y.1.2.2.2.1,y.1.2.2.2.2.1),y.1.2.1))
theorem q194:SummOK Try.prog qqw 1 (lc 0 Try.f65 75):=lp rfl qr0 (.two .z (.two .z (.two (.one (.two .z (.two .z (.two (.two .z (.s 0)) .z)))) .z))) (sC q190 s0) (fun c a=>((a.1,c.1,c.2,a.2,()),(()))) (fun y=>((),()))
noncomputable abbrev q10l:Mdl:=(mdlOf (.cons (.d false qT2) .nil) [] [] 1 qyi (B:=Bool) (fun b=>((b,()),(()))) (fun a=>q11t a.1.1))
theorem q16i:MdlOK Try.prog 65 q10l:=fnA Try.func65 rfl qr0 (.two .z (.two .z (.two (.two .z (.s 1)) .z))) (sC q194 s0)
def qhr:Shp:=⟨[],[.cs 89 4 1 (.cons (.own 1) (.cons (.own 2) (.cons (.d true qT0) (.cons (.d true qT0) .nil)))),.arr 33 .own [3] qT1,.arr 3 (.fz true) [0] qT0]⟩
noncomputable abbrev qa7:Ctx ((Int×Int×qL2×qL1)):=⟨72,tt,true,false,[true,true,true],gam [],lam [q0 _ 72 [true,true,true] qtb (C:=(Int×Int×Nat×Int×Nat×Int×Int×Int×Int×Int×Int×qL1)) (S:=(Int×qL2)) (fun x=>((x.1.2.1,x.1.2.2.1,x.1.2.2.2.1,x.1.2.2.2.2.1,x.1.2.2.2.2.2.1,x.1.2.2.2.2.2.2.1,x.1.2.2.2.2.2.2.2.2.1,x.1.2.2.2.2.2.2.2.2.2.1,x.1.2.2.2.2.2.2.2.2.2.2.1,x.2.1.2.2.1,x.2.1.2.2.2.1,x.2.2.2.1),(x.1.2.2.2.2.2.2.2.2.2.2.2.1,x.2.2.1))) qu4 (CE:=(Int×Int×Nat×Int×Int×Int×Int×Int×qL1)) (E:=qL2) (fun c e=>(((),c.1,c.2.1,c.2.2.1,c.2.2.2.1,(),c.2.2.2.2.1,c.2.2.2.2.2.1,()),(((),(),c.2.2.2.2.2.2.1,c.2.2.2.2.2.2.2.1,()),e,c.2.2.2.2.2.2.2.2,()))) (fun c=>(c.1,c.2.1,c.2.2.1,c.2.2.2.1,c.2.2.2.2.2.2.1,c.2.2.2.2.2.2.2.1,c.2.2.2.2.2.2.2.2.2.1,c.2.2.2.2.2.2.2.2.2.2.1,c.2.2.2.2.2.2.2.2.2.2.2)) (fun {R} c a nx dn rt=>qfi c.1 c.2.1 c.2.2.1 c.2.2.2.1 c.2.2.2.2.1 c.2.2.2.2.2.1 c.2.2.2.2.2.2.1 c.2.2.2.2.2.2.2.1 c.2.2.2.2.2.2.2.2.1 c.2.2.2.2.2.2.2.2.2.1 c.2.2.2.2.2.2.2.2.2.2.1 c.2.2.2.2.2.2.2.2.2.2.2 a.1 a.2 nx dn rt),
 q0 _ 72 [true,true,true] qu1 (C:=(Int×Int×Nat×Int×Int×Int×Int×qL1)) (S:=(Int×qL2)) (fun x=>((x.1.2.1,x.1.2.2.1,x.1.2.2.2.1,x.1.2.2.2.2.1,x.1.2.2.2.2.2.2.1,x.2.1.2.2.1,x.2.1.2.2.2.1,x.2.2.2.1),(x.1.2.2.2.2.2.2.2.1,x.2.2.1))) qsx (CE:=(Int×Int×Int×qL1)) (E:=qL2) (fun c e=>(((),c.1,()),(((),(),c.2.1,c.2.2.1,()),e,c.2.2.2,()))) (fun c=>(c.2.2.2.1,c.2.2.2.2.2.1,c.2.2.2.2.2.2.1,c.2.2.2.2.2.2.2)) (fun {R} c a nx dn rt=>qfy c.1 c.2.1 c.2.2.1 c.2.2.2.1 c.2.2.2.2.1 c.2.2.2.2.2.1 c.2.2.2.2.2.2.1 c.2.2.2.2.2.2.2 a.1 a.2 nx dn rt)],resU 72 tt [true,true,true] [] qhr (fun x=>(x.2.1.2.2.1,x.2.1.2.2.2.1,x.2.2.1,x.2.2.2.1))⟩
theorem q9e:CtxM Try.prog qa7:=mkG fits mixed m0
theorem qus:SummOK Try.prog qa7 0 (lc 2 Try.f81 81099):=lp rfl q9e (.two .z (.two .z (.two (.one (.two .z (.d [0,0,0,0,0,24,56,124,0,0,0,1536,3584,7936,16380,0,32768,98304,229376,524284,1048575,2097151] [21] []))) .z))) s0 (fun c a=>(((),c.1,c.2.1,c.2.2.1,c.2.2.2.1,c.2.2.2.2.1,c.2.2.2.2.2.1,(),c.2.2.2.2.2.2.1,c.2.2.2.2.2.2.2.1,c.2.2.2.2.2.2.2.2.1,a.1,()),(((),(),c.2.2.2.2.2.2.2.2.2.1,c.2.2.2.2.2.2.2.2.2.2.1,()),a.2,c.2.2.2.2.2.2.2.2.2.2.2,()))) (fun y=>((y.1.2.1,y.1.2.2.1,y.1.2.2.2.1,y.1.2.2.2.2.1,y.1.2.2.2.2.2.2.1,y.1.2.2.2.2.2.2.2.1,y.2.1.2.2.1,y.2.1.2.2.2.1,y.2.2.2.1),y.2.2.1))
theorem qub:SummOK Try.prog qa7 1 (lc 0 Try.f81 75):=lp rfl q9e (.two .z (.two .z (.two (.one (.two .z (.two .z (.two .z (.two .z (.s 0)))))) .z))) (sC qus s0) (fun c a=>(((),c.1,c.2.1,c.2.2.1,c.2.2.2.1,(),c.2.2.2.2.1,a.1,()),(((),(),c.2.2.2.2.2.1,c.2.2.2.2.2.2.1,()),a.2,c.2.2.2.2.2.2.2,()))) (fun y=>((y.1.2.1,y.2.1.2.2.1,y.2.1.2.2.2.1,y.2.2.2.1),y.2.2.1))
noncomputable abbrev qiy:Mdl:=(mdlOf (.cons (.ptr 0) (.cons (.d false qT0) (.cons (.d false qT0) .nil))) [.cs 89 4 1 (.cons (.own 1) (.cons (.own 2) (.cons (.d false qT0) (.cons (.d false qT0) .nil)))),.arr 33 .own [3] qT1,.arr 3 (.fz true) [0] qT0] [true,true,true] 0 qhr (B:=(Int×Int×qL2×qL1)) (fun b=>((()),(((),(),b.1,b.2.1,()),b.2.2.1,b.2.2.2,()))) (fun a=>qc2 a.1.2.1 a.1.2.2.1 a.2.1.2.2.1 a.2.1.2.2.2.1 a.2.2.1 a.2.2.2.1))
theorem qth:MdlOK Try.prog 81 qiy:=fnA Try.func81 rfl q9e (.two .z (.two .z (.two (.two .z (.s 1)) .z))) (sC qub s0)
def qvg:Shp:=⟨[(0,.d true q1d.ty)],[]⟩
noncomputable abbrev qgt:Ctx (q1d):=⟨102,tt,true,false,[],gam [(39,q28),(81,qiy)],lam [q0 _ 102 [] q15e (C:=(Int×qL2×Int×qL2×qL1×Int×Int×Int×Int×qL1)) (S:=(Int×qL2)) (fun x=>((x.1.1,x.1.2.2.2.1,x.1.2.2.2.2.1,x.2.1.1,x.2.1.2.1,x.2.1.2.2.1,x.2.1.2.2.2.1,x.2.2.1.2.2.1,x.2.2.1.2.2.2.1,x.2.2.2.2.1),(x.1.2.2.2.2.2.1,x.2.2.2.1))) q14y (CE:=(Int×qL2×qL1×Int×Int×Int×Int×qL1)) (E:=qL2) (fun c e=>((c.1,(),(),()),((c.2.1,c.2.2.1,c.2.2.2.1,c.2.2.2.2.1,()),((),(),c.2.2.2.2.2.1,c.2.2.2.2.2.2.1,()),e,c.2.2.2.2.2.2.2,()))) (fun c=>(c.1,c.2.2.2.1,c.2.2.2.2.1,c.2.2.2.2.2.1,c.2.2.2.2.2.2.1,c.2.2.2.2.2.2.2.1,c.2.2.2.2.2.2.2.2.1,c.2.2.2.2.2.2.2.2.2)) (fun {R} c a nx dn rt=>qts c.1 c.2.1 c.2.2.1 c.2.2.2.1 c.2.2.2.2.1 c.2.2.2.2.2.1 c.2.2.2.2.2.2.1 c.2.2.2.2.2.2.2.1 c.2.2.2.2.2.2.2.2.1 c.2.2.2.2.2.2.2.2.2 a.1 a.2 nx dn rt),
 q0 _ 102 [] q15j (C:=(Int×Int×Int×qL2×qL1×Int×Int×Int×Int×qL2×qL1)) (S:=Int) (fun x=>((x.1.1,x.1.2.2.2.1,x.1.2.2.2.2.1,x.2.1.1,x.2.1.2.1,x.2.1.2.2.1,x.2.1.2.2.2.1,x.2.2.1.2.2.1,x.2.2.1.2.2.2.1,x.2.2.2.1,x.2.2.2.2.1),x.1.2.2.2.2.2.1)) q15x (CE:=(Int×Int×Int×qL2×qL1×Int×Int×Int×Int×qL2×qL1)) (E:=Int) (fun c e=>((c.1,(),(),c.2.1,c.2.2.1,e,()),((c.2.2.2.1,c.2.2.2.2.1,c.2.2.2.2.2.1,c.2.2.2.2.2.2.1,()),((),(),c.2.2.2.2.2.2.2.1,c.2.2.2.2.2.2.2.2.1,()),c.2.2.2.2.2.2.2.2.2.1,c.2.2.2.2.2.2.2.2.2.2,()))) (fun c=>(c.1,c.2.1,c.2.2.1,c.2.2.2.1,c.2.2.2.2.1,c.2.2.2.2.2.1,c.2.2.2.2.2.2.1,c.2.2.2.2.2.2.2.1,c.2.2.2.2.2.2.2.2.1,c.2.2.2.2.2.2.2.2.2.1,c.2.2.2.2.2.2.2.2.2.2)) (fun {R} c a nx dn rt=>qtu c.1 c.2.1 c.2.2.1 c.2.2.2.1 c.2.2.2.2.1 c.2.2.2.2.2.1 c.2.2.2.2.2.2.1 c.2.2.2.2.2.2.2.1 c.2.2.2.2.2.2.2.2.1 c.2.2.2.2.2.2.2.2.2.1 c.2.2.2.2.2.2.2.2.2.2 a nx dn rt),
 q0 _ 102 [] q16a (C:=(Int×qL2×qL1×Int×Int)) (S:=(Int×Int×Int×qL2×qL1)) (fun x=>((x.1.1,x.2.1.1,x.2.1.2.1,x.2.1.2.2.1,x.2.1.2.2.2.1),(x.1.2.2.2.1,x.2.2.1.2.2.1,x.2.2.1.2.2.2.1,x.2.2.2.1,x.2.2.2.2.1))) q15g (CE:=(qL2×qL1×Int×Int)) (E:=(Int×Int×qL2×qL1)) (fun c e=>(((),(),()),((c.1,c.2.1,c.2.2.1,c.2.2.2,()),((),(),e.1,e.2.1,()),e.2.2.1,e.2.2.2,()))) (fun c=>(c.2.1,c.2.2.1,c.2.2.2.1,c.2.2.2.2)) (fun {R} c a nx dn rt=>qtw c.1 c.2.1 c.2.2.1 c.2.2.2.1 c.2.2.2.2 a.1 a.2.1 a.2.2.1 a.2.2.2.1 a.2.2.2.2 nx dn rt)],resU 102 tt [] [.cell 4 89] qvg (fun x=>x.1.1)⟩
theorem qh2:CtxM Try.prog qgt:=mkG fits mixed (mC q2q (mC qth m0))
theorem q188:SummOK Try.prog qgt 1 (lc 4 Try.f66 35991):=lp rfl qh2 .z s0 (fun c a=>((c.1,(),(),c.2.1,c.2.2.1,a,()),((c.2.2.2.1,c.2.2.2.2.1,c.2.2.2.2.2.1,c.2.2.2.2.2.2.1,()),((),(),c.2.2.2.2.2.2.2.1,c.2.2.2.2.2.2.2.2.1,()),c.2.2.2.2.2.2.2.2.2.1,c.2.2.2.2.2.2.2.2.2.2,()))) (fun y=>((y.1.1,y.1.2.2.2.1,y.1.2.2.2.2.1,y.2.1.1,y.2.1.2.1,y.2.1.2.2.1,y.2.1.2.2.2.1,y.2.2.1.2.2.1,y.2.2.1.2.2.2.1,y.2.2.2.1,y.2.2.2.2.1),y.1.2.2.2.2.2.1))
theorem q18d:SummOK Try.prog qgt 2 (lc 2 Try.f66 151):=lp rfl qh2 (.two .z (.two (.one (.two .z (.two .z (.two (.s 1) (.two .z (.two (.two .z (.two (.two (.d [0,1,0,0,8,0,0,64,0,448,960,0,2048,0,14336,30720,65503,131039,262143,524287] [17,19] []) .z) .z)) .z)))))) .z)) (sC q188 s0) (fun c a=>((c.1,(),(),a.1,()),((c.2.1,c.2.2.1,c.2.2.2.1,c.2.2.2.2,()),((),(),a.2.1,a.2.2.1,()),a.2.2.2.1,a.2.2.2.2,()))) (fun y=>((y.2.1.1,y.2.1.2.1,y.2.1.2.2.1,y.2.1.2.2.2.1),(y.2.2.1.2.2.1,y.2.2.1.2.2.2.1,y.2.2.2.1,y.2.2.2.2.1)))
theorem q172:SummOK Try.prog qgt 0 (lc 0 Try.f66 75):=lp rfl qh2 (.two .z (.two .z (.two (.one (.two .z (.d [0,1,0,4,12,31,63,127] [5,7] []))) .z))) s0 (fun c a=>((c.1,(),(),c.2.1,c.2.2.1,a.1,()),((c.2.2.2.1,c.2.2.2.2.1,c.2.2.2.2.2.1,c.2.2.2.2.2.2.1,()),((),(),c.2.2.2.2.2.2.2.1,c.2.2.2.2.2.2.2.2.1,()),a.2,c.2.2.2.2.2.2.2.2.2,()))) (fun y=>((y.1.1,y.2.1.1,y.2.1.2.1,y.2.1.2.2.1,y.2.1.2.2.2.1,y.2.2.1.2.2.1,y.2.2.1.2.2.2.1,y.2.2.2.2.1),y.2.2.2.1))
noncomputable abbrev qx2:Mdl:=(mdlOf (.cons (.d false qT2) (.cons (.d false qT0) .nil)) [] [] 1 qvg (B:=q1d) (fun b=>((b,()),(()))) (fun a=>q10h a.1.1 a.1.2.1))
theorem q155:MdlOK Try.prog 66 qx2:=fnA Try.func66 rfl qh2 (.two .z (.two .z (.two (.two .z (.s 0)) (.two (.two .z (.s 2)) .z)))) (sC q172 (sC q18d s0))
def q107:Shp:=⟨[(0,.d true qT0),(1,.d true qT0)],[]⟩
noncomputable abbrev q1cy:Ctx ((Int×Int)):=⟨20,tt,false,false,[],gam [(64,qzu),(65,q10l),(66,qx2)],lam [],resU 20 tt [] [.tmp 2,.tmp 3] q107 (fun x=>(x.1.1,x.1.2.1))⟩
theorem q1by:CtxM Try.prog q1cy:=mkG fits mixed (mC q187 (mC q16i (mC q155 m0)))
noncomputable abbrev q11i:Mdl:=(mdlOf (.cons (.d false qT2) .nil) [] [] 2 q107 (B:=(Int×Int)) (fun b=>((b.1,b.2,()),(()))) (fun a=>q147 a.1.1))
theorem q18r:MdlOK Try.prog 44 q11i:=fnA Try.func44 rfl q1by .z s0
def qi8:Shp:=⟨[(0,.d true .bool)],[]⟩
noncomputable abbrev qxd:Ctx (Bool):=⟨15,tt,false,false,[],gam [],lam [],resU 15 tt [] [.tmp 3] qi8 (fun x=>x.1.1)⟩
theorem qy9:CtxM Try.prog qxd:=mkG fits mixed m0
noncomputable abbrev ql6:Mdl:=(mdlOf (.cons (.d false qT1) (.cons (.rp false qT0) .nil)) [] [] 1 qi8 (B:=Bool) (fun b=>((b,()),(()))) (fun a=>qo3 a.1.1 a.1.2.1))
theorem quw:MdlOK Try.prog 67 ql6:=fnA Try.func67 rfl qy9 .z s0
def qa9:Shp:=⟨[(0,.d true qT0)],[]⟩
noncomputable abbrev qbr:Ctx (Int):=⟨19,tt,false,false,[],gam [(67,ql6)],lam [q0 _ 19 [] qnj (C:=(qL2×Int×Int)) (S:=Int) (fun x=>((x.1.1,x.1.2.1.1,x.1.2.2.1),x.1.2.2.2.1)) qnf (CE:=Unit) (E:=Unit) (fun c e=>((()),(()))) (fun c=>()) (fun {R} c a nx dn rt=>q9b c.1 c.2.1 c.2.2 a nx dn rt)],resU 19 tt [] [.tmp 4] qa9 (fun x=>x.1.1)⟩
theorem qbt:CtxM Try.prog qbr:=mkG fits mixed (mC quw m0)
theorem qor:SummOK Try.prog qbr 0 (lc 0 Try.f55 37):=lp rfl qbt .z s0 (fun c a=>((c.1,(c.2.1,()),c.2.2,a,()),(()))) (fun y=>((),()))
noncomputable abbrev qc6:Mdl:=(mdlOf (.cons (.d false qT2) (.cons (.fn 67 (.cons (.rp false qT0) .nil)) .nil)) [] [] 1 qa9 (B:=Int) (fun b=>((b,()),(()))) (fun a=>qcs a.1.1 a.1.2.1.1))
theorem qnv:MdlOK Try.prog 55 qc6:=fnA Try.func55 rfl qbt (.two .z (.two (.two .z (.s 0)) .z)) (sC qor s0)
def q7p:Shp:=⟨[(0,.d true .bool)],[]⟩
noncomputable abbrev qlm:Ctx (Bool):=⟨9,tt,false,false,[],gam [(55,qc6)],lam [],resU 9 tt [] [.tmp 4] q7p (fun x=>x.1.1)⟩
theorem qls:CtxM Try.prog qlm:=mkG fits mixed (mC qnv m0)
noncomputable abbrev q8f:Mdl:=(mdlOf (.cons (.d false qT2) (.cons (.fn 67 (.cons (.rp false qT0) .nil)) .nil)) [] [] 1 q7p (B:=Bool) (fun b=>((b,()),(()))) (fun a=>q99 a.1.1 a.1.2.1.1))
theorem qis:MdlOK Try.prog 28 q8f:=fnA Try.func28 rfl qls .z s0
def qn2:Shp:=⟨[(0,.d true .bool)],[]⟩
noncomputable abbrev qp0:Ctx (Bool):=⟨15,tt,false,false,[],gam [(28,q8f)],lam [q0 _ 15 [] qxz (C:=(qL2×Int)) (S:=Int) (fun x=>((x.1.1,x.1.2.1),x.1.2.2.1)) qxb (CE:=Unit) (E:=Unit) (fun c e=>((()),(()))) (fun c=>()) (fun {R} c a nx dn rt=>qle c.1 c.2 a nx dn rt)],resU 15 tt [] [.tmp 4] qn2 (fun x=>x.1.1)⟩
theorem qow:CtxM Try.prog qp0:=mkG fits mixed (mC qis m0)
theorem qzi:SummOK Try.prog qp0 0 (lc 0 Try.f46 37):=lp rfl qow .z s0 (fun c a=>((c.1,c.2,a,()),(()))) (fun y=>((),()))
noncomputable abbrev qe0:Mdl:=(mdlOf (.cons (.d false qT2) (.cons (.d false qT0) .nil)) [] [] 1 qn2 (B:=Bool) (fun b=>((b,()),(()))) (fun a=>qft a.1.1 a.1.2.1))
theorem qkv:MdlOK Try.prog 46 qe0:=fnA Try.func46 rfl qow (.two .z (.two (.two .z (.s 0)) .z)) (sC qzi s0)
def qea:Shp:=⟨[(0,.d true .bool)],[]⟩
noncomputable abbrev qu3:Ctx (Bool):=⟨7,tt,false,false,[],gam [(46,qe0)],lam [],resU 7 tt [] [.tmp 2] qea (fun x=>x.1.1)⟩
theorem qu9:CtxM Try.prog qu3:=mkG fits mixed (mC qkv m0)
noncomputable abbrev qfv:Mdl:=(mdlOf (.cons (.rp false qT2) (.cons (.rp false Net.ty) .nil)) [] [] 1 qea (B:=Bool) (fun b=>((b,()),(()))) (fun a=>qhm a.1.1 a.1.2.1))
theorem qr2:MdlOK Try.prog 45 qfv:=fnA Try.func45 rfl qu9 .z s0
def qcl:Shp:=⟨[(0,.d true .bool)],[]⟩
noncomputable abbrev qqd:Ctx (Bool):=⟨6,tt,false,false,[],gam [(45,qfv)],lam [],resU 6 tt [] [.tmp 2] qcl (fun x=>x.1.1)⟩
theorem qq1:CtxM Try.prog qqd:=mkG fits mixed (mC qr2 m0)
noncomputable abbrev qcx:Mdl:=(mdlOf (.cons (.fn 45 (.cons (.rp false qT2) (.cons (.rp false Net.ty) .nil))) .nil) [] [] 1 qcl (B:=Bool) (fun b=>((b,()),(()))) (fun a=>qdh a.1.1.1 a.1.1.2.1))
theorem qob:MdlOK Try.prog 50 qcx:=fnA Try.func50 rfl qq1 .z s0
def qeb:Shp:=⟨[(0,.d true .bool)],[]⟩
noncomputable abbrev qtg:Ctx (Bool):=⟨8,tt,false,false,[],gam [(46,qe0)],lam [],resU 8 tt [] [.tmp 2] qeb (fun x=>x.1.1)⟩
theorem qso:CtxM Try.prog qtg:=mkG fits mixed (mC qkv m0)
noncomputable abbrev qff:Mdl:=(mdlOf (.cons (.rp false qT2) (.cons (.rp false Net.ty) .nil)) [] [] 1 qeb (B:=Bool) (fun b=>((b,()),(()))) (fun a=>qhf a.1.1 a.1.2.1))
theorem qqx:MdlOK Try.prog 47 qff:=fnA Try.func47 rfl qso .z s0
def qca:Shp:=⟨[(0,.d true .bool)],[]⟩
noncomputable abbrev qqg:Ctx (Bool):=⟨6,tt,false,false,[],gam [(47,qff)],lam [],resU 6 tt [] [.tmp 2] qca (fun x=>x.1.1)⟩
theorem qql:CtxM Try.prog qqg:=mkG fits mixed (mC qqx m0)
noncomputable abbrev qd7:Mdl:=(mdlOf (.cons (.fn 47 (.cons (.rp false qT2) (.cons (.rp false Net.ty) .nil))) .nil) [] [] 1 qca (B:=Bool) (fun b=>((b,()),(()))) (fun a=>qdq a.1.1.1 a.1.1.2.1))
theorem qoj:MdlOK Try.prog 50 qd7:=fnA Try.func50 rfl qql .z s0
def qed:Shp:=⟨[(0,.d true .bool)],[]⟩
noncomputable abbrev qtj:Ctx (Bool):=⟨9,tt,false,false,[],gam [(21,qd9)],lam [],resU 9 tt [] [.tmp 2] qed (fun x=>x.1.1)⟩
theorem qtr:CtxM Try.prog qtj:=mkG fits mixed (mC qij m0)
noncomputable abbrev qg5:Mdl:=(mdlOf (.cons (.rp false qT0) (.cons (.rp false Net.ty) .nil)) [] [] 1 qed (B:=Bool) (fun b=>((b,()),(()))) (fun a=>qhp a.1.1 a.1.2.1))
theorem qqv:MdlOK Try.prog 48 qg5:=fnA Try.func48 rfl qtr (.two .z (.two (.d [0,0,2,6,14,31,63] [] []) .z)) s0
def qbu:Shp:=⟨[(0,.d true .bool)],[]⟩
noncomputable abbrev qqr:Ctx (Bool):=⟨6,tt,false,false,[],gam [(48,qg5)],lam [],resU 6 tt [] [.tmp 2] qbu (fun x=>x.1.1)⟩
theorem qqj:CtxM Try.prog qqr:=mkG fits mixed (mC qqv m0)
noncomputable abbrev qd6:Mdl:=(mdlOf (.cons (.fn 48 (.cons (.rp false qT0) (.cons (.rp false Net.ty) .nil))) .nil) [] [] 1 qbu (B:=Bool) (fun b=>((b,()),(()))) (fun a=>qdm a.1.1.1 a.1.1.2.1))
theorem qoc:MdlOK Try.prog 50 qd6:=fnA Try.func50 rfl qqj .z s0
def q25:Shp:=⟨[(0,.d true qT0)],[.cs 25 1 3 (.cons (.fn 45 (.cons (.ptr 1) (.cons (.ptr 2) .nil))) (.cons (.fn 47 (.cons (.ptr 3) (.cons (.ptr 2) .nil))) (.cons (.fn 48 (.cons (.ptr 4) (.cons (.ptr 2) .nil))) .nil))),.cs 51 1 1 (.cons (.d true qT2) .nil),.cs 24 4 1 (.cons (.d true qT0) (.cons (.d true (.slice Trans.ty)) (.cons (.d true qT0) (.cons (.d true qT0) .nil)))),.cs 51 1 1 (.cons (.d true qT2) .nil),.cs 3 1 1 (.cons (.d true qT0) .nil)]⟩
noncomputable abbrev q7c:Ctx ((Int×qL2×Int×(List Trans)×Int×Int×qL2×Int)):=⟨19,tt,false,false,[true,true,true,true,true],gam [(50,qcx),(50,qd7),(50,qd6)],lam [],resU 19 tt [true,true,true,true,true] [.tmp 4] q25 (fun x=>(x.1.1,x.2.2.1.1,x.2.2.2.1.1,x.2.2.2.1.2.1,x.2.2.2.1.2.2.1,x.2.2.2.1.2.2.2.1,x.2.2.2.2.1.1,x.2.2.2.2.2.1.1))⟩
theorem q7d:CtxM Try.prog q7c:=mkG fits mixed (mC qob (mC qoj (mC qoc m0)))
noncomputable abbrev q2a:Mdl:=(mdlOf (.cons (.own 0) (.cons (.fn 50 .nil) .nil)) [.cs 25 1 3 (.cons (.fn 45 (.cons (.ptr 1) (.cons (.ptr 2) .nil))) (.cons (.fn 47 (.cons (.ptr 3) (.cons (.ptr 2) .nil))) (.cons (.fn 48 (.cons (.ptr 4) (.cons (.ptr 2) .nil))) .nil))),.cs 51 1 1 (.cons (.d true qT2) .nil),.cs 24 4 1 (.cons (.d false qT0) (.cons (.d true (.slice Trans.ty)) (.cons (.d false qT0) (.cons (.d false qT0) .nil)))),.cs 51 1 1 (.cons (.d true qT2) .nil),.cs 3 1 1 (.cons (.d false qT0) .nil)] [true,true,true,true,true] 1 q25 (B:=(Int×qL2×Int×(List Trans)×Int×Int×qL2×Int)) (fun b=>((b.1,()),((((),(),()),((),(),()),((),(),()),()),(b.2.1,()),(b.2.2.1,b.2.2.2.1,b.2.2.2.2.1,b.2.2.2.2.2.1,()),(b.2.2.2.2.2.2.1,()),(b.2.2.2.2.2.2.2,()),()))) (fun a=>q2h a.2.2.1.1 a.2.2.2.1.1 a.2.2.2.1.2.1 a.2.2.2.1.2.2.1 a.2.2.2.1.2.2.2.1 a.2.2.2.2.1.1 a.2.2.2.2.2.1.1))
theorem q6h:MdlOK Try.prog 68 q2a:=fnA Try.func68 rfl q7d (.two .z (.two (.two .z (.one (.u 4 .z))) .z)) s0
def q1s:Shp:=⟨[(0,.d true .bool)],[.cs 25 1 3 (.cons (.fn 45 (.cons (.ptr 1) (.cons (.ptr 2) .nil))) (.cons (.fn 47 (.cons (.ptr 3) (.cons (.ptr 2) .nil))) (.cons (.fn 48 (.cons (.ptr 4) (.cons (.ptr 2) .nil))) .nil))),.cs 51 1 1 (.cons (.d true qT2) .nil),.cs 24 4 1 (.cons (.d true qT0) (.cons (.d true (.slice Trans.ty)) (.cons (.d true qT0) (.cons (.d true qT0) .nil)))),.cs 51 1 1 (.cons (.d true qT2) .nil),.cs 3 1 1 (.cons (.d true qT0) .nil)]⟩
noncomputable abbrev q6e:Ctx ((Bool×qL2×Int×(List Trans)×Int×Int×qL2×Int)):=⟨9,tt,false,false,[true,true,true,true,true],gam [(68,q2a)],lam [],resU 9 tt [true,true,true,true,true] [.tmp 4] q1s (fun x=>(x.1.1,x.2.2.1.1,x.2.2.2.1.1,x.2.2.2.1.2.1,x.2.2.2.1.2.2.1,x.2.2.2.1.2.2.2.1,x.2.2.2.2.1.1,x.2.2.2.2.2.1.1))⟩
theorem q6d:CtxM Try.prog q6e:=mkG fits mixed (mC q6h m0)
noncomputable abbrev q1t:Mdl:=(mdlOf (.cons (.own 0) (.cons (.fn 50 .nil) .nil)) [.cs 25 1 3 (.cons (.fn 45 (.cons (.ptr 1) (.cons (.ptr 2) .nil))) (.cons (.fn 47 (.cons (.ptr 3) (.cons (.ptr 2) .nil))) (.cons (.fn 48 (.cons (.ptr 4) (.cons (.ptr 2) .nil))) .nil))),.cs 51 1 1 (.cons (.d true qT2) .nil),.cs 24 4 1 (.cons (.d false qT0) (.cons (.d true (.slice Trans.ty)) (.cons (.d false qT0) (.cons (.d false qT0) .nil)))),.cs 51 1 1 (.cons (.d true qT2) .nil),.cs 3 1 1 (.cons (.d false qT0) .nil)] [true,true,true,true,true] 1 q1s (B:=(Bool×qL2×Int×(List Trans)×Int×Int×qL2×Int)) (fun b=>((b.1,()),((((),(),()),((),(),()),((),(),()),()),(b.2.1,()),(b.2.2.1,b.2.2.2.1,b.2.2.2.2.1,b.2.2.2.2.2.1,()),(b.2.2.2.2.2.2.1,()),(b.2.2.2.2.2.2.2,()),()))) (fun a=>q1v a.2.2.1.1 a.2.2.2.1.1 a.2.2.2.1.2.1 a.2.2.2.1.2.2.1 a.2.2.2.1.2.2.2.1 a.2.2.2.2.1.1 a.2.2.2.2.2.1.1))
theorem q5l:MdlOK Try.prog 49 q1t:=fnA Try.func49 rfl q6d .z s0
def qhg:Shp:=⟨[(0,.d true .bool),(1,.d true qT0)],[]⟩
noncomputable abbrev qw2:Ctx ((Bool×Int)):=⟨61,tt,false,false,[],gam [(20,q31),(22,q8u),(40,ql2),(41,q113),(42,qrt),(43,qtn),(44,q11i),(49,q1t)],lam [],resU 61 tt [] [.tmp 2,.tmp 3] qhg (fun x=>(x.1.1,x.1.2.1))⟩
theorem qw3:CtxM Try.prog qw2:=mkG fits mixed (mC q2l (mC qdd (mC quc (mC q19d (mC q10q (mC q11r (mC q18r (mC q5l m0))))))))
noncomputable abbrev qhz:Mdl:=(mdlOf (.cons (.d true Net.ty) .nil) [] [] 2 qhg (B:=(Bool×Int)) (fun b=>((b.1,b.2,()),(()))) (fun a=>ql8 a.1.1))
theorem qsz:MdlOK Try.prog 26 qhz:=fnA Try.func26 rfl qw3 .z s0
def qy6:Shp:=⟨[(0,.d true (.int .u32))],[]⟩
noncomputable abbrev qzs:Ctx (Int):=⟨18,tt,false,false,[],gam [],lam [q0 _ 18 [] q16v (C:=(qL1×Int)) (S:=(Int×Int)) (fun x=>((x.1.2.1,x.1.2.2.1),(x.1.1,x.1.2.2.2.1))) q179 (CE:=Unit) (E:=Int) (fun c e=>((e,()),(()))) (fun c=>()) (fun {R} c a nx dn rt=>qvy c.1 c.2 a.1 a.2 nx dn rt)],resU 18 tt [] [.tmp 2] qy6 (fun x=>x.1.1)⟩
theorem q102:CtxM Try.prog qzs:=mkG fits mixed m0
theorem q18q:SummOK Try.prog qzs 0 (lc 0 Try.f69 75):=lp rfl q102 .z s0 (fun c a=>((a.1,c.1,c.2,a.2,()),(()))) (fun y=>((),y.1.1))
noncomputable abbrev q10g:Mdl:=(mdlOf (.cons (.d false qT1) .nil) [] [] 1 qy6 (B:=Int) (fun b=>((b,()),(()))) (fun a=>qt2 a.1.1))
theorem q16j:MdlOK Try.prog 69 q10g:=fnA Try.func69 rfl q102 (.two .z (.two .z (.two (.two .z (.s 0)) .z))) (sC q18q s0)
def qta:Shp:=⟨[(0,.nl false (.own 0))],[.arr 76 (.fz true) [0] (.int .u32)]⟩
noncomputable abbrev q8r:Ctx (qL1):=⟨106,tt,false,false,[],gam [(69,q10g)],lam [q0 _ 106 [] q139 (C:=((List Trans)×Int×Int×(List Trans)×Int×Int)) (S:=(Int×qL1×qL1)) (fun x=>((x.1.2.2.2.1,x.1.2.2.2.2.1,x.2.1.1,x.2.1.2.1,x.2.1.2.2.1,x.2.1.2.2.2.1),(x.1.2.2.2.2.2.1,x.2.2.1,x.2.2.2.1))) q13b (CE:=(Int×(List Trans)×Int×Int)) (E:=(qL1×qL1)) (fun c e=>(((),(),(),()),((c.1,c.2.1,c.2.2.1,c.2.2.2,()),e.1,e.2,()))) (fun c=>(c.2.2.1,c.2.2.2.1,c.2.2.2.2.1,c.2.2.2.2.2)) (fun {R} c a nx dn rt=>qrm c.1 c.2.1 c.2.2.1 c.2.2.2.1 c.2.2.2.2.1 c.2.2.2.2.2 a.1 a.2.1 a.2.2 nx dn rt),
 q0 _ 106 [] q13t (C:=(qL1×qL1×Int×Int×Int×(List Trans)×Int×Int×qL1)) (S:=(Int×(List Bool))) (fun x=>((x.1.2.1,x.1.2.2.1,x.1.2.2.2.2.2.1,x.1.2.2.2.2.2.2.1,x.2.1.1,x.2.1.2.1,x.2.1.2.2.1,x.2.1.2.2.2.1,x.2.2.2.1),(x.1.2.2.2.2.2.2.2.1,x.2.2.1))) q13d (CE:=(qL1×qL1×Int×Int×(List Trans)×Int×Int×qL1)) (E:=(List Bool)) (fun c e=>(((),c.1,c.2.1,(),(),c.2.2.1,()),((c.2.2.2.1,c.2.2.2.2.1,c.2.2.2.2.2.1,c.2.2.2.2.2.2.1,()),e,c.2.2.2.2.2.2.2,()))) (fun c=>(c.1,c.2.1,c.2.2.1,c.2.2.2.2.1,c.2.2.2.2.2.1,c.2.2.2.2.2.2.1,c.2.2.2.2.2.2.2.1,c.2.2.2.2.2.2.2.2)) (fun {R} c a nx dn rt=>qrn c.1 c.2.1 c.2.2.1 c.2.2.2.1 c.2.2.2.2.1 c.2.2.2.2.2.1 c.2.2.2.2.2.2.1 c.2.2.2.2.2.2.2.1 c.2.2.2.2.2.2.2.2 a.1 a.2 nx dn rt),
 q0 _ 106 [] q12r (C:=(qL1×qL1×Int×Int×Int×(List Trans)×Int×Int×(List Bool)×qL1)) (S:=(Bool×Int)) (fun x=>((x.1.2.1,x.1.2.2.1,x.1.2.2.2.2.2.1,x.1.2.2.2.2.2.2.2.1,x.2.1.1,x.2.1.2.1,x.2.1.2.2.1,x.2.1.2.2.2.1,x.2.2.1,x.2.2.2.1),(x.1.2.2.2.2.2.2.1,x.1.2.2.2.2.2.2.2.2.1))) q13j (CE:=(qL1×qL1×Int×Int×(List Trans)×Int×Int×(List Bool)×qL1)) (E:=Bool) (fun c e=>(((),c.1,c.2.1,(),(),c.2.2.1,e,()),((c.2.2.2.1,c.2.2.2.2.1,c.2.2.2.2.2.1,c.2.2.2.2.2.2.1,()),c.2.2.2.2.2.2.2.1,c.2.2.2.2.2.2.2.2,()))) (fun c=>(c.1,c.2.1,c.2.2.1,c.2.2.2.2.1,c.2.2.2.2.2.1,c.2.2.2.2.2.2.1,c.2.2.2.2.2.2.2.1,c.2.2.2.2.2.2.2.2.1,c.2.2.2.2.2.2.2.2.2)) (fun {R} c a nx dn rt=>qrs c.1 c.2.1 c.2.2.1 c.2.2.2.1 c.2.2.2.2.1 c.2.2.2.2.2.1 c.2.2.2.2.2.2.1 c.2.2.2.2.2.2.2.1 c.2.2.2.2.2.2.2.2.1 c.2.2.2.2.2.2.2.2.2 a.1 a.2 nx dn rt),
 q0 _ 106 [] q134 (C:=(qL1×qL1×Int×(List Trans)×Int×Int)) (S:=(Int×(List Bool)×qL1)) (fun x=>((x.1.2.1,x.1.2.2.1,x.2.1.1,x.2.1.2.1,x.2.1.2.2.1,x.2.1.2.2.2.1),(x.1.2.2.2.2.2.1,x.2.2.1,x.2.2.2.1))) q135 (CE:=Unit) (E:=qL1) (fun c e=>(((),()),(e,()))) (fun c=>()) (fun {R} c a nx dn rt=>qrg c.1 c.2.1 c.2.2.1 c.2.2.2.1 c.2.2.2.2.1 c.2.2.2.2.2 a.1 a.2.1 a.2.2 nx dn rt)],resU 106 tt [] [.tmp 2] qta (fun x=>x.2.1)⟩
theorem q8x:CtxM Try.prog q8r:=mkG fits mixed (mC q16j m0)
theorem q14q:SummOK Try.prog q8r 2 (lc 6 Try.f51 619103):=lp rfl q8x .z s0 (fun c a=>(((),c.1,c.2.1,(),(),c.2.2.1,a.1,c.2.2.2.1,a.2,()),((c.2.2.2.2.1,c.2.2.2.2.2.1,c.2.2.2.2.2.2.1,c.2.2.2.2.2.2.2.1,()),c.2.2.2.2.2.2.2.2.1,c.2.2.2.2.2.2.2.2.2,()))) (fun y=>((y.1.2.1,y.1.2.2.1,y.1.2.2.2.2.2.1,y.2.1.1,y.2.1.2.1,y.2.1.2.2.1,y.2.1.2.2.2.1,y.2.2.1,y.2.2.2.1),y.1.2.2.2.2.2.2.1))
theorem q166:SummOK Try.prog q8r 1 (lc 4 Try.f51 74335):=lp rfl q8x .z s0 (fun c a=>(((),c.1,c.2.1,(),(),c.2.2.1,c.2.2.2.1,a.1,()),((c.2.2.2.2.1,c.2.2.2.2.2.1,c.2.2.2.2.2.2.1,c.2.2.2.2.2.2.2.1,()),a.2,c.2.2.2.2.2.2.2.2,()))) (fun y=>((y.1.2.1,y.1.2.2.1,y.1.2.2.2.2.2.1,y.2.1.1,y.2.1.2.1,y.2.1.2.2.1,y.2.1.2.2.2.1,y.2.2.2.1),y.2.2.1))
theorem q14n:SummOK Try.prog q8r 3 (lc 2 Try.f51 607):=lp rfl q8x (.two .z (.two (.one (.two (.two .z (.s 1)) (.two .z (.two .z (.two (.two .z (.s 2)) .z))))) .z)) (sC q166 (sC q14q s0)) (fun c a=>(((),c.1,c.2.1,(),(),a.1,()),((c.2.2.1,c.2.2.2.1,c.2.2.2.2.1,c.2.2.2.2.2,()),a.2.1,a.2.2,()))) (fun y=>((),y.2.1))
theorem q157:SummOK Try.prog q8r 0 (lc 0 Try.f51 75):=lp rfl q8x (.two .z (.two .z (.two (.one (.two .z (.d [0,0,2,6,14,31,0,0,128,447,959,2047,4095,8191] [5,11,12,13] [1]))) .z))) s0 (fun c a=>(((),(),(),c.1,c.2.1,a.1,()),((c.2.2.1,c.2.2.2.1,c.2.2.2.2.1,c.2.2.2.2.2,()),a.2.1,a.2.2,()))) (fun y=>((y.2.1.1,y.2.1.2.1,y.2.1.2.2.1,y.2.1.2.2.2.1),(y.2.2.1,y.2.2.2.1)))
noncomputable abbrev qvw:Mdl:=(mdlOf (.cons (.d false Net.ty) .nil) [] [] 1 qta (B:=qL1) (fun b=>(((),()),(b,()))) (fun a=>qxe a.1.1))
theorem q131:MdlOK Try.prog 51 qvw:=fnA Try.func51 rfl q8x (.two .z (.two .z (.two (.two .z (.s 0)) (.two .z (.two .z (.two (.two .z (.s 3)) .z)))))) (sC q157 (sC q14n s0))
def qqp:Shp:=⟨[(0,.d true qT0)],[]⟩
noncomputable abbrev q12p:Ctx (Int):=⟨8,tt,false,false,[],gam [(54,q12)],lam [],resU 8 tt [] [.tmp 4] qqp (fun x=>x.1.1)⟩
theorem q12q:CtxM Try.prog q12p:=mkG fits mixed (mC q13 m0)
noncomputable abbrev q1w:Mdl:=(mdlOf (.cons (.d false qT1) (.cons (.d false qT1) .nil)) [] [] 1 qqp (B:=Int) (fun b=>((b,()),(()))) (fun a=>qk a.1.1 a.1.2.1))
theorem q1y:MdlOK Try.prog 53 q1w:=fnA Try.func53 rfl q12q .z s0
def q5d:Shp:=⟨[],[.arr 33 (.fz true) [3] qT1]⟩
noncomputable abbrev q2k:Ctx (qL2):=⟨53,tt,false,false,[true],gam [(53,q1w)],lam [q0 _ 53 [true] qex (C:=(Int×Int×Int)) (S:=(Int×qL2)) (fun x=>((x.1.2.1,x.1.2.2.1,x.1.2.2.2.2.1),(x.1.2.2.2.2.2.1,x.2.1))) qep (CE:=(Int×Int×Int)) (E:=qL2) (fun c e=>(((),c.1,c.2.1,(()),c.2.2,()),(e,()))) (fun c=>(c.1,c.2.1,c.2.2)) (fun {R} c a nx dn rt=>q51 c.1 c.2.1 c.2.2 a.1 a.2 nx dn rt),
 q0 _ 53 [true] qf3 (C:=(Int×Int)) (S:=(Int×qL2)) (fun x=>((x.1.2.1,x.1.2.2.1),(x.1.2.2.2.2.1,x.2.1))) qel (CE:=Unit) (E:=qL2) (fun c e=>((()),(e,()))) (fun c=>()) (fun {R} c a nx dn rt=>q53 c.1 c.2 a.1 a.2 nx dn rt)],resU 53 tt [true] [] q5d (fun x=>x.2.1)⟩
theorem q2j:CtxM Try.prog q2k:=mkG fits mixed (mC q1y m0)
theorem qgn:SummOK Try.prog q2k 0 (lc 2 Try.f82 585):=lp rfl q2j (.two (.two (.d [0,0,3,7,15,15,15,111,239,15,15,1039,3599,7695,16383,32767,65535] [] []) .z) (.two (.one (.d [0,0,0,0,8,0,0,64,224,480,0,0,3072,7168,16355,32739,65535,131071] [15,17] [])) .z)) s0 (fun c a=>(((),c.1,c.2.1,(()),c.2.2,a.1,()),(a.2,()))) (fun y=>((y.1.2.1,y.1.2.2.1,y.1.2.2.2.2.1),y.2.1))
theorem qg7:SummOK Try.prog q2k 1 (lc 0 Try.f82 9):=lp rfl q2j (.two .z (.two (.one (.two .z (.s 0))) .z)) (sC qgn s0) (fun c a=>(((),c.1,c.2,(()),a.1,()),(a.2,()))) (fun y=>((),y.2.1))
noncomputable abbrev q5y:Mdl:=(mdlOf (.cons (.own 0) (.cons (.d false qT0) (.cons (.d false qT0) (.cons (.fn 53 .nil) .nil)))) [.arr 33 (.fz true) [3] qT1] [true] 0 q5d (B:=qL2) (fun b=>((()),(b,()))) (fun a=>q6p a.1.2.1 a.1.2.2.1 a.2.1))
theorem qen:MdlOK Try.prog 82 q5y:=fnA Try.func82 rfl q2j (.two .z (.s 1)) (sC qg7 s0)
def q8d:Shp:=⟨[],[.arr 33 (.fz true) [3] qT1]⟩
noncomputable abbrev q4b:Ctx (qL2):=⟨82,tt,false,false,[true],gam [(53,q1w)],lam [q2g _ 82 [true] qk1 (A:=(Int×Int×Int×Int×qL2)) (fun x=>(x.1.2.1,x.1.2.2.1,x.1.2.2.2.2.1,x.1.2.2.2.2.2.1,x.2.1)) qjl (CE:=(Int×Int×Int)) (E:=qL2) (fun c e=>(((),c.1,c.2.1,(()),c.2.2,()),(e,()))) (fun c=>(c.1,c.2.1,c.2.2.2.1)) (fun {R} c dn rt=>q7j c.1 c.2.1 c.2.2.1 c.2.2.2.1 c.2.2.2.2 dn rt),
 q0 _ 82 [true] qjt (C:=(Int×Int)) (S:=(Int×qL2)) (fun x=>((x.1.2.1,x.1.2.2.1),(x.1.2.2.2.2.1,x.2.1))) qjj (CE:=Unit) (E:=qL2) (fun c e=>((()),(e,()))) (fun c=>()) (fun {R} c a nx dn rt=>q7s c.1 c.2 a.1 a.2 nx dn rt)],resU 82 tt [true] [] q8d (fun x=>x.2.1)⟩
theorem q48:CtxM Try.prog q4b:=mkG fits mixed (mC q1y m0)
theorem qm6:SummOK Try.prog q4b 0 (jc Try.f96 241):=jn rfl q48 (.two (.two (.d [0,0,0,0,12,30,62,0,0,0,768,1920,3968,8191,16383,32767] [] []) .z) (.two (.d [0,0,0,6,0,0,0,96,0,0,0,1536,3840,7936,0,0,0,98304,245760,507904,1048335,2096911,4194303,8388607] [21,23] []) .z)) s0 (fun c=>(((),c.1,c.2.1,(()),c.2.2.1,c.2.2.2.1,()),(c.2.2.2.2,()))) (fun y=>((y.1.2.1,y.1.2.2.1,y.1.2.2.2.2.1),y.2.1))
theorem qlv:SummOK Try.prog q4b 1 (lc 0 Try.f96 9):=lp rfl q48 (.one (.two .z (.two .z (.two (.two (.d [0,1,0,7,15,31,31,31,31,415,991,2015,31,31,31,24607,57375,127007,258079,524287,1048575,2097151] [] []) .z) (.s 0))))) (sC qm6 s0) (fun c a=>(((),c.1,c.2,(()),a.1,()),(a.2,()))) (fun y=>((),y.2.1))
noncomputable abbrev q8p:Mdl:=(mdlOf (.cons (.own 0) (.cons (.d false qT0) (.cons (.d false qT0) (.cons (.d false qT0) (.cons (.fn 53 .nil) .nil))))) [.arr 33 (.fz true) [3] qT1] [true] 0 q8d (B:=qL2) (fun b=>((()),(b,()))) (fun a=>q4m a.1.2.1 a.1.2.2.1 a.1.2.2.2.1 a.2.1))
theorem qjm:MdlOK Try.prog 96 q8p:=fnA Try.func96 rfl q48 (.two .z (.s 1)) (sC qlv s0)
def q8b:Shp:=⟨[],[.arr 33 (.fz true) [3] qT1]⟩
noncomputable abbrev q49:Ctx (qL2):=⟨60,tt,false,false,[true],gam [(96,q8p)],lam [q0 _ 60 [true] qkj (C:=(Int×Int×Int)) (S:=(Int×qL2)) (fun x=>((x.1.2.2.1,x.1.2.2.2.1,x.1.2.2.2.2.1),(x.1.2.2.2.2.2.1,x.2.1))) qkk (CE:=(Int×Int×Int)) (E:=qL2) (fun c e=>(((),(()),c.1,c.2.1,c.2.2,()),(e,()))) (fun c=>(c.1,c.2.1,c.2.2)) (fun {R} c a nx dn rt=>q7r c.1 c.2.1 c.2.2 a.1 a.2 nx dn rt),
 q0 _ 60 [true] qkh (C:=(Int×Int)) (S:=(Int×qL2)) (fun x=>((x.1.2.2.1,x.1.2.2.2.1),(x.1.2.2.2.2.1,x.2.1))) qk2 (CE:=Unit) (E:=qL2) (fun c e=>((()),(e,()))) (fun c=>()) (fun {R} c a nx dn rt=>q7i c.1 c.2 a.1 a.2 nx dn rt)],resU 60 tt [true] [] q8b (fun x=>x.2.1)⟩
theorem q4e:CtxM Try.prog q49:=mkG fits mixed (mC qjm m0)
theorem qli:SummOK Try.prog q49 0 (lc 0 Try.f83 151):=lp rfl q4e .z s0 (fun c a=>(((),(()),c.1,c.2.1,c.2.2,a.1,()),(a.2,()))) (fun y=>((y.1.2.2.1,y.1.2.2.2.1,y.1.2.2.2.2.1),y.2.1))
theorem qlk:SummOK Try.prog q49 1 (lc 2 Try.f83 159):=lp rfl q4e (.two .z (.two (.one (.two (.d [0,0,0,0,0,24,0,0,0,384,960,1984,0,0,12288,28672,65475,131011,262143,524287] [17,19] []) .z)) .z)) s0 (fun c a=>(((),(()),c.1,c.2,a.1,()),(a.2,()))) (fun y=>((),y.2.1))
noncomputable abbrev q98:Mdl:=(mdlOf (.cons (.own 0) (.cons (.d false qT0) (.cons (.d false qT0) (.cons (.fn 53 .nil) .nil)))) [.arr 33 (.fz true) [3] qT1] [true] 0 q8b (B:=qL2) (fun b=>((()),(b,()))) (fun a=>qaq a.1.2.1 a.1.2.2.1 a.2.1))
theorem qjk:MdlOK Try.prog 83 q98:=fnA Try.func83 rfl q4e (.two .z (.two .z (.two .z (.two (.two .z (.s 0)) (.two .z (.s 1)))))) (sC qli (sC qlk s0))
def q5n:Shp:=⟨[],[.arr 33 (.fz true) [3] qT1]⟩
noncomputable abbrev q62:Ctx (qL2):=⟨67,tt,false,false,[true],gam [(97,q9p),(98,qbs)],lam [q0 _ 67 [true] qfa (C:=(Int×Int×Int)) (S:=(Int×qL2×Int)) (fun x=>((x.1.2.1,x.1.2.2.1,x.1.2.2.2.2.1),(x.1.2.2.2.2.2.1,x.2.1,x.2.2.1.1))) qem (CE:=Unit) (E:=qL2) (fun c e=>((()),(e,()))) (fun c=>()) (fun {R} c a nx dn rt=>q55 c.1 c.2.1 c.2.2 a.1 a.2.1 a.2.2 nx dn rt)],resU 67 tt [true] [] q5n (fun x=>x.2.1)⟩
theorem q5t:CtxM Try.prog q62:=mkG fits mixed (mC qgc (mC qhh m0))
theorem qfc:SummOK Try.prog q62 0 (lc 0 Try.f84 315):=lp rfl q5t (.two .z (.two (.one (.two .z (.two .z (.d [0,0,0,0,0,24,0,0,0,384,960,1984,0,0,12288,28672,65475,131011,262143,524287] [17,19] [])))) .z)) s0 (fun c a=>(((),c.1,c.2.1,(),c.2.2,a.1,()),(a.2.1,(a.2.2,()),()))) (fun y=>((),y.2.1))
noncomputable abbrev q68:Mdl:=(mdlOf (.cons (.own 0) (.cons (.d false qT0) (.cons (.d false qT0) (.cons (.fn 53 .nil) .nil)))) [.arr 33 (.fz true) [3] qT1] [true] 0 q5n (B:=qL2) (fun b=>((()),(b,()))) (fun a=>q6r a.1.2.1 a.1.2.2.1 a.2.1))
theorem qej:MdlOK Try.prog 84 q68:=fnA Try.func84 rfl q5t (.two .z (.two .z (.two (.two .z (.two .z (.two .z (.s 0)))) .z))) (sC qfc s0)
def qar:Shp:=⟨[(0,.d true qT0),(1,.d true qT0)],[.cs 3 1 1 (.cons (.d true qT0) .nil)]⟩
noncomputable abbrev qpi:Ctx ((Int×Int×Int)):=⟨32,tt,false,false,[true],gam [(53,q1w)],lam [],resU 32 tt [true] [.tmp 10,.tmp 11] qar (fun x=>(x.1.1,x.1.2.1,x.2.1.1))⟩
theorem qp8:CtxM Try.prog qpi:=mkG fits mixed (mC q1y m0)
noncomputable abbrev qc4:Mdl:=(mdlOf (.cons (.d false qT2) (.cons (.d false qT0) (.cons (.d false qT0) (.cons (.ptr 0) (.cons (.fn 53 .nil) .nil))))) [.cs 3 1 1 (.cons (.d false qT0) .nil)] [true] 2 qar (B:=(Int×Int×Int)) (fun b=>((b.1,b.2.1,()),((b.2.2,()),()))) (fun a=>q2u a.1.1 a.1.2.1 a.1.2.2.1 a.2.1.1))
theorem qny:MdlOK Try.prog 103 qc4:=fnA Try.func103 rfl qp8 (.two .z (.two (.two (.d [0,0,0,6,14,0,0,96,224,511,1023] [] []) .z) .z)) s0
def qag:Shp:=⟨[(0,.d true qT0)],[.cs 3 1 1 (.cons (.d true qT0) .nil)]⟩
noncomputable abbrev qpb:Ctx ((Int×Int)):=⟨41,tt,false,false,[true],gam [(103,qc4)],lam [],resU 41 tt [true] [.tmp 12] qag (fun x=>(x.1.1,x.2.1.1))⟩
theorem qph:CtxM Try.prog qpb:=mkG fits mixed (mC qny m0)
noncomputable abbrev q4x:Mdl:=(mdlOf (.cons (.d false qT2) (.cons (.d false qT0) (.cons (.d false qT0) (.cons (.d false qT0) (.cons (.ptr 0) (.cons (.fn 53 .nil) .nil)))))) [.cs 3 1 1 (.cons (.d false qT0) .nil)] [true] 1 qag (B:=(Int×Int)) (fun b=>((b.1,()),((b.2,()),()))) (fun a=>q2y a.1.1 a.1.2.1 a.1.2.2.1 a.1.2.2.2.1 a.2.1.1))
theorem q91:MdlOK Try.prog 100 q4x:=fnA Try.func100 rfl qph .z s0
def q57:Shp:=⟨[(0,.d true qT0)],[.cs 3 1 1 (.cons (.d true qT0) .nil)]⟩
noncomputable abbrev qfe:Ctx ((Int×Int)):=⟨18,tt,false,false,[true],gam [(100,q4x)],lam [],resU 18 tt [true] [.tmp 8] q57 (fun x=>(x.1.1,x.2.1.1))⟩
theorem qfx:CtxM Try.prog qfe:=mkG fits mixed (mC q91 m0)
noncomputable abbrev q5m:Mdl:=(mdlOf (.cons (.d false qT2) (.cons (.d false qT0) (.cons (.ptr 0) (.cons (.fn 53 .nil) .nil)))) [.cs 3 1 1 (.cons (.d false qT0) .nil)] [true] 1 q57 (B:=(Int×Int)) (fun b=>((b.1,()),((b.2,()),()))) (fun a=>q1m a.1.1 a.1.2.1 a.2.1.1))
theorem qdu:MdlOK Try.prog 99 q5m:=fnA Try.func99 rfl qfx .z s0
def q6l:Shp:=⟨[(0,.d true qT0),(1,.d true qT0)],[]⟩
noncomputable abbrev q75:Ctx ((Int×Int)):=⟨63,tt,false,false,[],gam [(99,q5m),(100,q4x)],lam [q2g _ 63 [] qgv (A:=(Int×Int)) (fun x=>(x.1.2.1,x.2.1.1)) qh1 (CE:=Unit) (E:=Unit) (fun c e=>((()),(()))) (fun c=>()) (fun {R} c dn rt=>q67 c.1 c.2 dn rt)],resU 63 tt [] [.tmp 8,.tmp 9] q6l (fun x=>(x.1.1,x.1.2.1))⟩
theorem q7a:CtxM Try.prog q75:=mkG fits mixed (mC qdu (mC q91 m0))
theorem qhu:SummOK Try.prog q75 0 (jc Try.f85 255):=jn rfl q7a .z s0 (fun c=>(((),c.1,()),((c.2,()),()))) (fun y=>((),()))
noncomputable abbrev q76:Mdl:=(mdlOf (.cons (.d false qT2) (.cons (.d false qT0) (.cons (.d false qT0) (.cons (.fn 53 .nil) .nil)))) [] [] 2 q6l (B:=(Int×Int)) (fun b=>((b.1,b.2,()),(()))) (fun a=>q3o a.1.1 a.1.2.1 a.1.2.2.1))
theorem qgz:MdlOK Try.prog 85 q76:=fnA Try.func85 rfl q7a (.two .z (.two .z (.two .z (.two .z (.two .z (.two .z (.two .z (.s 0)))))))) (sC qhu s0)
def q5s:Shp:=⟨[],[.arr 33 (.fz true) [3] qT1]⟩
noncomputable abbrev q6j:Ctx (qL2):=⟨34,tt,false,false,[true],gam [],lam [q0 _ 34 [true] qgo (C:=Unit) (S:=(Int×Int×qL2)) (fun x=>((),(x.1.2.1,x.1.2.2.1,x.2.1))) qfr (CE:=Unit) (E:=qL2) (fun c e=>((()),(e,()))) (fun c=>()) (fun {R} c a nx dn rt=>q5b  a.1 a.2.1 a.2.2 nx dn rt)],resU 34 tt [true] [] q5s (fun x=>x.2.1)⟩
theorem q6m:CtxM Try.prog q6j:=mkG fits mixed m0
theorem qgq:SummOK Try.prog q6j 0 (lc 0 Try.f86 19):=lp rfl q6m (.two .z (.one (.two (.d [0,0,0,0,0,0,48,112,0,0,768,1792,4083,8179,16383,32767] [13,15] []) .z))) s0 (fun c a=>(((),a.1,a.2.1,()),(a.2.2,()))) (fun y=>((),y.2.1))
noncomputable abbrev q6i:Mdl:=(mdlOf (.cons (.own 0) (.cons (.d false qT0) (.cons (.d false qT0) (.cons (.fn 53 .nil) .nil)))) [.arr 33 (.fz true) [3] qT1] [true] 0 q5s (B:=qL2) (fun b=>((()),(b,()))) (fun a=>q39 a.1.2.1 a.1.2.2.1 a.2.1))
theorem qgg:MdlOK Try.prog 86 q6i:=fnA Try.func86 rfl q6m (.two .z (.two .z (.s 0))) (sC qgq s0)
def q3k:Shp:=⟨[(0,.d true .bool)],[.arr 33 (.fz true) [3] qT1]⟩
noncomputable abbrev qr:Ctx ((Bool×qL2)):=⟨141,tt,false,false,[true],gam [(53,q1w)],lam [q0 _ 141 [true] q9n (C:=(Int×Int×Int×qL2)) (S:=Int) (fun x=>((x.1.2.1,x.1.2.2.1,x.1.2.2.2.2.2.1,x.2.1),x.1.2.2.2.2.1)) q9j (CE:=(Int×Int×Int×qL2)) (E:=Int) (fun c e=>(((),c.1,c.2.1,(()),e,c.2.2.1,()),(c.2.2.2,()))) (fun c=>(c.1,c.2.1,c.2.2.1,c.2.2.2)) (fun {R} c a nx dn rt=>q3c c.1 c.2.1 c.2.2.1 c.2.2.2 a nx dn rt),
 q0 _ 141 [true] q9y (C:=(Int×Int×Int×Int)) (S:=(Int×qL2)) (fun x=>((x.1.2.1,x.1.2.2.1,x.1.2.2.2.2.1,x.1.2.2.2.2.2.1),(x.1.2.2.2.2.2.2.1,x.2.1))) qa4 (CE:=(Int×Int×Int×Int)) (E:=qL2) (fun c e=>(((),c.1,c.2.1,(()),c.2.2.1,c.2.2.2,()),(e,()))) (fun c=>(c.1,c.2.1,c.2.2.1,c.2.2.2)) (fun {R} c a nx dn rt=>q32 c.1 c.2.1 c.2.2.1 c.2.2.2 a.1 a.2 nx dn rt),
 q0 _ 141 [true] qa6 (C:=(Int×Int×Int×Int)) (S:=(Int×qL2)) (fun x=>((x.1.2.1,x.1.2.2.1,x.1.2.2.2.2.1,x.1.2.2.2.2.2.1),(x.1.2.2.2.2.2.2.1,x.2.1))) q9h (CE:=(Int×Int×Int×Int)) (E:=qL2) (fun c e=>(((),c.1,c.2.1,(()),c.2.2.1,c.2.2.2,()),(e,()))) (fun c=>(c.1,c.2.1,c.2.2.1,c.2.2.2)) (fun {R} c a nx dn rt=>q3b c.1 c.2.1 c.2.2.1 c.2.2.2 a.1 a.2 nx dn rt),
 q2g _ 141 [true] q9i (A:=(Int×Int×Int×Int×qL2)) (fun x=>(x.1.2.1,x.1.2.2.1,x.1.2.2.2.2.1,x.1.2.2.2.2.2.1,x.2.1)) q9q (CE:=(Int×Int×Int×Int)) (E:=qL2) (fun c e=>(((),c.1,c.2.1,(()),c.2.2.1,c.2.2.2,()),(e,()))) (fun c=>(c.1,c.2.1,c.2.2.1,c.2.2.2.1)) (fun {R} c dn rt=>q35 c.1 c.2.1 c.2.2.1 c.2.2.2.1 c.2.2.2.2 dn rt),
 q0 _ 141 [true] q9z (C:=(Int×Int)) (S:=(Int×Int×qL2)) (fun x=>((x.1.2.1,x.1.2.2.1),(x.1.2.2.2.2.1,x.1.2.2.2.2.2.1,x.2.1))) q9s (CE:=Unit) (E:=qL2) (fun c e=>((()),(e,()))) (fun c=>()) (fun {R} c a nx dn rt=>q36 c.1 c.2 a.1 a.2.1 a.2.2 nx dn rt)],resU 141 tt [true] [.tmp 8] q3k (fun x=>(x.1.1,x.2.1))⟩
theorem qs:CtxM Try.prog qr:=mkG fits mixed (mC q1y m0)
theorem qax:SummOK Try.prog qr 1 (lc 4 Try.f87 613963):=lp rfl qs (.two .z (.two (.one (.two (.two (.d [0,0,0,6,14,0,0,64,224,480,1023,2047,4095] [] []) .z) (.d [0,0,0,0,8,0,0,64,224,480,0,0,3072,7168,16355,32739,65535,131071] [15,17] []))) .z)) s0 (fun c a=>(((),c.1,c.2.1,(()),c.2.2.1,c.2.2.2,a.1,()),(a.2,()))) (fun y=>((y.1.2.1,y.1.2.2.1,y.1.2.2.2.2.1,y.1.2.2.2.2.2.1),y.2.1))
theorem qb9:SummOK Try.prog qr 2 (lc 6 Try.f87 622155):=lp rfl qs (.two .z (.two (.one (.two (.two (.d [0,0,0,6,14,0,0,64,224,480,1023,2047,4095] [] []) .z) (.d [0,0,0,0,8,0,0,64,224,480,0,0,3072,7168,16355,32739,65535,131071] [15,17] []))) .z)) s0 (fun c a=>(((),c.1,c.2.1,(()),c.2.2.1,c.2.2.2,a.1,()),(a.2,()))) (fun y=>((y.1.2.1,y.1.2.2.1,y.1.2.2.2.2.1,y.1.2.2.2.2.2.1),y.2.1))
theorem qb0:SummOK Try.prog qr 3 (jc Try.f87 32331):=jn rfl qs (.two .z (.two (.two .z (.s 2)) .z)) (sC qb9 s0) (fun c=>(((),c.1,c.2.1,(()),c.2.2.1,c.2.2.2.1,()),(c.2.2.2.2,()))) (fun y=>((y.1.2.1,y.1.2.2.1,y.1.2.2.2.2.1,y.1.2.2.2.2.2.1),y.2.1))
theorem qav:SummOK Try.prog qr 0 (lc 2 Try.f87 4171):=lp rfl qs (.two (.two (.d [0,0,3,7,15,15,15,111,239,15,15,1039,3599,7695,16383,32767,65535,131071] [] []) .z) .z) s0 (fun c a=>(((),c.1,c.2.1,(()),a,c.2.2.1,()),(c.2.2.2,()))) (fun y=>((y.1.2.1,y.1.2.2.1,y.1.2.2.2.2.2.1,y.2.1),y.1.2.2.2.2.1))
theorem qau:SummOK Try.prog qr 4 (lc 0 Try.f87 75):=lp rfl qs (.two .z (.two (.one (.two (.s 0) (.two .z (.two .z (.two (.d [0,0,0,0,8,0,0,64,224,480,0,0,3072,7168,16355,32739,65535,131071] [15,17] []) (.two (.two .z (.two (.two .z (.s 1)) .z)) (.s 3))))))) .z)) (sC qav (sC qax (sC qb0 s0))) (fun c a=>(((),c.1,c.2,(()),a.1,a.2.1,()),(a.2.2,()))) (fun y=>((),y.2.1))
noncomputable abbrev q3p:Mdl:=(mdlOf (.cons (.own 0) (.cons (.d false qT0) (.cons (.d false qT0) (.cons (.fn 53 .nil) .nil)))) [.arr 33 (.fz true) [3] qT1] [true] 1 q3k (B:=(Bool×qL2)) (fun b=>((b.1,()),(b.2,()))) (fun a=>q3x a.1.2.1 a.1.2.2.1 a.2.1))
theorem q9u:MdlOK Try.prog 87 q3p:=fnA Try.func87 rfl qs (.two .z (.two .z (.two (.two .z (.s 4)) .z))) (sC qau s0)
def q52:Shp:=⟨[(0,.d true qT0)],[.arr 33 (.fz true) [3] qT1]⟩
noncomputable abbrev q1f:Ctx ((Int×qL2)):=⟨90,tt,false,false,[true],gam [(53,q1w)],lam [q0 _ 90 [true] qdz (C:=(Int×Int×qL2)) (S:=Int) (fun x=>((x.1.2.1,x.1.2.2.2.2.1,x.2.1),x.1.2.2.2.1)) qdw (CE:=(Int×Int×qL2)) (E:=Int) (fun c e=>(((),c.1,(()),e,c.2.1,()),(c.2.2,()))) (fun c=>(c.1,c.2.1,c.2.2)) (fun {R} c a nx dn rt=>q4u c.1 c.2.1 c.2.2 a nx dn rt),
 q0 _ 90 [true] qe8 (C:=(Int×Int×qL2)) (S:=Int) (fun x=>((x.1.2.1,x.1.2.2.2.1,x.2.1),x.1.2.2.2.2.1)) qe2 (CE:=(Int×Int×qL2)) (E:=Int) (fun c e=>(((),c.1,(()),c.2.1,e,()),(c.2.2,()))) (fun c=>(c.1,c.2.1,c.2.2)) (fun {R} c a nx dn rt=>q4t c.1 c.2.1 c.2.2 a nx dn rt),
 q0 _ 90 [true] qe9 (C:=Int) (S:=(Int×Int×qL2)) (fun x=>(x.1.2.1,(x.1.2.2.2.1,x.1.2.2.2.2.1,x.2.1))) qdx (CE:=Unit) (E:=(Int×qL2)) (fun c e=>((e.1,()),(e.2,()))) (fun c=>()) (fun {R} c a nx dn rt=>q4s c a.1 a.2.1 a.2.2 nx dn rt)],resU 90 tt [true] [.tmp 10] q52 (fun x=>(x.1.1,x.2.1))⟩
theorem q1j:CtxM Try.prog q1f:=mkG fits mixed (mC q1y m0)
theorem qer:SummOK Try.prog q1f 1 (lc 4 Try.f88 2183):=lp rfl q1j (.two (.two (.d [0,0,3,7,15,15,15,111,239,15,15,1551,3599,8191,16383,32767] [] []) .z) .z) s0 (fun c a=>(((),c.1,(()),c.2.1,a,()),(c.2.2,()))) (fun y=>((y.1.2.1,y.1.2.2.2.1,y.2.1),y.1.2.2.2.2.1))
theorem qeu:SummOK Try.prog q1f 0 (lc 2 Try.f88 1031):=lp rfl q1j (.two (.two (.d [0,0,3,7,15,15,15,111,239,15,15,1551,3599,8191,16383,32767,65535] [] []) .z) .z) s0 (fun c a=>(((),c.1,(()),a,c.2.1,()),(c.2.2,()))) (fun y=>((y.1.2.1,y.1.2.2.2.2.1,y.2.1),y.1.2.2.2.1))
theorem qf2:SummOK Try.prog q1f 2 (lc 0 Try.f88 71):=lp rfl q1j (.one (.two (.s 0) (.two (.s 1) (.two .z (.two (.d [0,0,0,0,0,0,48,112,0,0,768,1792,4083,8179,16383,32767] [13,15] []) .z))))) (sC qeu (sC qer s0)) (fun c a=>(((),c,(()),a.1,a.2.1,()),(a.2.2,()))) (fun y=>((),(y.1.1,y.2.1)))
noncomputable abbrev q5j:Mdl:=(mdlOf (.cons (.own 0) (.cons (.d false qT0) (.cons (.d false qT0) (.cons (.d false qT0) (.cons (.fn 53 .nil) .nil))))) [.arr 33 (.fz true) [3] qT1] [true] 1 q52 (B:=(Int×qL2)) (fun b=>((b.1,()),(b.2,()))) (fun a=>qj a.1.2.1 a.1.2.2.1 a.1.2.2.2.1 a.2.1))
theorem qdt:MdlOK Try.prog 88 q5j:=fnA Try.func88 rfl q1j (.two .z (.two (.d [0,0,0,0,0,0,48,112,0,0,768,1792,4083,8179,16383,32767] [13,15] []) (.two .z (.two (.s 2) .z)))) (sC qf2 s0)
def q7m:Shp:=⟨[(0,.d true qT0),(1,.d true .bool)],[.arr 33 (.fz true) [3] qT1]⟩
noncomputable abbrev q16:Ctx ((Int×Bool×qL2)):=⟨178,tt,false,false,[true],gam [(53,q1w)],lam [q0 _ 178 [true] qiu (C:=(Int×Int×qL2)) (S:=Int) (fun x=>((x.1.2.1,x.1.2.2.2.2.1,x.2.1),x.1.2.2.2.1)) qi1 (CE:=(Int×Int×qL2)) (E:=Int) (fun c e=>(((),c.1,(()),e,c.2.1,()),(c.2.2,()))) (fun c=>(c.1,c.2.1,c.2.2)) (fun {R} c a nx dn rt=>q78 c.1 c.2.1 c.2.2 a nx dn rt),
 q0 _ 178 [true] qip (C:=(Int×Int×qL2)) (S:=Int) (fun x=>((x.1.2.1,x.1.2.2.2.1,x.2.1),x.1.2.2.2.2.1)) qhy (CE:=(Int×Int×qL2)) (E:=Int) (fun c e=>(((),c.1,(()),c.2.1,e,()),(c.2.2,()))) (fun c=>(c.1,c.2.1,c.2.2)) (fun {R} c a nx dn rt=>q6w c.1 c.2.1 c.2.2 a nx dn rt),
 q0 _ 178 [true] qih (C:=(Int×Int×qL2)) (S:=Int) (fun x=>((x.1.2.1,x.1.2.2.2.2.1,x.2.1),x.1.2.2.2.1)) qir (CE:=(Int×Int×qL2)) (E:=Int) (fun c e=>(((),c.1,(()),e,c.2.1,()),(c.2.2,()))) (fun c=>(c.1,c.2.1,c.2.2)) (fun {R} c a nx dn rt=>q6y c.1 c.2.1 c.2.2 a nx dn rt),
 q0 _ 178 [true] qib (C:=(Int×Int×qL2)) (S:=Int) (fun x=>((x.1.2.1,x.1.2.2.2.1,x.2.1),x.1.2.2.2.2.1)) qi2 (CE:=(Int×Int×qL2)) (E:=Int) (fun c e=>(((),c.1,(()),c.2.1,e,()),(c.2.2,()))) (fun c=>(c.1,c.2.1,c.2.2)) (fun {R} c a nx dn rt=>q71 c.1 c.2.1 c.2.2 a nx dn rt),
 q0 _ 178 [true] qj3 (C:=Int) (S:=(Int×Int×qL2)) (fun x=>(x.1.2.1,(x.1.2.2.2.1,x.1.2.2.2.2.1,x.2.1))) qix (CE:=Int) (E:=(Int×qL2)) (fun c e=>(((),c,e.1,()),(e.2,()))) (fun c=>c) (fun {R} c a nx dn rt=>q6z c a.1 a.2.1 a.2.2 nx dn rt)],resU 178 tt [true] [.tmp 10,.tmp 11] q7m (fun x=>(x.1.1,x.1.2.1,x.2.1))⟩
theorem q17:CtxM Try.prog q16:=mkG fits mixed (mC q1y m0)
theorem qkr:SummOK Try.prog q16 3 (lc 8 Try.f89 139775):=lp rfl q17 (.two (.two (.d [0,0,3,7,15,15,15,111,239,15,15,1551,3599,8191,16383,32767,65535] [] []) .z) .z) s0 (fun c a=>(((),c.1,(()),c.2.1,a,()),(c.2.2,()))) (fun y=>((y.1.2.1,y.1.2.2.2.1,y.2.1),y.1.2.2.2.2.1))
theorem qkf:SummOK Try.prog q16 2 (lc 6 Try.f89 66047):=lp rfl q17 (.two (.two (.d [0,0,3,7,15,15,15,111,239,15,15,1551,3599,8191,16383,32767] [] []) .z) .z) s0 (fun c a=>(((),c.1,(()),a,c.2.1,()),(c.2.2,()))) (fun y=>((y.1.2.1,y.1.2.2.2.2.1,y.2.1),y.1.2.2.2.1))
theorem qjo:SummOK Try.prog q16 4 (lc 4 Try.f89 4607):=lp rfl q17 (.one (.two (.s 2) (.two (.s 3) (.two .z (.two (.d [0,0,0,0,0,0,48,112,0,0,768,1792,4083,8179,16383,32767] [13,15] []) .z))))) (sC qkf (sC qkr s0)) (fun c a=>(((),c,(()),a.1,a.2.1,()),(a.2.2,()))) (fun y=>(y.1.2.1,(y.1.2.2.1,y.2.1)))
theorem qjy:SummOK Try.prog q16 1 (lc 2 Try.f89 143):=lp rfl q17 (.two (.two (.d [0,0,3,7,15,15,15,111,239,15,15,1551,3599,8191,16383,32767,65535] [] []) .z) .z) s0 (fun c a=>(((),c.1,(()),c.2.1,a,()),(c.2.2,()))) (fun y=>((y.1.2.1,y.1.2.2.2.1,y.2.1),y.1.2.2.2.2.1))
theorem qkg:SummOK Try.prog q16 0 (lc 0 Try.f89 71):=lp rfl q17 (.two (.two (.d [0,0,3,7,15,15,15,111,239,15,15,1551,3599,8191,16383,32767] [] []) .z) .z) s0 (fun c a=>(((),c.1,(()),a,c.2.1,()),(c.2.2,()))) (fun y=>((y.1.2.1,y.1.2.2.2.2.1,y.2.1),y.1.2.2.2.1))
noncomputable abbrev q88:Mdl:=(mdlOf (.cons (.own 0) (.cons (.d false qT0) (.cons (.d false qT0) (.cons (.d false qT0) (.cons (.fn 53 .nil) .nil))))) [.arr 33 (.fz true) [3] qT1] [true] 2 q7m (B:=(Int×Bool×qL2)) (fun b=>((b.1,b.2.1,()),(b.2.2,()))) (fun a=>q8s a.1.2.1 a.1.2.2.1 a.1.2.2.2.1 a.2.1))
theorem qja:MdlOK Try.prog 89 q88:=fnA Try.func89 rfl q17 (.two .z (.two (.d [0,0,0,0,0,0,48,112,0,0,768,1792,4083,8179,16383,32767] [13,15] []) (.two .z (.two (.s 0) (.two (.s 1) (.two (.two .z (.two (.two (.d [0,0,0,0,0,0,48,112,0,0,768,1792,4083,8179,16383,32767] [13,15] []) .z) .z)) (.two (.d [0,0,0,0,0,0,48,112,0,0,768,1792,4083,8179,16383,32767] [13,15] []) (.two .z (.two .z (.two (.s 4) (.two (.d [0,0,0,0,0,0,48,112,0,0,768,1792,4083,8179,16383,32767] [13,15] []) .z))))))))))) (sC qkg (sC qjy (sC qjo s0)))
def qp:Shp:=⟨[],[.arr 33 (.fz true) [3] qT1]⟩
noncomputable abbrev q2d (rec:((Unit×Int×Int×Int×(Unit)×Unit)×(qL2×Unit))→Option qL2):Ctx (qL2):=⟨148,tt,false,false,[true],gam [(82,q5y),(83,q98),(84,q68),(85,q76),(86,q6i),(87,q3p),(53,q1w),(88,q5j),(89,q88),(70,(mdlOf (.cons (.own 0) (.cons (.d false qT0) (.cons (.d false qT0) (.cons (.d false qT0) (.cons (.fn 53 .nil) .nil))))) [.arr 33 (.fz true) [3] qT1] [true] 0 qp (B:=qL2) (fun b=>((()),(b,()))) rec))],lam [q2g _ 148 [true] qm3 (A:=(Int×Int×Int×Bool×Bool×Int×Int×Bool×qL2)) (fun x=>(x.1.2.1,x.1.2.2.1,x.1.2.2.2.1,x.1.2.2.2.2.2.1,x.1.2.2.2.2.2.2.1,x.1.2.2.2.2.2.2.2.1,x.1.2.2.2.2.2.2.2.2.1,x.1.2.2.2.2.2.2.2.2.2.1,x.2.1)) qln (CE:=(Int×Int×Int×Bool×Bool×Int×Int)) (E:=qL2) (fun c e=>(((),c.1,c.2.1,c.2.2.1,(()),c.2.2.2.1,c.2.2.2.2.1,c.2.2.2.2.2.1,c.2.2.2.2.2.2,()),(e,()))) (fun c=>(c.1,c.2.1,c.2.2.1,c.2.2.2.1,c.2.2.2.2.1,c.2.2.2.2.2.1,c.2.2.2.2.2.2.1)) (fun {R} c dn rt=>q8e rec c.1 c.2.1 c.2.2.1 c.2.2.2.1 c.2.2.2.2.1 c.2.2.2.2.2.1 c.2.2.2.2.2.2.1 c.2.2.2.2.2.2.2.1 c.2.2.2.2.2.2.2.2 dn rt),
 q2g _ 148 [true] qll (A:=(Int×Int×Int×Int×Int×qL2)) (fun x=>(x.1.2.1,x.1.2.2.1,x.1.2.2.2.1,x.1.2.2.2.2.2.1,x.1.2.2.2.2.2.2.1,x.2.1)) qmp (CE:=Int) (E:=(Int×Int×Bool×Bool×qL2)) (fun c e=>(((),e.1,e.2.1,c,(()),e.2.2.1,e.2.2.2.1,()),(e.2.2.2.2,()))) (fun c=>c.2.2.1) (fun {R} c dn rt=>q8g rec c.1 c.2.1 c.2.2.1 c.2.2.2.1 c.2.2.2.2.1 c.2.2.2.2.2 dn rt),
 q0 _ 148 [true] qm9 (C:=Unit) (S:=(Int×Int×Int×Bool×Bool×qL2)) (fun x=>((),(x.1.2.1,x.1.2.2.1,x.1.2.2.2.1,x.1.2.2.2.2.2.1,x.1.2.2.2.2.2.2.1,x.2.1))) qmo (CE:=Unit) (E:=Unit) (fun c e=>((()),(()))) (fun c=>()) (fun {R} c a nx dn rt=>q8m rec  a.1 a.2.1 a.2.2.1 a.2.2.2.1 a.2.2.2.2.1 a.2.2.2.2.2 nx dn rt)],resU 148 tt [true] [] qp (fun x=>x.2.1)⟩
theorem q2e (rec:((Unit×Int×Int×Int×(Unit)×Unit)×(qL2×Unit))→Option qL2) (hrec:MdlOK Try.prog 70 (mdlOf (.cons (.own 0) (.cons (.d false qT0) (.cons (.d false qT0) (.cons (.d false qT0) (.cons (.fn 53 .nil) .nil))))) [.arr 33 (.fz true) [3] qT1] [true] 0 qp (B:=qL2) (fun b=>((()),(b,()))) rec)):CtxM Try.prog (q2d rec):=mkG fits mixed (mC qen (mC qjk (mC qej (mC qgz (mC qgg (mC q9u (mC q1y (mC qdt (mC qja (mC hrec m0))))))))))
theorem qn9 (rec:((Unit×Int×Int×Int×(Unit)×Unit)×(qL2×Unit))→Option qL2) (hrec:MdlOK Try.prog 70 (mdlOf (.cons (.own 0) (.cons (.d false qT0) (.cons (.d false qT0) (.cons (.d false qT0) (.cons (.fn 53 .nil) .nil))))) [.arr 33 (.fz true) [3] qT1] [true] 0 qp (B:=qL2) (fun b=>((()),(b,()))) rec)):SummOK Try.prog (q2d rec) 0 (jc Try.f70 14307):=jn rfl (q2e rec hrec) .z s0 (fun c=>(((),c.1,c.2.1,c.2.2.1,(()),c.2.2.2.1,c.2.2.2.2.1,c.2.2.2.2.2.1,c.2.2.2.2.2.2.1,c.2.2.2.2.2.2.2.1,()),(c.2.2.2.2.2.2.2.2,()))) (fun y=>((y.1.2.1,y.1.2.2.1,y.1.2.2.2.1,y.1.2.2.2.2.2.1,y.1.2.2.2.2.2.2.1,y.1.2.2.2.2.2.2.2.1,y.1.2.2.2.2.2.2.2.2.1),y.2.1))
theorem qo1 (rec:((Unit×Int×Int×Int×(Unit)×Unit)×(qL2×Unit))→Option qL2) (hrec:MdlOK Try.prog 70 (mdlOf (.cons (.own 0) (.cons (.d false qT0) (.cons (.d false qT0) (.cons (.d false qT0) (.cons (.fn 53 .nil) .nil))))) [.arr 33 (.fz true) [3] qT1] [true] 0 qp (B:=qL2) (fun b=>((()),(b,()))) rec)):SummOK Try.prog (q2d rec) 1 (jc Try.f70 16355):=jn rfl (q2e rec hrec) .z s0 (fun c=>(((),c.1,c.2.1,c.2.2.1,(()),c.2.2.2.1,c.2.2.2.2.1,()),(c.2.2.2.2.2,()))) (fun y=>(y.1.2.2.2.1,(y.1.2.1,y.1.2.2.1,y.1.2.2.2.2.2.1,y.1.2.2.2.2.2.2.1,y.2.1)))
theorem qnr (rec:((Unit×Int×Int×Int×(Unit)×Unit)×(qL2×Unit))→Option qL2) (hrec:MdlOK Try.prog 70 (mdlOf (.cons (.own 0) (.cons (.d false qT0) (.cons (.d false qT0) (.cons (.d false qT0) (.cons (.fn 53 .nil) .nil))))) [.arr 33 (.fz true) [3] qT1] [true] 0 qp (B:=qL2) (fun b=>((()),(b,()))) rec)):SummOK Try.prog (q2d rec) 2 (lc 0 Try.f70 19):=lp rfl (q2e rec hrec) (.one (.two .z (.two .z (.two .z (.two .z (.two .z (.two .z (.two (.two .z (.s 0)) (.two (.two (.d [0,1,3,7,7,7,39,119,247,7,7,1543,3591,8191,16383,32767,65535] [] []) .z) (.s 1)))))))))) (sC (qn9 rec hrec) (sC (qo1 rec hrec) s0)) (fun c a=>(((),a.1,a.2.1,a.2.2.1,(()),a.2.2.2.1,a.2.2.2.2.1,()),(a.2.2.2.2.2,()))) (fun y=>((),()))
noncomputable abbrev qae:Mdl:=(mdlOf (.cons (.own 0) (.cons (.d false qT0) (.cons (.d false qT0) (.cons (.d false qT0) (.cons (.fn 53 .nil) .nil))))) [.arr 33 (.fz true) [3] qT1] [true] 0 qp (B:=qL2) (fun b=>((()),(b,()))) (fun (a:((Unit×Int×Int×Int×(Unit)×Unit)×(qL2×Unit)))=>qap a))
theorem qju (rec:((Unit×Int×Int×Int×(Unit)×Unit)×(qL2×Unit))→Option qL2) (hrec:MdlOK Try.prog 70 (mdlOf (.cons (.own 0) (.cons (.d false qT0) (.cons (.d false qT0) (.cons (.d false qT0) (.cons (.fn 53 .nil) .nil))))) [.arr 33 (.fz true) [3] qT1] [true] 0 qp (B:=qL2) (fun b=>((()),(b,()))) rec)):MdlOK Try.prog 70 (mdlOf (.cons (.own 0) (.cons (.d false qT0) (.cons (.d false qT0) (.cons (.d false qT0) (.cons (.fn 53 .nil) .nil))))) [.arr 33 (.fz true) [3] qT1] [true] 0 qp (B:=qL2) (fun b=>((()),(b,()))) ((fun (rec:((Unit×Int×Int×Int×(Unit)×Unit)×(qL2×Unit))→Option qL2) (a:((Unit×Int×Int×Int×(Unit)×Unit)×(qL2×Unit)))=>q4n rec a.1.2.1 a.1.2.2.1 a.1.2.2.2.1 a.2.1) rec)):=fnA Try.func70 rfl (q2e rec hrec) (.two .z (.two .z (.s 2))) (sC (qnr rec hrec) s0)
theorem qlt:MdlOK Try.prog 70 qae :=
 rec_ok (c:=bodyOf Try.f70) (l:=(.cons (.own 0) (.cons (.d false qT0) (.cons (.d false qT0) (.cons (.d false qT0) (.cons (.fn 53 .nil) .nil)))))) (objs:=[.arr 33 (.fz true) [3] qT1]) (kp:=[true]) (k:=0) (sh:=qp) (mk:=(fun b=>((()),(b,())))) (F:=(fun (rec:((Unit×Int×Int×Int×(Unit)×Unit)×(qL2×Unit))→Option qL2) (a:((Unit×Int×Int×Int×(Unit)×Unit)×(qL2×Unit)))=>q4n rec a.1.2.1 a.1.2.2.1 a.1.2.2.2.1 a.2.1)) Try.func70 (by rfl) (by kernel_rfl) (by kernel_rfl) qju
def qbv:Shp:=⟨[],[.arr 33 (.fz true) [3] qT1]⟩
noncomputable abbrev qpw:Ctx (qL2):=⟨14,tt,false,false,[true],gam [(71,qvz),(70,qae)],lam [],resU 14 tt [true] [] qbv (fun x=>x.2.1)⟩
theorem qqb:CtxM Try.prog qpw:=mkG fits mixed (mC qwj (mC qlt m0))
noncomputable abbrev qd2:Mdl:=(mdlOf (.cons (.own 0) (.cons (.fn 53 .nil) .nil)) [.arr 33 (.fz true) [3] qT1] [true] 0 qbv (B:=qL2) (fun b=>((()),(b,()))) (fun a=>qdn a.2.1))
theorem qo8:MdlOK Try.prog 52 qd2:=fnA Try.func52 rfl qqb .z s0
def qtk:Shp:=⟨[(0,.nl false (.own 0)),(1,.d true qT0)],[.arr 33 (.fz true) [3] qT1]⟩
noncomputable abbrev qnu:Ctx ((Int×qL2)):=⟨47,tt,false,false,[],gam [(20,q31),(51,qvw),(52,qd2)],lam [q0 _ 47 [] q13e (C:=(Int×qL1×Int×Int×Int×Int×(List Trans)×Int×Int×qL2)) (S:=(Int×qL1)) (fun x=>((x.1.2.2.1,x.1.2.2.2.2.1,x.1.2.2.2.2.2.1,x.1.2.2.2.2.2.2.1,x.1.2.2.2.2.2.2.2.1,x.2.1.1,x.2.1.2.1,x.2.1.2.2.1,x.2.1.2.2.2.1,x.2.2.1),(x.1.2.2.2.2.2.2.2.2.1,x.2.2.2.1))) q138 (CE:=(qL1×Int×Int×Int×(List Trans)×Int×Int×qL2)) (E:=qL1) (fun c e=>(((),(),(),c.1,c.2.1,c.2.2.1,()),((c.2.2.2.1,c.2.2.2.2.1,c.2.2.2.2.2.1,c.2.2.2.2.2.2.1,()),c.2.2.2.2.2.2.2,e,()))) (fun c=>(c.2.1,c.2.2.1,c.2.2.2.1,c.2.2.2.2.2.1,c.2.2.2.2.2.2.1,c.2.2.2.2.2.2.2.1,c.2.2.2.2.2.2.2.2.1,c.2.2.2.2.2.2.2.2.2)) (fun {R} c a nx dn rt=>qrq c.1 c.2.1 c.2.2.1 c.2.2.2.1 c.2.2.2.2.1 c.2.2.2.2.2.1 c.2.2.2.2.2.2.1 c.2.2.2.2.2.2.2.1 c.2.2.2.2.2.2.2.2.1 c.2.2.2.2.2.2.2.2.2 a.1 a.2 nx dn rt),
 q0 _ 47 [] q12w (C:=(qL1×Int×Int×(List Trans)×Int×Int)) (S:=(Int×qL2)) (fun x=>((x.1.2.2.1,x.1.2.2.2.1,x.2.1.1,x.2.1.2.1,x.2.1.2.2.1,x.2.1.2.2.2.1),(x.1.2.2.2.2.1,x.2.2.1))) q13r (CE:=Unit) (E:=qL2) (fun c e=>(((),()),(e,()))) (fun c=>()) (fun {R} c a nx dn rt=>qrc c.1 c.2.1 c.2.2.1 c.2.2.2.1 c.2.2.2.2.1 c.2.2.2.2.2 a.1 a.2 nx dn rt)],resU 47 tt [] [.tmp 2,.tmp 3] qtk (fun x=>(x.1.2.1,x.2.1))⟩
theorem qmz:CtxM Try.prog qnu:=mkG fits mixed (mC q2l (mC q131 (mC qo8 m0)))
theorem q15y:SummOK Try.prog qnu 0 (lc 3 Try.f27 154007):=lp rfl qmz .z s0 (fun c a=>(((),(),c.1,(),c.2.1,c.2.2.1,c.2.2.2.1,c.2.2.2.2.1,a.1,()),((c.2.2.2.2.2.1,c.2.2.2.2.2.2.1,c.2.2.2.2.2.2.2.1,c.2.2.2.2.2.2.2.2.1,()),c.2.2.2.2.2.2.2.2.2,a.2,()))) (fun y=>((y.1.2.2.2.1,y.1.2.2.2.2.1,y.1.2.2.2.2.2.1,y.2.1.1,y.2.1.2.1,y.2.1.2.2.1,y.2.1.2.2.2.1,y.2.2.1),y.2.2.2.1))
theorem q14v:SummOK Try.prog qnu 1 (lc 1 Try.f27 151):=lp rfl qmz (.two .z (.two .z (.two (.one (.two .z (.two .z (.two (.two .z (.s 0)) .z)))) .z))) (sC q15y s0) (fun c a=>(((),(),c.1,c.2.1,a.1,()),((c.2.2.1,c.2.2.2.1,c.2.2.2.2.1,c.2.2.2.2.2,()),a.2,()))) (fun y=>((),y.2.1))
noncomputable abbrev qv8:Mdl:=(mdlOf (.cons (.d false Net.ty) .nil) [] [] 2 qtk (B:=(Int×qL2)) (fun b=>(((),b.1,()),(b.2,()))) (fun a=>qxi a.1.1))
theorem q13m:MdlOK Try.prog 27 qv8:=fnA Try.func27 rfl qmz (.two .z (.two .z (.two .z (.two (.two .z (.s 1)) .z)))) (sC q14v s0)
def qn5:Shp:=⟨[(0,.d true .bool)],[]⟩
noncomputable abbrev q10u:Ctx (Bool):=⟨9,tt,false,false,[],gam [(11,q1a)],lam [],resU 9 tt [] [.tmp 3] qn5 (fun x=>x.1.1)⟩
theorem q10y:CtxM Try.prog q10u:=mkG fits mixed (mC q1e m0)
noncomputable abbrev qp1:Mdl:=(mdlOf (.cons (.d false qT1) (.cons (.rp false Net.ty) .nil)) [] [] 1 qn5 (B:=Bool) (fun b=>((b,()),(()))) (fun a=>qpy a.1.1 a.1.2.1))
theorem qy2:MdlOK Try.prog 29 qp1:=fnA Try.func29 rfl q10y .z s0
def qak:Shp:=⟨[(0,.d true qT0)],[]⟩
noncomputable abbrev qcb:Ctx (Int):=⟨19,tt,false,false,[],gam [(29,qp1)],lam [q0 _ 19 [] qno (C:=(qL2×Net×Int)) (S:=Int) (fun x=>((x.1.1,x.1.2.1.1,x.1.2.2.1),x.1.2.2.2.1)) qmy (CE:=Unit) (E:=Unit) (fun c e=>((()),(()))) (fun c=>()) (fun {R} c a nx dn rt=>q93 c.1 c.2.1 c.2.2 a nx dn rt)],resU 19 tt [] [.tmp 4] qak (fun x=>x.1.1)⟩
theorem qbk:CtxM Try.prog qcb:=mkG fits mixed (mC qy2 m0)
theorem qop:SummOK Try.prog qcb 0 (lc 0 Try.f55 37):=lp rfl qbk .z s0 (fun c a=>((c.1,(c.2.1,()),c.2.2,a,()),(()))) (fun y=>((),()))
noncomputable abbrev qbf:Mdl:=(mdlOf (.cons (.d false qT2) (.cons (.fn 29 (.cons (.rp false Net.ty) .nil)) .nil)) [] [] 1 qak (B:=Int) (fun b=>((b,()),(()))) (fun a=>qcz a.1.1 a.1.2.1.1))
theorem qn8:MdlOK Try.prog 55 qbf:=fnA Try.func55 rfl qbk (.two .z (.two (.two .z (.s 0)) .z)) (sC qop s0)
def q7g:Shp:=⟨[(0,.d true .bool)],[]⟩
noncomputable abbrev qmr:Ctx (Bool):=⟨9,tt,false,false,[],gam [(55,qbf)],lam [],resU 9 tt [] [.tmp 4] q7g (fun x=>x.1.1)⟩
theorem qlr:CtxM Try.prog qmr:=mkG fits mixed (mC qn8 m0)
noncomputable abbrev q8c:Mdl:=(mdlOf (.cons (.d false qT2) (.cons (.fn 29 (.cons (.rp false Net.ty) .nil)) .nil)) [] [] 1 q7g (B:=Bool) (fun b=>((b,()),(()))) (fun a=>q8z a.1.1 a.1.2.1.1))
theorem qiv:MdlOK Try.prog 28 q8c:=fnA Try.func28 rfl qlr .z s0
def qqk:Shp:=⟨[(0,.d true .bool),(1,.d true qT0)],[]⟩
noncomputable abbrev q13h:Ctx ((Bool×Int)):=⟨43,tt,false,false,[],gam [(25,qrf),(22,q8u),(26,qhz),(27,qv8),(28,q8c)],lam [],resU 43 tt [] [.tmp 2,.tmp 3] qqk (fun x=>(x.1.1,x.1.2.1))⟩
theorem q12y:CtxM Try.prog q13h:=mkG fits mixed (mC q10z (mC qdd (mC qsz (mC q13m (mC qiv m0)))))
noncomputable abbrev qrb:Mdl:=(mdlOf (.cons (.d false Net.ty) .nil) [] [] 2 qqk (B:=(Bool×Int)) (fun b=>((b.1,b.2,()),(()))) (fun a=>qjn a.1.1))
theorem q10o:MdlOK Try.prog 15 qrb:=fnA Try.func15 rfl q12y .z s0
def qvl:Shp:=⟨[(0,.d true .bool),(1,.d true qT0)],[]⟩
noncomputable abbrev q19l:Ctx ((Bool×Int)):=⟨9,tt,false,false,[],gam [(20,q31),(22,q8u)],lam [],resU 9 tt [] [.tmp 2,.tmp 3] qvl (fun x=>(x.1.1,x.1.2.1))⟩
theorem q1a2:CtxM Try.prog q19l:=mkG fits mixed (mC q2l (mC qdd m0))
noncomputable abbrev qp6:Mdl:=(mdlOf (.cons (.d false Net.ty) .nil) [] [] 2 qvl (B:=(Bool×Int)) (fun b=>((b.1,b.2,()),(()))) (fun a=>qje a.1.1))
theorem qu2:MdlOK Try.prog 8 qp6:=fnA Try.func8 rfl q1a2 .z s0
def qzv:Shp:=⟨[(0,.d true .bool)],[]⟩
noncomputable abbrev q1bt:Ctx (Bool):=⟨93,tt,false,false,[],gam [(14,q1an),(7,qdc),(15,qrb),(8,qp6),(12,q5u)],lam [],resU 93 tt [] [.tmp 0] qzv (fun x=>x.1.1)⟩
theorem q1cs:CtxM Try.prog q1bt:=mkG fits mixed (mC q1d7 (mC qj6 (mC q10o (mC qu2 (mC q8n m0)))))
noncomputable abbrev q117:Mdl:=(mdlOf .nil [] [] 1 qzv (B:=Bool) (fun b=>((b,()),(()))) (fun a=>qwv ))
theorem q19z:MdlOK Try.prog 4 q117:=fnA Try.func4 rfl q1cs .z s0
def qvs:Shp:=⟨[(0,.d true .bool)],[]⟩
noncomputable abbrev q195:Ctx (Bool):=⟨19,tt,false,false,[],gam [],lam [],resU 19 tt [] [.tmp 2] qvs (fun x=>x.1.1)⟩
theorem q19x:CtxM Try.prog q195:=mkG fits mixed m0
noncomputable abbrev qyh:Mdl:=(mdlOf (.cons (.d false Trans.ty) .nil) [] [] 1 qvs (B:=Bool) (fun b=>((b,()),(()))) (fun a=>qjf a.1.1))
theorem q14r:MdlOK Try.prog 17 qyh:=fnA Try.func17 rfl q19x .z s0
def q3y:Shp:=⟨[(0,.d true qT0)],[]⟩
noncomputable abbrev q4j:Ctx (Int):=⟨19,tt,false,false,[],gam [(17,qyh)],lam [q0 _ 19 [] qbe (C:=((List Trans)×Int)) (S:=Int) (fun x=>((x.1.1,x.1.2.2.1),x.1.2.2.2.1)) qbl (CE:=Unit) (E:=Unit) (fun c e=>((()),(()))) (fun c=>()) (fun {R} c a nx dn rt=>q18 c.1 c.2 a nx dn rt)],resU 19 tt [] [.tmp 4] q3y (fun x=>x.1.1)⟩
theorem q4f:CtxM Try.prog q4j:=mkG fits mixed (mC q14r m0)
theorem qcr:SummOK Try.prog q4j 0 (lc 0 Try.f30 37):=lp rfl q4f .z s0 (fun c a=>((c.1,(()),c.2,a,()),(()))) (fun y=>((),()))
noncomputable abbrev q41:Mdl:=(mdlOf (.cons (.d false (.slice Trans.ty)) (.cons (.fn 17 .nil) .nil)) [] [] 1 q3y (B:=Int) (fun b=>((b,()),(()))) (fun a=>q1u a.1.1))
theorem qbz:MdlOK Try.prog 30 q41:=fnA Try.func30 rfl q4f (.two .z (.two (.two .z (.s 0)) .z)) (sC qcr s0)
def q3e:Shp:=⟨[(0,.d true .bool)],[]⟩
noncomputable abbrev qb7:Ctx (Bool):=⟨9,tt,false,false,[],gam [(30,q41)],lam [],resU 9 tt [] [.tmp 4] q3e (fun x=>x.1.1)⟩
theorem qb4:CtxM Try.prog qb7:=mkG fits mixed (mC qbz m0)
noncomputable abbrev q3i:Mdl:=(mdlOf (.cons (.d false (.slice Trans.ty)) (.cons (.fn 17 .nil) .nil)) [] [] 1 q3e (B:=Bool) (fun b=>((b,()),(()))) (fun a=>qn a.1.1))
theorem q8w:MdlOK Try.prog 16 q3i:=fnA Try.func16 rfl qb4 .z s0
def q109:Shp:=⟨[(0,.d true .bool)],[]⟩
noncomputable abbrev q1d4:Ctx (Bool):=⟨34,tt,false,false,[],gam [(16,q3i)],lam [],resU 34 tt [] [.tmp 2] q109 (fun x=>x.1.1)⟩
theorem q1ch:CtxM Try.prog q1d4:=mkG fits mixed (mC q8w m0)
noncomputable abbrev q11b:Mdl:=(mdlOf (.cons (.d false Net.ty) .nil) [] [] 1 q109 (B:=Bool) (fun b=>((b,()),(()))) (fun a=>qpr a.1.1))
theorem q19r:MdlOK Try.prog 5 q11b:=fnA Try.func5 rfl q1ch .z s0
def qxx:Shp:=⟨[(0,.d true .bool)],[]⟩
noncomputable abbrev q1bh:Ctx (Bool):=⟨17,tt,false,false,[],gam [],lam [],resU 17 tt [] [.tmp 2] qxx (fun x=>x.1.1)⟩
theorem q1bg:CtxM Try.prog q1bh:=mkG fits mixed m0
noncomputable abbrev q104:Mdl:=(mdlOf (.cons (.d false (.int .u8)) .nil) [] [] 1 qxx (B:=Bool) (fun b=>((b,()),(()))) (fun a=>qg3 a.1.1))
theorem q17i:MdlOK Try.prog 31 q104:=fnA Try.func31 rfl q1bg .z s0
def qyn:Shp:=⟨[(0,.d true .bool)],[]⟩
noncomputable abbrev q105:Ctx (Bool):=⟨52,tt,false,false,[],gam [(31,q104)],lam [q0 _ 52 [] q173 (C:=ByteArray) (S:=Int) (fun x=>(x.1.1,x.1.2.1)) q180 (CE:=Unit) (E:=Unit) (fun c e=>((()),(()))) (fun c=>()) (fun {R} c a nx dn rt=>q8v c a nx dn rt)],resU 52 tt [] [.tmp 2] qyn (fun x=>x.1.1)⟩
theorem q106:CtxM Try.prog q105:=mkG fits mixed (mC q17i m0)
theorem q18s:SummOK Try.prog q105 0 (lc 0 Try.f18 75):=lp rfl q106 .z s0 (fun c a=>((c,a,()),(()))) (fun y=>((),()))
noncomputable abbrev q108:Mdl:=(mdlOf (.cons (.d false .str) .nil) [] [] 1 qyn (B:=Bool) (fun b=>((b,()),(()))) (fun a=>qnq a.1.1))
theorem q17n:MdlOK Try.prog 18 q108:=fnA Try.func18 rfl q106 (.two .z (.two .z (.two (.two .z (.s 0)) .z))) (sC q18s s0)
def qxw:Shp:=⟨[(0,.d true .bool)],[]⟩
noncomputable abbrev q10d:Ctx (Bool):=⟨41,tt,false,false,[],gam [],lam [q0 _ 41 [] q17a (C:=(Int×qL1)) (S:=Int) (fun x=>((x.1.1,x.1.2.1),x.1.2.2.1)) q16g (CE:=Unit) (E:=Unit) (fun c e=>((()),(()))) (fun c=>()) (fun {R} c a nx dn rt=>q5x c.1 c.2 a nx dn rt)],resU 41 tt [] [.tmp 4] qxw (fun x=>x.1.1)⟩
theorem q103:CtxM Try.prog q10d:=mkG fits mixed m0
theorem q197:SummOK Try.prog q10d 0 (lc 0 Try.f19 37):=lp rfl q103 (.two .z (.two (.one (.two (.d [0,0,3,7,15,31,63,63,255,511,63,2047,4095,8191,16383,32767,65535,131071,131071,393215,1048575,2097151,131071,131071,12713983,29491199,67108863,134217727,268435455] [] []) .z)) .z)) s0 (fun c a=>((c.1,c.2,a,()),(()))) (fun y=>((),()))
noncomputable abbrev q10a:Mdl:=(mdlOf (.cons (.d false qT0) (.cons (.d false qT1) .nil)) [] [] 1 qxw (B:=Bool) (fun b=>((b,()),(()))) (fun a=>q7z a.1.1 a.1.2.1))
theorem q18b:MdlOK Try.prog 19 q10a:=fnA Try.func19 rfl q103 (.two .z (.two (.two .z (.s 0)) .z)) (sC q197 s0)
def q10e:Shp:=⟨[(0,.d true .bool)],[]⟩
noncomputable abbrev q11u:Ctx (Bool):=⟨80,tt,false,false,[],gam [(18,q108),(19,q10a)],lam [q0 _ 80 [] q18o (C:=(Int×(List Trans)×Int×Int)) (S:=Int) (fun x=>((x.2.1.1,x.2.1.2.1,x.2.1.2.2.1,x.2.1.2.2.2.1),x.1.2.1)) q196 (CE:=Unit) (E:=Unit) (fun c e=>((()),(()))) (fun c=>()) (fun {R} c a nx dn rt=>qh4 c.1 c.2.1 c.2.2.1 c.2.2.2 a nx dn rt)],resU 80 tt [] [.tmp 2] q10e (fun x=>x.1.1)⟩
theorem q11j:CtxM Try.prog q11u:=mkG fits mixed (mC q17n (mC q18b m0))
theorem q1bi:SummOK Try.prog q11u 0 (lc 0 Try.f6 75):=lp rfl q11j .z s0 (fun c a=>(((),a,()),((c.1,c.2.1,c.2.2.1,c.2.2.2,()),()))) (fun y=>((),()))
noncomputable abbrev q124:Mdl:=(mdlOf (.cons (.d false Net.ty) .nil) [] [] 1 q10e (B:=Bool) (fun b=>((b,()),(()))) (fun a=>qps a.1.1))
theorem q18t:MdlOK Try.prog 6 q124:=fnA Try.func6 rfl q11j (.two .z (.two .z (.two (.two .z (.s 0)) .z))) (sC q1bi s0)
def qbq:Shp:=⟨[(0,.d true .bool)],[]⟩
noncomputable abbrev qq6:Ctx (Bool):=⟨9,tt,false,false,[],gam [(11,q1a)],lam [],resU 9 tt [] [.tmp 3] qbq (fun x=>x.1.1)⟩
theorem qpt:CtxM Try.prog qq6:=mkG fits mixed (mC q1e m0)
noncomputable abbrev qd5:Mdl:=(mdlOf (.cons (.d false qT0) (.cons (.rp false St8.ty) .nil)) [] [] 1 qbq (B:=Bool) (fun b=>((b,()),(()))) (fun a=>q3h a.1.1 a.1.2.1))
theorem qoa:MdlOK Try.prog 10 qd5:=fnA Try.func10 rfl qpt .z s0
def qah:Shp:=⟨[(0,.d true qT0)],[]⟩
noncomputable abbrev qbw:Ctx (Int):=⟨19,tt,false,false,[],gam [(10,qd5)],lam [q0 _ 19 [] qo6 (C:=(qL1×St8×Int)) (S:=Int) (fun x=>((x.1.1,x.1.2.1.1,x.1.2.2.1),x.1.2.2.2.1)) qna (CE:=Unit) (E:=Unit) (fun c e=>((()),(()))) (fun c=>()) (fun {R} c a nx dn rt=>q26 c.1 c.2.1 c.2.2 a nx dn rt)],resU 19 tt [] [.tmp 4] qah (fun x=>x.1.1)⟩
theorem qbj:CtxM Try.prog qbw:=mkG fits mixed (mC qoa m0)
theorem qom:SummOK Try.prog qbw 0 (lc 0 Try.f23 37):=lp rfl qbj .z s0 (fun c a=>((c.1,(c.2.1,()),c.2.2,a,()),(()))) (fun y=>((),()))
noncomputable abbrev qc1:Mdl:=(mdlOf (.cons (.d false qT1) (.cons (.fn 10 (.cons (.rp false St8.ty) .nil)) .nil)) [] [] 1 qah (B:=Int) (fun b=>((b,()),(()))) (fun a=>q5c a.1.1 a.1.2.1.1))
theorem qn0:MdlOK Try.prog 23 qc1:=fnA Try.func23 rfl qbj (.two .z (.two (.two .z (.s 0)) .z)) (sC qom s0)
def q7e:Shp:=⟨[(0,.d true .bool)],[]⟩
noncomputable abbrev qma:Ctx (Bool):=⟨9,tt,false,false,[],gam [(23,qc1)],lam [],resU 9 tt [] [.tmp 4] q7e (fun x=>x.1.1)⟩
theorem qm1:CtxM Try.prog qma:=mkG fits mixed (mC qn0 m0)
noncomputable abbrev q8h:Mdl:=(mdlOf (.cons (.d false qT1) (.cons (.fn 10 (.cons (.rp false St8.ty) .nil)) .nil)) [] [] 1 q7e (B:=Bool) (fun b=>((b,()),(()))) (fun a=>q23 a.1.1 a.1.2.1.1))
theorem qia:MdlOK Try.prog 9 q8h:=fnA Try.func9 rfl qm1 .z s0
def qbg:Shp:=⟨[(0,.d true .bool)],[]⟩
noncomputable abbrev qqe:Ctx (Bool):=⟨5,tt,false,false,[],gam [],lam [],resU 5 tt [] [.tmp 2] qbg (fun x=>x.1.1)⟩
theorem qpv:CtxM Try.prog qqe:=mkG fits mixed m0
noncomputable abbrev qd0:Mdl:=(mdlOf (.cons (.d false qT0) .nil) [] [] 1 qbg (B:=Bool) (fun b=>((b,()),(()))) (fun a=>q6a a.1.1))
theorem qot:MdlOK Try.prog 13 qd0:=fnA Try.func13 rfl qpv .z s0
def qaf:Shp:=⟨[(0,.d true qT0)],[]⟩
noncomputable abbrev qbm:Ctx (Int):=⟨19,tt,false,false,[],gam [(13,qd0)],lam [q0 _ 19 [] qo0 (C:=(qL1×Int)) (S:=Int) (fun x=>((x.1.1,x.1.2.2.1),x.1.2.2.2.1)) qo7 (CE:=Unit) (E:=Unit) (fun c e=>((()),(()))) (fun c=>()) (fun {R} c a nx dn rt=>q20 c.1 c.2 a nx dn rt)],resU 19 tt [] [.tmp 4] qaf (fun x=>x.1.1)⟩
theorem qc7:CtxM Try.prog qbm:=mkG fits mixed (mC qot m0)
theorem qok:SummOK Try.prog qbm 0 (lc 0 Try.f23 37):=lp rfl qc7 .z s0 (fun c a=>((c.1,(()),c.2,a,()),(()))) (fun y=>((),()))
noncomputable abbrev qcc:Mdl:=(mdlOf (.cons (.d false qT1) (.cons (.fn 13 .nil) .nil)) [] [] 1 qaf (B:=Int) (fun b=>((b,()),(()))) (fun a=>q5a a.1.1))
theorem qnh:MdlOK Try.prog 23 qcc:=fnA Try.func23 rfl qc7 (.two .z (.two (.two .z (.s 0)) .z)) (sC qok s0)
def q7x:Shp:=⟨[(0,.d true .bool)],[]⟩
noncomputable abbrev qmi:Ctx (Bool):=⟨9,tt,false,false,[],gam [(23,qcc)],lam [],resU 9 tt [] [.tmp 4] q7x (fun x=>x.1.1)⟩
theorem qlp:CtxM Try.prog qmi:=mkG fits mixed (mC qnh m0)
noncomputable abbrev q89:Mdl:=(mdlOf (.cons (.d false qT1) (.cons (.fn 13 .nil) .nil)) [] [] 1 q7x (B:=Bool) (fun b=>((b,()),(()))) (fun a=>q1i a.1.1))
theorem qig:MdlOK Try.prog 9 q89:=fnA Try.func9 rfl qlp .z s0
def qde:Shp:=⟨[(0,.d true .bool)],[]⟩
noncomputable abbrev q3s:Ctx (Bool):=⟨143,tt,false,false,[],gam [(4,q117),(5,q11b),(6,q124),(7,qdc),(8,qp6),(9,q8h),(9,q89),(12,q5u)],lam [q0 _ 143 [] qpx (C:=(Bool×Bool×(List St8)×Int×Int×qL1×Int×Int×(List Trans)×Int×Int×qL1×qL1×qL1)) (S:=(Int×qL1)) (fun x=>((x.1.2.1,x.1.2.2.2.2.1,x.1.2.2.2.2.2.2.1,x.1.2.2.2.2.2.2.2.1,x.1.2.2.2.2.2.2.2.2.1,x.1.2.2.2.2.2.2.2.2.2.1,x.1.2.2.2.2.2.2.2.2.2.2.1,x.2.1.1,x.2.1.2.1,x.2.1.2.2.1,x.2.1.2.2.2.1,x.2.2.2.1,x.2.2.2.2.1.1,x.2.2.2.2.1.2.1),(x.1.2.2.2.2.2.2.2.2.2.2.2.1,x.2.2.1))) qq5 (CE:=(Bool×Bool×(List St8)×Int×Int×Int×(List Trans)×Int×Int×qL1×qL1×qL1)) (E:=qL1) (fun c e=>(((),c.1,(),(),c.2.1,(),c.2.2.1,c.2.2.2.1,c.2.2.2.2.1,()),((c.2.2.2.2.2.1,c.2.2.2.2.2.2.1,c.2.2.2.2.2.2.2.1,c.2.2.2.2.2.2.2.2.1,()),e,c.2.2.2.2.2.2.2.2.2.1,(c.2.2.2.2.2.2.2.2.2.2.1,c.2.2.2.2.2.2.2.2.2.2.2,()),()))) (fun c=>(c.1,c.2.1,c.2.2.1,c.2.2.2.1,c.2.2.2.2.1,c.2.2.2.2.2.2.2.1,c.2.2.2.2.2.2.2.2.1,c.2.2.2.2.2.2.2.2.2.1,c.2.2.2.2.2.2.2.2.2.2.1,c.2.2.2.2.2.2.2.2.2.2.2.1,c.2.2.2.2.2.2.2.2.2.2.2.2.1,c.2.2.2.2.2.2.2.2.2.2.2.2.2)) (fun {R} c a nx dn rt=>q2x c.1 c.2.1 c.2.2.1 c.2.2.2.1 c.2.2.2.2.1 c.2.2.2.2.2.1 c.2.2.2.2.2.2.1 c.2.2.2.2.2.2.2.1 c.2.2.2.2.2.2.2.2.1 c.2.2.2.2.2.2.2.2.2.1 c.2.2.2.2.2.2.2.2.2.2.1 c.2.2.2.2.2.2.2.2.2.2.2.1 c.2.2.2.2.2.2.2.2.2.2.2.2.1 c.2.2.2.2.2.2.2.2.2.2.2.2.2 a.1 a.2 nx dn rt),
 q0 _ 143 [] qqh (C:=(Bool×(List St8)×Int×Int×qL1×Int×Int×(List Trans)×Int×Int×qL1×qL1×qL1)) (S:=(Bool×Int×qL1)) (fun x=>((x.1.2.1,x.1.2.2.2.2.2.2.1,x.1.2.2.2.2.2.2.2.1,x.1.2.2.2.2.2.2.2.2.1,x.1.2.2.2.2.2.2.2.2.2.1,x.1.2.2.2.2.2.2.2.2.2.2.1,x.2.1.1,x.2.1.2.1,x.2.1.2.2.1,x.2.1.2.2.2.1,x.2.2.1,x.2.2.2.2.1.1,x.2.2.2.2.1.2.1),(x.1.2.2.2.2.1,x.1.2.2.2.2.2.2.2.2.2.2.2.1,x.2.2.2.1))) qq8 (CE:=(Bool×(List St8)×Int×Int×Int×(List Trans)×Int×Int×qL1×qL1×qL1)) (E:=(Bool×qL1)) (fun c e=>(((),c.1,(),(),e.1,(),c.2.1,c.2.2.1,c.2.2.2.1,()),((c.2.2.2.2.1,c.2.2.2.2.2.1,c.2.2.2.2.2.2.1,c.2.2.2.2.2.2.2.1,()),c.2.2.2.2.2.2.2.2.1,e.2,(c.2.2.2.2.2.2.2.2.2.1,c.2.2.2.2.2.2.2.2.2.2,()),()))) (fun c=>(c.1,c.2.1,c.2.2.1,c.2.2.2.1,c.2.2.2.2.2.2.1,c.2.2.2.2.2.2.2.1,c.2.2.2.2.2.2.2.2.1,c.2.2.2.2.2.2.2.2.2.1,c.2.2.2.2.2.2.2.2.2.2.1,c.2.2.2.2.2.2.2.2.2.2.2.1,c.2.2.2.2.2.2.2.2.2.2.2.2)) (fun {R} c a nx dn rt=>q1q c.1 c.2.1 c.2.2.1 c.2.2.2.1 c.2.2.2.2.1 c.2.2.2.2.2.1 c.2.2.2.2.2.2.1 c.2.2.2.2.2.2.2.1 c.2.2.2.2.2.2.2.2.1 c.2.2.2.2.2.2.2.2.2.1 c.2.2.2.2.2.2.2.2.2.2.1 c.2.2.2.2.2.2.2.2.2.2.2.1 c.2.2.2.2.2.2.2.2.2.2.2.2 a.1 a.2.1 a.2.2 nx dn rt),
 q0 _ 143 [] qq9 (C:=(Bool×(List St8)×Int×Int×(List Trans)×Int×Int)) (S:=(Bool×Int×qL1×qL1)) (fun x=>((x.1.2.1,x.1.2.2.2.2.2.1,x.1.2.2.2.2.2.2.1,x.2.1.1,x.2.1.2.1,x.2.1.2.2.1,x.2.1.2.2.2.1),(x.1.2.2.2.2.1,x.1.2.2.2.2.2.2.2.1,x.2.2.1,x.2.2.2.1))) qqq (CE:=Bool) (E:=(Bool×qL1×qL1)) (fun c e=>((c,(),(),e.1,()),(e.2.1,e.2.2,()))) (fun c=>c.1) (fun {R} c a nx dn rt=>q2v c.1 c.2.1 c.2.2.1 c.2.2.2.1 c.2.2.2.2.1 c.2.2.2.2.2.1 c.2.2.2.2.2.2 a.1 a.2.1 a.2.2.1 a.2.2.2 nx dn rt)],resU 143 tt [] [.tmp 2] qde (fun x=>x.1.1)⟩
theorem q3t:CtxM Try.prog q3s:=mkG fits mixed (mC q19z (mC q19r (mC q18t (mC qj6 (mC qu2 (mC qia (mC qig (mC q8n m0))))))))
theorem qr6:SummOK Try.prog q3s 1 (lc 4 Try.f3 4928255):=lp rfl q3t .z s0 (fun c a=>(((),c.1,(),(),a.1,(),c.2.1,c.2.2.1,c.2.2.2.1,c.2.2.2.2.1,c.2.2.2.2.2.1,a.2.1,()),((c.2.2.2.2.2.2.1,c.2.2.2.2.2.2.2.1,c.2.2.2.2.2.2.2.2.1,c.2.2.2.2.2.2.2.2.2.1,()),c.2.2.2.2.2.2.2.2.2.2.1,a.2.2,(c.2.2.2.2.2.2.2.2.2.2.2.1,c.2.2.2.2.2.2.2.2.2.2.2.2,()),()))) (fun y=>((y.1.2.1,y.1.2.2.2.2.2.2.1,y.1.2.2.2.2.2.2.2.1,y.1.2.2.2.2.2.2.2.2.1,y.2.1.1,y.2.1.2.1,y.2.1.2.2.1,y.2.1.2.2.2.1,y.2.2.1,y.2.2.2.2.1.1,y.2.2.2.2.1.2.1),(y.1.2.2.2.2.1,y.2.2.2.1)))
theorem qqy:SummOK Try.prog q3s 0 (lc 2 Try.f3 2437887):=lp rfl q3t .z s0 (fun c a=>(((),c.1,(),(),c.2.1,(),c.2.2.1,c.2.2.2.1,c.2.2.2.2.1,c.2.2.2.2.2.1,c.2.2.2.2.2.2.1,a.1,()),((c.2.2.2.2.2.2.2.1,c.2.2.2.2.2.2.2.2.1,c.2.2.2.2.2.2.2.2.2.1,c.2.2.2.2.2.2.2.2.2.2.1,()),a.2,c.2.2.2.2.2.2.2.2.2.2.2.1,(c.2.2.2.2.2.2.2.2.2.2.2.2.1,c.2.2.2.2.2.2.2.2.2.2.2.2.2,()),()))) (fun y=>((y.1.2.1,y.1.2.2.2.2.1,y.1.2.2.2.2.2.2.1,y.1.2.2.2.2.2.2.2.1,y.1.2.2.2.2.2.2.2.2.1,y.2.1.1,y.2.1.2.1,y.2.1.2.2.1,y.2.1.2.2.2.1,y.2.2.2.1,y.2.2.2.2.1.1,y.2.2.2.2.1.2.1),y.2.2.1))
theorem qr7:SummOK Try.prog q3s 2 (lc 0 Try.f3 4863):=lp rfl q3t (.two .z (.two .z (.two (.one (.two .z (.two (.two .z (.s 0)) (.two (.two .z (.s 1)) .z)))) .z))) (sC qqy (sC qr6 s0)) (fun c a=>(((),c.1,(),(),a.1,c.2.1,c.2.2.1,a.2.1,()),((c.2.2.2.1,c.2.2.2.2.1,c.2.2.2.2.2.1,c.2.2.2.2.2.2,()),a.2.2.1,a.2.2.2,()))) (fun y=>(y.1.1,(y.1.2.2.2.1,y.2.1,y.2.2.1)))
noncomputable abbrev qs8:Mdl:=(mdlOf (.cons (.d true Net.ty) .nil) [] [] 1 qde (B:=Bool) (fun b=>((b,()),(()))) (fun a=>q7q a.1.1))
theorem qqn:MdlOK Try.prog 3 qs8:=fnA Try.func3 rfl q3t (.two .z (.two .z (.two .z (.two .z (.two .z (.two .z (.two (.d [0,1,3,0,8,24,56,7,255] [] []) (.two .z (.two (.two .z (.s 2)) .z))))))))) (sC qr7 s0)
end Go.Proofs.Ytclbndfjhjladaa
