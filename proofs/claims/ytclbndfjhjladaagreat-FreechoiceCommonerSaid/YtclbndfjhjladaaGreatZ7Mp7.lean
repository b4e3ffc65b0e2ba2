/-
  The functions compute what their models say. Made by program (mg3.py) out of the translation.
-/
import Derived.Test.YtclbndfjhjladaaGreatZ7Md
import Derived.Test.YtclbndfjhjladaaGreatZ7Tt
set_option linter.all false
set_option maxRecDepth 100000
namespace Go.Proofs.YtclbndfjhjladaaGreat
open Go.K Go.M
abbrev pe3{A0 A1 A2 A3 A4:Type}(x:A0×A1×A2×A3×A4):A3:=x.2.2.2.1
abbrev pe4{A0 A1 A2 A3 A4 A5:Type}(x:A0×A1×A2×A3×A4×A5):A4:=x.2.2.2.2.1
abbrev pe5{A0 A1 A2 A3 A4 A5 A6:Type}(x:A0×A1×A2×A3×A4×A5×A6):A5:=x.2.2.2.2.2.1
abbrev pe6{A0 A1 A2 A3 A4 A5 A6 A7:Type}(x:A0×A1×A2×A3×A4×A5×A6×A7):A6:=x.2.2.2.2.2.2.1
abbrev pe7{A0 A1 A2 A3 A4 A5 A6 A7 A8:Type}(x:A0×A1×A2×A3×A4×A5×A6×A7×A8):A7:=x.2.2.2.2.2.2.2.1
abbrev pe8{A0 A1 A2 A3 A4 A5 A6 A7 A8 A9:Type}(x:A0×A1×A2×A3×A4×A5×A6×A7×A8×A9):A8:=x.2.2.2.2.2.2.2.2.1
abbrev pe9{A0 A1 A2 A3 A4 A5 A6 A7 A8 A9 A10:Type}(x:A0×A1×A2×A3×A4×A5×A6×A7×A8×A9×A10):A9:=x.2.2.2.2.2.2.2.2.2.1
abbrev pe10{A0 A1 A2 A3 A4 A5 A6 A7 A8 A9 A10 A11:Type}(x:A0×A1×A2×A3×A4×A5×A6×A7×A8×A9×A10×A11):A10:=x.2.2.2.2.2.2.2.2.2.2.1
abbrev pe11{A0 A1 A2 A3 A4 A5 A6 A7 A8 A9 A10 A11 A12:Type}(x:A0×A1×A2×A3×A4×A5×A6×A7×A8×A9×A10×A11×A12):A11:=x.2.2.2.2.2.2.2.2.2.2.2.1
abbrev pe12{A0 A1 A2 A3 A4 A5 A6 A7 A8 A9 A10 A11 A12 A13:Type}(x:A0×A1×A2×A3×A4×A5×A6×A7×A8×A9×A10×A11×A12×A13):A12:=x.2.2.2.2.2.2.2.2.2.2.2.2.1
abbrev pe13{A0 A1 A2 A3 A4 A5 A6 A7 A8 A9 A10 A11 A12 A13 A14:Type}(x:A0×A1×A2×A3×A4×A5×A6×A7×A8×A9×A10×A11×A12×A13×A14):A13:=x.2.2.2.2.2.2.2.2.2.2.2.2.2.1
abbrev pe14{A0 A1 A2 A3 A4 A5 A6 A7 A8 A9 A10 A11 A12 A13 A14 A15:Type}(x:A0×A1×A2×A3×A4×A5×A6×A7×A8×A9×A10×A11×A12×A13×A14×A15):A14:=x.2.2.2.2.2.2.2.2.2.2.2.2.2.2.1
abbrev pf4{A0 A1 A2 A3 A4:Type}(x:A0×A1×A2×A3×A4):A4:=x.2.2.2.2
abbrev pf5{A0 A1 A2 A3 A4 A5:Type}(x:A0×A1×A2×A3×A4×A5):A5:=x.2.2.2.2.2
abbrev pf6{A0 A1 A2 A3 A4 A5 A6:Type}(x:A0×A1×A2×A3×A4×A5×A6):A6:=x.2.2.2.2.2.2
abbrev pf7{A0 A1 A2 A3 A4 A5 A6 A7:Type}(x:A0×A1×A2×A3×A4×A5×A6×A7):A7:=x.2.2.2.2.2.2.2
abbrev pf8{A0 A1 A2 A3 A4 A5 A6 A7 A8:Type}(x:A0×A1×A2×A3×A4×A5×A6×A7×A8):A8:=x.2.2.2.2.2.2.2.2
abbrev pf9{A0 A1 A2 A3 A4 A5 A6 A7 A8 A9:Type}(x:A0×A1×A2×A3×A4×A5×A6×A7×A8×A9):A9:=x.2.2.2.2.2.2.2.2.2
abbrev pf10{A0 A1 A2 A3 A4 A5 A6 A7 A8 A9 A10:Type}(x:A0×A1×A2×A3×A4×A5×A6×A7×A8×A9×A10):A10:=x.2.2.2.2.2.2.2.2.2.2
abbrev pf11{A0 A1 A2 A3 A4 A5 A6 A7 A8 A9 A10 A11:Type}(x:A0×A1×A2×A3×A4×A5×A6×A7×A8×A9×A10×A11):A11:=x.2.2.2.2.2.2.2.2.2.2.2
abbrev pf12{A0 A1 A2 A3 A4 A5 A6 A7 A8 A9 A10 A11 A12:Type}(x:A0×A1×A2×A3×A4×A5×A6×A7×A8×A9×A10×A11×A12):A12:=x.2.2.2.2.2.2.2.2.2.2.2.2
abbrev pf13{A0 A1 A2 A3 A4 A5 A6 A7 A8 A9 A10 A11 A12 A13:Type}(x:A0×A1×A2×A3×A4×A5×A6×A7×A8×A9×A10×A11×A12×A13):A13:=x.2.2.2.2.2.2.2.2.2.2.2.2.2
abbrev pf15{A0 A1 A2 A3 A4 A5 A6 A7 A8 A9 A10 A11 A12 A13 A14 A15:Type}(x:A0×A1×A2×A3×A4×A5×A6×A7×A8×A9×A10×A11×A12×A13×A14×A15):A15:=x.2.2.2.2.2.2.2.2.2.2.2.2.2.2.2
noncomputable section
def jmr:Shp:=⟨[(0, .d true ab.ty)],[j04,j04]⟩
abbrev j00:Ctx ((ab×qL1×qL1)):=⟨11,tt,false,false,[false,false],d5 [],ed [],bj 11 tt [false,false] [.cell 6 64] jmr (fun x=>(x.1.1,x.2.1,x.2.2.1))⟩
theorem j0z:CtxM Tryz.prog j00:=eo fits ax m0
abbrev jp7:Mdl:=(aq (.cons (.d false .str) (.cons (.own 0) (.cons (.own 1) .nil))) [qrs,qrs] [false,false] 1 jmr (B:=(ab×qL1×qL1)) (fun b=>((b.1,()),(b.2.1,b.2.2,()))) (fun a=>qrq a.1.1 a.2.1 a.2.2.1))
theorem juu:MdlOK Tryz.prog 38 jp7:=ek Tryz.func38 rfl j0z .z s0
def q81:Shp:=⟨[qv9],[]⟩
abbrev jsn:Ctx (Bool):=⟨17,tt,false,false,[],d5 [],ed [],bj 17 tt [] [.tmp 2] q81 (fun x=>x.1.1)⟩
theorem jsm:CtxM Tryz.prog jsn:=eo fits ax m0
abbrev q18:Mdl:=(aq (.cons (.d false (.int .u8)) .nil) [] [] 1 q81 (B:=Bool) (fun b=>((b,()),(()))) (fun a=>qrt a.1.1))
theorem q59:MdlOK Tryz.prog 128 q18:=ek Tryz.func128 rfl jsm .z s0
def jic:Shp:=⟨[qv9],[]⟩
abbrev jxa:Ctx (Bool):=⟨25,tt,false,false,[],d5 [(128,q18)],ed [],bj 25 tt [] [.tmp 2] jic (fun x=>x.1.1)⟩
theorem jw9:CtxM Tryz.prog jxa:=eo fits ax (mC q59 m0)
abbrev jnc:Mdl:=(aq (.cons (.d false (.int .u8)) .nil) [] [] 1 jic (B:=Bool) (fun b=>((b,()),(()))) (fun a=>q7p a.1.1))
theorem jso:MdlOK Tryz.prog 129 jnc:=ek Tryz.func129 rfl jw9 .z s0
def q80:Shp:=⟨[qv9],[]⟩
abbrev jcs:Ctx (Bool):=⟨29,tt,false,false,[],d5 [(128,q18),(129,jnc)],ed [af _ 29 [] jna (C:=(ByteArray×Int)) (S:=Int) (fun x=>((x.1.1,x.1.2.1),x.1.2.2.1)) jm9 (CE:=Unit) (E:=Unit) (fun c e=>((()),(()))) (fun c=>()) (fun{R} c a nx dn rt=>qee c.1 c.2 a nx dn rt)],bj 29 tt [] [.tmp 2] q80 (fun x=>x.1.1)⟩
theorem jcq:CtxM Tryz.prog jcs:=eo fits ax (mC q59 (mC jso m0))
theorem jo5:al Tryz.prog jcs 0 (lc 0 Tryz.f84 75):=lp rfl jcq .z s0 (fun c a=>((c.1,c.2,a,()),(()))) (fun y=>((),()))
abbrev jcr:Mdl:=(aq (.cons (.d false .str) .nil) [] [] 1 q80 (B:=Bool) (fun b=>((b,()),(()))) (fun a=>qww a.1.1))
theorem jnb:MdlOK Tryz.prog 84 jcr:=ek Tryz.func84 rfl jcq (.two .z (.two .z (.two (.two .z (.s 0)) .z))) (sC jo5 s0)
def q6g:Shp:=⟨[qv9],[]⟩
abbrev q88:Ctx (Bool):=⟨36,tt,false,false,[],d5 [],ed [af _ 36 [] jj5 (C:=(qL1×qL1×Int×Int×(List ab)×Int×Int)) (S:=Int) (fun x=>((x.1.1,x.1.2.2.1,(pe3 x.1),x.2.1.1,x.2.1.2.1,x.2.1.2.2.1,(pe3 x.2.1)),(pe4 x.1))) jj4 (CE:=Unit) (E:=Unit) (fun c e=>((()),(()))) (fun c=>()) (fun{R} c a nx dn rt=>tr c.1 c.2.1 c.2.2.1 (pe3 c) (pe4 c) (pe5 c) (pf6 c) a nx dn rt)],bj 36 tt [] [.tmp 4] q6g (fun x=>x.1.1)⟩
theorem q86:CtxM Tryz.prog q88:=eo fits ax m0
theorem jnq:al Tryz.prog q88 0 (lc 0 Tryz.f85 37):=lp rfl q86 .z s0 (fun c a=>((c.1,(),c.2.1,c.2.2.1,a,()),(((pe3 c),(pe4 c),(pe5 c),(pf6 c),()),()))) (fun y=>((),()))
abbrev q87:Mdl:=(aq (.cons (.d false dj.ty) (.cons (.d false qT1) .nil)) [] [] 1 q6g (B:=Bool) (fun b=>((b,()),(()))) (fun a=>ql a.1.1 a.1.2.1))
theorem jj6:MdlOK Tryz.prog 85 q87:=ek Tryz.func85 rfl q86 (.two .z (.two (.two .z (.s 0)) .z)) (sC jnq s0)
def q85:Shp:=⟨[qv9],[]⟩
abbrev jc3:Ctx (Bool):=⟨62,tt,false,false,[],d5 [(84,jcr),(85,q87)],ed [af _ 62 [] jnl (C:=((List ab)×Int×Int×(List ab)×Int×Int)) (S:=Int) (fun x=>((x.1.2.1,x.1.2.2.1,x.2.1.1,x.2.1.2.1,x.2.1.2.2.1,(pe3 x.2.1)),(pe3 x.1))) jnk (CE:=(Int×(List ab)×Int×Int)) (E:=Unit) (fun c e=>(((),()),((c.1,c.2.1,c.2.2.1,c.2.2.2,()),()))) (fun c=>(c.2.2.1,(pe3 c),(pe4 c),(pf5 c))) (fun{R} c a nx dn rt=>qli c.1 c.2.1 c.2.2.1 (pe3 c) (pe4 c) (pf5 c) a nx dn rt)],bj 62 tt [] [.tmp 2] q85 (fun x=>x.1.1)⟩
theorem jc2:CtxM Tryz.prog jc3:=eo fits ax (mC jnb (mC jj6 m0))
theorem jo6:al Tryz.prog jc3 0 (lc 0 Tryz.f41 75):=lp rfl jc2 .z s0 (fun c a=>(((),c.1,c.2.1,a,()),((c.2.2.1,(pe3 c),(pe4 c),(pf5 c),()),()))) (fun y=>((y.2.1.1,y.2.1.2.1,y.2.1.2.2.1,(pe3 y.2.1)),()))
abbrev j5:Mdl:=(aq (.cons (.d false dj.ty) .nil) [] [] 1 q85 (B:=Bool) (fun b=>((b,()),(()))) (fun a=>jw a.1.1))
theorem iv:MdlOK Tryz.prog 41 j5:=ek Tryz.func41 rfl jc2 (.two .z (.two .z (.two (.two .z (.s 0)) .z))) (sC jo6 s0)
def qi0:Shp:=⟨[zei],[ja9,qrs]⟩
abbrev qk8:Ctx ((Int×qL1)):=⟨33,tt,false,false,[],d5 [],ed [af _ 33 [] qxt (C:=(Int×Int)) (S:=(Int×qL1)) (fun x=>((x.1.2.1,x.2.1.1),(x.1.2.2.1,x.2.2.1))) qxs (CE:=Int) (E:=qL1) (fun c e=>(((),()),((c,(),()),e,()))) (fun c=>c.2) (fun{R} c a nx dn rt=>qgz c.1 c.2 a.1 a.2 nx dn rt)],bj 33 tt [] [.tmp 2] qi0 (fun x=>(x.2.1.1,x.2.2.1))⟩
theorem qk7:CtxM Tryz.prog qk8:=eo fits ax m0
theorem qy8:al Tryz.prog qk8 0 (lc 0 Tryz.f87 75):=lp rfl qk7 .z s0 (fun c a=>(((),c.1,a.1,()),((c.2,(),()),a.2,()))) (fun y=>(y.2.1.1,y.2.2.1))
abbrev qbb:Mdl:=(aq (.cons (.d false dj.ty) .nil) [] [] 1 qi0 (B:=(Int×qL1)) (fun b=>(((),()),((b.1,(),()),b.2,()))) (fun a=>qcy a.1.1))
theorem qg0:MdlOK Tryz.prog 87 qbb:=ek Tryz.func87 rfl qk7 (.two .z (.two (.d [0,1,0,4,0,16,48,124,252,511,1023,2047] [] []) (.two (.two .z (.s 0)) .z))) (sC qy8 s0)
def qf9:Shp:=⟨[jee],[ja9,qrs]⟩
abbrev qgy:Ctx ((Int×Int×qL1)):=⟨41,tt,false,false,[true,true],d5 [],ed [af _ 41 [true,true] qux (C:=Int) (S:=(Int×qL1)) (fun x=>(x.2.1.1,(x.1.2.1,x.2.2.1))) quw (CE:=Int) (E:=(Int×qL1)) (fun c e=>((e.1,()),((c,(),()),e.2,()))) (fun c=>c) (fun{R} c a nx dn rt=>qd6 c a.1 a.2 nx dn rt)],bj 41 tt [true,true] [.tmp 4] qf9 (fun x=>(x.1.1,x.2.1.1,x.2.2.1))⟩
theorem qgx:CtxM Tryz.prog qgy:=eo fits ax m0
theorem qvr:al Tryz.prog qgy 0 (lc 0 Tryz.f89 17):=lp rfl qgx (.two .z (.one (.two (.d [0,1,3,7,0,0,32,96,224,0,512,1536,3584,0,15872,32256,65504,131040,262143,524287] [19] []) .z))) s0 (fun c a=>(((),a.1,()),((c,(),()),a.2,()))) (fun y=>(y.2.1.1,(y.1.1,y.2.2.1)))
abbrev oa:Mdl:=(aq (.cons (.ptr 0) (.cons (.d false qT0) .nil)) [.cs 103 2 1 (.cons (.d false qT0) (.cons (.own 1) .nil)),qrs] [true,true] 1 qf9 (B:=(Int×Int×qL1)) (fun b=>((b.1,()),((b.2.1,(),()),b.2.2,()))) (fun a=>ia a.1.2.1 a.2.1.1 a.2.2.1))
theorem rb:MdlOK Tryz.prog 89 oa:=ek Tryz.func89 rfl qgx (.two .z (.two (.s 0) .z)) (sC qvr s0)
def qd7:Shp:=⟨[],[ja9,qrs]⟩
abbrev qvt:Ctx ((Int×qL1)):=⟨30,tt,false,false,[true,true],d5 [(89,oa)],ed [],bj 30 tt [true,true] [] qd7 (fun x=>(x.2.1.1,x.2.2.1))⟩
theorem qvs:CtxM Tryz.prog qvt:=eo fits ax (mC rb m0)
abbrev tm:Mdl:=(aq (.cons (.ptr 0) (.cons (.d false qT0) (.cons (.d false qT0) .nil))) [.cs 103 2 1 (.cons (.d false qT0) (.cons (.own 1) .nil)),qrs] [true,true] 0 qd7 (B:=(Int×qL1)) (fun b=>((()),((b.1,(),()),b.2,()))) (fun a=>u5 a.1.2.1 a.1.2.2.1 a.2.1.1 a.2.2.1))
theorem qc7:MdlOK Tryz.prog 88 tm:=ek Tryz.func88 rfl qvs (.two (.d [0,0,3,0,0,16,48,112,0,496,1023,2047,4095] [2,10,11,12] []) .z) s0
def qo1:Shp:=⟨[zkq],[j6y]⟩
abbrev oi:Ctx ((List aj)):=⟨99,tt,false,false,[],d5 [(87,qbb),(88,tm),(89,oa)],ed [af _ 99 [] q1n (C:=(Int×(List ab)×Int×Int×qL1×Int×Int×(List ab)×Int×Int)) (S:=(Int×Int×qL1)) (fun x=>((x.1.2.2.1,(pe3 x.1),(pe4 x.1),(pe5 x.1),(pe6 x.1),(pe7 x.1),x.2.1.1,x.2.1.2.1,x.2.1.2.2.1,(pe3 x.2.1)),((pe8 x.1),x.2.2.1.1,(pe3 x)))) q1m (CE:=((List ab)×Int×Int×Int×(List ab)×Int×Int)) (E:=(Int×qL1)) (fun c e=>(((),(),c.1,c.2.1,c.2.2.1,()),(((pe3 c),(pe4 c),(pe5 c),(pf6 c),()),(e.1,(),()),e.2,()))) (fun c=>(c.2.1,c.2.2.1,(pe3 c),(pe6 c),(pe7 c),(pe8 c),(pf9 c))) (fun{R} c a nx dn rt=>qkz c.1 c.2.1 c.2.2.1 (pe3 c) (pe4 c) (pe5 c) (pe6 c) (pe7 c) (pe8 c) (pf9 c) a.1 a.2.1 a.2.2 nx dn rt),af _ 99 [] q1p (C:=((List ab)×Int×Int×(List ab)×Int×Int)) (S:=(Int×Int×qL1)) (fun x=>((x.1.2.2.1,(pe3 x.1),x.2.1.1,x.2.1.2.1,x.2.1.2.2.1,(pe3 x.2.1)),((pe4 x.1),x.2.2.1.1,(pe3 x)))) q1o (CE:=(Int×(List ab)×Int×Int)) (E:=(Int×qL1)) (fun c e=>(((),(),()),((c.1,c.2.1,c.2.2.1,c.2.2.2,()),(e.1,(),()),e.2,()))) (fun c=>(c.2.2.1,(pe3 c),(pe4 c),(pf5 c))) (fun{R} c a nx dn rt=>qk0 c.1 c.2.1 c.2.2.1 (pe3 c) (pe4 c) (pf5 c) a.1 a.2.1 a.2.2 nx dn rt),ko _ 99 [] q1t (A:=(Int×Int×Int×Int×Int×(List ab)×Int×Int×Int×(List (Int×Int))×(List aj)×qL1)) (fun x=>((pe4 x.1),(pe5 x.1),(pe6 x.1),(pe7 x.1),x.2.1.1,x.2.1.2.1,x.2.1.2.2.1,(pe3 x.2.1),x.2.2.1.1,(pe3 x),(pe4 x),(pe5 x))) q1s (CE:=(Int×Int×Int×(List ab)×Int×Int×Int×(List (Int×Int))×qL1)) (E:=(List aj)) (fun c e=>(((),(),(),(),c.1,c.2.1,()),((c.2.2.1,(pe3 c),(pe4 c),(pe5 c),()),((pe6 c),(),()),(pe7 c),e,(pf8 c),()))) (fun c=>(c.2.2.1,(pe3 c),(pe4 c),(pe5 c),(pe6 c),(pe7 c),(pe8 c),(pe9 c),(pf11 c))) (fun{R} c dn rt=>qk2 c.1 c.2.1 c.2.2.1 (pe3 c) (pe4 c) (pe5 c) (pe6 c) (pe7 c) (pe8 c) (pe9 c) (pe10 c) (pf11 c) dn rt),af _ 99 [] q1r (C:=(Int×Int×(List ab)×Int×Int)) (S:=(Int×Int×(List (Int×Int))×(List aj)×qL1)) (fun x=>(((pe4 x.1),x.2.1.1,x.2.1.2.1,x.2.1.2.2.1,(pe3 x.2.1)),((pe5 x.1),x.2.2.1.1,(pe3 x),(pe4 x),(pe5 x)))) q1q (CE:=Unit) (E:=(List aj)) (fun c e=>(((),()),(e,()))) (fun c=>()) (fun{R} c a nx dn rt=>qk1 c.1 c.2.1 c.2.2.1 (pe3 c) (pf4 c) a.1 a.2.1 a.2.2.1 (pe3 a) (pf4 a) nx dn rt)],bj 99 tt [] [.tmp 2] qo1 (fun x=>x.2.1)⟩
theorem oh:CtxM Tryz.prog oi:=eo fits ax (mC qg0 (mC qc7 (mC rb m0)))
theorem q4l:al Tryz.prog oi 2 (jc Tryz.f43 255583):=jn rfl oh (.two .z (.two (.d [0,0,0,0,12,28,60,0,128,508,3,2047,4095] [9,12] []) (.d [0,0,0,0,12,28,60,0,0,256,896,1920,4092,3,16383,32767] [12,15] []))) s0 (fun c=>(((),(),(),(),c.1,c.2.1,c.2.2.1,(pe3 c),()),(((pe4 c),(pe5 c),(pe6 c),(pe7 c),()),((pe8 c),(),()),(pe9 c),(pe10 c),(pf11 c),()))) (fun y=>(((pe4 y.1),(pe5 y.1),y.2.1.1,y.2.1.2.1,y.2.1.2.2.1,(pe3 y.2.1),y.2.2.1.1,(pe3 y),(pe5 y)),(pe4 y)))
theorem q4j:al Tryz.prog oi 0 (lc 2 Tryz.f43 19659):=lp rfl oh .z s0 (fun c a=>(((),(),c.1,c.2.1,c.2.2.1,(pe3 c),(pe4 c),(pe5 c),a.1,()),(((pe6 c),(pe7 c),(pe8 c),(pf9 c),()),(a.2.1,(),()),a.2.2,()))) (fun y=>((y.1.2.2.1,(pe3 y.1),(pe4 y.1),y.2.1.1,y.2.1.2.1,y.2.1.2.2.1,(pe3 y.2.1)),(y.2.2.1.1,(pe3 y))))
theorem q4m:al Tryz.prog oi 3 (lc 4 Tryz.f43 607):=lp rfl oh (.two .z (.two .z (.two (.one (.two .z (.two .z (.two .z (.two .z (.s 2)))))) .z))) (sC q4l s0) (fun c a=>(((),(),(),(),c.1,a.1,()),((c.2.1,c.2.2.1,(pe3 c),(pf4 c),()),(a.2.1,(),()),a.2.2.1,(pe3 a),(pf4 a),()))) (fun y=>((),y.2.1))
theorem q4k:al Tryz.prog oi 1 (lc 0 Tryz.f43 75):=lp rfl oh (.two .z (.two .z (.two (.one (.two .z (.two .z (.s 0)))) .z))) (sC q4j s0) (fun c a=>(((),(),c.1,c.2.1,a.1,()),((c.2.2.1,(pe3 c),(pe4 c),(pf5 c),()),(a.2.1,(),()),a.2.2,()))) (fun y=>((y.2.1.1,y.2.1.2.1,y.2.1.2.2.1,(pe3 y.2.1)),(y.2.2.1.1,(pe3 y))))
abbrev qd8:Mdl:=(aq (.cons (.d false dj.ty) .nil) [] [] 1 qo1 (B:=(List aj)) (fun b=>(((),()),(b,()))) (fun a=>qgc a.1.1))
theorem qk3:MdlOK Tryz.prog 43 qd8:=ek Tryz.func43 rfl oh (.two .z (.two .z (.two (.two .z (.s 1)) (.two .z (.two .z (.two (.two .z (.s 3)) .z)))))) (sC q4k (sC q4m s0))
def qoz:Shp:=⟨[zkq,q0x],[j6y]⟩
abbrev q5l:Ctx ((Int×(List aj))):=⟨9,tt,false,false,[],d5 [(41,j5),(43,qd8)],ed [],bj 9 tt [] [.tmp 2, .tmp 3] qoz (fun x=>(x.1.2.1,x.2.1))⟩
theorem q5k:CtxM Tryz.prog q5l:=eo fits ax (mC iv (mC qk3 m0))
abbrev qq9:Mdl:=(aq (.cons (.d false dj.ty) .nil) [] [] 2 qoz (B:=(Int×(List aj))) (fun b=>(((),b.1,()),(b.2,()))) (fun a=>qta a.1.1))
theorem q1j:MdlOK Tryz.prog 11 qq9:=ek Tryz.func11 rfl q5k .z s0
def qml:Shp:=⟨[jee],[]⟩
abbrev qpg:Ctx (Int):=⟨19,tt,false,false,[],d5 [],ed [af _ 19 [] q0v (C:=(qL1×Int×Int)) (S:=Int) (fun x=>((x.1.1,x.1.2.1,x.1.2.2.1),(pe3 x.1))) q0u (CE:=Unit) (E:=Unit) (fun c e=>((()),(()))) (fun c=>()) (fun{R} c a nx dn rt=>pd c.1 c.2.1 c.2.2 a nx dn rt)],bj 19 tt [] [.tmp 4] qml (fun x=>x.1.1)⟩
theorem qpe:CtxM Tryz.prog qpg:=eo fits ax m0
theorem q2k:al Tryz.prog qpg 0 (lc 0 Tryz.f80 37):=lp rfl qpe .z s0 (fun c a=>((c.1,c.2.1,c.2.2,a,()),(()))) (fun y=>((),()))
abbrev qpf:Mdl:=(aq (.cons (.d false qT1) (.cons (.d false qT0) .nil)) [] [] 1 qml (B:=Int) (fun b=>((b,()),(()))) (fun a=>qei a.1.1 a.1.2.1))
theorem q0w:MdlOK Tryz.prog 80 qpf:=ek Tryz.func80 rfl qpe (.two .z (.two (.two .z (.s 0)) .z)) (sC q2k s0)
def qga:Shp:=⟨[qv9],[]⟩
abbrev qye:Ctx (Bool):=⟨9,tt,false,false,[],d5 [(80,qpf)],ed [],bj 9 tt [] [.tmp 4] qga (fun x=>x.1.1)⟩
theorem qyd:CtxM Tryz.prog qye:=eo fits ax (mC q0w m0)
abbrev b8:Mdl:=(aq (.cons (.d false qT1) (.cons (.d false qT0) .nil)) [] [] 1 qga (B:=Bool) (fun b=>((b,()),(()))) (fun a=>bd a.1.1 a.1.2.1))
theorem bv:MdlOK Tryz.prog 35 b8:=ek Tryz.func35 rfl qyd .z s0
def qw4:Shp:=⟨[qv9],[]⟩
abbrev jgt:Ctx (Bool):=⟨8,tt,false,false,[],d5 [],ed [],bj 8 tt [] [.tmp 3] qw4 (fun x=>x.1.1)⟩
theorem jgs:CtxM Tryz.prog jgt:=eo fits ax m0
abbrev qz1:Mdl:=(aq (.cons (.d false qT0) (.cons (.rp false (.slice .bool)) .nil)) [] [] 1 qw4 (B:=Bool) (fun b=>((b,()),(()))) (fun a=>q3u a.1.1 a.1.2.1))
theorem jaq:MdlOK Tryz.prog 130 qz1:=ek Tryz.func130 rfl jgs .z s0
def yg:Shp:=⟨[jee],[]⟩
abbrev qae:Ctx (Int):=⟨19,tt,false,false,[],d5 [(130,qz1)],ed [af _ 19 [] qn5 (C:=(qL1×(List Bool)×Int)) (S:=Int) (fun x=>((x.1.1,x.1.2.1.1,x.1.2.2.1),(pe3 x.1))) qn4 (CE:=Unit) (E:=Unit) (fun c e=>((()),(()))) (fun c=>()) (fun{R} c a nx dn rt=>v4 c.1 c.2.1 c.2.2 a nx dn rt)],bj 19 tt [] [.tmp 4] yg (fun x=>x.1.1)⟩
theorem qac:CtxM Tryz.prog qae:=eo fits ax (mC jaq m0)
theorem qp1:al Tryz.prog qae 0 (lc 0 Tryz.f79 37):=lp rfl qac .z s0 (fun c a=>((c.1,(c.2.1,()),c.2.2,a,()),(()))) (fun y=>((),()))
abbrev qad:Mdl:=(aq (.cons (.d false qT1) (.cons (.fn 130 (.cons (.rp false (.slice .bool)) .nil)) .nil)) [] [] 1 yg (B:=Int) (fun b=>((b,()),(()))) (fun a=>qb7 a.1.1 a.1.2.1.1))
theorem qn6:MdlOK Tryz.prog 79 qad:=ek Tryz.func79 rfl qac (.two .z (.two (.two .z (.s 0)) .z)) (sC qp1 s0)
def sw:Shp:=⟨[qv9],[]⟩
abbrev ql4:Ctx (Bool):=⟨9,tt,false,false,[],d5 [(79,qad)],ed [],bj 9 tt [] [.tmp 4] sw (fun x=>x.1.1)⟩
theorem ql3:CtxM Tryz.prog ql4:=eo fits ax (mC qn6 m0)
abbrev ua:Mdl:=(aq (.cons (.d false qT1) (.cons (.fn 130 (.cons (.rp false (.slice .bool)) .nil)) .nil)) [] [] 1 sw (B:=Bool) (fun b=>((b,()),(()))) (fun a=>m3 a.1.1 a.1.2.1.1))
theorem qhw:MdlOK Tryz.prog 32 ua:=ek Tryz.func32 rfl ql3 .z s0
def q3t:Shp:=⟨[q5w,(1, .own 1)],[q8k,q8k]⟩
abbrev qlk:Ctx (((List Bool)×(List Bool))):=⟨69,tt,false,false,[],d5 [(32,ua)],ed [af _ 69 [] jgn (C:=(Bool×Bool×(List ab)×Int×Int×qL1×Int×Int×(List ab)×Int×Int×(List Bool))) (S:=(Int×(List Bool))) (fun x=>((x.1.1,(pe4 x.1),(pe5 x.1),(pe6 x.1),(pe7 x.1),(pe8 x.1),(pe9 x.1),x.2.1.1,x.2.1.2.1,x.2.1.2.2.1,(pe3 x.2.1),(pe3 x)),((pe10 x.1),(pe4 x)))) jgm (CE:=(Bool×Bool×(List ab)×Int×Int×Int×(List ab)×Int×Int×(List Bool))) (E:=(List Bool)) (fun c e=>((c.1,(),(),(),c.2.1,c.2.2.1,(pe3 c),(pe4 c),()),(((pe5 c),(pe6 c),(pe7 c),(pe8 c),()),((),()),(pf9 c),e,()))) (fun c=>(c.1,c.2.1,c.2.2.1,(pe3 c),(pe4 c),(pe7 c),(pe8 c),(pe9 c),(pe10 c),(pf11 c))) (fun{R} c a nx dn rt=>qzy c.1 c.2.1 c.2.2.1 (pe3 c) (pe4 c) (pe5 c) (pe6 c) (pe7 c) (pe8 c) (pe9 c) (pe10 c) (pf11 c) a.1 a.2 nx dn rt),af _ 69 [] jgp (C:=(Bool×(List ab)×Int×Int×(List ab)×Int×Int)) (S:=(Bool×Int×(List Bool)×(List Bool))) (fun x=>((x.1.1,(pe5 x.1),(pe6 x.1),x.2.1.1,x.2.1.2.1,x.2.1.2.2.1,(pe3 x.2.1)),((pe4 x.1),(pe7 x.1),(pe3 x),(pe4 x)))) jgo (CE:=(Bool×Int×(List ab)×Int×Int)) (E:=(Bool×(List Bool)×(List Bool))) (fun c e=>((c.1,(),(),(),e.1,()),((c.2.1,c.2.2.1,(pe3 c),(pf4 c),()),((),()),e.2.1,e.2.2,()))) (fun c=>(c.1,(pe3 c),(pe4 c),(pe5 c),(pf6 c))) (fun{R} c a nx dn rt=>qzz c.1 c.2.1 c.2.2.1 (pe3 c) (pe4 c) (pe5 c) (pf6 c) a.1 a.2.1 a.2.2.1 a.2.2.2 nx dn rt),af _ 69 [] jgr (C:=(Bool×Int×(List ab)×Int×Int)) (S:=(Bool×(List Bool)×(List Bool))) (fun x=>((x.1.1,x.2.1.1,x.2.1.2.1,x.2.1.2.2.1,(pe3 x.2.1)),((pe4 x.1),(pe3 x),(pe4 x)))) jgq (CE:=Unit) (E:=((List Bool)×(List Bool))) (fun c e=>(((),(),()),(((),()),e.1,e.2,()))) (fun c=>()) (fun{R} c a nx dn rt=>qz0 c.1 c.2.1 c.2.2.1 (pe3 c) (pf4 c) a.1 a.2.1 a.2.2 nx dn rt)],bj 69 tt [] [.tmp 6, .tmp 7] q3t (fun x=>(x.2.1,x.2.2.1))⟩
theorem qlj:CtxM Tryz.prog qlk:=eo fits ax (mC qhw m0)
theorem jj9:al Tryz.prog qlk 0 (lc 4 Tryz.f90 41838231):=lp rfl qlj .z s0 (fun c a=>((c.1,(),(),(),c.2.1,c.2.2.1,(pe3 c),(pe4 c),(pe5 c),(pe6 c),a.1,()),(((pe7 c),(pe8 c),(pe9 c),(pe10 c),()),((),()),(pf11 c),a.2,()))) (fun y=>((y.1.1,(pe4 y.1),(pe5 y.1),(pe6 y.1),(pe7 y.1),y.2.1.1,y.2.1.2.1,y.2.1.2.2.1,(pe3 y.2.1),(pe3 y)),(pe4 y)))
theorem jka:al Tryz.prog qlk 1 (lc 2 Tryz.f90 9879):=lp rfl qlj (.two .z (.two .z (.two (.one (.two .z (.two (.d [0,1,0,4,3,31] [] []) (.two .z (.two .z (.two .z (.two .z (.s 0)))))))) .z))) (sC jj9 s0) (fun c a=>((c.1,(),(),(),a.1,c.2.1,c.2.2.1,a.2.1,()),(((pe3 c),(pe4 c),(pe5 c),(pf6 c),()),((),()),a.2.2.1,a.2.2.2,()))) (fun y=>((y.1.1,y.2.1.1,y.2.1.2.1,y.2.1.2.2.1,(pe3 y.2.1)),((pe4 y.1),(pe3 y),(pe4 y))))
theorem jkb:al Tryz.prog qlk 2 (lc 0 Tryz.f90 151):=lp rfl qlj (.two .z (.one (.two .z (.two .z (.s 1))))) (sC jka s0) (fun c a=>((c.1,(),(),(),a.1,()),((c.2.1,c.2.2.1,(pe3 c),(pf4 c),()),((),()),a.2.1,a.2.2,()))) (fun y=>((),(y.2.2.1,(pe3 y))))
abbrev q6h:Mdl:=(aq (.cons (.d false dj.ty) (.cons (.d false qT0) (.cons (.d false .bool) .nil))) [] [] 2 q3t (B:=((List Bool)×(List Bool))) (fun b=>(((),(),()),(b.1,b.2,()))) (fun a=>qx4 a.1.1 a.1.2.1 a.1.2.2.1))
theorem jgu:MdlOK Tryz.prog 90 q6h:=ek Tryz.func90 rfl qlj (.two .z (.two (.d [0,1,3,0,8,24,56,0,135,511] [8] []) (.two .z (.two (.two .z (.s 2)) .z)))) (sC jkb s0)
def qhc:Shp:=⟨[jee],[]⟩
abbrev qjc:Ctx (Int):=⟨19,tt,false,false,[],d5 [],ed [af _ 19 [] qv7 (C:=((List Bool)×Bool×Int)) (S:=Int) (fun x=>((x.1.1,x.1.2.1,x.1.2.2.1),(pe3 x.1))) qv6 (CE:=Unit) (E:=Unit) (fun c e=>((()),(()))) (fun c=>()) (fun{R} c a nx dn rt=>nk c.1 c.2.1 c.2.2 a nx dn rt)],bj 19 tt [] [.tmp 4] qhc (fun x=>x.1.1)⟩
theorem qja:CtxM Tryz.prog qjc:=eo fits ax m0
theorem qyf:al Tryz.prog qjc 0 (lc 0 Tryz.f73 37):=lp rfl qja .z s0 (fun c a=>((c.1,c.2.1,c.2.2,a,()),(()))) (fun y=>((),()))
abbrev qjb:Mdl:=(aq (.cons (.d false (.slice .bool)) (.cons (.d false .bool) .nil)) [] [] 1 qhc (B:=Int) (fun b=>((b,()),(()))) (fun a=>qbq a.1.1 a.1.2.1))
theorem qv8:MdlOK Tryz.prog 73 qjb:=ek Tryz.func73 rfl qja (.two .z (.two (.two .z (.s 0)) .z)) (sC qyf s0)
def qdf:Shp:=⟨[qv9],[]⟩
abbrev qvn:Ctx (Bool):=⟨9,tt,false,false,[],d5 [(73,qjb)],ed [],bj 9 tt [] [.tmp 4] qdf (fun x=>x.1.1)⟩
theorem qvm:CtxM Tryz.prog qvn:=eo fits ax (mC qv8 m0)
abbrev rm:Mdl:=(aq (.cons (.d false (.slice .bool)) (.cons (.d false .bool) .nil)) [] [] 1 qdf (B:=Bool) (fun b=>((b,()),(()))) (fun a=>di a.1.1 a.1.2.1))
theorem qb5:MdlOK Tryz.prog 27 rm:=ek Tryz.func27 rfl qvm .z s0
def qzv:Shp:=⟨[qv9],[]⟩
abbrev qsr:Ctx (Bool):=⟨65,tt,false,false,[],d5 [(41,j5),(35,b8),(90,q6h),(27,rm)],ed [af _ 65 [] jc5 (C:=((List ab)×Int×Int×(List ab)×Int×Int)) (S:=Int) (fun x=>((x.1.2.1,x.1.2.2.1,x.2.1.1,x.2.1.2.1,x.2.1.2.2.1,(pe3 x.2.1)),(pe3 x.1))) jc4 (CE:=(Int×(List ab)×Int×Int)) (E:=Unit) (fun c e=>(((),()),((c.1,c.2.1,c.2.2.1,c.2.2.2,()),()))) (fun c=>(c.2.2.1,(pe3 c),(pe4 c),(pf5 c))) (fun{R} c a nx dn rt=>qw0 c.1 c.2.1 c.2.2.1 (pe3 c) (pe4 c) (pf5 c) a nx dn rt),af _ 65 [] jc7 (C:=((List Bool)×Int×Int×(List ab)×Int×Int)) (S:=Int) (fun x=>((x.1.2.1,x.1.2.2.1,x.2.1.1,x.2.1.2.1,x.2.1.2.2.1,(pe3 x.2.1)),(pe3 x.1))) jc6 (CE:=Unit) (E:=Unit) (fun c e=>((()),(()))) (fun c=>()) (fun{R} c a nx dn rt=>qw1 c.1 c.2.1 c.2.2.1 (pe3 c) (pe4 c) (pf5 c) a nx dn rt)],bj 65 tt [] [.tmp 2] qzv (fun x=>x.1.1)⟩
theorem qsq:CtxM Tryz.prog qsr:=eo fits ax (mC iv (mC bv (mC jgu (mC qb5 m0))))
theorem jgf:al Tryz.prog qsr 1 (lc 2 Tryz.f44 151):=lp rfl qsq .z s0 (fun c a=>(((),c.1,c.2.1,a,()),((c.2.2.1,(pe3 c),(pe4 c),(pf5 c),()),()))) (fun y=>((),()))
theorem jge:al Tryz.prog qsr 0 (lc 0 Tryz.f44 75):=lp rfl qsq .z s0 (fun c a=>(((),c.1,c.2.1,a,()),((c.2.2.1,(pe3 c),(pe4 c),(pf5 c),()),()))) (fun y=>((y.2.1.1,y.2.1.2.1,y.2.1.2.2.1,(pe3 y.2.1)),()))
abbrev q3p:Mdl:=(aq (.cons (.d false dj.ty) .nil) [] [] 1 qzv (B:=Bool) (fun b=>((b,()),(()))) (fun a=>q6c a.1.1))
theorem jc8:MdlOK Tryz.prog 44 q3p:=ek Tryz.func44 rfl qsq (.two .z (.two .z (.two (.two .z (.s 0)) (.two (.two .z (.s 1)) .z)))) (sC jge (sC jgf s0))
def qg6:Shp:=⟨[q5w],[qrs]⟩
abbrev q0k:Ctx (qL1):=⟨8,tt,false,false,[],d5 [],ed [],bj 8 tt [] [.tmp 2] qg6 (fun x=>x.2.1)⟩
theorem q0i:CtxM Tryz.prog q0k:=eo fits ax m0
abbrev q0j:Mdl:=(aq (.cons (.nl false (.d false qT1)) .nil) [] [] 1 qg6 (B:=qL1) (fun b=>(((),()),(b,()))) (fun a=>qlv a.1.1))
theorem qv2:MdlOK Tryz.prog 45 q0j:=ek Tryz.func45 rfl q0i .z s0
def va:Shp:=⟨[q5w],[qrs]⟩
abbrev q0n:Ctx (qL1):=⟨8,tt,false,false,[],d5 [],ed [],bj 8 tt [] [.tmp 2] va (fun x=>x.2.1)⟩
theorem q0l:CtxM Tryz.prog q0n:=eo fits ax m0
abbrev q0m:Mdl:=(aq (.cons (.nl true (.d false qT1)) .nil) [] [] 1 va (B:=qL1) (fun b=>(((),()),(b,()))) (fun a=>qm a.1.1))
theorem qv3:MdlOK Tryz.prog 45 q0m:=ek Tryz.func45 rfl q0l .z s0
abbrev gm:Mdl:=(aq (.cons (.d false qT1) .nil) [] [] 1 va (fun(b:qL1)=>(((),()),(b,()))) (fun(a:((qL1×Unit)×(Unit)))=>cw a.1.1))
theorem ic:MdlOK Tryz.prog 45 gm:=by
 refine jqf (jzp _ _) qv2 qv3 (by kernel_rfl) (fun a b h=>⟨?_,h⟩);obtain⟨⟨xs,u1⟩,u2⟩:=a;cases xs with
 |nil=>exact h
 |cons x l=>
  have e:decide ((((x::l).length:Nat):Int)=0)=false:=decide_eq_false (by simp only[List.length_cons];omega);simp only[cw,qm]at h;simp only[qlv,e,cond_false];exact h
def quq:Shp:=⟨[(0, .d true dj.ty),q0x],[]⟩
abbrev qwl:Ctx ((dj×Int)):=⟨60,tt,false,false,[],d5 [(41,j5),(44,q3p),(45,gm)],ed [af _ 60 [] q73 (C:=((List ab)×Int×Int×(List ab)×Int×Int×Int×(List ab)×Int×Int×Int×Int×Int)) (S:=(Int×(List ab))) (fun x=>(((pe3 x.1),(pe4 x.1),x.2.1.1,x.2.1.2.1,x.2.1.2.2.1,(pe3 x.2.1),x.2.2.1.1,x.2.2.1.2.1,x.2.2.1.2.2.1,(pe3 x.2.2.1),(pe3 x).1,(pe3 x).2.2.1,(pe3 (pe3 x))),((pe5 x.1),(pe4 x)))) q72 (CE:=(Int×(List ab)×Int×Int×Int×(List ab)×Int×Int×Int×Int×Int)) (E:=(List ab)) (fun c e=>(((),(),(),()),((c.1,c.2.1,c.2.2.1,(pe3 c),()),((pe4 c),(pe5 c),(pe6 c),(pe7 c),()),((pe8 c),(),(pe9 c),(pf10 c),()),e,()))) (fun c=>(c.2.2.1,(pe3 c),(pe4 c),(pe5 c),(pe6 c),(pe7 c),(pe8 c),(pe9 c),(pe10 c),(pe11 c),(pf12 c))) (fun{R} c a nx dn rt=>qs9 c.1 c.2.1 c.2.2.1 (pe3 c) (pe4 c) (pe5 c) (pe6 c) (pe7 c) (pe8 c) (pe9 c) (pe10 c) (pe11 c) (pf12 c) a.1 a.2 nx dn rt)],bj 60 tt [] [.cell 2 24, .tmp 3] quq (fun x=>(x.1.1,x.1.2.1))⟩
theorem qwj:CtxM Tryz.prog qwl:=eo fits ax (mC iv (mC jc8 (mC ic m0)))
theorem q95:al Tryz.prog qwl 0 (lc 1 Tryz.f12 303):=lp rfl qwj (.two .z (.two .z (.two (.one (.two .z (.d [0,1,0,4,0,16,48,0,128,496,1020,2044,4095,8191,16383] [12,14] []))) .z))) s0 (fun c a=>(((),(),(),c.1,c.2.1,a.1,()),((c.2.2.1,(pe3 c),(pe4 c),(pe5 c),()),((pe6 c),(pe7 c),(pe8 c),(pe9 c),()),((pe10 c),(),(pe11 c),(pf12 c),()),a.2,()))) (fun y=>((y.2.1.1,y.2.1.2.1,y.2.1.2.2.1,(pe3 y.2.1),y.2.2.1.1,y.2.2.1.2.1,y.2.2.1.2.2.1,(pe3 y.2.2.1),(pe3 y).1,(pe3 y).2.2.1,(pe3 (pe3 y))),(pe4 y)))
abbrev qwk:Mdl:=(aq (.cons (.d false dj.ty) .nil) [] [] 2 quq (B:=(dj×Int)) (fun b=>((b.1,b.2,()),(()))) (fun a=>qyw a.1.1))
theorem q74:MdlOK Tryz.prog 12 qwk:=ek Tryz.func12 rfl qwj (.two .z (.two .z (.two .z (.two .z (.two (.two .z (.s 0)) .z))))) (sC q95 s0)
def qo7:Shp:=⟨[qv9],[]⟩
abbrev q5u:Ctx (Bool):=⟨8,tt,false,false,[],d5 [(35,b8)],ed [],bj 8 tt [] [.tmp 3] qo7 (fun x=>x.1.1)⟩
theorem q5t:CtxM Tryz.prog q5u:=eo fits ax (mC bv m0)
abbrev qrh:Mdl:=(aq (.cons (.d false qT0) (.cons (.rp false ab.ty) .nil)) [] [] 1 qo7 (B:=Bool) (fun b=>((b,()),(()))) (fun a=>xm a.1.1 a.1.2.1))
theorem q10:MdlOK Tryz.prog 86 qrh:=ek Tryz.func86 rfl q5t .z s0
def qa4:Shp:=⟨[jee],[]⟩
abbrev qcp:Ctx (Int):=⟨19,tt,false,false,[],d5 [(86,qrh)],ed [af _ 19 [] qqo (C:=(qL1×ab×Int)) (S:=Int) (fun x=>((x.1.1,x.1.2.1.1,x.1.2.2.1),(pe3 x.1))) qqn (CE:=Unit) (E:=Unit) (fun c e=>((()),(()))) (fun c=>()) (fun{R} c a nx dn rt=>je c.1 c.2.1 c.2.2 a nx dn rt)],bj 19 tt [] [.tmp 4] qa4 (fun x=>x.1.1)⟩
theorem qcn:CtxM Tryz.prog qcp:=eo fits ax (mC q10 m0)
theorem qr6:al Tryz.prog qcp 0 (lc 0 Tryz.f79 37):=lp rfl qcn .z s0 (fun c a=>((c.1,(c.2.1,()),c.2.2,a,()),(()))) (fun y=>((),()))
abbrev qco:Mdl:=(aq (.cons (.d false qT1) (.cons (.fn 86 (.cons (.rp false ab.ty) .nil)) .nil)) [] [] 1 qa4 (B:=Int) (fun b=>((b,()),(()))) (fun a=>qr a.1.1 a.1.2.1.1))
theorem qqp:MdlOK Tryz.prog 79 qco:=ek Tryz.func79 rfl qcn (.two .z (.two (.two .z (.s 0)) .z)) (sC qr6 s0)
def uk:Shp:=⟨[qv9],[]⟩
abbrev qnr:Ctx (Bool):=⟨9,tt,false,false,[],d5 [(79,qco)],ed [],bj 9 tt [] [.tmp 4] uk (fun x=>x.1.1)⟩
theorem qnq:CtxM Tryz.prog qnr:=eo fits ax (mC qqp m0)
abbrev vq:Mdl:=(aq (.cons (.d false qT1) (.cons (.fn 86 (.cons (.rp false ab.ty) .nil)) .nil)) [] [] 1 uk (B:=Bool) (fun b=>((b,()),(()))) (fun a=>ja a.1.1 a.1.2.1.1))
theorem qjk:MdlOK Tryz.prog 32 vq:=ek Tryz.func32 rfl qnq .z s0
def qmj:Shp:=⟨[qv9],[]⟩
abbrev qpc:Ctx (Bool):=⟨26,tt,false,false,[],d5 [],ed [af _ 26 [] q0t (C:=(qL1×qL1×Int)) (S:=Int) (fun x=>((x.1.1,x.1.2.1,x.1.2.2.1),(pe3 x.1))) q0s (CE:=Unit) (E:=Unit) (fun c e=>((()),(()))) (fun c=>()) (fun{R} c a nx dn rt=>la c.1 c.2.1 c.2.2 a nx dn rt)],bj 26 tt [] [.tmp 4] qmj (fun x=>x.1.1)⟩
theorem qpb:CtxM Tryz.prog qpc:=eo fits ax m0
theorem q2i:al Tryz.prog qpc 0 (lc 0 Tryz.f26 75):=lp rfl qpb (.two .z (.two .z (.two (.one (.two .z (.two (.d [0,0,3,7,0,0,48,112,255] [] []) .z))) .z))) s0 (fun c a=>((c.1,c.2.1,c.2.2,a,()),(()))) (fun y=>((),()))
abbrev qc0:Mdl:=(aq (.cons (.d false qT1) (.cons (.d false qT1) .nil)) [] [] 1 qmj (B:=Bool) (fun b=>((b,()),(()))) (fun a=>oq a.1.1 a.1.2.1))
theorem qi9:MdlOK Tryz.prog 26 qc0:=ek Tryz.func26 rfl qpb (.two .z (.two .z (.two (.two .z (.s 0)) .z))) (sC q2i s0)
def qtg:Shp:=⟨[qv9],[]⟩
abbrev qho:Ctx (Bool):=⟨38,tt,false,false,[],d5 [(32,vq),(26,qc0)],ed [af _ 38 [] q5q (C:=((List ab)×Int×Int×(List ab)×Int×Int×(List ab)×Int×Int×ByteArray×qL1×qL1)) (S:=Int) (fun x=>((x.1.2.2.1,(pe3 x.1),(pe4 x.1),(pe5 x.1),(pe6 x.1),x.2.1.1,x.2.1.2.1,x.2.1.2.2.1,(pe3 x.2.1),x.2.2.1.1,x.2.2.1.2.1,x.2.2.1.2.2.1),(pe7 x.1))) q5p (CE:=((List ab)×Int×Int×Int×(List ab)×Int×Int)) (E:=Unit) (fun c e=>(((),c.1,c.2.1,c.2.2.1,()),(((pe3 c),(pe4 c),(pe5 c),(pf6 c),()),()))) (fun c=>(c.1,c.2.1,c.2.2.1,(pe5 c),(pe6 c),(pe7 c),(pe8 c))) (fun{R} c a nx dn rt=>oj c.1 c.2.1 c.2.2.1 (pe3 c) (pe4 c) (pe5 c) (pe6 c) (pe7 c) (pe8 c) (pe9 c) (pe10 c) (pf11 c) a nx dn rt),af _ 38 [] q5s (C:=((List ab)×Int×Int×(List ab)×Int×Int)) (S:=Int) (fun x=>((x.1.2.1,x.1.2.2.1,x.2.1.1,x.2.1.2.1,x.2.1.2.2.1,(pe3 x.2.1)),(pe3 x.1))) q5r (CE:=Unit) (E:=Unit) (fun c e=>((()),(()))) (fun c=>()) (fun{R} c a nx dn rt=>ol c.1 c.2.1 c.2.2.1 (pe3 c) (pe4 c) (pf5 c) a nx dn rt)],bj 38 tt [] [.tmp 2] qtg (fun x=>x.1.1)⟩
theorem qhn:CtxM Tryz.prog qho:=eo fits ax (mC qjk (mC qi9 m0))
theorem q78:al Tryz.prog qho 0 (lc 2 Tryz.f42 9829):=lp rfl qhn .z s0 (fun c a=>(((),(),c.1,c.2.1,c.2.2.1,(pe3 c),(pe4 c),a,()),(((pe5 c),(pe6 c),(pe7 c),(pe8 c),()),((pe9 c),(pe10 c),(pf11 c),()),()))) (fun y=>((y.1.2.1,y.1.2.2.1,(pe3 y.1),y.2.1.1,y.2.1.2.1,y.2.1.2.2.1,(pe3 y.2.1)),()))
theorem q79:al Tryz.prog qho 1 (lc 0 Tryz.f42 37):=lp rfl qhn (.two .z (.two .z (.two (.one (.two .z (.two .z (.s 0)))) .z))) (sC q78 s0) (fun c a=>(((),c.1,c.2.1,a,()),((c.2.2.1,(pe3 c),(pe4 c),(pf5 c),()),()))) (fun y=>((),()))
abbrev rc:Mdl:=(aq (.cons (.d false dj.ty) .nil) [] [] 1 qtg (B:=Bool) (fun b=>((b,()),(()))) (fun a=>ju a.1.1))
theorem tz:MdlOK Tryz.prog 42 rc:=ek Tryz.func42 rfl qhn (.two .z (.two (.two .z (.s 1)) .z)) (sC q79 s0)
def qpd:Shp:=⟨[q5w],[qrs]⟩
abbrev q7a:Ctx (qL1):=⟨27,tt,false,false,[],d5 [],ed [],bj 27 tt [] [.tmp 4] qpd (fun x=>x.2.1)⟩
theorem q69:CtxM Tryz.prog q7a:=eo fits ax m0
abbrev qrz:Mdl:=(aq (.cons (.e) (.cons (.d false qT0) .nil)) [] [] 1 qpd (B:=qL1) (fun b=>(((),()),(b,()))) (fun a=>qtn a.1.2.1))
theorem q2j:MdlOK Tryz.prog 131 qrz:=ek Tryz.func131 rfl q69 .z s0
def qi8:Shp:=⟨[q5w],[qrs]⟩
abbrev qbk:Ctx (qL1):=⟨36,tt,false,false,[],d5 [(131,qrz)],ed [af _ 36 [] qx9 (C:=(qL2×qL2×Int)) (S:=(Int×Int)) (fun x=>((x.1.1,x.1.2.2.1,(pe3 x.1)),(x.1.2.1,(pe4 x.1)))) qx8 (CE:=qL2) (E:=Int) (fun c e=>((c,e,()),(()))) (fun c=>c.1) (fun{R} c a nx dn rt=>qg9 c.1 c.2.1 c.2.2 a.1 a.2 nx dn rt),af _ 36 [] qyb (C:=(qL2×Int)) (S:=(Int×qL1)) (fun x=>((x.1.2.1,x.1.2.2.1),((pe3 x.1),x.2.1))) qya (CE:=Unit) (E:=qL1) (fun c e=>(((),()),(e,()))) (fun c=>()) (fun{R} c a nx dn rt=>qha c.1 c.2 a.1 a.2 nx dn rt)],bj 36 tt [] [.tmp 2] qi8 (fun x=>x.2.1)⟩
theorem qbj:CtxM Tryz.prog qbk:=eo fits ax (mC q2j m0)
theorem q0r:al Tryz.prog qbk 1 (lc 2 Tryz.f92 303):=lp rfl qbj .z s0 (fun c a=>(((),c.1,c.2,a.1,()),(a.2,()))) (fun y=>((),y.2.1))
theorem q0q:al Tryz.prog qbk 0 (lc 0 Tryz.f92 75):=lp rfl qbj .z s0 (fun c a=>((c.1,a.1,c.2.1,c.2.2,a.2,()),(()))) (fun y=>(y.1.1,y.1.2.1))
abbrev qlw:Mdl:=(aq (.cons (.d false qT2) .nil) [] [] 1 qi8 (B:=qL1) (fun b=>(((),()),(b,()))) (fun a=>qpa a.1.1))
theorem qyc:MdlOK Tryz.prog 92 qlw:=ek Tryz.func92 rfl qbj (.two .z (.two .z (.two (.two .z (.s 0)) (.two .z (.two (.two .z (.s 1)) .z))))) (sC q0q (sC q0r s0))
def qk4:Shp:=⟨[qv9],[]⟩
abbrev sj:Ctx (Bool):=⟨55,tt,false,false,[],d5 [(87,qbb),(92,qlw),(88,tm),(89,oa)],ed [af _ 55 [] qyz (C:=(Int×(List ab)×Int×Int×qL1×Int)) (S:=(Int×Int×qL1)) (fun x=>((x.1.2.1,x.1.2.2.1,(pe3 x.1),(pe4 x.1),(pe5 x.1),(pe6 x.1)),((pe7 x.1),x.2.1.1,x.2.2.1))) qyy (CE:=((List ab)×Int×Int)) (E:=(Int×qL1)) (fun c e=>(((),c.1,c.2.1,c.2.2,()),((e.1,(),()),e.2,()))) (fun c=>(c.2.1,c.2.2.1,(pe3 c))) (fun{R} c a nx dn rt=>qix c.1 c.2.1 c.2.2.1 (pe3 c) (pe4 c) (pf5 c) a.1 a.2.1 a.2.2 nx dn rt),af _ 55 [] qy1 (C:=((List ab)×Int)) (S:=(Int×Int×qL1)) (fun x=>((x.1.2.1,x.1.2.2.1),((pe3 x.1),x.2.1.1,x.2.2.1))) qy0 (CE:=Unit) (E:=(Int×qL1)) (fun c e=>(((),()),((e.1,(),()),e.2,()))) (fun c=>()) (fun{R} c a nx dn rt=>qiy c.1 c.2 a.1 a.2.1 a.2.2 nx dn rt),af _ 55 [] qy3 (C:=Int) (S:=(Int×Int×qL1)) (fun x=>(x.1.2.1,(x.1.2.2.1,x.2.1.1,x.2.2.1))) qy2 (CE:=Unit) (E:=Unit) (fun c e=>((()),(()))) (fun c=>()) (fun{R} c a nx dn rt=>qiz c a.1 a.2.1 a.2.2 nx dn rt)],bj 55 tt [] [.tmp 2] qk4 (fun x=>x.1.1)⟩
theorem si:CtxM Tryz.prog sj:=eo fits ax (mC qg0 (mC qyc (mC qc7 (mC rb m0))))
theorem q1x:al Tryz.prog sj 0 (lc 2 Tryz.f52 39319):=lp rfl si .z s0 (fun c a=>(((),c.1,c.2.1,c.2.2.1,(pe3 c),(pe4 c),(pf5 c),a.1,()),((a.2.1,(),()),a.2.2,()))) (fun y=>((y.1.2.1,y.1.2.2.1,(pe3 y.1)),(y.2.1.1,y.2.2.1)))
theorem q1z:al Tryz.prog sj 2 (lc 4 Tryz.f52 303):=lp rfl si .z s0 (fun c a=>(((),c,a.1,()),((a.2.1,(),()),a.2.2,()))) (fun y=>((),()))
theorem q1y:al Tryz.prog sj 1 (lc 0 Tryz.f52 151):=lp rfl si (.two .z (.two .z (.two (.one (.two .z (.two .z (.s 0)))) .z))) (sC q1x s0) (fun c a=>(((),c.1,c.2,a.1,()),((a.2.1,(),()),a.2.2,()))) (fun y=>((),(y.2.1.1,y.2.2.1)))
abbrev qo3:Mdl:=(aq (.cons (.d false dj.ty) .nil) [] [] 1 qk4 (B:=Bool) (fun b=>((b,()),(()))) (fun a=>qre a.1.1))
theorem qy4:MdlOK Tryz.prog 52 qo3:=ek Tryz.func52 rfl si (.two .z (.two .z (.two .z (.two (.two .z (.s 1)) (.two (.two .z (.s 2)) .z))))) (sC q1y (sC q1z s0))
def jbq:Shp:=⟨[qv9],[]⟩
abbrev jub:Ctx (Bool):=⟨12,tt,false,false,[],d5 [],ed [],bj 12 tt [] [.tmp 2] jbq (fun x=>x.1.1)⟩
theorem jua:CtxM Tryz.prog jub:=eo fits ax m0
abbrev q5d:Mdl:=(aq (.cons (.d false dj.ty) .nil) [] [] 1 jbq (B:=Bool) (fun b=>((b,()),(()))) (fun a=>q91 a.1.1))
theorem q8p:MdlOK Tryz.prog 93 q5d:=ek Tryz.func93 rfl jua .z s0
def q8o:Shp:=⟨[jee],[]⟩
abbrev jrt:Ctx (Int):=⟨27,tt,false,false,[],d5 [(35,b8)],ed [],bj 27 tt [] [.tmp 4] q8o (fun x=>x.1.1)⟩
theorem jrs:CtxM Tryz.prog jrt:=eo fits ax (mC bv m0)
abbrev q1a:Mdl:=(aq (.cons (.d false ab.ty) (.cons (.d false qT0) .nil)) [] [] 1 q8o (B:=Int) (fun b=>((b,()),(()))) (fun a=>q5b a.1.1 a.1.2.1))
theorem q5c:MdlOK Tryz.prog 94 q1a:=ek Tryz.func94 rfl jrs (.two .z (.two (.d [0,1,0,7,0,16,0,127,255,511] [] []) .z)) s0
def jl1:Shp:=⟨[jee],[]⟩
abbrev jes:Ctx (Int):=⟨24,tt,false,false,[],d5 [],ed [af _ 24 [] jt7 (C:=(qL1×Int×Int)) (S:=(Int×Int)) (fun x=>((x.1.2.2.1,(pe3 x.1),(pe4 x.1)),(x.1.1,x.1.2.1))) jt6 (CE:=(qL1×Int×Int)) (E:=Int) (fun c e=>((e,c.1,c.2.1,c.2.2,()),(()))) (fun c=>(c.1,c.2.1,c.2.2)) (fun{R} c a nx dn rt=>jh2 c.1 c.2.1 c.2.2 a.1 a.2 nx dn rt),af _ 24 [] jt9 (C:=(qL1×Int)) (S:=(Int×Int)) (fun x=>((x.1.2.1,x.1.2.2.1),(x.1.1,(pe3 x.1)))) jt8 (CE:=Unit) (E:=Int) (fun c e=>((e,()),(()))) (fun c=>()) (fun{R} c a nx dn rt=>jh3 c.1 c.2 a.1 a.2 nx dn rt)],bj 24 tt [] [.tmp 2] jl1 (fun x=>x.1.1)⟩
theorem jeq:CtxM Tryz.prog jes:=eo fits ax m0
theorem jwv:al Tryz.prog jes 0 (lc 2 Tryz.f182 19659):=lp rfl jeq (.two .z (.one (.d [0,0,0,6,3,31] [] []))) s0 (fun c a=>((a.1,a.2,c.1,c.2.1,c.2.2,()),(()))) (fun y=>((y.1.2.1,y.1.2.2.1,(pe3 y.1)),y.1.1))
theorem jww:al Tryz.prog jes 1 (lc 0 Tryz.f182 75):=lp rfl jeq (.two .z (.two .z (.two (.one (.two .z (.two .z (.s 0)))) .z))) (sC jwv s0) (fun c a=>((a.1,c.1,c.2,a.2,()),(()))) (fun y=>((),y.1.1))
abbrev jer:Mdl:=(aq (.cons (.d false qT1) .nil) [] [] 1 jl1 (B:=Int) (fun b=>((b,()),(()))) (fun a=>jlz a.1.1))
theorem jh4:MdlOK Tryz.prog 182 jer:=ek Tryz.func182 rfl jeq (.two .z (.two .z (.two (.two .z (.s 1)) .z))) (sC jww s0)
def jh5:Shp:=⟨[zk2],[]⟩
abbrev jl3:Ctx (Int):=⟨21,tt,false,false,[],d5 [],ed [af _ 21 [] jrv (C:=(qL1×Int)) (S:=(Int×Int)) (fun x=>((x.1.2.1,x.1.2.2.1),(x.1.1,(pe3 x.1)))) jru (CE:=Unit) (E:=Int) (fun c e=>((e,()),(()))) (fun c=>()) (fun{R} c a nx dn rt=>jbr c.1 c.2 a.1 a.2 nx dn rt)],bj 21 tt [] [.tmp 2] jh5 (fun x=>x.1.1)⟩
theorem jl2:CtxM Tryz.prog jl3:=eo fits ax m0
theorem jud:al Tryz.prog jl3 0 (lc 0 Tryz.f183 75):=lp rfl jl2 .z s0 (fun c a=>((a.1,c.1,c.2,a.2,()),(()))) (fun y=>((),y.1.1))
abbrev q92:Mdl:=(aq (.cons (.d false qT1) .nil) [] [] 1 jh5 (B:=Int) (fun b=>((b,()),(()))) (fun a=>qpj a.1.1))
theorem jbs:MdlOK Tryz.prog 183 q92:=ek Tryz.func183 rfl jl2 (.two .z (.two .z (.two (.two .z (.s 0)) .z))) (sC jud s0)
def q21:Shp:=⟨[],[jon,qnf,qnf]⟩
abbrev qup:Ctx ((qL2×qL2)):=⟨116,tt,false,false,[true,false,false],d5 [(45,gm),(182,jer),(183,q92)],ed [af _ 116 [true,false,false] je3 (C:=(qL1×qL1×Int×Int×qL2×qL2)) (S:=Int) (fun x=>((x.1.2.1,x.1.2.2.1,(pe3 x.1),(pe5 x.1),x.2.2.1,(pe3 x)),(pe6 x.1))) je2 (CE:=(qL1×qL1×Int×qL2×qL2)) (E:=Unit) (fun c e=>(((),c.1,c.2.1,c.2.2.1,()),(((),(),()),(pe3 c),(pf4 c),()))) (fun c=>(c.1,c.2.1,c.2.2.1,(pf5 c),(pe4 c))) (fun{R} c a nx dn rt=>qyu c.1 c.2.1 c.2.2.1 (pe3 c) (pe4 c) (pf5 c) a nx dn rt),af _ 116 [true,false,false] je5 (C:=(qL1×qL1×Int×qL2×Int×qL2×qL2)) (S:=(Int×qL2×qL2)) (fun x=>((x.1.2.1,x.1.2.2.1,(pe3 x.1),(pe5 x.1),(pe6 x.1),x.2.1.1,x.2.1.2.1),((pe7 x.1),(pe3 x),(pe4 x)))) je4 (CE:=(qL1×qL1×qL2×qL2)) (E:=(qL2×qL2)) (fun c e=>(((),c.1,c.2.1,(),()),((c.2.2.1,c.2.2.2,()),((),(),()),e.1,e.2,()))) (fun c=>(c.1,c.2.1,(pe5 c),(pf6 c))) (fun{R} c a nx dn rt=>qyv c.1 c.2.1 c.2.2.1 (pe3 c) (pe4 c) (pe5 c) (pf6 c) a.1 a.2.1 a.2.2 nx dn rt)],bj 116 tt [true,false,false] [] q21 (fun x=>(x.2.2.1,(pe3 x)))⟩
theorem qun:CtxM Tryz.prog qup:=eo fits ax (mC ic (mC jh4 (mC jbs m0)))
theorem jjb:al Tryz.prog qup 1 (lc 6 Tryz.f160 303):=lp rfl qun (.two .z (.two .z (.two (.one (.two .z (.two .z (.two (.d [0,1,0,4,12,28,0,124,252,508,1023,0,2048,0,8192,32767,8191,131071,262143,524287] [10,15,17,19] []) .z)))) .z))) s0 (fun c a=>(((),c.1,c.2.1,c.2.2.1,(),(pe3 c),(pe4 c),a.1,()),(((pe5 c),(pf6 c),()),((),(),()),a.2.1,a.2.2,()))) (fun y=>((y.1.2.1,y.1.2.2.1,y.2.1.1,y.2.1.2.1),((pe3 y),(pe4 y))))
theorem jja:al Tryz.prog qup 0 (lc 4 Tryz.f160 75):=lp rfl qun .z s0 (fun c a=>(((),c.1,c.2.1,c.2.2.1,(),(pe3 c),a,()),(((),(),()),(pe4 c),(pf5 c),()))) (fun y=>((y.1.2.1,y.1.2.2.1,(pe3 y.1),y.2.2.1,(pe3 y)),()))
abbrev q5i:Mdl:=(aq (.cons (.ptr 0) (.cons (.d true qT1) (.cons (.d true qT1) .nil))) [jon,qnf,qnf] [true,false,false] 0 q21 (B:=(qL2×qL2)) (fun b=>((()),(((),(),()),b.1,b.2,()))) (fun a=>q8q a.1.2.1 a.1.2.2.1 a.2.2.1 (pe3 a)))
theorem je6:MdlOK Tryz.prog 160 q5i:=ek Tryz.func160 rfl qun (.two .z (.two .z (.two (.two .z (.s 0)) (.two .z (.two (.two .z (.s 1)) (.d [0,0,0,4,0,16,60,0,128,0,512,2044,4093,8189,16381,32767,65535,131071] [6,11,14,17] [])))))) (sC jja (sC jjb s0))
def jmc:Shp:=⟨[q5w],[qrs]⟩
abbrev jp0:Ctx (qL1):=⟨37,tt,false,false,[],d5 [],ed [af _ 37 [] juf (C:=(Int×qL1×Int×qL1×Int)) (S:=(Int×qL1)) (fun x=>((x.1.1,x.1.2.1,x.1.2.2.1,(pe3 x.1),(pe5 x.1)),((pe6 x.1),x.2.1))) jue (CE:=Unit) (E:=qL1) (fun c e=>(((),()),(e,()))) (fun c=>()) (fun{R} c a nx dn rt=>jh6 c.1 c.2.1 c.2.2.1 (pe3 c) (pf4 c) a.1 a.2 nx dn rt)],bj 37 tt [] [.tmp 8] jmc (fun x=>x.2.1)⟩
theorem jpy:CtxM Tryz.prog jp0:=eo fits ax m0
theorem jwy:al Tryz.prog jp0 0 (lc 0 Tryz.f161 75):=lp rfl jpy (.two .z (.two .z (.two (.one (.two .z (.d [0,0,0,0,0,24,56,124,0,0,0,1536,3584,7936,16380,32767,65535] [16] []))) .z))) s0 (fun c a=>((c.1,c.2.1,c.2.2.1,(pe3 c),(),(pf4 c),a.1,()),(a.2,()))) (fun y=>((),y.2.1))
abbrev jpz:Mdl:=(aq (.cons (.d false qT0) (.cons (.d false qT1) (.cons (.d false qT0) (.cons (.d false qT1) .nil)))) [] [] 1 jmc (B:=qL1) (fun b=>(((),()),(b,()))) (fun a=>jmb a.1.1 a.1.2.1 a.1.2.2.1 (pe3 a.1)))
theorem jug:MdlOK Tryz.prog 161 jpz:=ek Tryz.func161 rfl jpy (.two .z (.two .z (.two (.two .z (.s 0)) .z))) (sC jwy s0)
def qys:Shp:=⟨[],[jon,qnf,qnf,j04,j04]⟩
abbrev tp:Ctx ((qL2×qL2×qL1×qL1)):=⟨116,tt,false,false,[true,false,false,false,false],d5 [(45,gm),(182,jer),(183,q92)],ed [af _ 116 [true,false,false,false,false] jbv (C:=(Int×Int×qL1×qL2×qL2)) (S:=(Int×qL1)) (fun x=>(((pe3 x.1),(pe4 x.1),(pe3 x),(pe4 x),(pe5 x)),((pe5 x.1),x.2.2.1))) jbu (CE:=(Int×qL1×qL2×qL2)) (E:=qL1) (fun c e=>(((),(),(),c.1,()),(((),(),()),e,c.2.1,c.2.2.1,c.2.2.2,()))) (fun c=>(c.1,c.2.2.1,(pe3 c),(pf4 c))) (fun{R} c a nx dn rt=>qwd c.1 c.2.1 c.2.2.1 (pe3 c) (pf4 c) a.1 a.2 nx dn rt),af _ 116 [true,false,false,false,false] jbx (C:=(qL1×Int×Int×qL2×qL2)) (S:=(Int×qL1×qL1)) (fun x=>((x.1.2.1,(pe3 x.1),(pe4 x.1),(pe3 x),(pe4 x)),((pe5 x.1),x.2.2.1,(pe5 x)))) jbw (CE:=(qL1×qL2×qL2)) (E:=(qL1×qL1)) (fun c e=>(((),c.1,(),()),(((),(),()),e.1,c.2.1,c.2.2,e.2,()))) (fun c=>(c.1,(pe3 c),(pf4 c))) (fun{R} c a nx dn rt=>qwe c.1 c.2.1 c.2.2.1 (pe3 c) (pf4 c) a.1 a.2.1 a.2.2 nx dn rt),af _ 116 [true,false,false,false,false] jbz (C:=(qL1×qL1×Int×Int×qL2×qL2)) (S:=(Int×qL1×qL1)) (fun x=>((x.1.2.1,x.1.2.2.1,(pe3 x.1),(pe5 x.1),x.2.2.1,(pe3 x)),((pe6 x.1),(pe4 x),(pe5 x)))) jby (CE:=(qL1×qL1×Int×qL2×qL2)) (E:=(qL1×qL1)) (fun c e=>(((),c.1,c.2.1,c.2.2.1,()),(((),(),()),(pe3 c),(pf4 c),e.1,e.2,()))) (fun c=>(c.1,c.2.1,c.2.2.1,(pf5 c),(pe4 c))) (fun{R} c a nx dn rt=>qwf c.1 c.2.1 c.2.2.1 (pe3 c) (pe4 c) (pf5 c) a.1 a.2.1 a.2.2 nx dn rt),af _ 116 [true,false,false,false,false] jb1 (C:=(qL1×qL1×Int×qL2×Int×qL2×qL2)) (S:=(Int×qL2×qL2×qL1)) (fun x=>((x.1.2.1,x.1.2.2.1,(pe3 x.1),(pe5 x.1),(pe6 x.1),x.2.1.1,x.2.1.2.1),((pe7 x.1),(pe3 x),(pe4 x),(pe5 x)))) jb0 (CE:=(qL1×qL1×qL2×qL2)) (E:=(qL2×qL2×qL1)) (fun c e=>(((),c.1,c.2.1,(),()),((c.2.2.1,c.2.2.2,()),((),(),()),e.1,e.2.1,e.2.2,()))) (fun c=>(c.1,c.2.1,(pe5 c),(pf6 c))) (fun{R} c a nx dn rt=>qwg c.1 c.2.1 c.2.2.1 (pe3 c) (pe4 c) (pe5 c) (pf6 c) a.1 a.2.1 a.2.2.1 a.2.2.2 nx dn rt),ko _ 116 [true,false,false,false,false] jb3 (A:=(qL1×qL1×qL2×qL2×qL1×qL1)) (fun x=>(x.1.2.1,x.1.2.2.1,x.2.2.1,(pe3 x),(pe4 x),(pe5 x))) jb2 (CE:=Unit) (E:=(qL2×qL2×qL1×qL1)) (fun c e=>((()),(((),(),()),e.1,e.2.1,e.2.2.1,e.2.2.2,()))) (fun c=>()) (fun{R} c dn rt=>qwh c.1 c.2.1 c.2.2.1 (pe3 c) (pe4 c) (pf5 c) dn rt)],bj 116 tt [true,false,false,false,false] [] qys (fun x=>(x.2.2.1,(pe3 x),(pe4 x),(pe5 x)))⟩
theorem tn:CtxM Tryz.prog tp:=eo fits ax (mC ic (mC jh4 (mC jbs m0)))
theorem jex:al Tryz.prog tp 0 (lc 0 Tryz.f160 294):=lp rfl tn .z s0 (fun c a=>(((),(),(),c.1,c.2.1,a.1,()),(((),(),()),a.2,c.2.2.1,(pe3 c),(pf4 c),()))) (fun y=>(((pe3 y.1),(pe3 y),(pe4 y),(pe5 y)),y.2.2.1))
theorem jey:al Tryz.prog tp 1 (lc 2 Tryz.f160 310):=lp rfl tn .z s0 (fun c a=>(((),c.1,(),c.2.1,c.2.2.1,a.1,()),(((),(),()),a.2.1,(pe3 c),(pf4 c),a.2.2,()))) (fun y=>((y.1.2.1,(pe3 y),(pe4 y)),(y.2.2.1,(pe5 y))))
theorem je0:al Tryz.prog tp 3 (lc 6 Tryz.f160 303):=lp rfl tn (.two .z (.two .z (.two (.one (.two .z (.two .z (.two (.d [0,1,0,4,12,28,0,124,252,508,1023,0,2048,0,8192,32767,8191,131071,262143,524287] [10,15,17,19] []) .z)))) .z))) s0 (fun c a=>(((),c.1,c.2.1,c.2.2.1,(),(pe3 c),(pe4 c),a.1,()),(((pe5 c),(pf6 c),()),((),(),()),a.2.1,a.2.2.1,a.2.2.2,()))) (fun y=>((y.1.2.1,y.1.2.2.1,y.2.1.1,y.2.1.2.1),((pe3 y),(pe4 y),(pe5 y))))
theorem jez:al Tryz.prog tp 2 (lc 4 Tryz.f160 75):=lp rfl tn .z s0 (fun c a=>(((),c.1,c.2.1,c.2.2.1,(),(pe3 c),a.1,()),(((),(),()),(pe4 c),(pf5 c),a.2.1,a.2.2,()))) (fun y=>((y.1.2.1,y.1.2.2.1,(pe3 y.1),y.2.2.1,(pe3 y)),((pe4 y),(pe5 y))))
theorem je1:al Tryz.prog tp 4 (jc Tryz.f160 3):=jn rfl tn (.two .z (.two (.two .z (.s 2)) (.two .z (.two (.two .z (.s 3)) (.d [0,0,0,4,0,16,60,0,128,0,512,2044,4093,8189,16381,32767,65535,131071] [6,11,14,17] []))))) (sC jez (sC je0 s0)) (fun c=>(((),c.1,c.2.1,()),(((),(),()),c.2.2.1,(pe3 c),(pe4 c),(pf5 c),()))) (fun y=>((),(y.2.2.1,(pe3 y),(pe4 y),(pe5 y))))
abbrev q20:Mdl:=(aq (.cons (.ptr 0) (.cons (.own 1) (.cons (.own 2) .nil))) [zkv,qrs,qrs,qnf,qnf] [true,false,false,false,false] 0 qys (B:=(qL2×qL2×qL1×qL1)) (fun b=>((()),(((),(),()),b.1,b.2.1,b.2.2.1,b.2.2.2,()))) (fun a=>q5h a.2.2.1 (pe3 a) (pe4 a) (pe5 a)))
theorem jb4:MdlOK Tryz.prog 160 q20:=ek Tryz.func160 rfl tn (.two (.two .z (.two .z (.two (.two (.two .z (.s 0)) (.two .z (.s 1))) .z))) (.s 4)) (sC jex (sC jey (sC je1 s0)))
def qoy:Shp:=⟨[qv9],[jon,qnf,qnf]⟩
abbrev tx:Ctx ((Bool×qL2×qL2)):=⟨142,tt,false,false,[true,false,false],d5 [(160,q5i),(160,q20),(161,jpz)],ed [af _ 142 [true,false,false] q1d (C:=(Int×Int×qL2×qL2)) (S:=(Int×qL2×qL2)) (fun x=>((x.1.2.1,(pe3 x.1),(pe3 x),(pe4 x)),((pe4 x.1),(pe5 x),(pe6 x)))) q1c (CE:=(Int×qL2×qL2)) (E:=(qL2×qL2)) (fun c e=>(((),c.1,(),()),(((),(),()),((),(),()),c.2.1,c.2.2,e.1,e.2,()))) (fun c=>(c.1,c.2.2.1,c.2.2.2)) (fun{R} c a nx dn rt=>qkv c.1 c.2.1 c.2.2.1 c.2.2.2 a.1 a.2.1 a.2.2 nx dn rt),af _ 142 [true,false,false] q1f (C:=(Int×Int×Int×Int×Int×qL2×qL2)) (S:=(Int×qL2×qL2)) (fun x=>((x.1.2.1,(pe3 x.1),(pe4 x.1),(pe5 x.1),(pe6 x.1),(pe3 x),(pe4 x)),((pe7 x.1),(pe5 x),(pe6 x)))) q1e (CE:=(Int×Int×Int×qL2×qL2)) (E:=(qL2×qL2)) (fun c e=>(((),c.1,(),c.2.1,c.2.2.1,()),(((),(),()),((),(),()),(pe3 c),(pf4 c),e.1,e.2,()))) (fun c=>(c.1,c.2.2.1,(pe3 c),(pe5 c),(pf6 c))) (fun{R} c a nx dn rt=>qkw c.1 c.2.1 c.2.2.1 (pe3 c) (pe4 c) (pe5 c) (pf6 c) a.1 a.2.1 a.2.2 nx dn rt),af _ 142 [true,false,false] q1h (C:=(Int×Int×qL2×qL2)) (S:=(Int×qL2×qL2)) (fun x=>((x.1.2.1,(pe3 x.1),(pe3 x),(pe4 x)),((pe4 x.1),(pe5 x),(pe6 x)))) q1g (CE:=(qL2×qL2)) (E:=(qL2×qL2)) (fun c e=>(((),(),()),(((),(),()),((),(),()),c.1,c.2,e.1,e.2,()))) (fun c=>(c.2.2.1,c.2.2.2)) (fun{R} c a nx dn rt=>qkx c.1 c.2.1 c.2.2.1 c.2.2.2 a.1 a.2.1 a.2.2 nx dn rt)],bj 142 tt [true,false,false] [.tmp 4] qoy (fun x=>(x.1.1,x.2.2.1,(pe3 x)))⟩
theorem tw:CtxM Tryz.prog tx:=eo fits ax (mC je6 (mC jb4 (mC jug m0)))
theorem q4d:al Tryz.prog tx 1 (lc 4 Tryz.f132 39319):=lp rfl tw (.two .z (.two .z (.two (.one (.two .z (.two (.d [0,1,3,7,0,31,63,0,255,511,0,1024,3072,7168,0,31744,64512,0,261120,523264,1023,2097151] [] []) (.two .z (.two (.d [0,0,2,0,8,24,56,0,248,504,0,0,2048,6144,14336,0,63488,129024,262142,0,524288,0,2097152,6291456,14680064,0,65011712,132120576,0,0,536870912,1610612736,3758096384,0,16642998272,33822867456,68719476734,137438953471] [37] []) .z))))) .z))) s0 (fun c a=>(((),c.1,(),c.2.1,c.2.2.1,(pe3 c),(pe4 c),a.1,()),(((),(),()),((),(),()),(pe5 c),(pf6 c),a.2.1,a.2.2,()))) (fun y=>((y.1.2.1,(pe3 y.1),(pe4 y.1),(pe3 y),(pe4 y)),((pe5 y),(pe6 y))))
theorem q4e:al Tryz.prog tx 2 (lc 2 Tryz.f132 151):=lp rfl tw (.two .z (.two .z (.two (.one (.two .z (.two .z (.s 1)))) .z))) (sC q4d s0) (fun c a=>(((),c.1,(),c.2.1,a.1,()),(((),(),()),((),(),()),c.2.2.1,c.2.2.2,a.2.1,a.2.2,()))) (fun y=>(((pe3 y),(pe4 y)),((pe5 y),(pe6 y))))
theorem q4c:al Tryz.prog tx 0 (lc 0 Tryz.f132 75):=lp rfl tw (.two .z (.two .z (.two (.one (.two .z (.two .z (.two (.d [0,0,2,6,14,0,62,126,0,256,768,1792,0,7936,16128,32767] [15] []) .z)))) .z))) s0 (fun c a=>(((),c.1,(),c.2.1,a.1,()),(((),(),()),((),(),()),c.2.2.1,c.2.2.2,a.2.1,a.2.2,()))) (fun y=>((y.1.2.1,(pe3 y),(pe4 y)),((pe5 y),(pe6 y))))
abbrev qq8:Mdl:=(aq (.cons (.ptr 0) (.cons (.d false qT0) .nil)) [jon,qnf,qnf] [true,false,false] 1 qoy (B:=(Bool×qL2×qL2)) (fun b=>((b.1,()),(((),(),()),b.2.1,b.2.2,()))) (fun a=>qs8 a.1.2.1 a.2.2.1 (pe3 a)))
theorem q1i:MdlOK Tryz.prog 132 qq8:=ek Tryz.func132 rfl tw (.two .z (.two .z (.two (.two .z (.s 0)) (.two (.two .z (.s 2)) .z)))) (sC q4c (sC q4e s0))
def jbe:Shp:=⟨[jee],[]⟩
abbrev jhx:Ctx (Int):=⟨25,tt,false,false,[],d5 [],ed [ko _ 25 [] jot (A:=(Int×Int)) (fun x=>(x.1.1,x.1.2.1)) jos (CE:=Unit) (E:=Unit) (fun c e=>((()),(()))) (fun c=>()) (fun{R} c dn rt=>q8m c.1 c.2 dn rt)],bj 25 tt [] [.tmp 2] jbe (fun x=>x.1.1)⟩
theorem jhv:CtxM Tryz.prog jhx:=eo fits ax m0
theorem jrc:al Tryz.prog jhx 0 (jc Tryz.f178 15):=jn rfl jhv .z s0 (fun c=>((c.1,c.2,()),(()))) (fun y=>((),()))
abbrev jhw:Mdl:=(aq (.cons (.d false (.int .u64)) .nil) [] [] 1 jbe (B:=Int) (fun b=>((b,()),(()))) (fun a=>jlk a.1.1))
theorem jou:MdlOK Tryz.prog 178 jhw:=ek Tryz.func178 rfl jhv (.two .z (.two .z (.two .z (.s 0)))) (sC jrc s0)
def jll:Shp:=⟨[jee],[]⟩
abbrev j0a:Ctx (Int):=⟨8,tt,false,false,[],d5 [(178,jhw)],ed [],bj 8 tt [] [.tmp 2] jll (fun x=>x.1.1)⟩
theorem jz9:CtxM Tryz.prog j0a:=eo fits ax (mC jou m0)
abbrev q7l:Mdl:=(aq (.cons (.d false (.int .u64)) .nil) [] [] 1 jll (B:=Int) (fun b=>((b,()),(()))) (fun a=>qyk a.1.1))
theorem q40:MdlOK Tryz.prog 148 q7l:=ek Tryz.func148 rfl jz9 .z s0
def q2t:Shp:=⟨[qv9],[]⟩
abbrev jlo:Ctx (Bool):=⟨6,tt,false,false,[],d5 [],ed [],bj 6 tt [] [.tmp 2] q2t (fun x=>x.1.1)⟩
theorem jln:CtxM Tryz.prog jlo:=eo fits ax m0
abbrev q43:Mdl:=(aq (.cons (.d false qT0) .nil) [] [] 1 q2t (B:=Bool) (fun b=>((b,()),(()))) (fun a=>u4 a.1.1))
theorem jen:MdlOK Tryz.prog 179 q43:=ek Tryz.func179 rfl jln .z s0
def qwb:Shp:=⟨[jee],[]⟩
abbrev jem:Ctx (Int):=⟨20,tt,false,false,[],d5 [(179,q43)],ed [],bj 20 tt [] [.tmp 4] qwb (fun x=>x.1.1)⟩
theorem jel:CtxM Tryz.prog jem:=eo fits ax (mC jen m0)
abbrev qyl:Mdl:=(aq (.cons (.d false qT0) (.cons (.d false qT0) .nil)) [] [] 1 qwb (B:=Int) (fun b=>((b,()),(()))) (fun a=>qhh a.1.1 a.1.2.1))
theorem q9w:MdlOK Tryz.prog 149 qyl:=ek Tryz.func149 rfl jel .z s0
def qg8:Shp:=⟨[jee],[]⟩
abbrev qi7:Ctx (Int):=⟨36,tt,false,false,[],d5 [(149,qyl)],ed [af _ 36 [] qv5 (C:=(qL1×qL1×qL1×Int)) (S:=Int) (fun x=>((x.1.1,x.1.2.1,x.1.2.2.1,(pe3 x.1)),(pe4 x.1))) qv4 (CE:=(qL1×qL1)) (E:=Unit) (fun c e=>((c.1,c.2,()),(()))) (fun c=>(c.1,c.2.1)) (fun{R} c a nx dn rt=>ee c.1 c.2.1 c.2.2.1 c.2.2.2 a nx dn rt)],bj 36 tt [] [.tmp 4] qg8 (fun x=>x.1.1)⟩
theorem qi6:CtxM Tryz.prog qi7:=eo fits ax (mC q9w m0)
theorem qx7:al Tryz.prog qi7 0 (lc 0 Tryz.f110 37):=lp rfl qi6 .z s0 (fun c a=>((c.1,c.2.1,c.2.2.1,c.2.2.2,a,()),(()))) (fun y=>((y.1.1,y.1.2.1),()))
abbrev c6:Mdl:=(aq (.cons (.d false qT1) (.cons (.d false qT1) .nil)) [] [] 1 qg8 (B:=Int) (fun b=>((b,()),(()))) (fun a=>au a.1.1 a.1.2.1))
theorem dh:MdlOK Tryz.prog 110 c6:=ek Tryz.func110 rfl qi6 (.two .z (.two (.two .z (.s 0)) .z)) (sC qx7 s0)
def pj:Shp:=⟨[],[qnf]⟩
abbrev jt:Ctx (qL2):=⟨53,tt,false,false,[true],d5 [(110,c6)],ed [af _ 53 [true] qev (C:=(Int×Int×Int)) (S:=(Int×qL2)) (fun x=>((x.1.2.1,x.1.2.2.1,(pe4 x.1)),((pe5 x.1),x.2.1))) qeu (CE:=(Int×Int×Int)) (E:=qL2) (fun c e=>(((),c.1,c.2.1,(()),c.2.2,()),(e,()))) (fun c=>(c.1,c.2.1,c.2.2)) (fun{R} c a nx dn rt=>ou c.1 c.2.1 c.2.2 a.1 a.2 nx dn rt),af _ 53 [true] qex (C:=(Int×Int)) (S:=(Int×qL2)) (fun x=>((x.1.2.1,x.1.2.2.1),((pe4 x.1),x.2.1))) qew (CE:=Unit) (E:=qL2) (fun c e=>((()),(e,()))) (fun c=>()) (fun{R} c a nx dn rt=>ov c.1 c.2 a.1 a.2 nx dn rt)],bj 53 tt [true] [] pj (fun x=>x.2.1)⟩
theorem js:CtxM Tryz.prog jt:=eo fits ax (mC dh m0)
theorem qft:al Tryz.prog jt 0 (lc 2 Tryz.f169 585):=lp rfl js (.two (.two (.d [0,0,3,7,15,15,15,111,239,15,15,1039,3599,7695,16383,32767,65535] [] []) .z) (.two (.one (.d [0,0,0,0,8,0,0,64,224,480,0,0,3072,7168,16355,32739,65535,131071] [15,17] [])) .z)) s0 (fun c a=>(((),c.1,c.2.1,(()),c.2.2,a.1,()),(a.2,()))) (fun y=>((y.1.2.1,y.1.2.2.1,(pe4 y.1)),y.2.1))
theorem qfu:al Tryz.prog jt 1 (lc 0 Tryz.f169 9):=lp rfl js (.two .z (.two (.one (.two .z (.s 0))) .z)) (sC qft s0) (fun c a=>(((),c.1,c.2,(()),a.1,()),(a.2,()))) (fun y=>((),y.2.1))
abbrev qf:Mdl:=(aq (.cons (.own 0) (.cons (.d false qT0) (.cons (.d false qT0) (.cons (.fn 110 .nil) .nil)))) [qnf] [true] 0 pj (B:=qL2) (fun b=>((()),(b,()))) (fun a=>qx a.1.2.1 a.1.2.2.1 a.2.1))
theorem qey:MdlOK Tryz.prog 169 qf:=ek Tryz.func169 rfl js (.two .z (.s 1)) (sC qfu s0)
def uy:Shp:=⟨[],[qnf]⟩
abbrev nh:Ctx (qL2):=⟨82,tt,false,false,[true],d5 [(110,c6)],ed [ko _ 82 [true] qkl (A:=(Int×Int×Int×Int×qL2)) (fun x=>(x.1.2.1,x.1.2.2.1,(pe4 x.1),(pe5 x.1),x.2.1)) qkk (CE:=(Int×Int×Int)) (E:=qL2) (fun c e=>(((),c.1,c.2.1,(()),c.2.2,()),(e,()))) (fun c=>(c.1,c.2.1,(pe3 c))) (fun{R} c dn rt=>tj c.1 c.2.1 c.2.2.1 (pe3 c) (pf4 c) dn rt),af _ 82 [true] qkj (C:=(Int×Int)) (S:=(Int×qL2)) (fun x=>((x.1.2.1,x.1.2.2.1),((pe4 x.1),x.2.1))) qki (CE:=Unit) (E:=qL2) (fun c e=>((()),(e,()))) (fun c=>()) (fun{R} c a nx dn rt=>th c.1 c.2 a.1 a.2 nx dn rt)],bj 82 tt [true] [] uy (fun x=>x.2.1)⟩
theorem ng:CtxM Tryz.prog nh:=eo fits ax (mC dh m0)
theorem qnb:al Tryz.prog nh 0 (jc Tryz.f186 241):=jn rfl ng (.two (.two (.d [0,0,0,0,12,30,62,0,0,0,768,1920,3968,8191,16383,32767] [] []) .z) (.two (.d [0,0,0,6,0,0,0,96,0,0,0,1536,3840,7936,0,0,0,98304,245760,507904,1048335,2096911,4194303,8388607] [21,23] []) .z)) s0 (fun c=>(((),c.1,c.2.1,(()),c.2.2.1,(pe3 c),()),((pf4 c),()))) (fun y=>((y.1.2.1,y.1.2.2.1,(pe4 y.1)),y.2.1))
theorem qnc:al Tryz.prog nh 1 (lc 0 Tryz.f186 9):=lp rfl ng (.one (.two .z (.two .z (.two (.two (.d [0,1,0,7,15,31,31,31,31,415,991,2015,31,31,31,24607,57375,127007,258079,524287,1048575,2097151] [] []) .z) (.s 0))))) (sC qnb s0) (fun c a=>(((),c.1,c.2,(()),a.1,()),(a.2,()))) (fun y=>((),y.2.1))
abbrev wh:Mdl:=(aq (.cons (.own 0) (.cons (.d false qT0) (.cons (.d false qT0) (.cons (.d false qT0) (.cons (.fn 110 .nil) .nil))))) [qnf] [true] 0 uy (B:=qL2) (fun b=>((()),(b,()))) (fun a=>n4 a.1.2.1 a.1.2.2.1 (pe3 a.1) a.2.1))
theorem qkm:MdlOK Tryz.prog 186 wh:=ek Tryz.func186 rfl ng (.two .z (.s 1)) (sC qnc s0)
def uo:Shp:=⟨[],[qnf]⟩
abbrev m9:Ctx (qL2):=⟨60,tt,false,false,[true],d5 [(186,wh)],ed [af _ 60 [true] qjs (C:=(Int×Int×Int)) (S:=(Int×qL2)) (fun x=>((x.1.2.2.1,(pe3 x.1),(pe4 x.1)),((pe5 x.1),x.2.1))) qjr (CE:=(Int×Int×Int)) (E:=qL2) (fun c e=>(((),(()),c.1,c.2.1,c.2.2,()),(e,()))) (fun c=>(c.1,c.2.1,c.2.2)) (fun{R} c a nx dn rt=>s7 c.1 c.2.1 c.2.2 a.1 a.2 nx dn rt),af _ 60 [true] qju (C:=(Int×Int)) (S:=(Int×qL2)) (fun x=>((x.1.2.2.1,(pe3 x.1)),((pe4 x.1),x.2.1))) qjt (CE:=Unit) (E:=qL2) (fun c e=>((()),(e,()))) (fun c=>()) (fun{R} c a nx dn rt=>s8 c.1 c.2 a.1 a.2 nx dn rt)],bj 60 tt [true] [] uo (fun x=>x.2.1)⟩
theorem m8:CtxM Tryz.prog m9:=eo fits ax (mC qkm m0)
theorem qms:al Tryz.prog m9 0 (lc 0 Tryz.f170 151):=lp rfl m8 .z s0 (fun c a=>(((),(()),c.1,c.2.1,c.2.2,a.1,()),(a.2,()))) (fun y=>((y.1.2.2.1,(pe3 y.1),(pe4 y.1)),y.2.1))
theorem qmt:al Tryz.prog m9 1 (lc 2 Tryz.f170 159):=lp rfl m8 (.two .z (.two (.one (.two (.d [0,0,0,0,0,24,0,0,0,384,960,1984,0,0,12288,28672,65475,131011,262143,524287] [17,19] []) .z)) .z)) s0 (fun c a=>(((),(()),c.1,c.2,a.1,()),(a.2,()))) (fun y=>((),y.2.1))
abbrev v9:Mdl:=(aq (.cons (.own 0) (.cons (.d false qT0) (.cons (.d false qT0) (.cons (.fn 110 .nil) .nil)))) [qnf] [true] 0 uo (B:=qL2) (fun b=>((()),(b,()))) (fun a=>yu a.1.2.1 a.1.2.2.1 a.2.1))
theorem qjv:MdlOK Tryz.prog 170 v9:=ek Tryz.func170 rfl m8 (.two .z (.two .z (.two .z (.two (.two .z (.s 0)) (.two .z (.s 1)))))) (sC qms (sC qmt s0))
def qjd:Shp:=⟨[zk2],[]⟩
abbrev q2m:Ctx (Int):=⟨7,tt,false,false,[],d5 [(148,q7l)],ed [],bj 7 tt [] [.tmp 2] qjd (fun x=>x.1.1)⟩
theorem q2l:CtxM Tryz.prog q2m:=eo fits ax (mC q40 m0)
abbrev qbr:Mdl:=(aq (.cons (.d false qT0) .nil) [] [] 1 qjd (B:=Int) (fun b=>((b,()),(()))) (fun a=>ns a.1.1))
theorem qhf:MdlOK Tryz.prog 187 qbr:=ek Tryz.func187 rfl q2l .z s0
def qnd:Shp:=⟨[zk2],[zj3]⟩
abbrev q4x:Ctx ((Int×Int)):=⟨33,tt,false,false,[true],d5 [],ed [],bj 33 tt [true] [.tmp 2] qnd (fun x=>(x.1.1,x.2.1.1))⟩
theorem q4w:CtxM Tryz.prog q4x:=eo fits ax m0
abbrev qc1:Mdl:=(aq (.cons (.ptr 0) .nil) [.cs 172 1 1 (.cons (.d false (.int .u64)) .nil)] [true] 1 qnd (B:=(Int×Int)) (fun b=>((b.1,()),((b.2,()),()))) (fun a=>uz a.2.1.1))
theorem qje:MdlOK Tryz.prog 188 qc1:=ek Tryz.func188 rfl q4w (.two .z (.two (.d [0,1,3,0,8,24,56,127,255,511] [9] []) (.two (.d [0,1,3,0,8,24,56,127,255,511] [9] []) (.two (.d [0,1,3,0,8,24,56,127,255,511] [9] []) .z)))) s0
def pg:Shp:=⟨[],[qnf]⟩
abbrev qc:Ctx (qL2):=⟨67,tt,false,false,[true],d5 [(187,qbr),(188,qc1)],ed [af _ 67 [true] qen (C:=(Int×Int×Int)) (S:=(Int×qL2×Int)) (fun x=>((x.1.2.1,x.1.2.2.1,(pe4 x.1)),((pe5 x.1),x.2.1,x.2.2.1.1))) qem (CE:=Unit) (E:=qL2) (fun c e=>((()),(e,()))) (fun c=>()) (fun{R} c a nx dn rt=>ot c.1 c.2.1 c.2.2 a.1 a.2.1 a.2.2 nx dn rt)],bj 67 tt [true] [] pg (fun x=>x.2.1)⟩
theorem qa:CtxM Tryz.prog qc:=eo fits ax (mC qhf (mC qje m0))
theorem qfo:al Tryz.prog qc 0 (lc 0 Tryz.f171 315):=lp rfl qa (.two .z (.two (.one (.two .z (.two .z (.d [0,0,0,0,0,24,0,0,0,384,960,1984,0,0,12288,28672,65475,131011,262143,524287] [17,19] [])))) .z)) s0 (fun c a=>(((),c.1,c.2.1,(),c.2.2,a.1,()),(a.2.1,(a.2.2,()),()))) (fun y=>((),y.2.1))
abbrev qb:Mdl:=(aq (.cons (.own 0) (.cons (.d false qT0) (.cons (.d false qT0) (.cons (.fn 110 .nil) .nil)))) [qnf] [true] 0 pg (B:=qL2) (fun b=>((()),(b,()))) (fun a=>qu a.1.2.1 a.1.2.2.1 a.2.1))
theorem qeo:MdlOK Tryz.prog 171 qb:=ek Tryz.func171 rfl qa (.two .z (.two .z (.two (.two .z (.two .z (.two .z (.s 0)))) .z))) (sC qfo s0)
def yz:Shp:=⟨[jee,q0x],[j11]⟩
abbrev qsg:Ctx ((Int×Int×Int)):=⟨32,tt,false,false,[true],d5 [(110,c6)],ed [],bj 32 tt [true] [.tmp 10, .tmp 11] yz (fun x=>(x.1.1,x.1.2.1,x.2.1.1))⟩
theorem qsf:CtxM Tryz.prog qsg:=eo fits ax (mC dh m0)
abbrev qa9:Mdl:=(aq (.cons (.d false qT2) (.cons (.d false qT0) (.cons (.d false qT0) (.cons (.ptr 0) (.cons (.fn 110 .nil) .nil))))) [.cs 3 1 1 (.cons (.d false qT0) .nil)] [true] 2 yz (B:=(Int×Int×Int)) (fun b=>((b.1,b.2.1,()),((b.2.2,()),()))) (fun a=>j8 a.1.1 a.1.2.1 a.1.2.2.1 a.2.1.1))
theorem qoq:MdlOK Tryz.prog 192 qa9:=ek Tryz.func192 rfl qsf (.two .z (.two (.two (.d [0,0,0,6,14,0,0,96,224,511,1023] [] []) .z) .z)) s0
def yw:Shp:=⟨[jee],[j11]⟩
abbrev qsc:Ctx ((Int×Int)):=⟨41,tt,false,false,[true],d5 [(192,qa9)],ed [],bj 41 tt [true] [.tmp 12] yw (fun x=>(x.1.1,x.2.1.1))⟩
theorem qsb:CtxM Tryz.prog qsc:=eo fits ax (mC qoq m0)
abbrev oz:Mdl:=(aq (.cons (.d false qT2) (.cons (.d false qT0) (.cons (.d false qT0) (.cons (.d false qT0) (.cons (.ptr 0) (.cons (.fn 110 .nil) .nil)))))) [.cs 3 1 1 (.cons (.d false qT0) .nil)] [true] 1 yw (B:=(Int×Int)) (fun b=>((b.1,()),((b.2,()),()))) (fun a=>j7 a.1.1 a.1.2.1 a.1.2.2.1 (pe3 a.1) a.2.1.1))
theorem wc:MdlOK Tryz.prog 190 oz:=ek Tryz.func190 rfl qsb .z s0
def ox:Shp:=⟨[jee],[j11]⟩
abbrev qfy:Ctx ((Int×Int)):=⟨18,tt,false,false,[true],d5 [(190,oz)],ed [],bj 18 tt [true] [.tmp 8] ox (fun x=>(x.1.1,x.2.1.1))⟩
theorem qfx:CtxM Tryz.prog qfy:=eo fits ax (mC wc m0)
abbrev pn:Mdl:=(aq (.cons (.d false qT2) (.cons (.d false qT0) (.cons (.ptr 0) (.cons (.fn 110 .nil) .nil)))) [.cs 3 1 1 (.cons (.d false qT0) .nil)] [true] 1 ox (B:=(Int×Int)) (fun b=>((b.1,()),((b.2,()),()))) (fun a=>fh a.1.1 a.1.2.1 a.2.1.1))
theorem qdl:MdlOK Tryz.prog 189 pn:=ek Tryz.func189 rfl qfx .z s0
def qw:Shp:=⟨[jee,q0x],[]⟩
abbrev ry:Ctx ((Int×Int)):=⟨63,tt,false,false,[],d5 [(189,pn),(190,oz)],ed [ko _ 63 [] qgj (A:=(Int×Int)) (fun x=>(x.1.2.1,x.2.1.1)) qgi (CE:=Unit) (E:=Unit) (fun c e=>((()),(()))) (fun c=>()) (fun{R} c dn rt=>qd c.1 c.2 dn rt)],bj 63 tt [] [.tmp 8, .tmp 9] qw (fun x=>(x.1.1,x.1.2.1))⟩
theorem rv:CtxM Tryz.prog ry:=eo fits ax (mC qdl (mC wc m0))
theorem qhe:al Tryz.prog ry 0 (jc Tryz.f172 255):=jn rfl rv .z s0 (fun c=>(((),c.1,()),((c.2,()),()))) (fun y=>((),()))
abbrev rx:Mdl:=(aq (.cons (.d false qT2) (.cons (.d false qT0) (.cons (.d false qT0) (.cons (.fn 110 .nil) .nil)))) [] [] 2 qw (B:=(Int×Int)) (fun b=>((b.1,b.2,()),(()))) (fun a=>ln a.1.1 a.1.2.1 a.1.2.2.1))
theorem qgk:MdlOK Tryz.prog 172 rx:=ek Tryz.func172 rfl rv (.two .z (.two .z (.two .z (.two .z (.two .z (.two .z (.two .z (.s 0)))))))) (sC qhe s0)
def qi:Shp:=⟨[],[qnf]⟩
abbrev q7:Ctx (qL2):=⟨34,tt,false,false,[true],d5 [],ed [af _ 34 [true] qf3 (C:=Unit) (S:=(Int×Int×qL2)) (fun x=>((),(x.1.2.1,x.1.2.2.1,x.2.1))) qf2 (CE:=Unit) (E:=qL2) (fun c e=>((()),(e,()))) (fun c=>()) (fun{R} c a nx dn rt=>pq a.1 a.2.1 a.2.2 nx dn rt)],bj 34 tt [true] [] qi (fun x=>x.2.1)⟩
theorem q5:CtxM Tryz.prog q7:=eo fits ax m0
theorem qgn:al Tryz.prog q7 0 (lc 0 Tryz.f173 19):=lp rfl q5 (.two .z (.one (.two (.d [0,0,0,0,0,0,48,112,0,0,768,1792,4083,8179,16383,32767] [13,15] []) .z))) s0 (fun c a=>(((),a.1,a.2.1,()),(a.2.2,()))) (fun y=>((),y.2.1))
abbrev q6:Mdl:=(aq (.cons (.own 0) (.cons (.d false qT0) (.cons (.d false qT0) (.cons (.fn 110 .nil) .nil)))) [qnf] [true] 0 qi (B:=qL2) (fun b=>((()),(b,()))) (fun a=>kl a.1.2.1 a.1.2.2.1 a.2.1))
theorem qf4:MdlOK Tryz.prog 173 q6:=ek Tryz.func173 rfl q5 (.two .z (.two .z (.s 0))) (sC qgn s0)
def lf:Shp:=⟨[qv9],[qnf]⟩
abbrev b7:Ctx ((Bool×qL2)):=⟨141,tt,false,false,[true],d5 [(110,c6)],ed [af _ 141 [true] xa (C:=(Int×Int×Int×qL2)) (S:=Int) (fun x=>((x.1.2.1,x.1.2.2.1,(pe5 x.1),x.2.1),(pe4 x.1))) w9 (CE:=(Int×Int×Int×qL2)) (E:=Int) (fun c e=>(((),c.1,c.2.1,(()),e,c.2.2.1,()),(c.2.2.2,()))) (fun c=>(c.1,c.2.1,c.2.2.1,c.2.2.2)) (fun{R} c a nx dn rt=>kd c.1 c.2.1 c.2.2.1 c.2.2.2 a nx dn rt),af _ 141 [true] xd (C:=(Int×Int×Int×Int)) (S:=(Int×qL2)) (fun x=>((x.1.2.1,x.1.2.2.1,(pe4 x.1),(pe5 x.1)),((pe6 x.1),x.2.1))) xc (CE:=(Int×Int×Int×Int)) (E:=qL2) (fun c e=>(((),c.1,c.2.1,(()),c.2.2.1,c.2.2.2,()),(e,()))) (fun c=>(c.1,c.2.1,c.2.2.1,c.2.2.2)) (fun{R} c a nx dn rt=>kf c.1 c.2.1 c.2.2.1 c.2.2.2 a.1 a.2 nx dn rt),af _ 141 [true] xf (C:=(Int×Int×Int×Int)) (S:=(Int×qL2)) (fun x=>((x.1.2.1,x.1.2.2.1,(pe4 x.1),(pe5 x.1)),((pe6 x.1),x.2.1))) xe (CE:=(Int×Int×Int×Int)) (E:=qL2) (fun c e=>(((),c.1,c.2.1,(()),c.2.2.1,c.2.2.2,()),(e,()))) (fun c=>(c.1,c.2.1,c.2.2.1,c.2.2.2)) (fun{R} c a nx dn rt=>kg c.1 c.2.1 c.2.2.1 c.2.2.2 a.1 a.2 nx dn rt),ko _ 141 [true] xk (A:=(Int×Int×Int×Int×qL2)) (fun x=>(x.1.2.1,x.1.2.2.1,(pe4 x.1),(pe5 x.1),x.2.1)) xj (CE:=(Int×Int×Int×Int)) (E:=qL2) (fun c e=>(((),c.1,c.2.1,(()),c.2.2.1,c.2.2.2,()),(e,()))) (fun c=>(c.1,c.2.1,c.2.2.1,(pe3 c))) (fun{R} c dn rt=>kj c.1 c.2.1 c.2.2.1 (pe3 c) (pf4 c) dn rt),af _ 141 [true] xh (C:=(Int×Int)) (S:=(Int×Int×qL2)) (fun x=>((x.1.2.1,x.1.2.2.1),((pe4 x.1),(pe5 x.1),x.2.1))) xg (CE:=Unit) (E:=qL2) (fun c e=>((()),(e,()))) (fun c=>()) (fun{R} c a nx dn rt=>kh c.1 c.2 a.1 a.2.1 a.2.2 nx dn rt)],bj 141 tt [true] [.tmp 8] lf (fun x=>(x.1.1,x.2.1))⟩
theorem bz:CtxM Tryz.prog b7:=eo fits ax (mC dh m0)
theorem zd:al Tryz.prog b7 1 (lc 4 Tryz.f174 613963):=lp rfl bz (.two .z (.two (.one (.two (.two (.d [0,0,0,6,14,0,0,64,224,480,1023,2047,4095] [] []) .z) (.d [0,0,0,0,8,0,0,64,224,480,0,0,3072,7168,16355,32739,65535,131071] [15,17] []))) .z)) s0 (fun c a=>(((),c.1,c.2.1,(()),c.2.2.1,c.2.2.2,a.1,()),(a.2,()))) (fun y=>((y.1.2.1,y.1.2.2.1,(pe4 y.1),(pe5 y.1)),y.2.1))
theorem ze:al Tryz.prog b7 2 (lc 6 Tryz.f174 622155):=lp rfl bz (.two .z (.two (.one (.two (.two (.d [0,0,0,6,14,0,0,64,224,480,1023,2047,4095] [] []) .z) (.d [0,0,0,0,8,0,0,64,224,480,0,0,3072,7168,16355,32739,65535,131071] [15,17] []))) .z)) s0 (fun c a=>(((),c.1,c.2.1,(()),c.2.2.1,c.2.2.2,a.1,()),(a.2,()))) (fun y=>((y.1.2.1,y.1.2.2.1,(pe4 y.1),(pe5 y.1)),y.2.1))
theorem zf:al Tryz.prog b7 3 (jc Tryz.f174 32331):=jn rfl bz (.two .z (.two (.two .z (.s 2)) .z)) (sC ze s0) (fun c=>(((),c.1,c.2.1,(()),c.2.2.1,(pe3 c),()),((pf4 c),()))) (fun y=>((y.1.2.1,y.1.2.2.1,(pe4 y.1),(pe5 y.1)),y.2.1))
theorem zc:al Tryz.prog b7 0 (lc 2 Tryz.f174 4171):=lp rfl bz (.two (.two (.d [0,0,3,7,15,15,15,111,239,15,15,1039,3599,7695,16383,32767,65535,131071] [] []) .z) .z) s0 (fun c a=>(((),c.1,c.2.1,(()),a,c.2.2.1,()),(c.2.2.2,()))) (fun y=>((y.1.2.1,y.1.2.2.1,(pe5 y.1),y.2.1),(pe4 y.1)))
theorem zg:al Tryz.prog b7 4 (lc 0 Tryz.f174 75):=lp rfl bz (.two .z (.two (.one (.two (.s 0) (.two .z (.two .z (.two (.d [0,0,0,0,8,0,0,64,224,480,0,0,3072,7168,16355,32739,65535,131071] [15,17] []) (.two (.two .z (.two (.two .z (.s 1)) .z)) (.s 3))))))) .z)) (sC zc (sC zd (sC zf s0))) (fun c a=>(((),c.1,c.2,(()),a.1,a.2.1,()),(a.2.2,()))) (fun y=>((),y.2.1))
abbrev lx:Mdl:=(aq (.cons (.own 0) (.cons (.d false qT0) (.cons (.d false qT0) (.cons (.fn 110 .nil) .nil)))) [qnf] [true] 1 lf (B:=(Bool×qL2)) (fun b=>((b.1,()),(b.2,()))) (fun a=>mc a.1.2.1 a.1.2.2.1 a.2.1))
theorem xl:MdlOK Tryz.prog 174 lx:=ek Tryz.func174 rfl bz (.two .z (.two .z (.two (.two .z (.s 4)) .z))) (sC zg s0)
def o7:Shp:=⟨[jee],[qnf]⟩
abbrev fe:Ctx ((Int×qL2)):=⟨90,tt,false,false,[true],d5 [(110,c6)],ed [af _ 90 [true] qdu (C:=(Int×Int×qL2)) (S:=Int) (fun x=>((x.1.2.1,(pe4 x.1),x.2.1),(pe3 x.1))) qdt (CE:=(Int×Int×qL2)) (E:=Int) (fun c e=>(((),c.1,(()),e,c.2.1,()),(c.2.2,()))) (fun c=>(c.1,c.2.1,c.2.2)) (fun{R} c a nx dn rt=>n6 c.1 c.2.1 c.2.2 a nx dn rt),af _ 90 [true] qdw (C:=(Int×Int×qL2)) (S:=Int) (fun x=>((x.1.2.1,(pe3 x.1),x.2.1),(pe4 x.1))) qdv (CE:=(Int×Int×qL2)) (E:=Int) (fun c e=>(((),c.1,(()),c.2.1,e,()),(c.2.2,()))) (fun c=>(c.1,c.2.1,c.2.2)) (fun{R} c a nx dn rt=>n7 c.1 c.2.1 c.2.2 a nx dn rt),af _ 90 [true] qdy (C:=Int) (S:=(Int×Int×qL2)) (fun x=>(x.1.2.1,((pe3 x.1),(pe4 x.1),x.2.1))) qdx (CE:=Unit) (E:=(Int×qL2)) (fun c e=>((e.1,()),(e.2,()))) (fun c=>()) (fun{R} c a nx dn rt=>n8 c a.1 a.2.1 a.2.2 nx dn rt)],bj 90 tt [true] [.tmp 10] o7 (fun x=>(x.1.1,x.2.1))⟩
theorem fc:CtxM Tryz.prog fe:=eo fits ax (mC dh m0)
theorem qe6:al Tryz.prog fe 1 (lc 4 Tryz.f175 2183):=lp rfl fc (.two (.two (.d [0,0,3,7,15,15,15,111,239,15,15,1551,3599,8191,16383,32767] [] []) .z) .z) s0 (fun c a=>(((),c.1,(()),c.2.1,a,()),(c.2.2,()))) (fun y=>((y.1.2.1,(pe3 y.1),y.2.1),(pe4 y.1)))
theorem qe5:al Tryz.prog fe 0 (lc 2 Tryz.f175 1031):=lp rfl fc (.two (.two (.d [0,0,3,7,15,15,15,111,239,15,15,1551,3599,8191,16383,32767,65535] [] []) .z) .z) s0 (fun c a=>(((),c.1,(()),a,c.2.1,()),(c.2.2,()))) (fun y=>((y.1.2.1,(pe4 y.1),y.2.1),(pe3 y.1)))
theorem qe7:al Tryz.prog fe 2 (lc 0 Tryz.f175 71):=lp rfl fc (.one (.two (.s 0) (.two (.s 1) (.two .z (.two (.d [0,0,0,0,0,0,48,112,0,0,768,1792,4083,8179,16383,32767] [13,15] []) .z))))) (sC qe5 (sC qe6 s0)) (fun c a=>(((),c,(()),a.1,a.2.1,()),(a.2.2,()))) (fun y=>((),(y.1.1,y.2.1)))
abbrev pp:Mdl:=(aq (.cons (.own 0) (.cons (.d false qT0) (.cons (.d false qT0) (.cons (.d false qT0) (.cons (.fn 110 .nil) .nil))))) [qnf] [true] 1 o7 (B:=(Int×qL2)) (fun b=>((b.1,()),(b.2,()))) (fun a=>a9 a.1.2.1 a.1.2.2.1 (pe3 a.1) a.2.1))
theorem qdz:MdlOK Tryz.prog 175 pp:=ek Tryz.func175 rfl fc (.two .z (.two (.d [0,0,0,0,0,0,48,112,0,0,768,1792,4083,8179,16383,32767] [13,15] []) (.two .z (.two (.s 2) .z)))) (sC qe7 s0)
def tf:Shp:=⟨[jee,zld],[qnf]⟩
abbrev db:Ctx ((Int×Bool×qL2)):=⟨178,tt,false,false,[true],d5 [(110,c6)],ed [af _ 178 [true] qie (C:=(Int×Int×qL2)) (S:=Int) (fun x=>((x.1.2.1,(pe4 x.1),x.2.1),(pe3 x.1))) qid (CE:=(Int×Int×qL2)) (E:=Int) (fun c e=>(((),c.1,(()),e,c.2.1,()),(c.2.2,()))) (fun c=>(c.1,c.2.1,c.2.2)) (fun{R} c a nx dn rt=>rz c.1 c.2.1 c.2.2 a nx dn rt),af _ 178 [true] qig (C:=(Int×Int×qL2)) (S:=Int) (fun x=>((x.1.2.1,(pe3 x.1),x.2.1),(pe4 x.1))) qif (CE:=(Int×Int×qL2)) (E:=Int) (fun c e=>(((),c.1,(()),c.2.1,e,()),(c.2.2,()))) (fun c=>(c.1,c.2.1,c.2.2)) (fun{R} c a nx dn rt=>sc c.1 c.2.1 c.2.2 a nx dn rt),af _ 178 [true] qii (C:=(Int×Int×qL2)) (S:=Int) (fun x=>((x.1.2.1,(pe4 x.1),x.2.1),(pe3 x.1))) qih (CE:=(Int×Int×qL2)) (E:=Int) (fun c e=>(((),c.1,(()),e,c.2.1,()),(c.2.2,()))) (fun c=>(c.1,c.2.1,c.2.2)) (fun{R} c a nx dn rt=>sd c.1 c.2.1 c.2.2 a nx dn rt),af _ 178 [true] qik (C:=(Int×Int×qL2)) (S:=Int) (fun x=>((x.1.2.1,(pe3 x.1),x.2.1),(pe4 x.1))) qij (CE:=(Int×Int×qL2)) (E:=Int) (fun c e=>(((),c.1,(()),c.2.1,e,()),(c.2.2,()))) (fun c=>(c.1,c.2.1,c.2.2)) (fun{R} c a nx dn rt=>se c.1 c.2.1 c.2.2 a nx dn rt),af _ 178 [true] qim (C:=Int) (S:=(Int×Int×qL2)) (fun x=>(x.1.2.1,((pe3 x.1),(pe4 x.1),x.2.1))) qil (CE:=Int) (E:=(Int×qL2)) (fun c e=>(((),c,e.1,()),(e.2,()))) (fun c=>c) (fun{R} c a nx dn rt=>sg c a.1 a.2.1 a.2.2 nx dn rt)],bj 178 tt [true] [.tmp 10, .tmp 11] tf (fun x=>(x.1.1,x.1.2.1,x.2.1))⟩
theorem da:CtxM Tryz.prog db:=eo fits ax (mC dh m0)
theorem qj9:al Tryz.prog db 3 (lc 8 Tryz.f176 139775):=lp rfl da (.two (.two (.d [0,0,3,7,15,15,15,111,239,15,15,1551,3599,8191,16383,32767,65535] [] []) .z) .z) s0 (fun c a=>(((),c.1,(()),c.2.1,a,()),(c.2.2,()))) (fun y=>((y.1.2.1,(pe3 y.1),y.2.1),(pe4 y.1)))
theorem qj8:al Tryz.prog db 2 (lc 6 Tryz.f176 66047):=lp rfl da (.two (.two (.d [0,0,3,7,15,15,15,111,239,15,15,1551,3599,8191,16383,32767] [] []) .z) .z) s0 (fun c a=>(((),c.1,(()),a,c.2.1,()),(c.2.2,()))) (fun y=>((y.1.2.1,(pe4 y.1),y.2.1),(pe3 y.1)))
theorem qka:al Tryz.prog db 4 (lc 4 Tryz.f176 4607):=lp rfl da (.one (.two (.s 2) (.two (.s 3) (.two .z (.two (.d [0,0,0,0,0,0,48,112,0,0,768,1792,4083,8179,16383,32767] [13,15] []) .z))))) (sC qj8 (sC qj9 s0)) (fun c a=>(((),c,(()),a.1,a.2.1,()),(a.2.2,()))) (fun y=>(y.1.2.1,(y.1.2.2.1,y.2.1)))
theorem qj7:al Tryz.prog db 1 (lc 2 Tryz.f176 143):=lp rfl da (.two (.two (.d [0,0,3,7,15,15,15,111,239,15,15,1551,3599,8191,16383,32767,65535] [] []) .z) .z) s0 (fun c a=>(((),c.1,(()),c.2.1,a,()),(c.2.2,()))) (fun y=>((y.1.2.1,(pe3 y.1),y.2.1),(pe4 y.1)))
theorem qj6:al Tryz.prog db 0 (lc 0 Tryz.f176 71):=lp rfl da (.two (.two (.d [0,0,3,7,15,15,15,111,239,15,15,1551,3599,8191,16383,32767] [] []) .z) .z) s0 (fun c a=>(((),c.1,(()),a,c.2.1,()),(c.2.2,()))) (fun y=>((y.1.2.1,(pe4 y.1),y.2.1),(pe3 y.1)))
abbrev ur:Mdl:=(aq (.cons (.own 0) (.cons (.d false qT0) (.cons (.d false qT0) (.cons (.d false qT0) (.cons (.fn 110 .nil) .nil))))) [qnf] [true] 2 tf (B:=(Int×Bool×qL2)) (fun b=>((b.1,b.2.1,()),(b.2.2,()))) (fun a=>wd a.1.2.1 a.1.2.2.1 (pe3 a.1) a.2.1))
theorem qin:MdlOK Tryz.prog 176 ur:=ek Tryz.func176 rfl da (.two .z (.two (.d [0,0,0,0,0,0,48,112,0,0,768,1792,4083,8179,16383,32767] [13,15] []) (.two .z (.two (.s 0) (.two (.s 1) (.two (.two .z (.two (.two (.d [0,0,0,0,0,0,48,112,0,0,768,1792,4083,8179,16383,32767] [13,15] []) .z) .z)) (.two (.d [0,0,0,0,0,0,48,112,0,0,768,1792,4083,8179,16383,32767] [13,15] []) (.two .z (.two .z (.two (.s 4) (.two (.d [0,0,0,0,0,0,48,112,0,0,768,1792,4083,8179,16383,32767] [13,15] []) .z))))))))))) (sC qj6 (sC qj7 (sC qka s0)))
def br:Shp:=⟨[],[qnf]⟩
abbrev jj(rec:((Unit×Int×Int×Int×(Unit)×Unit)×(qL2×Unit))→Option qL2):Ctx (qL2):=⟨148,tt,false,false,[true],d5 [(169,qf),(170,v9),(171,qb),(172,rx),(173,q6),(174,lx),(110,c6),(175,pp),(176,ur),(147,(aq (.cons (.own 0) (.cons (.d false qT0) (.cons (.d false qT0) (.cons (.d false qT0) (.cons (.fn 110 .nil) .nil))))) [qnf] [true] 0 br (B:=qL2) (fun b=>((()),(b,()))) rec))],ed [ko _ 148 [true] qm4 (A:=(Int×Int×Int×Bool×Bool×Int×Int×Bool×qL2)) (fun x=>(x.1.2.1,x.1.2.2.1,(pe3 x.1),(pe5 x.1),(pe6 x.1),(pe7 x.1),(pe8 x.1),(pe9 x.1),x.2.1)) qm3 (CE:=(Int×Int×Int×Bool×Bool×Int×Int)) (E:=qL2) (fun c e=>(((),c.1,c.2.1,c.2.2.1,(()),(pe3 c),(pe4 c),(pe5 c),(pf6 c),()),(e,()))) (fun c=>(c.1,c.2.1,c.2.2.1,(pe3 c),(pe4 c),(pe5 c),(pe6 c))) (fun{R} c dn rt=>ut rec c.1 c.2.1 c.2.2.1 (pe3 c) (pe4 c) (pe5 c) (pe6 c) (pe7 c) (pf8 c) dn rt),ko _ 148 [true] qm6 (A:=(Int×Int×Int×Int×Int×qL2)) (fun x=>(x.1.2.1,x.1.2.2.1,(pe3 x.1),(pe5 x.1),(pe6 x.1),x.2.1)) qm5 (CE:=Int) (E:=(Int×Int×Bool×Bool×qL2)) (fun c e=>(((),e.1,e.2.1,c,(()),e.2.2.1,(pe3 e),()),((pf4 e),()))) (fun c=>c.2.2.1) (fun{R} c dn rt=>uu rec c.1 c.2.1 c.2.2.1 (pe3 c) (pe4 c) (pf5 c) dn rt),af _ 148 [true] qm2 (C:=Unit) (S:=(Int×Int×Int×Bool×Bool×qL2)) (fun x=>((),(x.1.2.1,x.1.2.2.1,(pe3 x.1),(pe5 x.1),(pe6 x.1),x.2.1))) qm1 (CE:=Unit) (E:=Unit) (fun c e=>((()),(()))) (fun c=>()) (fun{R} c a nx dn rt=>us rec a.1 a.2.1 a.2.2.1 (pe3 a) (pe4 a) (pf5 a) nx dn rt)],bj 148 tt [true] [] br (fun x=>x.2.1)⟩
theorem ji(rec:((Unit×Int×Int×Int×(Unit)×Unit)×(qL2×Unit))→Option qL2)(hrec:MdlOK Tryz.prog 147 (aq (.cons (.own 0) (.cons (.d false qT0) (.cons (.d false qT0) (.cons (.d false qT0) (.cons (.fn 110 .nil) .nil))))) [qnf] [true] 0 br (B:=qL2) (fun b=>((()),(b,()))) rec)):CtxM Tryz.prog (jj rec):=eo fits ax (mC qey (mC qjv (mC qeo (mC qgk (mC qf4 (mC xl (mC dh (mC qdz (mC qin (mC hrec m0))))))))))
theorem qov(rec:((Unit×Int×Int×Int×(Unit)×Unit)×(qL2×Unit))→Option qL2)(hrec:MdlOK Tryz.prog 147 (aq (.cons (.own 0) (.cons (.d false qT0) (.cons (.d false qT0) (.cons (.d false qT0) (.cons (.fn 110 .nil) .nil))))) [qnf] [true] 0 br (B:=qL2) (fun b=>((()),(b,()))) rec)):al Tryz.prog (jj rec) 0 (jc Tryz.f147 14307):=jn rfl (ji rec hrec) .z s0 (fun c=>(((),c.1,c.2.1,c.2.2.1,(()),(pe3 c),(pe4 c),(pe5 c),(pe6 c),(pe7 c),()),((pf8 c),()))) (fun y=>((y.1.2.1,y.1.2.2.1,(pe3 y.1),(pe5 y.1),(pe6 y.1),(pe7 y.1),(pe8 y.1)),y.2.1))
theorem qow(rec:((Unit×Int×Int×Int×(Unit)×Unit)×(qL2×Unit))→Option qL2)(hrec:MdlOK Tryz.prog 147 (aq (.cons (.own 0) (.cons (.d false qT0) (.cons (.d false qT0) (.cons (.d false qT0) (.cons (.fn 110 .nil) .nil))))) [qnf] [true] 0 br (B:=qL2) (fun b=>((()),(b,()))) rec)):al Tryz.prog (jj rec) 1 (jc Tryz.f147 16355):=jn rfl (ji rec hrec) .z s0 (fun c=>(((),c.1,c.2.1,c.2.2.1,(()),(pe3 c),(pe4 c),()),((pf5 c),()))) (fun y=>((pe3 y.1),(y.1.2.1,y.1.2.2.1,(pe5 y.1),(pe6 y.1),y.2.1)))
theorem qox(rec:((Unit×Int×Int×Int×(Unit)×Unit)×(qL2×Unit))→Option qL2)(hrec:MdlOK Tryz.prog 147 (aq (.cons (.own 0) (.cons (.d false qT0) (.cons (.d false qT0) (.cons (.d false qT0) (.cons (.fn 110 .nil) .nil))))) [qnf] [true] 0 br (B:=qL2) (fun b=>((()),(b,()))) rec)):al Tryz.prog (jj rec) 2 (lc 0 Tryz.f147 19):=lp rfl (ji rec hrec) (.one (.two .z (.two .z (.two .z (.two .z (.two .z (.two .z (.two (.two .z (.s 0)) (.two (.two (.d [0,1,3,7,7,7,39,119,247,7,7,1543,3591,8191,16383,32767,65535] [] []) .z) (.s 1)))))))))) (sC (qov rec hrec) (sC (qow rec hrec) s0)) (fun c a=>(((),a.1,a.2.1,a.2.2.1,(()),(pe3 a),(pe4 a),()),((pf5 a),()))) (fun y=>((),()))
abbrev zj:Mdl:=(aq (.cons (.own 0) (.cons (.d false qT0) (.cons (.d false qT0) (.cons (.d false qT0) (.cons (.fn 110 .nil) .nil))))) [qnf] [true] 0 br (B:=qL2) (fun b=>((()),(b,()))) (fun(a:((Unit×Int×Int×Int×(Unit)×Unit)×(qL2×Unit)))=>zk a))
theorem qkc(rec:((Unit×Int×Int×Int×(Unit)×Unit)×(qL2×Unit))→Option qL2)(hrec:MdlOK Tryz.prog 147 (aq (.cons (.own 0) (.cons (.d false qT0) (.cons (.d false qT0) (.cons (.d false qT0) (.cons (.fn 110 .nil) .nil))))) [qnf] [true] 0 br (B:=qL2) (fun b=>((()),(b,()))) rec)):MdlOK Tryz.prog 147 (aq (.cons (.own 0) (.cons (.d false qT0) (.cons (.d false qT0) (.cons (.d false qT0) (.cons (.fn 110 .nil) .nil))))) [qnf] [true] 0 br (B:=qL2) (fun b=>((()),(b,()))) ((fun(rec:((Unit×Int×Int×Int×(Unit)×Unit)×(qL2×Unit))→Option qL2) (a:((Unit×Int×Int×Int×(Unit)×Unit)×(qL2×Unit)))=>nz rec a.1.2.1 a.1.2.2.1 (pe3 a.1) a.2.1) rec)):=ek Tryz.func147 rfl (ji rec hrec) (.two .z (.two .z (.s 2))) (sC (qox rec hrec) s0)
theorem qm7:MdlOK Tryz.prog 147 zj:=j4a (B:=qL2) (c:=jeg Tryz.f147) (l:=(.cons (.own 0) (.cons (.d false qT0) (.cons (.d false qT0) (.cons (.d false qT0) (.cons (.fn 110 .nil) .nil)))))) (objs:=[qnf]) (kp:=[true]) (k:=0) (sh:=br) (mk:=(fun b=>((()),(b,())))) (F:=(fun(rec:((Unit×Int×Int×Int×(Unit)×Unit)×(qL2×Unit))→Option qL2) (a:((Unit×Int×Int×Int×(Unit)×Unit)×(qL2×Unit)))=>nz rec a.1.2.1 a.1.2.2.1 (pe3 a.1) a.2.1)) Tryz.func147 (by rfl) (by kernel_rfl) (by kernel_rfl) qkc
def qa7:Shp:=⟨[],[qnf]⟩
abbrev qs2:Ctx (qL2):=⟨14,tt,false,false,[true],d5 [(148,q7l),(147,zj)],ed [],bj 14 tt [true] [] qa7 (fun x=>x.2.1)⟩
theorem qs1:CtxM Tryz.prog qs2:=eo fits ax (mC q40 (mC qm7 m0))
abbrev qcu:Mdl:=(aq (.cons (.own 0) (.cons (.fn 110 .nil) .nil)) [qnf] [true] 0 qa7 (B:=qL2) (fun b=>((()),(b,()))) (fun a=>qdj a.2.1))
theorem qqu:MdlOK Tryz.prog 108 qcu:=ek Tryz.func108 rfl qs1 .z s0
def qyr:Shp:=⟨[qv9],[]⟩
abbrev ji7:Ctx (Bool):=⟨5,tt,false,false,[],d5 [],ed [],bj 5 tt [] [.tmp 2] qyr (fun x=>x.1.1)⟩
theorem ji6:CtxM Tryz.prog ji7:=eo fits ax m0
abbrev q2y:Mdl:=(aq (.cons (.d false qT0) .nil) [] [] 1 qyr (B:=Bool) (fun b=>((b,()),(()))) (fun a=>q5g a.1.1))
theorem jbt:MdlOK Tryz.prog 133 q2y:=ek Tryz.func133 rfl ji6 .z s0
def yh:Shp:=⟨[jee],[]⟩
abbrev qah:Ctx (Int):=⟨19,tt,false,false,[],d5 [(133,q2y)],ed [af _ 19 [] qn8 (C:=(qL1×Int)) (S:=Int) (fun x=>((x.1.1,x.1.2.2.1),(pe3 x.1))) qn7 (CE:=Unit) (E:=Unit) (fun c e=>((()),(()))) (fun c=>()) (fun{R} c a nx dn rt=>v5 c.1 c.2 a nx dn rt)],bj 19 tt [] [.tmp 4] yh (fun x=>x.1.1)⟩
theorem qaf:CtxM Tryz.prog qah:=eo fits ax (mC jbt m0)
theorem qp3:al Tryz.prog qah 0 (lc 0 Tryz.f79 37):=lp rfl qaf .z s0 (fun c a=>((c.1,(()),c.2,a,()),(()))) (fun y=>((),()))
abbrev qag:Mdl:=(aq (.cons (.d false qT1) (.cons (.fn 133 .nil) .nil)) [] [] 1 yh (B:=Int) (fun b=>((b,()),(()))) (fun a=>qb8 a.1.1))
theorem qn9:MdlOK Tryz.prog 79 qag:=ek Tryz.func79 rfl qaf (.two .z (.two (.two .z (.s 0)) .z)) (sC qp3 s0)
def sx:Shp:=⟨[qv9],[]⟩
abbrev ql6:Ctx (Bool):=⟨9,tt,false,false,[],d5 [(79,qag)],ed [],bj 9 tt [] [.tmp 4] sx (fun x=>x.1.1)⟩
theorem ql5:CtxM Tryz.prog ql6:=eo fits ax (mC qn9 m0)
abbrev ub:Mdl:=(aq (.cons (.d false qT1) (.cons (.fn 133 .nil) .nil)) [] [] 1 sx (B:=Bool) (fun b=>((b,()),(()))) (fun a=>vi a.1.1))
theorem qhx:MdlOK Tryz.prog 32 ub:=ek Tryz.func32 rfl ql5 .z s0
def q5e:Shp:=⟨[zma,q0x],[]⟩
abbrev qgt:Ctx ((qL2×Int)):=⟨83,tt,false,false,[],d5 [(45,gm),(132,qq8),(108,qcu),(32,ub)],ed [af _ 83 [] jiz (C:=(qL2×qL2×Int)) (S:=(Int×qL2×qL2)) (fun x=>((x.1.1,x.1.2.2.1,(pe3 x.1)),((pe4 x.1),x.2.2.1,(pe3 x)))) jiy (CE:=qL2) (E:=(qL2×qL2)) (fun c e=>((c,(),()),(((),(),()),e.1,e.2,()))) (fun c=>c.1) (fun{R} c a nx dn rt=>q2u c.1 c.2.1 c.2.2 a.1 a.2.1 a.2.2 nx dn rt),af _ 83 [] ji1 (C:=Int) (S:=(Int×qL2×qL2)) (fun x=>(x.1.2.1,(x.1.2.2.1,x.2.2.1,(pe3 x)))) ji0 (CE:=Unit) (E:=(qL2×qL2)) (fun c e=>(((),()),(((),(),()),e.1,e.2,()))) (fun c=>()) (fun{R} c a nx dn rt=>q2v c a.1 a.2.1 a.2.2 nx dn rt),af _ 83 [] ji3 (C:=(qL2×qL2×Int)) (S:=Int) (fun x=>((x.1.1,x.1.2.1,x.1.2.2.1),(pe3 x.1))) ji2 (CE:=qL2) (E:=Unit) (fun c e=>((c,()),(()))) (fun c=>c.1) (fun{R} c a nx dn rt=>q2w c.1 c.2.1 c.2.2 a nx dn rt),ko _ 83 [] ji5 (A:=(qL2×qL2)) (fun x=>(x.2.1.1,x.2.2.1)) ji4 (CE:=Unit) (E:=Unit) (fun c e=>((()),(()))) (fun c=>()) (fun{R} c dn rt=>q2x c.1 c.2 dn rt)],bj 83 tt [] [.tmp 2, .tmp 3] q5e (fun x=>(x.1.1,x.1.2.1))⟩
theorem qgs:CtxM Tryz.prog qgt:=eo fits ax (mC ic (mC q1i (mC qqu (mC qhx m0))))
theorem jl9:al Tryz.prog qgt 2 (lc 4 Tryz.f95 2431):=lp rfl qgs .z s0 (fun c a=>((c.1,c.2.1,c.2.2,a,()),(()))) (fun y=>(y.1.1,()))
theorem jl8:al Tryz.prog qgt 1 (lc 2 Tryz.f95 599):=lp rfl qgs .z s0 (fun c a=>(((),c,a.1,()),(((),(),()),a.2.1,a.2.2,()))) (fun y=>((),(y.2.2.1,(pe3 y))))
theorem jl7:al Tryz.prog qgt 0 (lc 0 Tryz.f95 75):=lp rfl qgs (.two .z (.two .z (.two (.one (.two .z (.two .z (.two .z (.d [0,0,0,4,12,28,0,64,192,508,0,1024,3072,7168,0,16384,65532,131069,262141,524285,1048575,2097151,4194303] [9,16,19,22] []))))) .z))) s0 (fun c a=>((c.1,(),c.2.1,c.2.2,a.1,()),(((),(),()),a.2.1,a.2.2,()))) (fun y=>(y.1.1,(y.2.2.1,(pe3 y))))
theorem jma:al Tryz.prog qgt 3 (jc Tryz.f95 31):=jn rfl qgs (.two .z (.two .z (.two .z (.two (.two .z (.s 2)) .z)))) (sC jl9 s0) (fun c=>(((),()),((c.1,(),()),c.2,()))) (fun y=>((),()))
abbrev qxk:Mdl:=(aq (.cons (.d false qT2) .nil) [] [] 2 q5e (B:=(qL2×Int)) (fun b=>((b.1,b.2,()),(()))) (fun a=>q1b a.1.1))
theorem q2z:MdlOK Tryz.prog 95 qxk:=ek Tryz.func95 rfl qgs (.two .z (.two .z (.two (.two .z (.s 0)) (.two (.two .z (.two (.two .z (.s 1)) .z)) (.s 3))))) (sC jl7 (sC jl8 (sC jma s0)))
def q8n:Shp:=⟨[zma,q0x],[]⟩
abbrev q09:Ctx ((qL2×Int)):=⟨43,tt,false,false,[],d5 [(41,j5),(93,q5d),(94,q1a),(95,qxk)],ed [af _ 43 [] jlv (C:=(Int×Int×Int×(List ab)×Int×Int×(List ab)×Int×Int×qL2)) (S:=(Int×qL1)) (fun x=>((x.1.2.2.1,(pe4 x.1),(pe5 x.1),(pe6 x.1),(pe7 x.1),x.2.1.1,x.2.1.2.1,x.2.1.2.2.1,(pe3 x.2.1),x.2.2.1),((pe8 x.1),(pe3 x)))) jlu (CE:=(Int×Int×Int×(List ab)×Int×Int×qL2)) (E:=qL1) (fun c e=>(((),(),(),c.1,c.2.1,()),((c.2.2.1,(pe3 c),(pe4 c),(pe5 c),()),(pf6 c),e,()))) (fun c=>(c.2.1,c.2.2.1,(pe5 c),(pe6 c),(pe7 c),(pe8 c),(pf9 c))) (fun{R} c a nx dn rt=>q49 c.1 c.2.1 c.2.2.1 (pe3 c) (pe4 c) (pe5 c) (pe6 c) (pe7 c) (pe8 c) (pf9 c) a.1 a.2 nx dn rt),af _ 43 [] jlx (C:=(Int×Int×(List ab)×Int×Int)) (S:=(Int×qL2)) (fun x=>((x.1.2.2.1,x.2.1.1,x.2.1.2.1,x.2.1.2.2.1,(pe3 x.2.1)),((pe3 x.1),x.2.2.1))) jlw (CE:=Unit) (E:=qL2) (fun c e=>(((),()),(e,()))) (fun c=>()) (fun{R} c a nx dn rt=>q5a c.1 c.2.1 c.2.2.1 (pe3 c) (pf4 c) a.1 a.2 nx dn rt)],bj 43 tt [] [.tmp 2, .tmp 3] q8n (fun x=>(x.1.1,x.1.2.1))⟩
theorem q08:CtxM Tryz.prog q09:=eo fits ax (mC iv (mC q8p (mC q5c (mC q2z m0))))
theorem jox:al Tryz.prog q09 0 (lc 2 Tryz.f53 308015):=lp rfl q08 .z s0 (fun c a=>(((),(),c.1,(),c.2.1,c.2.2.1,(pe3 c),(pe4 c),a.1,()),(((pe5 c),(pe6 c),(pe7 c),(pe8 c),()),(pf9 c),a.2,()))) (fun y=>(((pe3 y.1),(pe4 y.1),y.2.1.1,y.2.1.2.1,y.2.1.2.2.1,(pe3 y.2.1),y.2.2.1),(pe3 y)))
theorem joy:al Tryz.prog q09 1 (lc 0 Tryz.f53 303):=lp rfl q08 (.two .z (.two .z (.two (.one (.two .z (.two .z (.two (.two .z (.s 0)) .z)))) .z))) (sC jox s0) (fun c a=>(((),(),c.1,a.1,()),((c.2.1,c.2.2.1,(pe3 c),(pf4 c),()),a.2,()))) (fun y=>((),y.2.1))
abbrev jbp:Mdl:=(aq (.cons (.d false dj.ty) .nil) [] [] 2 q8n (B:=(qL2×Int)) (fun b=>((b.1,b.2,()),(()))) (fun a=>jh1 a.1.1))
theorem jly:MdlOK Tryz.prog 53 jbp:=ek Tryz.func53 rfl q08 (.two .z (.two .z (.two .z (.two .z (.two (.two .z (.s 1)) .z))))) (sC joy s0)
def qum:Shp:=⟨[zma,q0x],[]⟩
abbrev qku:Ctx ((qL2×Int)):=⟨43,tt,false,false,[],d5 [(41,j5),(93,q5d),(94,q1a),(95,qxk)],ed [af _ 43 [] q7y (C:=((List ab)×Int×Int×Int×Int×(List ab)×Int×Int×qL2×ByteArray×qL1×qL1)) (S:=(Int×qL1)) (fun x=>(((pe4 x.1),(pe5 x.1),(pe6 x.1),(pe7 x.1),x.2.1.1,x.2.1.2.1,x.2.1.2.2.1,(pe3 x.2.1),x.2.2.1,(pe3 x).1,(pe3 x).2.1,(pe3 x).2.2.1),((pe8 x.1),(pe4 x)))) q7x (CE:=((List ab)×Int×Int×Int×(List ab)×Int×Int×qL2)) (E:=qL1) (fun c e=>(((),(),(),c.1,c.2.1,c.2.2.1,()),(((pe3 c),(pe4 c),(pe5 c),(pe6 c),()),(pf7 c),e,()))) (fun c=>(c.1,c.2.1,c.2.2.1,(pe4 c),(pe5 c),(pe6 c),(pe7 c),(pe8 c))) (fun{R} c a nx dn rt=>qs6 c.1 c.2.1 c.2.2.1 (pe3 c) (pe4 c) (pe5 c) (pe6 c) (pe7 c) (pe8 c) (pe9 c) (pe10 c) (pf11 c) a.1 a.2 nx dn rt),af _ 43 [] q70 (C:=((List ab)×Int×Int×(List ab)×Int×Int)) (S:=(Int×qL2)) (fun x=>((x.1.2.2.1,(pe3 x.1),x.2.1.1,x.2.1.2.1,x.2.1.2.2.1,(pe3 x.2.1)),((pe4 x.1),x.2.2.1))) q7z (CE:=Unit) (E:=qL2) (fun c e=>(((),()),(e,()))) (fun c=>()) (fun{R} c a nx dn rt=>qs7 c.1 c.2.1 c.2.2.1 (pe3 c) (pe4 c) (pf5 c) a.1 a.2 nx dn rt)],bj 43 tt [] [.tmp 2, .tmp 3] qum (fun x=>(x.1.1,x.1.2.1))⟩
theorem qkt:CtxM Tryz.prog qku:=eo fits ax (mC iv (mC q8p (mC q5c (mC q2z m0))))
theorem q9z:al Tryz.prog qku 0 (lc 2 Tryz.f54 308015):=lp rfl qkt .z s0 (fun c a=>(((),(),(),(),c.1,c.2.1,c.2.2.1,(pe3 c),a.1,()),(((pe4 c),(pe5 c),(pe6 c),(pe7 c),()),(pe8 c),((pe9 c),(pe10 c),(pf11 c),()),a.2,()))) (fun y=>(((pe3 y.1),(pe4 y.1),(pe5 y.1),y.2.1.1,y.2.1.2.1,y.2.1.2.2.1,(pe3 y.2.1),y.2.2.1),(pe3 y)))
theorem q90:al Tryz.prog qku 1 (lc 0 Tryz.f54 303):=lp rfl qkt (.two .z (.two .z (.two (.one (.two .z (.two .z (.two (.two .z (.s 0)) .z)))) .z))) (sC q9z s0) (fun c a=>(((),(),c.1,c.2.1,a.1,()),((c.2.2.1,(pe3 c),(pe4 c),(pf5 c),()),a.2,()))) (fun y=>((),y.2.1))
abbrev qwc:Mdl:=(aq (.cons (.d false dj.ty) .nil) [] [] 2 qum (B:=(qL2×Int)) (fun b=>((b.1,b.2,()),(()))) (fun a=>qyq a.1.1))
theorem q71:MdlOK Tryz.prog 54 qwc:=ek Tryz.func54 rfl qkt (.two .z (.two .z (.two .z (.two .z (.two (.two .z (.s 1)) .z))))) (sC q90 s0)
def qwz:Shp:=⟨[q5w,q0x],[j4z]⟩
abbrev qpq:Ctx ((Int×qL2)):=⟨80,tt,false,false,[],d5 [(41,j5),(35,b8)],ed [af _ 80 [] jak (C:=(Int×Int×Int×(List ab)×Int×Int×(List ab)×Int×Int)) (S:=(Int×qL2)) (fun x=>((x.1.2.2.1,(pe3 x.1),(pe4 x.1),(pe5 x.1),(pe6 x.1),x.2.1.1,x.2.1.2.1,x.2.1.2.2.1,(pe3 x.2.1)),((pe7 x.1),x.2.2.1))) jaj (CE:=(Int×Int×Int×(List ab)×Int×Int)) (E:=qL2) (fun c e=>(((),(),c.1,c.2.1,()),((c.2.2.1,(pe3 c),(pe4 c),(pf5 c),()),e,()))) (fun c=>(c.2.1,c.2.2.1,(pe5 c),(pe6 c),(pe7 c),(pf8 c))) (fun{R} c a nx dn rt=>qvb c.1 c.2.1 c.2.2.1 (pe3 c) (pe4 c) (pe5 c) (pe6 c) (pe7 c) (pf8 c) a.1 a.2 nx dn rt),af _ 80 [] jam (C:=(Int×Int×(List ab)×Int×Int)) (S:=(Int×qL2)) (fun x=>((x.1.2.2.1,x.2.1.1,x.2.1.2.1,x.2.1.2.2.1,(pe3 x.2.1)),((pe3 x.1),x.2.2.1))) jal (CE:=Unit) (E:=qL2) (fun c e=>(((),()),(e,()))) (fun c=>()) (fun{R} c a nx dn rt=>qvc c.1 c.2.1 c.2.2.1 (pe3 c) (pf4 c) a.1 a.2 nx dn rt)],bj 80 tt [] [.tmp 2, .tmp 3] qwz (fun x=>(x.1.2.1,x.2.1))⟩
theorem qpp:CtxM Tryz.prog qpq:=eo fits ax (mC iv (mC bv m0))
theorem jc0:al Tryz.prog qpq 0 (lc 3 Tryz.f55 80279):=lp rfl qpp .z s0 (fun c a=>(((),(),c.1,c.2.1,c.2.2.1,(pe3 c),(pe4 c),a.1,()),(((pe5 c),(pe6 c),(pe7 c),(pf8 c),()),a.2,()))) (fun y=>((y.1.2.2.1,(pe3 y.1),y.2.1.1,y.2.1.2.1,y.2.1.2.2.1,(pe3 y.2.1)),y.2.2.1))
theorem jc1:al Tryz.prog qpq 1 (lc 1 Tryz.f55 151):=lp rfl qpp (.two .z (.two .z (.two (.one (.two .z (.two .z (.two .z (.s 0))))) .z))) (sC jc0 s0) (fun c a=>(((),(),c.1,a.1,()),((c.2.1,c.2.2.1,(pe3 c),(pf4 c),()),a.2,()))) (fun y=>((),y.2.1))
abbrev qzu:Mdl:=(aq (.cons (.d false dj.ty) .nil) [] [] 2 qwz (B:=(Int×qL2)) (fun b=>(((),b.1,()),(b.2,()))) (fun a=>q3o a.1.1))
theorem jan:MdlOK Tryz.prog 55 qzu:=ek Tryz.func55 rfl qpp (.two .z (.two .z (.two .z (.two (.two .z (.s 1)) .z)))) (sC jc1 s0)
def qu8:Shp:=⟨[qv9],[]⟩
abbrev jcm:Ctx (Bool):=⟨9,tt,false,false,[],d5 [],ed [],bj 9 tt [] [.tmp 2] qu8 (fun x=>x.1.1)⟩
theorem jcl:CtxM Tryz.prog jcm:=eo fits ax m0
abbrev qwt:Mdl:=(aq (.cons (.d false qT0) .nil) [] [] 1 qu8 (B:=Bool) (fun b=>((b,()),(()))) (fun a=>qzk a.1.1))
theorem q8e:MdlOK Tryz.prog 162 qwt:=ek Tryz.func162 rfl jcl .z s0
def yn:Shp:=⟨[jee],[]⟩
abbrev qat:Ctx (Int):=⟨19,tt,false,false,[],d5 [(162,qwt)],ed [af _ 19 [] qok (C:=(qL1×Int)) (S:=Int) (fun x=>((x.1.1,x.1.2.2.1),(pe3 x.1))) qoj (CE:=Unit) (E:=Unit) (fun c e=>((()),(()))) (fun c=>()) (fun{R} c a nx dn rt=>v7 c.1 c.2 a nx dn rt)],bj 19 tt [] [.tmp 4] yn (fun x=>x.1.1)⟩
theorem qar:CtxM Tryz.prog qat:=eo fits ax (mC q8e m0)
theorem qp9:al Tryz.prog qat 0 (lc 0 Tryz.f79 37):=lp rfl qar .z s0 (fun c a=>((c.1,(()),c.2,a,()),(()))) (fun y=>((),()))
abbrev qas:Mdl:=(aq (.cons (.d false qT1) (.cons (.fn 162 .nil) .nil)) [] [] 1 yn (B:=Int) (fun b=>((b,()),(()))) (fun a=>qca a.1.1))
theorem qol:MdlOK Tryz.prog 79 qas:=ek Tryz.func79 rfl qar (.two .z (.two (.two .z (.s 0)) .z)) (sC qp9 s0)
def s5:Shp:=⟨[qv9],[]⟩
abbrev qmc:Ctx (Bool):=⟨9,tt,false,false,[],d5 [(79,qas)],ed [],bj 9 tt [] [.tmp 4] s5 (fun x=>x.1.1)⟩
theorem qmb:CtxM Tryz.prog qmc:=eo fits ax (mC qol m0)
abbrev ue:Mdl:=(aq (.cons (.d false qT1) (.cons (.fn 162 .nil) .nil)) [] [] 1 s5 (B:=Bool) (fun b=>((b,()),(()))) (fun a=>vk a.1.1))
theorem qh0:MdlOK Tryz.prog 32 ue:=ek Tryz.func32 rfl qmb .z s0
def qzj:Shp:=⟨[qv9],[]⟩
abbrev jjp:Ctx (Bool):=⟨6,tt,false,false,[],d5 [(32,ue)],ed [],bj 6 tt [] [.tmp 2] qzj (fun x=>x.1.1)⟩
theorem jjo:CtxM Tryz.prog jjp:=eo fits ax (mC qh0 m0)
abbrev q3i:Mdl:=(aq (.cons (.d false qT1) .nil) [] [] 1 qzj (B:=Bool) (fun b=>((b,()),(()))) (fun a=>q55 a.1.1))
theorem jcn:MdlOK Tryz.prog 135 q3i:=ek Tryz.func135 rfl jjo .z s0
def qzi:Shp:=⟨[qv9],[]⟩
abbrev jjm:Ctx (Bool):=⟨16,tt,false,false,[],d5 [(135,q3i)],ed [],bj 16 tt [] [.tmp 3] qzi (fun x=>x.1.1)⟩
theorem jjl:CtxM Tryz.prog jjm:=eo fits ax (mC jcn m0)
abbrev q3h:Mdl:=(aq (.cons (.d false qT1) (.cons (.rp false qT2) .nil)) [] [] 1 qzi (B:=Bool) (fun b=>((b,()),(()))) (fun a=>q54 a.1.1 a.1.2.1))
theorem jcj:MdlOK Tryz.prog 134 q3h:=ek Tryz.func134 rfl jjl .z s0
def yi:Shp:=⟨[jee],[]⟩
abbrev qak:Ctx (Int):=⟨19,tt,false,false,[],d5 [(134,q3h)],ed [af _ 19 [] qob (C:=(qL2×qL2×Int)) (S:=Int) (fun x=>((x.1.1,x.1.2.1.1,x.1.2.2.1),(pe3 x.1))) qoa (CE:=Unit) (E:=Unit) (fun c e=>((()),(()))) (fun c=>()) (fun{R} c a nx dn rt=>v6 c.1 c.2.1 c.2.2 a nx dn rt)],bj 19 tt [] [.tmp 4] yi (fun x=>x.1.1)⟩
theorem qai:CtxM Tryz.prog qak:=eo fits ax (mC jcj m0)
theorem qp5:al Tryz.prog qak 0 (lc 0 Tryz.f111 37):=lp rfl qai .z s0 (fun c a=>((c.1,(c.2.1,()),c.2.2,a,()),(()))) (fun y=>((),()))
abbrev qaj:Mdl:=(aq (.cons (.d false qT2) (.cons (.fn 134 (.cons (.rp false qT2) .nil)) .nil)) [] [] 1 yi (B:=Int) (fun b=>((b,()),(()))) (fun a=>qb9 a.1.1 a.1.2.1.1))
theorem qoc:MdlOK Tryz.prog 111 qaj:=ek Tryz.func111 rfl qai (.two .z (.two (.two .z (.s 0)) .z)) (sC qp5 s0)
def sy:Shp:=⟨[qv9],[]⟩
abbrev ql8:Ctx (Bool):=⟨9,tt,false,false,[],d5 [(111,qaj)],ed [],bj 9 tt [] [.tmp 4] sy (fun x=>x.1.1)⟩
theorem ql7:CtxM Tryz.prog ql8:=eo fits ax (mC qoc m0)
abbrev uc:Mdl:=(aq (.cons (.d false qT2) (.cons (.fn 134 (.cons (.rp false qT2) .nil)) .nil)) [] [] 1 sy (B:=Bool) (fun b=>((b,()),(()))) (fun a=>vj a.1.1 a.1.2.1.1))
theorem qhy:MdlOK Tryz.prog 65 uc:=ek Tryz.func65 rfl ql7 .z s0
def q53:Shp:=⟨[qv9],[]⟩
abbrev jo3:Ctx (Bool):=⟨29,tt,false,false,[],d5 [(65,uc)],ed [],bj 29 tt [] [.tmp 2] q53 (fun x=>x.1.1)⟩
theorem jo2:CtxM Tryz.prog jo3:=eo fits ax (mC qhy m0)
abbrev q8w:Mdl:=(aq (.cons (.d false qT2) .nil) [] [] 1 q53 (B:=Bool) (fun b=>((b,()),(()))) (fun a=>jci a.1.1))
theorem jjn:MdlOK Tryz.prog 96 q8w:=ek Tryz.func96 rfl jo2 .z s0
def jck:Shp:=⟨[jee],[]⟩
abbrev ju0:Ctx (Int):=⟨7,tt,false,false,[],d5 [],ed [],bj 7 tt [] [.tmp 2] jck (fun x=>x.1.1)⟩
theorem juz:CtxM Tryz.prog ju0:=eo fits ax m0
abbrev jib:Mdl:=(aq (.cons (.d false qT0) .nil) [] [] 1 jck (B:=Int) (fun b=>((b,()),(()))) (fun a=>jmx a.1.1))
theorem jo4:MdlOK Tryz.prog 136 jib:=ek Tryz.func136 rfl juz .z s0
def q57:Shp:=⟨[qv9],[]⟩
abbrev qx2:Ctx (Bool):=⟨33,tt,false,false,[],d5 [(136,jib)],ed [af _ 33 [] jjx (C:=(Int×qL2×Int×Int×qL1×Int)) (S:=(Int×Int)) (fun x=>((x.1.1,x.1.2.2.1,(pe3 x.1),(pe4 x.1),(pe5 x.1),(pe6 x.1)),(x.1.2.1,(pe7 x.1)))) jjw (CE:=(Int×qL2×Int×Int)) (E:=Int) (fun c e=>((c.1,e,c.2.1,c.2.2.1,c.2.2.2,()),(()))) (fun c=>(c.1,c.2.1,c.2.2.1,(pe3 c))) (fun{R} c a nx dn rt=>q3k c.1 c.2.1 c.2.2.1 (pe3 c) (pe4 c) (pf5 c) a.1 a.2 nx dn rt),af _ 33 [] jjz (C:=(qL2×Int)) (S:=(Int×Int)) (fun x=>((x.1.2.1,x.1.2.2.1),(x.1.1,(pe3 x.1)))) jjy (CE:=Unit) (E:=Unit) (fun c e=>((()),(()))) (fun c=>()) (fun{R} c a nx dn rt=>q3l c.1 c.2 a.1 a.2 nx dn rt)],bj 33 tt [] [.tmp 2] q57 (fun x=>x.1.1)⟩
theorem qx1:CtxM Tryz.prog qx2:=eo fits ax (mC jo4 m0)
theorem jm0:al Tryz.prog qx2 0 (lc 2 Tryz.f97 77003):=lp rfl qx1 .z s0 (fun c a=>((c.1,a.1,c.2.1,c.2.2.1,(pe3 c),(pe4 c),(pf5 c),a.2,()),(()))) (fun y=>((y.1.1,y.1.2.2.1,(pe3 y.1),(pe4 y.1)),y.1.2.1))
theorem jm1:al Tryz.prog qx2 1 (lc 0 Tryz.f97 75):=lp rfl qx1 (.two .z (.two .z (.two (.one (.two .z (.two .z (.two (.two .z (.s 0)) .z)))) .z))) (sC jm0 s0) (fun c a=>((a.1,c.1,c.2,a.2,()),(()))) (fun y=>((),()))
abbrev q8y:Mdl:=(aq (.cons (.d false qT2) .nil) [] [] 1 q57 (B:=Bool) (fun b=>((b,()),(()))) (fun a=>jco a.1.1))
theorem jj0:MdlOK Tryz.prog 97 q8y:=ek Tryz.func97 rfl qx1 (.two .z (.two .z (.two (.two .z (.s 1)) .z))) (sC jm1 s0)
def qi3:Shp:=⟨[],[jta,j4z,qrs]⟩
abbrev qbe:Ctx ((Int×Int×qL2×qL1)):=⟨72,tt,true,false,[true,true,true],d5 [],ed [af _ 72 [true,true,true] qxx (C:=(Int×Int×Nat×Int×Nat×Int×Int×Int×Int×Int×Int×qL1)) (S:=(Int×qL2)) (fun x=>((x.1.2.1,x.1.2.2.1,(pe3 x.1),(pe4 x.1),(pe5 x.1),(pe6 x.1),(pe8 x.1),(pe9 x.1),(pe10 x.1),x.2.1.2.2.1,(pe3 x.2.1),(pe3 x)),((pe11 x.1),x.2.2.1))) qxw (CE:=(Int×Int×Nat×Int×Int×Int×Int×Int×qL1)) (E:=qL2) (fun c e=>(((),c.1,c.2.1,c.2.2.1,(pe3 c),(),(pe4 c),(pe5 c),()),(((),(),(pe6 c),(pe7 c),()),e,(pf8 c),()))) (fun c=>(c.1,c.2.1,c.2.2.1,(pe3 c),(pe6 c),(pe7 c),(pe9 c),(pe10 c),(pf11 c))) (fun{R} c a nx dn rt=>qg2 c.1 c.2.1 c.2.2.1 (pe3 c) (pe4 c) (pe5 c) (pe6 c) (pe7 c) (pe8 c) (pe9 c) (pe10 c) (pf11 c) a.1 a.2 nx dn rt),af _ 72 [true,true,true] qxz (C:=(Int×Int×Nat×Int×Int×Int×Int×qL1)) (S:=(Int×qL2)) (fun x=>((x.1.2.1,x.1.2.2.1,(pe3 x.1),(pe4 x.1),(pe6 x.1),x.2.1.2.2.1,(pe3 x.2.1),(pe3 x)),((pe7 x.1),x.2.2.1))) qxy (CE:=(Int×Int×Int×qL1)) (E:=qL2) (fun c e=>(((),c.1,()),(((),(),c.2.1,c.2.2.1,()),e,c.2.2.2,()))) (fun c=>((pe3 c),(pe5 c),(pe6 c),(pf7 c))) (fun{R} c a nx dn rt=>qg3 c.1 c.2.1 c.2.2.1 (pe3 c) (pe4 c) (pe5 c) (pe6 c) (pf7 c) a.1 a.2 nx dn rt)],bj 72 tt [true,true,true] [] qi3 (fun x=>(x.2.1.2.2.1,(pe3 x.2.1),x.2.2.1,(pe3 x)))⟩
theorem qbd:CtxM Tryz.prog qbe:=eo fits ax m0
theorem qzq:al Tryz.prog qbe 0 (lc 2 Tryz.f137 81099):=lp rfl qbd (.two .z (.two .z (.two (.one (.two .z (.d [0,0,0,0,0,24,56,124,0,0,0,1536,3584,7936,16380,0,32768,98304,229376,524284,1048575,2097151] [21] []))) .z))) s0 (fun c a=>(((),c.1,c.2.1,c.2.2.1,(pe3 c),(pe4 c),(pe5 c),(),(pe6 c),(pe7 c),(pe8 c),a.1,()),(((),(),(pe9 c),(pe10 c),()),a.2,(pf11 c),()))) (fun y=>((y.1.2.1,y.1.2.2.1,(pe3 y.1),(pe4 y.1),(pe6 y.1),(pe7 y.1),y.2.1.2.2.1,(pe3 y.2.1),(pe3 y)),y.2.2.1))
theorem qzr:al Tryz.prog qbe 1 (lc 0 Tryz.f137 75):=lp rfl qbd (.two .z (.two .z (.two (.one (.two .z (.two .z (.two .z (.two .z (.s 0)))))) .z))) (sC qzq s0) (fun c a=>(((),c.1,c.2.1,c.2.2.1,(pe3 c),(),(pe4 c),a.1,()),(((),(),(pe5 c),(pe6 c),()),a.2,(pf7 c),()))) (fun y=>((y.1.2.1,y.2.1.2.2.1,(pe3 y.2.1),(pe3 y)),y.2.2.1))
abbrev qlg:Mdl:=(aq (.cons (.ptr 0) (.cons (.d false qT0) (.cons (.d false qT0) .nil))) [.cs 114 4 1 (.cons (.own 1) (.cons (.own 2) (.cons (.d false qT0) (.cons (.d false qT0) .nil)))),j4z,qrs] [true,true,true] 0 qi3 (B:=(Int×Int×qL2×qL1)) (fun b=>((()),(((),(),b.1,b.2.1,()),b.2.2.1,b.2.2.2,()))) (fun a=>qcz a.1.2.1 a.1.2.2.1 a.2.1.2.2.1 (pe3 a.2.1) a.2.2.1 (pe3 a)))
theorem qx0:MdlOK Tryz.prog 137 qlg:=ek Tryz.func137 rfl qbd (.two .z (.two .z (.two (.two .z (.s 1)) .z))) (sC qzr s0)
def q3j:Shp:=⟨[(0, .d true gh.ty)],[]⟩
abbrev qlf:Ctx (gh):=⟨102,tt,true,false,[],d5 [(45,gm),(137,qlg)],ed [af _ 102 [] jfx (C:=(Int×qL2×Int×qL2×qL1×Int×Int×Int×Int×qL1)) (S:=(Int×qL2)) (fun x=>((x.1.1,(pe3 x.1),(pe4 x.1),x.2.1.1,x.2.1.2.1,x.2.1.2.2.1,(pe3 x.2.1),x.2.2.1.2.2.1,(pe3 x.2.2.1),(pe4 x)),((pe5 x.1),(pe3 x)))) jfw (CE:=(Int×qL2×qL1×Int×Int×Int×Int×qL1)) (E:=qL2) (fun c e=>((c.1,(),(),()),((c.2.1,c.2.2.1,(pe3 c),(pe4 c),()),((),(),(pe5 c),(pe6 c),()),e,(pf7 c),()))) (fun c=>(c.1,(pe3 c),(pe4 c),(pe5 c),(pe6 c),(pe7 c),(pe8 c),(pf9 c))) (fun{R} c a nx dn rt=>qzl c.1 c.2.1 c.2.2.1 (pe3 c) (pe4 c) (pe5 c) (pe6 c) (pe7 c) (pe8 c) (pf9 c) a.1 a.2 nx dn rt),af _ 102 [] jfz (C:=(Int×Int×Int×qL2×qL1×Int×Int×Int×Int×qL2×qL1)) (S:=Int) (fun x=>((x.1.1,(pe3 x.1),(pe4 x.1),x.2.1.1,x.2.1.2.1,x.2.1.2.2.1,(pe3 x.2.1),x.2.2.1.2.2.1,(pe3 x.2.2.1),(pe3 x),(pe4 x)),(pe5 x.1))) jfy (CE:=(Int×Int×Int×qL2×qL1×Int×Int×Int×Int×qL2×qL1)) (E:=Int) (fun c e=>((c.1,(),(),c.2.1,c.2.2.1,e,()),(((pe3 c),(pe4 c),(pe5 c),(pe6 c),()),((),(),(pe7 c),(pe8 c),()),(pe9 c),(pf10 c),()))) (fun c=>(c.1,c.2.1,c.2.2.1,(pe3 c),(pe4 c),(pe5 c),(pe6 c),(pe7 c),(pe8 c),(pe9 c),(pf10 c))) (fun{R} c a nx dn rt=>qzm c.1 c.2.1 c.2.2.1 (pe3 c) (pe4 c) (pe5 c) (pe6 c) (pe7 c) (pe8 c) (pe9 c) (pf10 c) a nx dn rt),af _ 102 [] jf1 (C:=(Int×qL2×qL1×Int×Int)) (S:=(Int×Int×Int×qL2×qL1)) (fun x=>((x.1.1,x.2.1.1,x.2.1.2.1,x.2.1.2.2.1,(pe3 x.2.1)),((pe3 x.1),x.2.2.1.2.2.1,(pe3 x.2.2.1),(pe3 x),(pe4 x)))) jf0 (CE:=(qL2×qL1×Int×Int)) (E:=(Int×Int×qL2×qL1)) (fun c e=>(((),(),()),((c.1,c.2.1,c.2.2.1,c.2.2.2,()),((),(),e.1,e.2.1,()),e.2.2.1,e.2.2.2,()))) (fun c=>(c.2.1,c.2.2.1,(pe3 c),(pf4 c))) (fun{R} c a nx dn rt=>qzn c.1 c.2.1 c.2.2.1 (pe3 c) (pf4 c) a.1 a.2.1 a.2.2.1 (pe3 a) (pf4 a) nx dn rt)],bj 102 tt [] [.cell 4 114] q3j (fun x=>x.1.1)⟩
theorem qle:CtxM Tryz.prog qlf:=eo fits ax (mC ic (mC qx0 m0))
theorem jju:al Tryz.prog qlf 1 (lc 4 Tryz.f98 35991):=lp rfl qle .z s0 (fun c a=>((c.1,(),(),c.2.1,c.2.2.1,a,()),(((pe3 c),(pe4 c),(pe5 c),(pe6 c),()),((),(),(pe7 c),(pe8 c),()),(pe9 c),(pf10 c),()))) (fun y=>((y.1.1,(pe3 y.1),(pe4 y.1),y.2.1.1,y.2.1.2.1,y.2.1.2.2.1,(pe3 y.2.1),y.2.2.1.2.2.1,(pe3 y.2.2.1),(pe3 y),(pe4 y)),(pe5 y.1)))
theorem jjv:al Tryz.prog qlf 2 (lc 2 Tryz.f98 151):=lp rfl qle (.two .z (.two (.one (.two .z (.two .z (.two (.s 1) (.two .z (.two (.two .z (.two (.two (.d [0,1,0,0,8,0,0,64,0,448,960,0,2048,0,14336,30720,65503,131039,262143,524287] [17,19] []) .z) .z)) .z)))))) .z)) (sC jju s0) (fun c a=>((c.1,(),(),a.1,()),((c.2.1,c.2.2.1,(pe3 c),(pf4 c),()),((),(),a.2.1,a.2.2.1,()),(pe3 a),(pf4 a),()))) (fun y=>((y.2.1.1,y.2.1.2.1,y.2.1.2.2.1,(pe3 y.2.1)),(y.2.2.1.2.2.1,(pe3 y.2.2.1),(pe3 y),(pe4 y))))
theorem jjt:al Tryz.prog qlf 0 (lc 0 Tryz.f98 75):=lp rfl qle (.two .z (.two .z (.two (.one (.two .z (.d [0,1,0,4,12,31,63,127] [5,7] []))) .z))) s0 (fun c a=>((c.1,(),(),c.2.1,c.2.2.1,a.1,()),(((pe3 c),(pe4 c),(pe5 c),(pe6 c),()),((),(),(pe7 c),(pe8 c),()),a.2,(pf9 c),()))) (fun y=>((y.1.1,y.2.1.1,y.2.1.2.1,y.2.1.2.2.1,(pe3 y.2.1),y.2.2.1.2.2.1,(pe3 y.2.2.1),(pe4 y)),(pe3 y)))
abbrev q56:Mdl:=(aq (.cons (.d false qT2) (.cons (.d false qT0) .nil)) [] [] 1 q3j (B:=gh) (fun b=>((b,()),(()))) (fun a=>q8x a.1.1 a.1.2.1))
theorem jf2:MdlOK Tryz.prog 98 q56:=ek Tryz.func98 rfl qle (.two .z (.two .z (.two (.two .z (.s 0)) (.two (.two .z (.s 2)) .z)))) (sC jjt (sC jjv s0))
def q8v:Shp:=⟨[jee,q0x],[]⟩
abbrev jsj:Ctx ((Int×Int)):=⟨20,tt,false,false,[],d5 [(96,q8w),(97,q8y),(98,q56)],ed [],bj 20 tt [] [.tmp 2, .tmp 3] q8v (fun x=>(x.1.1,x.1.2.1))⟩
theorem jsi:CtxM Tryz.prog jsj:=eo fits ax (mC jjn (mC jj0 (mC jf2 m0)))
abbrev jch:Mdl:=(aq (.cons (.d false qT2) .nil) [] [] 2 q8v (B:=(Int×Int)) (fun b=>((b.1,b.2,()),(()))) (fun a=>jia a.1.1))
theorem jmw:MdlOK Tryz.prog 56 jch:=ek Tryz.func56 rfl jsi .z s0
def qk5:Shp:=⟨[qv9],[]⟩
abbrev q4q:Ctx (Bool):=⟨15,tt,false,false,[],d5 [],ed [],bj 15 tt [] [.tmp 3] qk5 (fun x=>x.1.1)⟩
theorem q4p:CtxM Tryz.prog q4q:=eo fits ax m0
abbrev qo5:Mdl:=(aq (.cons (.d false qT1) (.cons (.rp false qT0) .nil)) [] [] 1 qk5 (B:=Bool) (fun b=>((b,()),(()))) (fun a=>qrg a.1.1 a.1.2.1))
theorem qy5:MdlOK Tryz.prog 99 qo5:=ek Tryz.func99 rfl q4p .z s0
def qa5:Shp:=⟨[jee],[]⟩
abbrev qcs:Ctx (Int):=⟨19,tt,false,false,[],d5 [(99,qo5)],ed [af _ 19 [] qqr (C:=(qL2×Int×Int)) (S:=Int) (fun x=>((x.1.1,x.1.2.1.1,x.1.2.2.1),(pe3 x.1))) qqq (CE:=Unit) (E:=Unit) (fun c e=>((()),(()))) (fun c=>()) (fun{R} c a nx dn rt=>yt c.1 c.2.1 c.2.2 a nx dn rt)],bj 19 tt [] [.tmp 4] qa5 (fun x=>x.1.1)⟩
theorem qcq:CtxM Tryz.prog qcs:=eo fits ax (mC qy5 m0)
theorem qr8:al Tryz.prog qcs 0 (lc 0 Tryz.f111 37):=lp rfl qcq .z s0 (fun c a=>((c.1,(c.2.1,()),c.2.2,a,()),(()))) (fun y=>((),()))
abbrev qcr:Mdl:=(aq (.cons (.d false qT2) (.cons (.fn 99 (.cons (.rp false qT0) .nil)) .nil)) [] [] 1 qa5 (B:=Int) (fun b=>((b,()),(()))) (fun a=>qdi a.1.1 a.1.2.1.1))
theorem qqs:MdlOK Tryz.prog 111 qcr:=ek Tryz.func111 rfl qcq (.two .z (.two (.two .z (.s 0)) .z)) (sC qr8 s0)
def ul:Shp:=⟨[qv9],[]⟩
abbrev qnt:Ctx (Bool):=⟨9,tt,false,false,[],d5 [(111,qcr)],ed [],bj 9 tt [] [.tmp 4] ul (fun x=>x.1.1)⟩
theorem qns:CtxM Tryz.prog qnt:=eo fits ax (mC qqs m0)
abbrev vx:Mdl:=(aq (.cons (.d false qT2) (.cons (.fn 99 (.cons (.rp false qT0) .nil)) .nil)) [] [] 1 ul (B:=Bool) (fun b=>((b,()),(()))) (fun a=>x6 a.1.1 a.1.2.1.1))
theorem qjl:MdlOK Tryz.prog 65 vx:=ek Tryz.func65 rfl qns .z s0
def qrf:Shp:=⟨[qv9],[]⟩
abbrev qtd:Ctx (Bool):=⟨15,tt,false,false,[],d5 [(65,vx)],ed [af _ 15 [] q4o (C:=(qL2×Int)) (S:=Int) (fun x=>((x.1.1,x.1.2.1),x.1.2.2.1)) q4n (CE:=Unit) (E:=Unit) (fun c e=>((()),(()))) (fun c=>()) (fun{R} c a nx dn rt=>qo4 c.1 c.2 a nx dn rt)],bj 15 tt [] [.tmp 4] qrf (fun x=>x.1.1)⟩
theorem qtc:CtxM Tryz.prog qtd:=eo fits ax (mC qjl m0)
theorem q5o:al Tryz.prog qtd 0 (lc 0 Tryz.f58 37):=lp rfl qtc .z s0 (fun c a=>((c.1,c.2,a,()),(()))) (fun y=>((),()))
abbrev qgd:Mdl:=(aq (.cons (.d false qT2) (.cons (.d false qT0) .nil)) [] [] 1 qrf (B:=Bool) (fun b=>((b,()),(()))) (fun a=>qhm a.1.1 a.1.2.1))
theorem qo6:MdlOK Tryz.prog 58 qgd:=ek Tryz.func58 rfl qtc (.two .z (.two (.two .z (.s 0)) .z)) (sC q5o s0)
def qf6:Shp:=⟨[qv9],[]⟩
abbrev qxm:Ctx (Bool):=⟨7,tt,false,false,[],d5 [(58,qgd)],ed [],bj 7 tt [] [.tmp 2] qf6 (fun x=>x.1.1)⟩
theorem qxl:CtxM Tryz.prog qxm:=eo fits ax (mC qo6 m0)
abbrev qgu:Mdl:=(aq (.cons (.rp false qT2) (.cons (.rp false dj.ty) .nil)) [] [] 1 qf6 (B:=Bool) (fun b=>((b,()),(()))) (fun a=>qiu a.1.1 a.1.2.1))
theorem qut:MdlOK Tryz.prog 57 qgu:=ek Tryz.func57 rfl qxl .z s0
def qbt:Shp:=⟨[qv9],[]⟩
abbrev qtu:Ctx (Bool):=⟨6,tt,false,false,[],d5 [(57,qgu)],ed [],bj 6 tt [] [.tmp 2] qbt (fun x=>x.1.1)⟩
theorem qtt:CtxM Tryz.prog qtu:=eo fits ax (mC qut m0)
abbrev qc4:Mdl:=(aq (.cons (.fn 57 (.cons (.rp false qT2) (.cons (.rp false dj.ty) .nil))) .nil) [] [] 1 qbt (B:=Bool) (fun b=>((b,()),(()))) (fun a=>qd3 a.1.1.1 a.1.1.2.1))
theorem qrb:MdlOK Tryz.prog 62 qc4:=ek Tryz.func62 rfl qtt .z s0
def qf7:Shp:=⟨[qv9],[]⟩
abbrev qxo:Ctx (Bool):=⟨8,tt,false,false,[],d5 [(58,qgd)],ed [],bj 8 tt [] [.tmp 2] qf7 (fun x=>x.1.1)⟩
theorem qxn:CtxM Tryz.prog qxo:=eo fits ax (mC qo6 m0)
abbrev qgv:Mdl:=(aq (.cons (.rp false qT2) (.cons (.rp false dj.ty) .nil)) [] [] 1 qf7 (B:=Bool) (fun b=>((b,()),(()))) (fun a=>qiv a.1.1 a.1.2.1))
theorem quu:MdlOK Tryz.prog 59 qgv:=ek Tryz.func59 rfl qxn .z s0
def qbu:Shp:=⟨[qv9],[]⟩
abbrev qtw:Ctx (Bool):=⟨6,tt,false,false,[],d5 [(59,qgv)],ed [],bj 6 tt [] [.tmp 2] qbu (fun x=>x.1.1)⟩
theorem qtv:CtxM Tryz.prog qtw:=eo fits ax (mC quu m0)
abbrev qc5:Mdl:=(aq (.cons (.fn 59 (.cons (.rp false qT2) (.cons (.rp false dj.ty) .nil))) .nil) [] [] 1 qbu (B:=Bool) (fun b=>((b,()),(()))) (fun a=>qd4 a.1.1.1 a.1.1.2.1))
theorem qrc:MdlOK Tryz.prog 62 qc5:=ek Tryz.func62 rfl qtv .z s0
def qf8:Shp:=⟨[qv9],[]⟩
abbrev qxq:Ctx (Bool):=⟨9,tt,false,false,[],d5 [(43,qd8)],ed [],bj 9 tt [] [.tmp 2] qf8 (fun x=>x.1.1)⟩
theorem qxp:CtxM Tryz.prog qxq:=eo fits ax (mC qk3 m0)
abbrev qgw:Mdl:=(aq (.cons (.rp false qT0) (.cons (.rp false dj.ty) .nil)) [] [] 1 qf8 (B:=Bool) (fun b=>((b,()),(()))) (fun a=>qiw a.1.1 a.1.2.1))
theorem quv:MdlOK Tryz.prog 60 qgw:=ek Tryz.func60 rfl qxp (.two .z (.two (.d [0,0,2,6,14,31,63] [] []) .z)) s0
def qbv:Shp:=⟨[qv9],[]⟩
abbrev qty:Ctx (Bool):=⟨6,tt,false,false,[],d5 [(60,qgw)],ed [],bj 6 tt [] [.tmp 2] qbv (fun x=>x.1.1)⟩
theorem qtx:CtxM Tryz.prog qty:=eo fits ax (mC quv m0)
abbrev qc6:Mdl:=(aq (.cons (.fn 60 (.cons (.rp false qT0) (.cons (.rp false dj.ty) .nil))) .nil) [] [] 1 qbv (B:=Bool) (fun b=>((b,()),(()))) (fun a=>qd5 a.1.1.1 a.1.1.2.1))
theorem qrd:MdlOK Tryz.prog 62 qc6:=ek Tryz.func62 rfl qtx .z s0
def iw:Shp:=⟨[jee],[jxf,zjz,q4u,zjz,j11]⟩
abbrev sn:Ctx ((Int×qL2×Int×(List ab)×Int×Int×qL2×Int)):=⟨19,tt,false,false,[true,true,true,true,true],d5 [(62,qc4),(62,qc5),(62,qc6)],ed [],bj 19 tt [true,true,true,true,true] [.tmp 4] iw (fun x=>(x.1.1,x.2.2.1.1,(pe3 x).1,(pe3 x).2.1,(pe3 x).2.2.1,(pe3 (pe3 x)),(pe4 x).1,(pe5 x).1))⟩
theorem sm:CtxM Tryz.prog sn:=eo fits ax (mC qrb (mC qrc (mC qrd m0)))
abbrev i5:Mdl:=(aq (.cons (.own 0) (.cons (.fn 62 .nil) .nil)) [jxf,zjz, .cs 24 4 1 (.cons (.d false qT0) (.cons (.d true (.slice ab.ty)) (.cons (.d false qT0) (.cons (.d false qT0) .nil)))),zjz, .cs 3 1 1 (.cons (.d false qT0) .nil)] [true,true,true,true,true] 1 iw (B:=(Int×qL2×Int×(List ab)×Int×Int×qL2×Int)) (fun b=>((b.1,()),((((),(),()),((),(),()),((),(),()),()),(b.2.1,()),(b.2.2.1,(pe3 b),(pe4 b),(pe5 b),()),((pe6 b),()),((pf7 b),()),()))) (fun a=>jl a.2.2.1.1 (pe3 a).1 (pe3 a).2.1 (pe3 a).2.2.1 (pe3 (pe3 a)) (pe4 a).1 (pe5 a).1))
theorem q8:MdlOK Tryz.prog 100 i5:=ek Tryz.func100 rfl sm (.two .z (.two (.two .z (.one (.u 4 .z))) .z)) s0
def gl:Shp:=⟨[qv9],[jxf,zjz,q4u,zjz,j11]⟩
abbrev qo:Ctx ((Bool×qL2×Int×(List ab)×Int×Int×qL2×Int)):=⟨9,tt,false,false,[true,true,true,true,true],d5 [(100,i5)],ed [],bj 9 tt [true,true,true,true,true] [.tmp 4] gl (fun x=>(x.1.1,x.2.2.1.1,(pe3 x).1,(pe3 x).2.1,(pe3 x).2.2.1,(pe3 (pe3 x)),(pe4 x).1,(pe5 x).1))⟩
theorem qn:CtxM Tryz.prog qo:=eo fits ax (mC q8 m0)
abbrev gu:Mdl:=(aq (.cons (.own 0) (.cons (.fn 62 .nil) .nil)) [jxf,zjz, .cs 24 4 1 (.cons (.d false qT0) (.cons (.d true (.slice ab.ty)) (.cons (.d false qT0) (.cons (.d false qT0) .nil)))),zjz, .cs 3 1 1 (.cons (.d false qT0) .nil)] [true,true,true,true,true] 1 gl (B:=(Bool×qL2×Int×(List ab)×Int×Int×qL2×Int)) (fun b=>((b.1,()),((((),(),()),((),(),()),((),(),()),()),(b.2.1,()),(b.2.2.1,(pe3 b),(pe4 b),(pe5 b),()),((pe6 b),()),((pf7 b),()),()))) (fun a=>ie a.2.2.1.1 (pe3 a).1 (pe3 a).2.1 (pe3 a).2.2.1 (pe3 (pe3 a)) (pe4 a).1 (pe5 a).1))
theorem pt:MdlOK Tryz.prog 61 gu:=ek Tryz.func61 rfl qn .z s0
def qit:Shp:=⟨[qv9,q0x],[]⟩
abbrev q1l:Ctx ((Bool×Int)):=⟨61,tt,false,false,[],d5 [(41,j5),(42,rc),(52,qo3),(53,jbp),(54,qwc),(55,qzu),(56,jch),(61,gu)],ed [],bj 61 tt [] [.tmp 2, .tmp 3] qit (fun x=>(x.1.1,x.1.2.1))⟩
theorem q1k:CtxM Tryz.prog q1l:=eo fits ax (mC iv (mC tz (mC qy4 (mC jly (mC q71 (mC jan (mC jmw (mC pt m0))))))))
abbrev qky:Mdl:=(aq (.cons (.d true dj.ty) .nil) [] [] 2 qit (B:=(Bool×Int)) (fun b=>((b.1,b.2,()),(()))) (fun a=>qo0 a.1.1))
theorem qxr:MdlOK Tryz.prog 19 qky:=ek Tryz.func19 rfl q1k .z s0
def q66:Shp:=⟨[(0, .d true (.int .u32))],[]⟩
abbrev q9q:Ctx (Int):=⟨18,tt,false,false,[],d5 [],ed [af _ 18 [] jkt (C:=(qL1×Int)) (S:=(Int×Int)) (fun x=>((x.1.2.1,x.1.2.2.1),(x.1.1,(pe3 x.1)))) jks (CE:=Unit) (E:=Int) (fun c e=>((e,()),(()))) (fun c=>()) (fun{R} c a nx dn rt=>qhl c.1 c.2 a.1 a.2 nx dn rt)],bj 18 tt [] [.tmp 2] q66 (fun x=>x.1.1)⟩
theorem q9o:CtxM Tryz.prog q9q:=eo fits ax m0
theorem job:al Tryz.prog q9q 0 (lc 0 Tryz.f146 75):=lp rfl q9o .z s0 (fun c a=>((a.1,c.1,c.2,a.2,()),(()))) (fun y=>((),y.1.1))
abbrev q9p:Mdl:=(aq (.cons (.d false qT1) .nil) [] [] 1 q66 (B:=Int) (fun b=>((b,()),(()))) (fun a=>qlt a.1.1))
theorem jku:MdlOK Tryz.prog 146 q9p:=ek Tryz.func146 rfl q9o (.two .z (.two .z (.two (.two .z (.s 0)) .z))) (sC job s0)
def q0h:Shp:=⟨[zkq],[jzy]⟩
abbrev qb4:Ctx (qL1):=⟨106,tt,false,false,[],d5 [(146,q9p)],ed [af _ 106 [] jdu (C:=((List ab)×Int×Int×(List ab)×Int×Int)) (S:=(Int×qL1×qL1)) (fun x=>(((pe3 x.1),(pe4 x.1),x.2.1.1,x.2.1.2.1,x.2.1.2.2.1,(pe3 x.2.1)),((pe5 x.1),x.2.2.1,(pe3 x)))) jdt (CE:=(Int×(List ab)×Int×Int)) (E:=(qL1×qL1)) (fun c e=>(((),(),(),()),((c.1,c.2.1,c.2.2.1,c.2.2.2,()),e.1,e.2,()))) (fun c=>(c.2.2.1,(pe3 c),(pe4 c),(pf5 c))) (fun{R} c a nx dn rt=>qdd c.1 c.2.1 c.2.2.1 (pe3 c) (pe4 c) (pf5 c) a.1 a.2.1 a.2.2 nx dn rt),af _ 106 [] jdw (C:=(qL1×qL1×Int×Int×Int×(List ab)×Int×Int×qL1)) (S:=(Int×(List Bool))) (fun x=>((x.1.2.1,x.1.2.2.1,(pe5 x.1),(pe6 x.1),x.2.1.1,x.2.1.2.1,x.2.1.2.2.1,(pe3 x.2.1),(pe3 x)),((pe7 x.1),x.2.2.1))) jdv (CE:=(qL1×qL1×Int×Int×(List ab)×Int×Int×qL1)) (E:=(List Bool)) (fun c e=>(((),c.1,c.2.1,(),(),c.2.2.1,()),(((pe3 c),(pe4 c),(pe5 c),(pe6 c),()),e,(pf7 c),()))) (fun c=>(c.1,c.2.1,c.2.2.1,(pe4 c),(pe5 c),(pe6 c),(pe7 c),(pf8 c))) (fun{R} c a nx dn rt=>pb c.1 c.2.1 c.2.2.1 (pe3 c) (pe4 c) (pe5 c) (pe6 c) (pe7 c) (pf8 c) a.1 a.2 nx dn rt),af _ 106 [] jdy (C:=(qL1×qL1×Int×Int×Int×(List ab)×Int×Int×(List Bool)×qL1)) (S:=(Bool×Int)) (fun x=>((x.1.2.1,x.1.2.2.1,(pe5 x.1),(pe7 x.1),x.2.1.1,x.2.1.2.1,x.2.1.2.2.1,(pe3 x.2.1),x.2.2.1,(pe3 x)),((pe6 x.1),(pe8 x.1)))) jdx (CE:=(qL1×qL1×Int×Int×(List ab)×Int×Int×(List Bool)×qL1)) (E:=Bool) (fun c e=>(((),c.1,c.2.1,(),(),c.2.2.1,e,()),(((pe3 c),(pe4 c),(pe5 c),(pe6 c),()),(pe7 c),(pf8 c),()))) (fun c=>(c.1,c.2.1,c.2.2.1,(pe4 c),(pe5 c),(pe6 c),(pe7 c),(pe8 c),(pf9 c))) (fun{R} c a nx dn rt=>qde c.1 c.2.1 c.2.2.1 (pe3 c) (pe4 c) (pe5 c) (pe6 c) (pe7 c) (pe8 c) (pf9 c) a.1 a.2 nx dn rt),af _ 106 [] jd0 (C:=(qL1×qL1×Int×(List ab)×Int×Int)) (S:=(Int×(List Bool)×qL1)) (fun x=>((x.1.2.1,x.1.2.2.1,x.2.1.1,x.2.1.2.1,x.2.1.2.2.1,(pe3 x.2.1)),((pe5 x.1),x.2.2.1,(pe3 x)))) jdz (CE:=Unit) (E:=qL1) (fun c e=>(((),()),(e,()))) (fun c=>()) (fun{R} c a nx dn rt=>pc c.1 c.2.1 c.2.2.1 (pe3 c) (pe4 c) (pf5 c) a.1 a.2.1 a.2.2 nx dn rt)],bj 106 tt [] [.tmp 2] q0h (fun x=>x.2.1)⟩
theorem qb3:CtxM Tryz.prog qb4:=eo fits ax (mC jku m0)
theorem jhn:al Tryz.prog qb4 2 (lc 6 Tryz.f107 619103):=lp rfl qb3 .z s0 (fun c a=>(((),c.1,c.2.1,(),(),c.2.2.1,a.1,(pe3 c),a.2,()),(((pe4 c),(pe5 c),(pe6 c),(pe7 c),()),(pe8 c),(pf9 c),()))) (fun y=>((y.1.2.1,y.1.2.2.1,(pe5 y.1),y.2.1.1,y.2.1.2.1,y.2.1.2.2.1,(pe3 y.2.1),y.2.2.1,(pe3 y)),(pe6 y.1)))
theorem jhm:al Tryz.prog qb4 1 (lc 4 Tryz.f107 74335):=lp rfl qb3 .z s0 (fun c a=>(((),c.1,c.2.1,(),(),c.2.2.1,(pe3 c),a.1,()),(((pe4 c),(pe5 c),(pe6 c),(pe7 c),()),a.2,(pf8 c),()))) (fun y=>((y.1.2.1,y.1.2.2.1,(pe5 y.1),y.2.1.1,y.2.1.2.1,y.2.1.2.2.1,(pe3 y.2.1),(pe3 y)),y.2.2.1))
theorem jho:al Tryz.prog qb4 3 (lc 2 Tryz.f107 607):=lp rfl qb3 (.two .z (.two (.one (.two (.two .z (.s 1)) (.two .z (.two .z (.two (.two .z (.s 2)) .z))))) .z)) (sC jhm (sC jhn s0)) (fun c a=>(((),c.1,c.2.1,(),(),a.1,()),((c.2.2.1,(pe3 c),(pe4 c),(pf5 c),()),a.2.1,a.2.2,()))) (fun y=>((),y.2.1))
theorem jhl:al Tryz.prog qb4 0 (lc 0 Tryz.f107 75):=lp rfl qb3 (.two .z (.two .z (.two (.one (.two .z (.d [0,0,2,6,14,31,0,0,128,447,959,2047,4095,8191] [5,11,12,13] [1]))) .z))) s0 (fun c a=>(((),(),(),c.1,c.2.1,a.1,()),((c.2.2.1,(pe3 c),(pe4 c),(pf5 c),()),a.2.1,a.2.2,()))) (fun y=>((y.2.1.1,y.2.1.2.1,y.2.1.2.2.1,(pe3 y.2.1)),(y.2.2.1,(pe3 y))))
abbrev q35:Mdl:=(aq (.cons (.d false dj.ty) .nil) [] [] 1 q0h (B:=qL1) (fun b=>(((),()),(b,()))) (fun a=>qlu a.1.1))
theorem jd1:MdlOK Tryz.prog 107 q35:=ek Tryz.func107 rfl qb3 (.two .z (.two .z (.two (.two .z (.s 0)) (.two .z (.two .z (.two (.two .z (.s 3)) .z)))))) (sC jhl (sC jho s0))
def qvk:Shp:=⟨[jee],[]⟩
abbrev jdp:Ctx (Int):=⟨8,tt,false,false,[],d5 [(110,c6)],ed [],bj 8 tt [] [.tmp 4] qvk (fun x=>x.1.1)⟩
theorem jdo:CtxM Tryz.prog jdp:=eo fits ax (mC dh m0)
abbrev jx:Mdl:=(aq (.cons (.d false qT1) (.cons (.d false qT1) .nil)) [] [] 1 qvk (B:=Int) (fun b=>((b,()),(()))) (fun a=>ba a.1.1 a.1.2.1))
theorem jo:MdlOK Tryz.prog 109 jx:=ek Tryz.func109 rfl jdo .z s0
def pi:Shp:=⟨[],[qnf]⟩
abbrev jr:Ctx (qL2):=⟨53,tt,false,false,[true],d5 [(109,jx)],ed [af _ 53 [true] qeq (C:=(Int×Int×Int)) (S:=(Int×qL2)) (fun x=>((x.1.2.1,x.1.2.2.1,(pe4 x.1)),((pe5 x.1),x.2.1))) qep (CE:=(Int×Int×Int)) (E:=qL2) (fun c e=>(((),c.1,c.2.1,(()),c.2.2,()),(e,()))) (fun c=>(c.1,c.2.1,c.2.2)) (fun{R} c a nx dn rt=>cg c.1 c.2.1 c.2.2 a.1 a.2 nx dn rt),af _ 53 [true] qes (C:=(Int×Int)) (S:=(Int×qL2)) (fun x=>((x.1.2.1,x.1.2.2.1),((pe4 x.1),x.2.1))) qer (CE:=Unit) (E:=qL2) (fun c e=>((()),(e,()))) (fun c=>()) (fun{R} c a nx dn rt=>er c.1 c.2 a.1 a.2 nx dn rt)],bj 53 tt [true] [] pi (fun x=>x.2.1)⟩
theorem jq:CtxM Tryz.prog jr:=eo fits ax (mC jo m0)
theorem qfp:al Tryz.prog jr 0 (lc 2 Tryz.f169 585):=lp rfl jq (.two (.two (.d [0,0,3,7,15,15,15,111,239,15,15,1039,3599,7695,16383,32767,65535] [] []) .z) (.two (.one (.d [0,0,0,0,8,0,0,64,224,480,0,0,3072,7168,16355,32739,65535,131071] [15,17] [])) .z)) s0 (fun c a=>(((),c.1,c.2.1,(()),c.2.2,a.1,()),(a.2,()))) (fun y=>((y.1.2.1,y.1.2.2.1,(pe4 y.1)),y.2.1))
theorem qfq:al Tryz.prog jr 1 (lc 0 Tryz.f169 9):=lp rfl jq (.two .z (.two (.one (.two .z (.s 0))) .z)) (sC qfp s0) (fun c a=>(((),c.1,c.2,(()),a.1,()),(a.2,()))) (fun y=>((),y.2.1))
abbrev qe:Mdl:=(aq (.cons (.own 0) (.cons (.d false qT0) (.cons (.d false qT0) (.cons (.fn 109 .nil) .nil)))) [qnf] [true] 0 pi (B:=qL2) (fun b=>((()),(b,()))) (fun a=>dy a.1.2.1 a.1.2.2.1 a.2.1))
theorem qet:MdlOK Tryz.prog 169 qe:=ek Tryz.func169 rfl jq (.two .z (.s 1)) (sC qfq s0)
def uw:Shp:=⟨[],[qnf]⟩
abbrev nc:Ctx (qL2):=⟨82,tt,false,false,[true],d5 [(109,jx)],ed [ko _ 82 [true] qkg (A:=(Int×Int×Int×Int×qL2)) (fun x=>(x.1.2.1,x.1.2.2.1,(pe4 x.1),(pe5 x.1),x.2.1)) qkf (CE:=(Int×Int×Int)) (E:=qL2) (fun c e=>(((),c.1,c.2.1,(()),c.2.2,()),(e,()))) (fun c=>(c.1,c.2.1,(pe3 c))) (fun{R} c dn rt=>ls c.1 c.2.1 c.2.2.1 (pe3 c) (pf4 c) dn rt),af _ 82 [true] qke (C:=(Int×Int)) (S:=(Int×qL2)) (fun x=>((x.1.2.1,x.1.2.2.1),((pe4 x.1),x.2.1))) qkd (CE:=Unit) (E:=qL2) (fun c e=>((()),(e,()))) (fun c=>()) (fun{R} c a nx dn rt=>bt c.1 c.2 a.1 a.2 nx dn rt)],bj 82 tt [true] [] uw (fun x=>x.2.1)⟩
theorem na:CtxM Tryz.prog nc:=eo fits ax (mC jo m0)
theorem qm8:al Tryz.prog nc 0 (jc Tryz.f186 241):=jn rfl na (.two (.two (.d [0,0,0,0,12,30,62,0,0,0,768,1920,3968,8191,16383,32767] [] []) .z) (.two (.d [0,0,0,6,0,0,0,96,0,0,0,1536,3840,7936,0,0,0,98304,245760,507904,1048335,2096911,4194303,8388607] [21,23] []) .z)) s0 (fun c=>(((),c.1,c.2.1,(()),c.2.2.1,(pe3 c),()),((pf4 c),()))) (fun y=>((y.1.2.1,y.1.2.2.1,(pe4 y.1)),y.2.1))
theorem qm9:al Tryz.prog nc 1 (lc 0 Tryz.f186 9):=lp rfl na (.one (.two .z (.two .z (.two (.two (.d [0,1,0,7,15,31,31,31,31,415,991,2015,31,31,31,24607,57375,127007,258079,524287,1048575,2097151] [] []) .z) (.s 0))))) (sC qm8 s0) (fun c a=>(((),c.1,c.2,(()),a.1,()),(a.2,()))) (fun y=>((),y.2.1))
abbrev wg:Mdl:=(aq (.cons (.own 0) (.cons (.d false qT0) (.cons (.d false qT0) (.cons (.d false qT0) (.cons (.fn 109 .nil) .nil))))) [qnf] [true] 0 uw (B:=qL2) (fun b=>((()),(b,()))) (fun a=>fv a.1.2.1 a.1.2.2.1 (pe3 a.1) a.2.1))
theorem qkh:MdlOK Tryz.prog 186 wg:=ek Tryz.func186 rfl na (.two .z (.s 1)) (sC qm9 s0)
def um:Shp:=⟨[],[qnf]⟩
abbrev m7:Ctx (qL2):=⟨60,tt,false,false,[true],d5 [(186,wg)],ed [af _ 60 [true] qjn (C:=(Int×Int×Int)) (S:=(Int×qL2)) (fun x=>((x.1.2.2.1,(pe3 x.1),(pe4 x.1)),((pe5 x.1),x.2.1))) qjm (CE:=(Int×Int×Int)) (E:=qL2) (fun c e=>(((),(()),c.1,c.2.1,c.2.2,()),(e,()))) (fun c=>(c.1,c.2.1,c.2.2)) (fun{R} c a nx dn rt=>d7 c.1 c.2.1 c.2.2 a.1 a.2 nx dn rt),af _ 60 [true] qjp (C:=(Int×Int)) (S:=(Int×qL2)) (fun x=>((x.1.2.2.1,(pe3 x.1)),((pe4 x.1),x.2.1))) qjo (CE:=Unit) (E:=qL2) (fun c e=>((()),(e,()))) (fun c=>()) (fun{R} c a nx dn rt=>cu c.1 c.2 a.1 a.2 nx dn rt)],bj 60 tt [true] [] um (fun x=>x.2.1)⟩
theorem m6:CtxM Tryz.prog m7:=eo fits ax (mC qkh m0)
theorem qmo:al Tryz.prog m7 0 (lc 0 Tryz.f170 151):=lp rfl m6 .z s0 (fun c a=>(((),(()),c.1,c.2.1,c.2.2,a.1,()),(a.2,()))) (fun y=>((y.1.2.2.1,(pe3 y.1),(pe4 y.1)),y.2.1))
theorem qmp:al Tryz.prog m7 1 (lc 2 Tryz.f170 159):=lp rfl m6 (.two .z (.two (.one (.two (.d [0,0,0,0,0,24,0,0,0,384,960,1984,0,0,12288,28672,65475,131011,262143,524287] [17,19] []) .z)) .z)) s0 (fun c a=>(((),(()),c.1,c.2,a.1,()),(a.2,()))) (fun y=>((),y.2.1))
abbrev v8:Mdl:=(aq (.cons (.own 0) (.cons (.d false qT0) (.cons (.d false qT0) (.cons (.fn 109 .nil) .nil)))) [qnf] [true] 0 um (B:=qL2) (fun b=>((()),(b,()))) (fun a=>fo a.1.2.1 a.1.2.2.1 a.2.1))
theorem qjq:MdlOK Tryz.prog 170 v8:=ek Tryz.func170 rfl m6 (.two .z (.two .z (.two .z (.two (.two .z (.s 0)) (.two .z (.s 1)))))) (sC qmo (sC qmp s0))
def pf:Shp:=⟨[],[qnf]⟩
abbrev p9:Ctx (qL2):=⟨67,tt,false,false,[true],d5 [(187,qbr),(188,qc1)],ed [af _ 67 [true] qek (C:=(Int×Int×Int)) (S:=(Int×qL2×Int)) (fun x=>((x.1.2.1,x.1.2.2.1,(pe4 x.1)),((pe5 x.1),x.2.1,x.2.2.1.1))) qej (CE:=Unit) (E:=qL2) (fun c e=>((()),(e,()))) (fun c=>()) (fun{R} c a nx dn rt=>cx c.1 c.2.1 c.2.2 a.1 a.2.1 a.2.2 nx dn rt)],bj 67 tt [true] [] pf (fun x=>x.2.1)⟩
theorem p7:CtxM Tryz.prog p9:=eo fits ax (mC qhf (mC qje m0))
theorem qfm:al Tryz.prog p9 0 (lc 0 Tryz.f171 315):=lp rfl p7 (.two .z (.two (.one (.two .z (.two .z (.d [0,0,0,0,0,24,0,0,0,384,960,1984,0,0,12288,28672,65475,131011,262143,524287] [17,19] [])))) .z)) s0 (fun c a=>(((),c.1,c.2.1,(),c.2.2,a.1,()),(a.2.1,(a.2.2,()),()))) (fun y=>((),y.2.1))
abbrev p8:Mdl:=(aq (.cons (.own 0) (.cons (.d false qT0) (.cons (.d false qT0) (.cons (.fn 109 .nil) .nil)))) [qnf] [true] 0 pf (B:=qL2) (fun b=>((()),(b,()))) (fun a=>dv a.1.2.1 a.1.2.2.1 a.2.1))
theorem qel:MdlOK Tryz.prog 171 p8:=ek Tryz.func171 rfl p7 (.two .z (.two .z (.two (.two .z (.two .z (.two .z (.s 0)))) .z))) (sC qfm s0)
def yx:Shp:=⟨[jee,q0x],[j11]⟩
abbrev qse:Ctx ((Int×Int×Int)):=⟨32,tt,false,false,[true],d5 [(109,jx)],ed [],bj 32 tt [true] [.tmp 10, .tmp 11] yx (fun x=>(x.1.1,x.1.2.1,x.2.1.1))⟩
theorem qsd:CtxM Tryz.prog qse:=eo fits ax (mC jo m0)
abbrev qa8:Mdl:=(aq (.cons (.d false qT2) (.cons (.d false qT0) (.cons (.d false qT0) (.cons (.ptr 0) (.cons (.fn 109 .nil) .nil))))) [.cs 3 1 1 (.cons (.d false qT0) .nil)] [true] 2 yx (B:=(Int×Int×Int)) (fun b=>((b.1,b.2.1,()),((b.2.2,()),()))) (fun a=>df a.1.1 a.1.2.1 a.1.2.2.1 a.2.1.1))
theorem qop:MdlOK Tryz.prog 192 qa8:=ek Tryz.func192 rfl qsd (.two .z (.two (.two (.d [0,0,0,6,14,0,0,96,224,511,1023] [] []) .z) .z)) s0
def yv:Shp:=⟨[jee],[j11]⟩
abbrev qsa:Ctx ((Int×Int)):=⟨41,tt,false,false,[true],d5 [(192,qa8)],ed [],bj 41 tt [true] [.tmp 12] yv (fun x=>(x.1.1,x.2.1.1))⟩
theorem qr9:CtxM Tryz.prog qsa:=eo fits ax (mC qop m0)
abbrev oy:Mdl:=(aq (.cons (.d false qT2) (.cons (.d false qT0) (.cons (.d false qT0) (.cons (.d false qT0) (.cons (.ptr 0) (.cons (.fn 109 .nil) .nil)))))) [.cs 3 1 1 (.cons (.d false qT0) .nil)] [true] 1 yv (B:=(Int×Int)) (fun b=>((b.1,()),((b.2,()),()))) (fun a=>de a.1.1 a.1.2.1 a.1.2.2.1 (pe3 a.1) a.2.1.1))
theorem wa:MdlOK Tryz.prog 190 oy:=ek Tryz.func190 rfl qr9 .z s0
def ow:Shp:=⟨[jee],[j11]⟩
abbrev qfw:Ctx ((Int×Int)):=⟨18,tt,false,false,[true],d5 [(190,oy)],ed [],bj 18 tt [true] [.tmp 8] ow (fun x=>(x.1.1,x.2.1.1))⟩
theorem qfv:CtxM Tryz.prog qfw:=eo fits ax (mC wa m0)
abbrev pm:Mdl:=(aq (.cons (.d false qT2) (.cons (.d false qT0) (.cons (.ptr 0) (.cons (.fn 109 .nil) .nil)))) [.cs 3 1 1 (.cons (.d false qT0) .nil)] [true] 1 ow (B:=(Int×Int)) (fun b=>((b.1,()),((b.2,()),()))) (fun a=>cb a.1.1 a.1.2.1 a.2.1.1))
theorem qdk:MdlOK Tryz.prog 189 pm:=ek Tryz.func189 rfl qfv .z s0
def qv:Shp:=⟨[jee,q0x],[]⟩
abbrev ru:Ctx ((Int×Int)):=⟨63,tt,false,false,[],d5 [(189,pm),(190,oy)],ed [ko _ 63 [] qgg (A:=(Int×Int)) (fun x=>(x.1.2.1,x.2.1.1)) qgf (CE:=Unit) (E:=Unit) (fun c e=>((()),(()))) (fun c=>()) (fun{R} c dn rt=>jp c.1 c.2 dn rt)],bj 63 tt [] [.tmp 8, .tmp 9] qv (fun x=>(x.1.1,x.1.2.1))⟩
theorem ro:CtxM Tryz.prog ru:=eo fits ax (mC qdk (mC wa m0))
theorem qhd:al Tryz.prog ru 0 (jc Tryz.f172 255):=jn rfl ro .z s0 (fun c=>(((),c.1,()),((c.2,()),()))) (fun y=>((),()))
abbrev rq:Mdl:=(aq (.cons (.d false qT2) (.cons (.d false qT0) (.cons (.d false qT0) (.cons (.fn 109 .nil) .nil)))) [] [] 2 qv (B:=(Int×Int)) (fun b=>((b.1,b.2,()),(()))) (fun a=>ct a.1.1 a.1.2.1 a.1.2.2.1))
theorem qgh:MdlOK Tryz.prog 172 rq:=ek Tryz.func172 rfl ro (.two .z (.two .z (.two .z (.two .z (.two .z (.two .z (.two .z (.s 0)))))))) (sC qhd s0)
def qh:Shp:=⟨[],[qnf]⟩
abbrev q4:Ctx (qL2):=⟨34,tt,false,false,[true],d5 [],ed [af _ 34 [true] qf0 (C:=Unit) (S:=(Int×Int×qL2)) (fun x=>((),(x.1.2.1,x.1.2.2.1,x.2.1))) qfz (CE:=Unit) (E:=qL2) (fun c e=>((()),(e,()))) (fun c=>()) (fun{R} c a nx dn rt=>ff a.1 a.2.1 a.2.2 nx dn rt)],bj 34 tt [true] [] qh (fun x=>x.2.1)⟩
theorem qy:CtxM Tryz.prog q4:=eo fits ax m0
theorem qgl:al Tryz.prog q4 0 (lc 0 Tryz.f173 19):=lp rfl qy (.two .z (.one (.two (.d [0,0,0,0,0,0,48,112,0,0,768,1792,4083,8179,16383,32767] [13,15] []) .z))) s0 (fun c a=>(((),a.1,a.2.1,()),(a.2.2,()))) (fun y=>((),y.2.1))
abbrev qz:Mdl:=(aq (.cons (.own 0) (.cons (.d false qT0) (.cons (.d false qT0) (.cons (.fn 109 .nil) .nil)))) [qnf] [true] 0 qh (B:=qL2) (fun b=>((()),(b,()))) (fun a=>cr a.1.2.1 a.1.2.2.1 a.2.1))
theorem qf1:MdlOK Tryz.prog 173 qz:=ek Tryz.func173 rfl qy (.two .z (.two .z (.s 0))) (sC qgl s0)
def ld:Shp:=⟨[qv9],[qnf]⟩
abbrev bx:Ctx ((Bool×qL2)):=⟨141,tt,false,false,[true],d5 [(109,jx)],ed [af _ 141 [true] wl (C:=(Int×Int×Int×qL2)) (S:=Int) (fun x=>((x.1.2.1,x.1.2.2.1,(pe5 x.1),x.2.1),(pe4 x.1))) wj (CE:=(Int×Int×Int×qL2)) (E:=Int) (fun c e=>(((),c.1,c.2.1,(()),e,c.2.2.1,()),(c.2.2.2,()))) (fun c=>(c.1,c.2.1,c.2.2.1,c.2.2.2)) (fun{R} c a nx dn rt=>cd c.1 c.2.1 c.2.2.1 c.2.2.2 a nx dn rt),af _ 141 [true] wn (C:=(Int×Int×Int×Int)) (S:=(Int×qL2)) (fun x=>((x.1.2.1,x.1.2.2.1,(pe4 x.1),(pe5 x.1)),((pe6 x.1),x.2.1))) wm (CE:=(Int×Int×Int×Int)) (E:=qL2) (fun c e=>(((),c.1,c.2.1,(()),c.2.2.1,c.2.2.2,()),(e,()))) (fun c=>(c.1,c.2.1,c.2.2.1,c.2.2.2)) (fun{R} c a nx dn rt=>ce c.1 c.2.1 c.2.2.1 c.2.2.2 a.1 a.2 nx dn rt),af _ 141 [true] wq (C:=(Int×Int×Int×Int)) (S:=(Int×qL2)) (fun x=>((x.1.2.1,x.1.2.2.1,(pe4 x.1),(pe5 x.1)),((pe6 x.1),x.2.1))) wo (CE:=(Int×Int×Int×Int)) (E:=qL2) (fun c e=>(((),c.1,c.2.1,(()),c.2.2.1,c.2.2.2,()),(e,()))) (fun c=>(c.1,c.2.1,c.2.2.1,c.2.2.2)) (fun{R} c a nx dn rt=>cf c.1 c.2.1 c.2.2.1 c.2.2.2 a.1 a.2 nx dn rt),ko _ 141 [true] wy (A:=(Int×Int×Int×Int×qL2)) (fun x=>(x.1.2.1,x.1.2.2.1,(pe4 x.1),(pe5 x.1),x.2.1)) wx (CE:=(Int×Int×Int×Int)) (E:=qL2) (fun c e=>(((),c.1,c.2.1,(()),c.2.2.1,c.2.2.2,()),(e,()))) (fun c=>(c.1,c.2.1,c.2.2.1,(pe3 c))) (fun{R} c dn rt=>cz c.1 c.2.1 c.2.2.1 (pe3 c) (pf4 c) dn rt),af _ 141 [true] wv (C:=(Int×Int)) (S:=(Int×Int×qL2)) (fun x=>((x.1.2.1,x.1.2.2.1),((pe4 x.1),(pe5 x.1),x.2.1))) wu (CE:=Unit) (E:=qL2) (fun c e=>((()),(e,()))) (fun c=>()) (fun{R} c a nx dn rt=>bk c.1 c.2 a.1 a.2.1 a.2.2 nx dn rt)],bj 141 tt [true] [.tmp 8] ld (fun x=>(x.1.1,x.2.1))⟩
theorem bw:CtxM Tryz.prog bx:=eo fits ax (mC jo m0)
theorem y4:al Tryz.prog bx 1 (lc 4 Tryz.f174 613963):=lp rfl bw (.two .z (.two (.one (.two (.two (.d [0,0,0,6,14,0,0,64,224,480,1023,2047,4095] [] []) .z) (.d [0,0,0,0,8,0,0,64,224,480,0,0,3072,7168,16355,32739,65535,131071] [15,17] []))) .z)) s0 (fun c a=>(((),c.1,c.2.1,(()),c.2.2.1,c.2.2.2,a.1,()),(a.2,()))) (fun y=>((y.1.2.1,y.1.2.2.1,(pe4 y.1),(pe5 y.1)),y.2.1))
theorem y5:al Tryz.prog bx 2 (lc 6 Tryz.f174 622155):=lp rfl bw (.two .z (.two (.one (.two (.two (.d [0,0,0,6,14,0,0,64,224,480,1023,2047,4095] [] []) .z) (.d [0,0,0,0,8,0,0,64,224,480,0,0,3072,7168,16355,32739,65535,131071] [15,17] []))) .z)) s0 (fun c a=>(((),c.1,c.2.1,(()),c.2.2.1,c.2.2.2,a.1,()),(a.2,()))) (fun y=>((y.1.2.1,y.1.2.2.1,(pe4 y.1),(pe5 y.1)),y.2.1))
theorem y6:al Tryz.prog bx 3 (jc Tryz.f174 32331):=jn rfl bw (.two .z (.two (.two .z (.s 2)) .z)) (sC y5 s0) (fun c=>(((),c.1,c.2.1,(()),c.2.2.1,(pe3 c),()),((pf4 c),()))) (fun y=>((y.1.2.1,y.1.2.2.1,(pe4 y.1),(pe5 y.1)),y.2.1))
theorem y0:al Tryz.prog bx 0 (lc 2 Tryz.f174 4171):=lp rfl bw (.two (.two (.d [0,0,3,7,15,15,15,111,239,15,15,1039,3599,7695,16383,32767,65535,131071] [] []) .z) .z) s0 (fun c a=>(((),c.1,c.2.1,(()),a,c.2.2.1,()),(c.2.2.2,()))) (fun y=>((y.1.2.1,y.1.2.2.1,(pe5 y.1),y.2.1),(pe4 y.1)))
theorem y7:al Tryz.prog bx 4 (lc 0 Tryz.f174 75):=lp rfl bw (.two .z (.two (.one (.two (.s 0) (.two .z (.two .z (.two (.d [0,0,0,0,8,0,0,64,224,480,0,0,3072,7168,16355,32739,65535,131071] [15,17] []) (.two (.two .z (.two (.two .z (.s 1)) .z)) (.s 3))))))) .z)) (sC y0 (sC y4 (sC y6 s0))) (fun c a=>(((),c.1,c.2,(()),a.1,a.2.1,()),(a.2.2,()))) (fun y=>((),y.2.1))
abbrev lw:Mdl:=(aq (.cons (.own 0) (.cons (.d false qT0) (.cons (.d false qT0) (.cons (.fn 109 .nil) .nil)))) [qnf] [true] 1 ld (B:=(Bool×qL2)) (fun b=>((b.1,()),(b.2,()))) (fun a=>dr a.1.2.1 a.1.2.2.1 a.2.1))
theorem wz:MdlOK Tryz.prog 174 lw:=ek Tryz.func174 rfl bw (.two .z (.two .z (.two (.two .z (.s 4)) .z))) (sC y7 s0)
def o6:Shp:=⟨[jee],[qnf]⟩
abbrev fb:Ctx ((Int×qL2)):=⟨90,tt,false,false,[true],d5 [(109,jx)],ed [af _ 90 [true] qdn (C:=(Int×Int×qL2)) (S:=Int) (fun x=>((x.1.2.1,(pe4 x.1),x.2.1),(pe3 x.1))) qdm (CE:=(Int×Int×qL2)) (E:=Int) (fun c e=>(((),c.1,(()),e,c.2.1,()),(c.2.2,()))) (fun c=>(c.1,c.2.1,c.2.2)) (fun{R} c a nx dn rt=>d9 c.1 c.2.1 c.2.2 a nx dn rt),af _ 90 [true] qdp (C:=(Int×Int×qL2)) (S:=Int) (fun x=>((x.1.2.1,(pe3 x.1),x.2.1),(pe4 x.1))) qdo (CE:=(Int×Int×qL2)) (E:=Int) (fun c e=>(((),c.1,(()),c.2.1,e,()),(c.2.2,()))) (fun c=>(c.1,c.2.1,c.2.2)) (fun{R} c a nx dn rt=>ea c.1 c.2.1 c.2.2 a nx dn rt),af _ 90 [true] qdr (C:=Int) (S:=(Int×Int×qL2)) (fun x=>(x.1.2.1,((pe3 x.1),(pe4 x.1),x.2.1))) qdq (CE:=Unit) (E:=(Int×qL2)) (fun c e=>((e.1,()),(e.2,()))) (fun c=>()) (fun{R} c a nx dn rt=>eb c a.1 a.2.1 a.2.2 nx dn rt)],bj 90 tt [true] [.tmp 10] o6 (fun x=>(x.1.1,x.2.1))⟩
theorem fa:CtxM Tryz.prog fb:=eo fits ax (mC jo m0)
theorem qe0:al Tryz.prog fb 1 (lc 4 Tryz.f175 2183):=lp rfl fa (.two (.two (.d [0,0,3,7,15,15,15,111,239,15,15,1551,3599,8191,16383,32767] [] []) .z) .z) s0 (fun c a=>(((),c.1,(()),c.2.1,a,()),(c.2.2,()))) (fun y=>((y.1.2.1,(pe3 y.1),y.2.1),(pe4 y.1)))
theorem qez:al Tryz.prog fb 0 (lc 2 Tryz.f175 1031):=lp rfl fa (.two (.two (.d [0,0,3,7,15,15,15,111,239,15,15,1551,3599,8191,16383,32767,65535] [] []) .z) .z) s0 (fun c a=>(((),c.1,(()),a,c.2.1,()),(c.2.2,()))) (fun y=>((y.1.2.1,(pe4 y.1),y.2.1),(pe3 y.1)))
theorem qe1:al Tryz.prog fb 2 (lc 0 Tryz.f175 71):=lp rfl fa (.one (.two (.s 0) (.two (.s 1) (.two .z (.two (.d [0,0,0,0,0,0,48,112,0,0,768,1792,4083,8179,16383,32767] [13,15] []) .z))))) (sC qez (sC qe0 s0)) (fun c a=>(((),c,(()),a.1,a.2.1,()),(a.2.2,()))) (fun y=>((),(y.1.1,y.2.1)))
abbrev po:Mdl:=(aq (.cons (.own 0) (.cons (.d false qT0) (.cons (.d false qT0) (.cons (.d false qT0) (.cons (.fn 109 .nil) .nil))))) [qnf] [true] 1 o6 (B:=(Int×qL2)) (fun b=>((b.1,()),(b.2,()))) (fun a=>aw a.1.2.1 a.1.2.2.1 (pe3 a.1) a.2.1))
theorem qds:MdlOK Tryz.prog 175 po:=ek Tryz.func175 rfl fa (.two .z (.two (.d [0,0,0,0,0,0,48,112,0,0,768,1792,4083,8179,16383,32767] [13,15] []) (.two .z (.two (.s 2) .z)))) (sC qe1 s0)
def te:Shp:=⟨[jee,zld],[qnf]⟩
abbrev c9:Ctx ((Int×Bool×qL2)):=⟨178,tt,false,false,[true],d5 [(109,jx)],ed [af _ 178 [true] qh3 (C:=(Int×Int×qL2)) (S:=Int) (fun x=>((x.1.2.1,(pe4 x.1),x.2.1),(pe3 x.1))) qh2 (CE:=(Int×Int×qL2)) (E:=Int) (fun c e=>(((),c.1,(()),e,c.2.1,()),(c.2.2,()))) (fun c=>(c.1,c.2.1,c.2.2)) (fun{R} c a nx dn rt=>f5 c.1 c.2.1 c.2.2 a nx dn rt),af _ 178 [true] qh5 (C:=(Int×Int×qL2)) (S:=Int) (fun x=>((x.1.2.1,(pe3 x.1),x.2.1),(pe4 x.1))) qh4 (CE:=(Int×Int×qL2)) (E:=Int) (fun c e=>(((),c.1,(()),c.2.1,e,()),(c.2.2,()))) (fun c=>(c.1,c.2.1,c.2.2)) (fun{R} c a nx dn rt=>f6 c.1 c.2.1 c.2.2 a nx dn rt),af _ 178 [true] qh7 (C:=(Int×Int×qL2)) (S:=Int) (fun x=>((x.1.2.1,(pe4 x.1),x.2.1),(pe3 x.1))) qh6 (CE:=(Int×Int×qL2)) (E:=Int) (fun c e=>(((),c.1,(()),e,c.2.1,()),(c.2.2,()))) (fun c=>(c.1,c.2.1,c.2.2)) (fun{R} c a nx dn rt=>f8 c.1 c.2.1 c.2.2 a nx dn rt),af _ 178 [true] qh9 (C:=(Int×Int×qL2)) (S:=Int) (fun x=>((x.1.2.1,(pe3 x.1),x.2.1),(pe4 x.1))) qh8 (CE:=(Int×Int×qL2)) (E:=Int) (fun c e=>(((),c.1,(()),c.2.1,e,()),(c.2.2,()))) (fun c=>(c.1,c.2.1,c.2.2)) (fun{R} c a nx dn rt=>f9 c.1 c.2.1 c.2.2 a nx dn rt),af _ 178 [true] qib (C:=Int) (S:=(Int×Int×qL2)) (fun x=>(x.1.2.1,((pe3 x.1),(pe4 x.1),x.2.1))) qia (CE:=Int) (E:=(Int×qL2)) (fun c e=>(((),c,e.1,()),(e.2,()))) (fun c=>c) (fun{R} c a nx dn rt=>gb c a.1 a.2.1 a.2.2 nx dn rt)],bj 178 tt [true] [.tmp 10, .tmp 11] te (fun x=>(x.1.1,x.1.2.1,x.2.1))⟩
theorem c8:CtxM Tryz.prog c9:=eo fits ax (mC jo m0)
theorem qjz:al Tryz.prog c9 3 (lc 8 Tryz.f176 139775):=lp rfl c8 (.two (.two (.d [0,0,3,7,15,15,15,111,239,15,15,1551,3599,8191,16383,32767,65535] [] []) .z) .z) s0 (fun c a=>(((),c.1,(()),c.2.1,a,()),(c.2.2,()))) (fun y=>((y.1.2.1,(pe3 y.1),y.2.1),(pe4 y.1)))
theorem qjy:al Tryz.prog c9 2 (lc 6 Tryz.f176 66047):=lp rfl c8 (.two (.two (.d [0,0,3,7,15,15,15,111,239,15,15,1551,3599,8191,16383,32767] [] []) .z) .z) s0 (fun c a=>(((),c.1,(()),a,c.2.1,()),(c.2.2,()))) (fun y=>((y.1.2.1,(pe4 y.1),y.2.1),(pe3 y.1)))
theorem qj0:al Tryz.prog c9 4 (lc 4 Tryz.f176 4607):=lp rfl c8 (.one (.two (.s 2) (.two (.s 3) (.two .z (.two (.d [0,0,0,0,0,0,48,112,0,0,768,1792,4083,8179,16383,32767] [13,15] []) .z))))) (sC qjy (sC qjz s0)) (fun c a=>(((),c,(()),a.1,a.2.1,()),(a.2.2,()))) (fun y=>(y.1.2.1,(y.1.2.2.1,y.2.1)))
theorem qjx:al Tryz.prog c9 1 (lc 2 Tryz.f176 143):=lp rfl c8 (.two (.two (.d [0,0,3,7,15,15,15,111,239,15,15,1551,3599,8191,16383,32767,65535] [] []) .z) .z) s0 (fun c a=>(((),c.1,(()),c.2.1,a,()),(c.2.2,()))) (fun y=>((y.1.2.1,(pe3 y.1),y.2.1),(pe4 y.1)))
theorem qjw:al Tryz.prog c9 0 (lc 0 Tryz.f176 71):=lp rfl c8 (.two (.two (.d [0,0,3,7,15,15,15,111,239,15,15,1551,3599,8191,16383,32767] [] []) .z) .z) s0 (fun c a=>(((),c.1,(()),a,c.2.1,()),(c.2.2,()))) (fun y=>((y.1.2.1,(pe4 y.1),y.2.1),(pe3 y.1)))
abbrev uq:Mdl:=(aq (.cons (.own 0) (.cons (.d false qT0) (.cons (.d false qT0) (.cons (.d false qT0) (.cons (.fn 109 .nil) .nil))))) [qnf] [true] 2 te (B:=(Int×Bool×qL2)) (fun b=>((b.1,b.2.1,()),(b.2.2,()))) (fun a=>ir a.1.2.1 a.1.2.2.1 (pe3 a.1) a.2.1))
theorem qic:MdlOK Tryz.prog 176 uq:=ek Tryz.func176 rfl c8 (.two .z (.two (.d [0,0,0,0,0,0,48,112,0,0,768,1792,4083,8179,16383,32767] [13,15] []) (.two .z (.two (.s 0) (.two (.s 1) (.two (.two .z (.two (.two (.d [0,0,0,0,0,0,48,112,0,0,768,1792,4083,8179,16383,32767] [13,15] []) .z) .z)) (.two (.d [0,0,0,0,0,0,48,112,0,0,768,1792,4083,8179,16383,32767] [13,15] []) (.two .z (.two .z (.two (.s 4) (.two (.d [0,0,0,0,0,0,48,112,0,0,768,1792,4083,8179,16383,32767] [13,15] []) .z))))))))))) (sC qjw (sC qjx (sC qj0 s0)))
def bq:Shp:=⟨[],[qnf]⟩
abbrev jh(rec:((Unit×Int×Int×Int×(Unit)×Unit)×(qL2×Unit))→Option qL2):Ctx (qL2):=⟨148,tt,false,false,[true],d5 [(169,qe),(170,v8),(171,p8),(172,rq),(173,qz),(174,lw),(109,jx),(175,po),(176,uq),(147,(aq (.cons (.own 0) (.cons (.d false qT0) (.cons (.d false qT0) (.cons (.d false qT0) (.cons (.fn 109 .nil) .nil))))) [qnf] [true] 0 bq (B:=qL2) (fun b=>((()),(b,()))) rec))],ed [ko _ 148 [true] qmx (A:=(Int×Int×Int×Bool×Bool×Int×Int×Bool×qL2)) (fun x=>(x.1.2.1,x.1.2.2.1,(pe3 x.1),(pe5 x.1),(pe6 x.1),(pe7 x.1),(pe8 x.1),(pe9 x.1),x.2.1)) qmw (CE:=(Int×Int×Int×Bool×Bool×Int×Int)) (E:=qL2) (fun c e=>(((),c.1,c.2.1,c.2.2.1,(()),(pe3 c),(pe4 c),(pe5 c),(pf6 c),()),(e,()))) (fun c=>(c.1,c.2.1,c.2.2.1,(pe3 c),(pe4 c),(pe5 c),(pe6 c))) (fun{R} c dn rt=>me rec c.1 c.2.1 c.2.2.1 (pe3 c) (pe4 c) (pe5 c) (pe6 c) (pe7 c) (pf8 c) dn rt),ko _ 148 [true] qmz (A:=(Int×Int×Int×Int×Int×qL2)) (fun x=>(x.1.2.1,x.1.2.2.1,(pe3 x.1),(pe5 x.1),(pe6 x.1),x.2.1)) qmy (CE:=Int) (E:=(Int×Int×Bool×Bool×qL2)) (fun c e=>(((),e.1,e.2.1,c,(()),e.2.2.1,(pe3 e),()),((pf4 e),()))) (fun c=>c.2.2.1) (fun{R} c dn rt=>gz rec c.1 c.2.1 c.2.2.1 (pe3 c) (pe4 c) (pf5 c) dn rt),af _ 148 [true] qmv (C:=Unit) (S:=(Int×Int×Int×Bool×Bool×qL2)) (fun x=>((),(x.1.2.1,x.1.2.2.1,(pe3 x.1),(pe5 x.1),(pe6 x.1),x.2.1))) qmu (CE:=Unit) (E:=Unit) (fun c e=>((()),(()))) (fun c=>()) (fun{R} c a nx dn rt=>gv rec a.1 a.2.1 a.2.2.1 (pe3 a) (pe4 a) (pf5 a) nx dn rt)],bj 148 tt [true] [] bq (fun x=>x.2.1)⟩
theorem jg(rec:((Unit×Int×Int×Int×(Unit)×Unit)×(qL2×Unit))→Option qL2)(hrec:MdlOK Tryz.prog 147 (aq (.cons (.own 0) (.cons (.d false qT0) (.cons (.d false qT0) (.cons (.d false qT0) (.cons (.fn 109 .nil) .nil))))) [qnf] [true] 0 bq (B:=qL2) (fun b=>((()),(b,()))) rec)):CtxM Tryz.prog (jh rec):=eo fits ax (mC qet (mC qjq (mC qel (mC qgh (mC qf1 (mC wz (mC jo (mC qds (mC qic (mC hrec m0))))))))))
theorem qor(rec:((Unit×Int×Int×Int×(Unit)×Unit)×(qL2×Unit))→Option qL2)(hrec:MdlOK Tryz.prog 147 (aq (.cons (.own 0) (.cons (.d false qT0) (.cons (.d false qT0) (.cons (.d false qT0) (.cons (.fn 109 .nil) .nil))))) [qnf] [true] 0 bq (B:=qL2) (fun b=>((()),(b,()))) rec)):al Tryz.prog (jh rec) 0 (jc Tryz.f147 14307):=jn rfl (jg rec hrec) .z s0 (fun c=>(((),c.1,c.2.1,c.2.2.1,(()),(pe3 c),(pe4 c),(pe5 c),(pe6 c),(pe7 c),()),((pf8 c),()))) (fun y=>((y.1.2.1,y.1.2.2.1,(pe3 y.1),(pe5 y.1),(pe6 y.1),(pe7 y.1),(pe8 y.1)),y.2.1))
theorem qos(rec:((Unit×Int×Int×Int×(Unit)×Unit)×(qL2×Unit))→Option qL2)(hrec:MdlOK Tryz.prog 147 (aq (.cons (.own 0) (.cons (.d false qT0) (.cons (.d false qT0) (.cons (.d false qT0) (.cons (.fn 109 .nil) .nil))))) [qnf] [true] 0 bq (B:=qL2) (fun b=>((()),(b,()))) rec)):al Tryz.prog (jh rec) 1 (jc Tryz.f147 16355):=jn rfl (jg rec hrec) .z s0 (fun c=>(((),c.1,c.2.1,c.2.2.1,(()),(pe3 c),(pe4 c),()),((pf5 c),()))) (fun y=>((pe3 y.1),(y.1.2.1,y.1.2.2.1,(pe5 y.1),(pe6 y.1),y.2.1)))
theorem qot(rec:((Unit×Int×Int×Int×(Unit)×Unit)×(qL2×Unit))→Option qL2)(hrec:MdlOK Tryz.prog 147 (aq (.cons (.own 0) (.cons (.d false qT0) (.cons (.d false qT0) (.cons (.d false qT0) (.cons (.fn 109 .nil) .nil))))) [qnf] [true] 0 bq (B:=qL2) (fun b=>((()),(b,()))) rec)):al Tryz.prog (jh rec) 2 (lc 0 Tryz.f147 19):=lp rfl (jg rec hrec) (.one (.two .z (.two .z (.two .z (.two .z (.two .z (.two .z (.two (.two .z (.s 0)) (.two (.two (.d [0,1,3,7,7,7,39,119,247,7,7,1543,3591,8191,16383,32767,65535] [] []) .z) (.s 1)))))))))) (sC (qor rec hrec) (sC (qos rec hrec) s0)) (fun c a=>(((),a.1,a.2.1,a.2.2.1,(()),(pe3 a),(pe4 a),()),((pf5 a),()))) (fun y=>((),()))
abbrev zh:Mdl:=(aq (.cons (.own 0) (.cons (.d false qT0) (.cons (.d false qT0) (.cons (.d false qT0) (.cons (.fn 109 .nil) .nil))))) [qnf] [true] 0 bq (B:=qL2) (fun b=>((()),(b,()))) (fun(a:((Unit×Int×Int×Int×(Unit)×Unit)×(qL2×Unit)))=>zi a))
theorem qkb(rec:((Unit×Int×Int×Int×(Unit)×Unit)×(qL2×Unit))→Option qL2)(hrec:MdlOK Tryz.prog 147 (aq (.cons (.own 0) (.cons (.d false qT0) (.cons (.d false qT0) (.cons (.d false qT0) (.cons (.fn 109 .nil) .nil))))) [qnf] [true] 0 bq (B:=qL2) (fun b=>((()),(b,()))) rec)):MdlOK Tryz.prog 147 (aq (.cons (.own 0) (.cons (.d false qT0) (.cons (.d false qT0) (.cons (.d false qT0) (.cons (.fn 109 .nil) .nil))))) [qnf] [true] 0 bq (B:=qL2) (fun b=>((()),(b,()))) ((fun(rec:((Unit×Int×Int×Int×(Unit)×Unit)×(qL2×Unit))→Option qL2) (a:((Unit×Int×Int×Int×(Unit)×Unit)×(qL2×Unit)))=>dz rec a.1.2.1 a.1.2.2.1 (pe3 a.1) a.2.1) rec)):=ek Tryz.func147 rfl (jg rec hrec) (.two .z (.two .z (.s 2))) (sC (qot rec hrec) s0)
theorem qm0:MdlOK Tryz.prog 147 zh:=j4a (B:=qL2) (c:=jeg Tryz.f147) (l:=(.cons (.own 0) (.cons (.d false qT0) (.cons (.d false qT0) (.cons (.d false qT0) (.cons (.fn 109 .nil) .nil)))))) (objs:=[qnf]) (kp:=[true]) (k:=0) (sh:=bq) (mk:=(fun b=>((()),(b,())))) (F:=(fun(rec:((Unit×Int×Int×Int×(Unit)×Unit)×(qL2×Unit))→Option qL2) (a:((Unit×Int×Int×Int×(Unit)×Unit)×(qL2×Unit)))=>dz rec a.1.2.1 a.1.2.2.1 (pe3 a.1) a.2.1)) Tryz.func147 (by rfl) (by kernel_rfl) (by kernel_rfl) qkb
def qa6:Shp:=⟨[],[qnf]⟩
abbrev qs0:Ctx (qL2):=⟨14,tt,false,false,[true],d5 [(148,q7l),(147,zh)],ed [],bj 14 tt [true] [] qa6 (fun x=>x.2.1)⟩
theorem qsz:CtxM Tryz.prog qs0:=eo fits ax (mC q40 (mC qm0 m0))
abbrev qct:Mdl:=(aq (.cons (.own 0) (.cons (.fn 109 .nil) .nil)) [qnf] [true] 0 qa6 (B:=qL2) (fun b=>((()),(b,()))) (fun a=>ll a.2.1))
theorem qqt:MdlOK Tryz.prog 108 qct:=ek Tryz.func108 rfl qsz .z s0
def qz9:Shp:=⟨[zkq,q0x],[qnf]⟩
abbrev qsx:Ctx ((Int×qL2)):=⟨47,tt,false,false,[],d5 [(41,j5),(107,q35),(108,qct)],ed [af _ 47 [] jdl (C:=(Int×qL1×Int×Int×Int×Int×(List ab)×Int×Int×qL2)) (S:=(Int×qL1)) (fun x=>((x.1.2.2.1,(pe4 x.1),(pe5 x.1),(pe6 x.1),(pe7 x.1),x.2.1.1,x.2.1.2.1,x.2.1.2.2.1,(pe3 x.2.1),x.2.2.1),((pe8 x.1),(pe3 x)))) jdk (CE:=(qL1×Int×Int×Int×(List ab)×Int×Int×qL2)) (E:=qL1) (fun c e=>(((),(),(),c.1,c.2.1,c.2.2.1,()),(((pe3 c),(pe4 c),(pe5 c),(pe6 c),()),(pf7 c),e,()))) (fun c=>(c.2.1,c.2.2.1,(pe3 c),(pe5 c),(pe6 c),(pe7 c),(pe8 c),(pf9 c))) (fun{R} c a nx dn rt=>t5 c.1 c.2.1 c.2.2.1 (pe3 c) (pe4 c) (pe5 c) (pe6 c) (pe7 c) (pe8 c) (pf9 c) a.1 a.2 nx dn rt),af _ 47 [] jdn (C:=(qL1×Int×Int×(List ab)×Int×Int)) (S:=(Int×qL2)) (fun x=>((x.1.2.2.1,(pe3 x.1),x.2.1.1,x.2.1.2.1,x.2.1.2.2.1,(pe3 x.2.1)),((pe4 x.1),x.2.2.1))) jdm (CE:=Unit) (E:=qL2) (fun c e=>(((),()),(e,()))) (fun c=>()) (fun{R} c a nx dn rt=>qdc c.1 c.2.1 c.2.2.1 (pe3 c) (pe4 c) (pf5 c) a.1 a.2 nx dn rt)],bj 47 tt [] [.tmp 2, .tmp 3] qz9 (fun x=>(x.1.2.1,x.2.1))⟩
theorem qsv:CtxM Tryz.prog qsx:=eo fits ax (mC iv (mC jd1 (mC qqt m0)))
theorem jhd:al Tryz.prog qsx 0 (lc 3 Tryz.f64 154007):=lp rfl qsv .z s0 (fun c a=>(((),(),c.1,(),c.2.1,c.2.2.1,(pe3 c),(pe4 c),a.1,()),(((pe5 c),(pe6 c),(pe7 c),(pe8 c),()),(pf9 c),a.2,()))) (fun y=>(((pe3 y.1),(pe4 y.1),(pe5 y.1),y.2.1.1,y.2.1.2.1,y.2.1.2.2.1,(pe3 y.2.1),y.2.2.1),(pe3 y)))
theorem jhe:al Tryz.prog qsx 1 (lc 1 Tryz.f64 151):=lp rfl qsv (.two .z (.two .z (.two (.one (.two .z (.two .z (.two (.two .z (.s 0)) .z)))) .z))) (sC jhd s0) (fun c a=>(((),(),c.1,c.2.1,a.1,()),((c.2.2.1,(pe3 c),(pe4 c),(pf5 c),()),a.2,()))) (fun y=>((),y.2.1))
abbrev qsw:Mdl:=(aq (.cons (.d false dj.ty) .nil) [] [] 2 qz9 (B:=(Int×qL2)) (fun b=>(((),b.1,()),(b.2,()))) (fun a=>qeg a.1.1))
theorem qxa:MdlOK Tryz.prog 64 qsw:=ek Tryz.func64 rfl qsv (.two .z (.two .z (.two .z (.two (.two .z (.s 1)) .z)))) (sC jhe s0)
def qra:Shp:=⟨[qv9],[]⟩
abbrev q76:Ctx (Bool):=⟨9,tt,false,false,[],d5 [(35,b8)],ed [],bj 9 tt [] [.tmp 3] qra (fun x=>x.1.1)⟩
theorem q75:CtxM Tryz.prog q76:=eo fits ax (mC bv m0)
abbrev qtb:Mdl:=(aq (.cons (.d false qT1) (.cons (.rp false dj.ty) .nil)) [] [] 1 qra (B:=Bool) (fun b=>((b,()),(()))) (fun a=>qus a.1.1 a.1.2.1))
theorem q4f:MdlOK Tryz.prog 66 qtb:=ek Tryz.func66 rfl q75 .z s0
def qa2:Shp:=⟨[jee],[]⟩
abbrev qcm:Ctx (Int):=⟨19,tt,false,false,[],d5 [(66,qtb)],ed [af _ 19 [] qql (C:=(qL2×dj×Int)) (S:=Int) (fun x=>((x.1.1,x.1.2.1.1,x.1.2.2.1),(pe3 x.1))) qqk (CE:=Unit) (E:=Unit) (fun c e=>((()),(()))) (fun c=>()) (fun{R} c a nx dn rt=>yr c.1 c.2.1 c.2.2 a nx dn rt)],bj 19 tt [] [.tmp 4] qa2 (fun x=>x.1.1)⟩
theorem qck:CtxM Tryz.prog qcm:=eo fits ax (mC q4f m0)
theorem qr5:al Tryz.prog qcm 0 (lc 0 Tryz.f111 37):=lp rfl qck .z s0 (fun c a=>((c.1,(c.2.1,()),c.2.2,a,()),(()))) (fun y=>((),()))
abbrev qcl:Mdl:=(aq (.cons (.d false qT2) (.cons (.fn 66 (.cons (.rp false dj.ty) .nil)) .nil)) [] [] 1 qa2 (B:=Int) (fun b=>((b,()),(()))) (fun a=>qdh a.1.1 a.1.2.1.1))
theorem qqm:MdlOK Tryz.prog 111 qcl:=ek Tryz.func111 rfl qck (.two .z (.two (.two .z (.s 0)) .z)) (sC qr5 s0)
def uj:Shp:=⟨[qv9],[]⟩
abbrev qnp:Ctx (Bool):=⟨9,tt,false,false,[],d5 [(111,qcl)],ed [],bj 9 tt [] [.tmp 4] uj (fun x=>x.1.1)⟩
theorem qno:CtxM Tryz.prog qnp:=eo fits ax (mC qqm m0)
abbrev vp:Mdl:=(aq (.cons (.d false qT2) (.cons (.fn 66 (.cons (.rp false dj.ty) .nil)) .nil)) [] [] 1 uj (B:=Bool) (fun b=>((b,()),(()))) (fun a=>x5 a.1.1 a.1.2.1.1))
theorem qjj:MdlOK Tryz.prog 65 vp:=ek Tryz.func65 rfl qno .z s0
def qur:Shp:=⟨[qv9,q0x],[]⟩
abbrev jb6:Ctx ((Bool×Int)):=⟨43,tt,false,false,[],d5 [(12,qwk),(42,rc),(19,qky),(64,qsw),(65,vp)],ed [],bj 43 tt [] [.tmp 2, .tmp 3] qur (fun x=>(x.1.1,x.1.2.1))⟩
theorem jb5:CtxM Tryz.prog jb6:=eo fits ax (mC q74 (mC tz (mC qxr (mC qxa (mC qjj m0)))))
abbrev qwn:Mdl:=(aq (.cons (.d false dj.ty) .nil) [] [] 2 qur (B:=(Bool×Int)) (fun b=>((b.1,b.2,()),(()))) (fun a=>qpk a.1.1))
theorem q77:MdlOK Tryz.prog 21 qwn:=ek Tryz.func21 rfl jb5 .z s0
def q22:Shp:=⟨[qv9,q0x],[]⟩
abbrev jme:Ctx ((Bool×Int)):=⟨9,tt,false,false,[],d5 [(41,j5),(42,rc)],ed [],bj 9 tt [] [.tmp 2, .tmp 3] q22 (fun x=>(x.1.1,x.1.2.1))⟩
theorem jmd:CtxM Tryz.prog jme:=eo fits ax (mC iv (mC tz m0))
abbrev q5m:Mdl:=(aq (.cons (.d false dj.ty) .nil) [] [] 2 q22 (B:=(Bool×Int)) (fun b=>((b.1,b.2,()),(()))) (fun a=>q8r a.1.1))
theorem je8:MdlOK Tryz.prog 10 q5m:=ek Tryz.func10 rfl jmd .z s0
def q8t:Shp:=⟨[qv9],[]⟩
abbrev jr7:Ctx (Bool):=⟨93,tt,false,false,[],d5 [(38,jp7),(11,qq9),(21,qwn),(10,q5m),(26,qc0)],ed [],bj 93 tt [] [.tmp 0] q8t (fun x=>x.1.1)⟩
theorem jr6:CtxM Tryz.prog jr7:=eo fits ax (mC juu (mC q1j (mC q77 (mC je8 (mC qi9 m0)))))
abbrev jcc:Mdl:=(aq .nil [] [] 1 q8t (B:=Bool) (fun b=>((b,()),(()))) (fun a=>q5y))
theorem jmn:MdlOK Tryz.prog 8 jcc:=ek Tryz.func8 rfl jr6 .z s0
def q3c:Shp:=⟨[qv9],[]⟩
abbrev jmp:Ctx (Bool):=⟨19,tt,false,false,[],d5 [],ed [],bj 19 tt [] [.tmp 2] q3c (fun x=>x.1.1)⟩
theorem jmo:CtxM Tryz.prog jmp:=eo fits ax m0
abbrev q50:Mdl:=(aq (.cons (.d false ab.ty) .nil) [] [] 1 q3c (B:=Bool) (fun b=>((b,()),(()))) (fun a=>qqx a.1.1))
theorem jfo:MdlOK Tryz.prog 40 q50:=ek Tryz.func40 rfl jmo .z s0
def mw:Shp:=⟨[jee],[]⟩
abbrev nr:Ctx (Int):=⟨19,tt,false,false,[],d5 [(40,q50)],ed [af _ 19 [] qbo (C:=((List ab)×Int)) (S:=Int) (fun x=>((x.1.1,x.1.2.2.1),(pe3 x.1))) qbn (CE:=Unit) (E:=Unit) (fun c e=>((()),(()))) (fun c=>()) (fun{R} c a nx dn rt=>dq c.1 c.2 a nx dn rt)],bj 19 tt [] [.tmp 4] mw (fun x=>x.1.1)⟩
theorem np:CtxM Tryz.prog nr:=eo fits ax (mC jfo m0)
theorem qb6:al Tryz.prog nr 0 (lc 0 Tryz.f83 37):=lp rfl np .z s0 (fun c a=>((c.1,(()),c.2,a,()),(()))) (fun y=>((),()))
abbrev nq:Mdl:=(aq (.cons (.d false (.slice ab.ty)) (.cons (.fn 40 .nil) .nil)) [] [] 1 mw (B:=Int) (fun b=>((b,()),(()))) (fun a=>g9 a.1.1))
theorem qbp:MdlOK Tryz.prog 83 nq:=ek Tryz.func83 rfl np (.two .z (.two (.two .z (.s 0)) .z)) (sC qb6 s0)
def k9:Shp:=⟨[qv9],[]⟩
abbrev zp:Ctx (Bool):=⟨9,tt,false,false,[],d5 [(83,nq)],ed [],bj 9 tt [] [.tmp 4] k9 (fun x=>x.1.1)⟩
theorem zo:CtxM Tryz.prog zp:=eo fits ax (mC qbp m0)
abbrev lu:Mdl:=(aq (.cons (.d false (.slice ab.ty)) (.cons (.fn 40 .nil) .nil)) [] [] 1 k9 (B:=Bool) (fun b=>((b,()),(()))) (fun a=>bp a.1.1))
theorem wi:MdlOK Tryz.prog 39 lu:=ek Tryz.func39 rfl zo .z s0
def q8u:Shp:=⟨[qv9],[]⟩
abbrev jr9:Ctx (Bool):=⟨34,tt,false,false,[],d5 [(39,lu)],ed [],bj 34 tt [] [.tmp 2] q8u (fun x=>x.1.1)⟩
theorem jr8:CtxM Tryz.prog jr9:=eo fits ax (mC wi m0)
abbrev jcd:Mdl:=(aq (.cons (.d false dj.ty) .nil) [] [] 1 q8u (B:=Bool) (fun b=>((b,()),(()))) (fun a=>qws a.1.1))
theorem jmq:MdlOK Tryz.prog 9 jcd:=ek Tryz.func9 rfl jr8 .z s0
def qk6:Shp:=⟨[qv9],[]⟩
abbrev q4s:Ctx (Bool):=⟨9,tt,false,false,[],d5 [],ed [],bj 9 tt [] [.tmp 2] qk6 (fun x=>x.1.1)⟩
theorem q4r:CtxM Tryz.prog q4s:=eo fits ax m0
abbrev qo8:Mdl:=(aq (.cons (.d false qT0) .nil) [] [] 1 qk6 (B:=Bool) (fun b=>((b,()),(()))) (fun a=>qd9 a.1.1))
theorem qy6:MdlOK Tryz.prog 119 qo8:=ek Tryz.func119 rfl q4r .z s0
def yb:Shp:=⟨[jee],[]⟩
abbrev z5:Ctx (Int):=⟨19,tt,false,false,[],d5 [(119,qo8)],ed [af _ 19 [] qnw (C:=(qL1×Int)) (S:=Int) (fun x=>((x.1.1,x.1.2.2.1),(pe3 x.1))) qnv (CE:=Unit) (E:=Unit) (fun c e=>((()),(()))) (fun c=>()) (fun{R} c a nx dn rt=>ij c.1 c.2 a nx dn rt)],bj 19 tt [] [.tmp 4] yb (fun x=>x.1.1)⟩
theorem z0:CtxM Tryz.prog z5:=eo fits ax (mC qy6 m0)
theorem qpx:al Tryz.prog z5 0 (lc 0 Tryz.f79 37):=lp rfl z0 .z s0 (fun c a=>((c.1,(()),c.2,a,()),(()))) (fun y=>((),()))
abbrev z4:Mdl:=(aq (.cons (.d false qT1) (.cons (.fn 119 .nil) .nil)) [] [] 1 yb (B:=Int) (fun b=>((b,()),(()))) (fun a=>pu a.1.1))
theorem qnx:MdlOK Tryz.prog 79 z4:=ek Tryz.func79 rfl z0 (.two .z (.two (.two .z (.s 0)) .z)) (sC qpx s0)
def sr:Shp:=⟨[qv9],[]⟩
abbrev qly:Ctx (Bool):=⟨9,tt,false,false,[],d5 [(79,z4)],ed [],bj 9 tt [] [.tmp 4] sr (fun x=>x.1.1)⟩
theorem qlx:CtxM Tryz.prog qly:=eo fits ax (mC qnx m0)
abbrev t7:Mdl:=(aq (.cons (.d false qT1) (.cons (.fn 119 .nil) .nil)) [] [] 1 sr (B:=Bool) (fun b=>((b,()),(()))) (fun a=>ig a.1.1))
theorem qht:MdlOK Tryz.prog 32 t7:=ek Tryz.func32 rfl qlx .z s0
def qri:Shp:=⟨[qv9],[]⟩
abbrev q8b:Ctx (Bool):=⟨15,tt,false,false,[],d5 [(32,t7)],ed [],bj 15 tt [] [.tmp 4] qri (fun x=>x.1.1)⟩
theorem q8a:CtxM Tryz.prog q8b:=eo fits ax (mC qht m0)
abbrev qth:Mdl:=(aq (.cons (.d false dj.ty) (.cons (.d false qT1) .nil)) [] [] 1 qri (B:=Bool) (fun b=>((b,()),(()))) (fun a=>qba a.1.1 a.1.2.1))
theorem q4t:MdlOK Tryz.prog 75 qth:=ek Tryz.func75 rfl q8a .z s0
def qti:Shp:=⟨[qv9],[]⟩
abbrev jaa:Ctx (Bool):=⟨8,tt,false,false,[],d5 [(35,b8)],ed [],bj 8 tt [] [.tmp 3] qti (fun x=>x.1.1)⟩
theorem q99:CtxM Tryz.prog jaa:=eo fits ax (mC bv m0)
abbrev quy:Mdl:=(aq (.cons (.d false ab.ty) (.cons (.rp false qT0) .nil)) [] [] 1 qti (B:=Bool) (fun b=>((b,()),(()))) (fun a=>qk9 a.1.1 a.1.2.1))
theorem q5v:MdlOK Tryz.prog 120 quy:=ek Tryz.func120 rfl q99 .z s0
def l8:Shp:=⟨[jee],[]⟩
abbrev mn:Ctx (Int):=⟨19,tt,false,false,[],d5 [(120,quy)],ed [af _ 19 [] zr (C:=((List ab)×Int×Int)) (S:=Int) (fun x=>((x.1.1,x.1.2.1.1,x.1.2.2.1),(pe3 x.1))) zq (CE:=Unit) (E:=Unit) (fun c e=>((()),(()))) (fun c=>()) (fun{R} c a nx dn rt=>dl c.1 c.2.1 c.2.2 a nx dn rt)],bj 19 tt [] [.tmp 4] l8 (fun x=>x.1.1)⟩
theorem mj:CtxM Tryz.prog mn:=eo fits ax (mC q5v m0)
theorem qbl:al Tryz.prog mn 0 (lc 0 Tryz.f83 37):=lp rfl mj .z s0 (fun c a=>((c.1,(c.2.1,()),c.2.2,a,()),(()))) (fun y=>((),()))
abbrev mm:Mdl:=(aq (.cons (.d false (.slice ab.ty)) (.cons (.fn 120 (.cons (.rp false qT0) .nil)) .nil)) [] [] 1 l8 (B:=Int) (fun b=>((b,()),(()))) (fun a=>gn a.1.1 a.1.2.1.1))
theorem zt:MdlOK Tryz.prog 83 mm:=ek Tryz.func83 rfl mj (.two .z (.two (.two .z (.s 0)) .z)) (sC qbl s0)
def kb:Shp:=⟨[qv9],[]⟩
abbrev xy:Ctx (Bool):=⟨9,tt,false,false,[],d5 [(83,mm)],ed [],bj 9 tt [] [.tmp 4] kb (fun x=>x.1.1)⟩
theorem xx:CtxM Tryz.prog xy:=eo fits ax (mC zt m0)
abbrev ky:Mdl:=(aq (.cons (.d false (.slice ab.ty)) (.cons (.fn 120 (.cons (.rp false qT0) .nil)) .nil)) [] [] 1 kb (B:=Bool) (fun b=>((b,()),(()))) (fun a=>dk a.1.1 a.1.2.1.1))
theorem vb:MdlOK Tryz.prog 39 ky:=ek Tryz.func39 rfl xx .z s0
def qwp:Shp:=⟨[qv9],[]⟩
abbrev qzb:Ctx (Bool):=⟨15,tt,false,false,[],d5 [(39,ky)],ed [af _ 15 [] q98 (C:=(Int×Int×(List ab)×Int×Int)) (S:=Int) (fun x=>((x.1.2.1,x.2.1.1,x.2.1.2.1,x.2.1.2.2.1,(pe3 x.2.1)),x.1.2.2.1)) q97 (CE:=Unit) (E:=Unit) (fun c e=>((()),(()))) (fun c=>()) (fun{R} c a nx dn rt=>rf c.1 c.2.1 c.2.2.1 (pe3 c) (pf4 c) a nx dn rt)],bj 15 tt [] [.tmp 2] qwp (fun x=>x.1.1)⟩
theorem qy9:CtxM Tryz.prog qzb:=eo fits ax (mC vb m0)
theorem jb7:al Tryz.prog qzb 0 (lc 0 Tryz.f76 37):=lp rfl qy9 .z s0 (fun c a=>(((),c.1,a,()),((c.2.1,c.2.2.1,(pe3 c),(pf4 c),()),()))) (fun y=>((),()))
abbrev qza:Mdl:=(aq (.cons (.d false dj.ty) .nil) [] [] 1 qwp (B:=Bool) (fun b=>((b,()),(()))) (fun a=>qbw a.1.1))
theorem jab:MdlOK Tryz.prog 76 qza:=ek Tryz.func76 rfl qy9 (.two .z (.two (.two .z (.s 0)) .z)) (sC jb7 s0)
def qw3:Shp:=⟨[qv9],[]⟩
abbrev jgk:Ctx (Bool):=⟨9,tt,false,false,[],d5 [],ed [],bj 9 tt [] [.tmp 2] qw3 (fun x=>x.1.1)⟩
theorem jgj:CtxM Tryz.prog jgk:=eo fits ax m0
abbrev qzx:Mdl:=(aq (.cons (.d false qT0) .nil) [] [] 1 qw3 (B:=Bool) (fun b=>((b,()),(()))) (fun a=>qst a.1.1))
theorem jap:MdlOK Tryz.prog 126 qzx:=ek Tryz.func126 rfl jgj .z s0
def yd:Shp:=⟨[jee],[]⟩
abbrev z8:Ctx (Int):=⟨19,tt,false,false,[],d5 [(126,qzx)],ed [af _ 19 [] qnz (C:=(qL1×Int)) (S:=Int) (fun x=>((x.1.1,x.1.2.2.1),(pe3 x.1))) qny (CE:=Unit) (E:=Unit) (fun c e=>((()),(()))) (fun c=>()) (fun{R} c a nx dn rt=>il c.1 c.2 a nx dn rt)],bj 19 tt [] [.tmp 4] yd (fun x=>x.1.1)⟩
theorem z6:CtxM Tryz.prog z8:=eo fits ax (mC jap m0)
theorem qpy:al Tryz.prog z8 0 (lc 0 Tryz.f79 37):=lp rfl z6 .z s0 (fun c a=>((c.1,(()),c.2,a,()),(()))) (fun y=>((),()))
abbrev z7:Mdl:=(aq (.cons (.d false qT1) (.cons (.fn 126 .nil) .nil)) [] [] 1 yd (B:=Int) (fun b=>((b,()),(()))) (fun a=>pw a.1.1))
theorem qn0:MdlOK Tryz.prog 79 z7:=ek Tryz.func79 rfl z6 (.two .z (.two (.two .z (.s 0)) .z)) (sC qpy s0)
def ss:Shp:=⟨[qv9],[]⟩
abbrev ql0:Ctx (Bool):=⟨9,tt,false,false,[],d5 [(79,z7)],ed [],bj 9 tt [] [.tmp 4] ss (fun x=>x.1.1)⟩
theorem qlz:CtxM Tryz.prog ql0:=eo fits ax (mC qn0 m0)
abbrev t8:Mdl:=(aq (.cons (.d false qT1) (.cons (.fn 126 .nil) .nil)) [] [] 1 ss (B:=Bool) (fun b=>((b,()),(()))) (fun a=>ii a.1.1))
theorem qhu:MdlOK Tryz.prog 32 t8:=ek Tryz.func32 rfl qlz .z s0
def q3r:Shp:=⟨[qv9],[]⟩
abbrev jnp:Ctx (Bool):=⟨19,tt,false,false,[],d5 [(41,j5),(32,t8)],ed [],bj 19 tt [] [.tmp 4] q3r (fun x=>x.1.1)⟩
theorem jno:CtxM Tryz.prog jnp:=eo fits ax (mC iv (mC qhu m0))
abbrev q6e:Mdl:=(aq (.cons (.d false dj.ty) (.cons (.d false qT1) .nil)) [] [] 1 q3r (B:=Bool) (fun b=>((b,()),(()))) (fun a=>qq1 a.1.1 a.1.2.1))
theorem jgl:MdlOK Tryz.prog 81 q6e:=ek Tryz.func81 rfl jno .z s0
def qw2:Shp:=⟨[qv9],[]⟩
abbrev jgh:Ctx (Bool):=⟨9,tt,false,false,[],d5 [],ed [],bj 9 tt [] [.tmp 3] qw2 (fun x=>x.1.1)⟩
theorem jgg:CtxM Tryz.prog jgh:=eo fits ax m0
abbrev qzw:Mdl:=(aq (.cons (.d false qT0) (.cons (.rp false qT1) .nil)) [] [] 1 qw2 (B:=Bool) (fun b=>((b,()),(()))) (fun a=>qss a.1.1 a.1.2.1))
theorem jao:MdlOK Tryz.prog 127 qzw:=ek Tryz.func127 rfl jgg .z s0
def yf:Shp:=⟨[jee],[]⟩
abbrev qab:Ctx (Int):=⟨19,tt,false,false,[],d5 [(127,qzw)],ed [af _ 19 [] qn2 (C:=(qL1×qL1×Int)) (S:=Int) (fun x=>((x.1.1,x.1.2.1.1,x.1.2.2.1),(pe3 x.1))) qn1 (CE:=Unit) (E:=Unit) (fun c e=>((()),(()))) (fun c=>()) (fun{R} c a nx dn rt=>im c.1 c.2.1 c.2.2 a nx dn rt)],bj 19 tt [] [.tmp 4] yf (fun x=>x.1.1)⟩
theorem z9:CtxM Tryz.prog qab:=eo fits ax (mC jao m0)
theorem qpz:al Tryz.prog qab 0 (lc 0 Tryz.f79 37):=lp rfl z9 .z s0 (fun c a=>((c.1,(c.2.1,()),c.2.2,a,()),(()))) (fun y=>((),()))
abbrev qaa:Mdl:=(aq (.cons (.d false qT1) (.cons (.fn 127 (.cons (.rp false qT1) .nil)) .nil)) [] [] 1 yf (B:=Int) (fun b=>((b,()),(()))) (fun a=>px a.1.1 a.1.2.1.1))
theorem qn3:MdlOK Tryz.prog 79 qaa:=ek Tryz.func79 rfl z9 (.two .z (.two (.two .z (.s 0)) .z)) (sC qpz s0)
def su:Shp:=⟨[qv9],[]⟩
abbrev ql2:Ctx (Bool):=⟨9,tt,false,false,[],d5 [(79,qaa)],ed [],bj 9 tt [] [.tmp 4] su (fun x=>x.1.1)⟩
theorem ql1:CtxM Tryz.prog ql2:=eo fits ax (mC qn3 m0)
abbrev t9:Mdl:=(aq (.cons (.d false qT1) (.cons (.fn 127 (.cons (.rp false qT1) .nil)) .nil)) [] [] 1 su (B:=Bool) (fun b=>((b,()),(()))) (fun a=>mz a.1.1 a.1.2.1.1))
theorem qhv:MdlOK Tryz.prog 32 t9:=ek Tryz.func32 rfl ql1 .z s0
def q3q:Shp:=⟨[qv9],[]⟩
abbrev jnn:Ctx (Bool):=⟨10,tt,false,false,[],d5 [(32,t9)],ed [],bj 10 tt [] [.tmp 4] q3q (fun x=>x.1.1)⟩
theorem jnm:CtxM Tryz.prog jnn:=eo fits ax (mC qhv m0)
abbrev q6d:Mdl:=(aq (.cons (.d false ab.ty) (.cons (.d false qT1) .nil)) [] [] 1 q3q (B:=Bool) (fun b=>((b,()),(()))) (fun a=>qq0 a.1.1 a.1.2.1))
theorem jgi:MdlOK Tryz.prog 82 q6d:=ek Tryz.func82 rfl jnm .z s0
def q3n:Shp:=⟨[zkq,q0x],[qrs]⟩
abbrev q6b:Ctx ((Int×qL1)):=⟨30,tt,false,false,[],d5 [(81,q6e),(82,q6d)],ed [af _ 30 [] jgb (C:=(qL1×(List ab)×Int)) (S:=(Int×qL1)) (fun x=>((x.1.1,x.1.2.2.1,(pe3 x.1)),((pe4 x.1),x.2.1))) jga (CE:=Unit) (E:=qL1) (fun c e=>(((),()),(e,()))) (fun c=>()) (fun{R} c a nx dn rt=>xt c.1 c.2.1 c.2.2 a.1 a.2 nx dn rt)],bj 30 tt [] [.tmp 4, .tmp 5] q3n (fun x=>(x.1.2.1,x.2.1))⟩
theorem q6a:CtxM Tryz.prog q6b:=eo fits ax (mC jgl (mC jgi m0))
theorem jj3:al Tryz.prog q6b 0 (lc 0 Tryz.f37 151):=lp rfl q6a .z s0 (fun c a=>((c.1,(),c.2.1,c.2.2,a.1,()),(a.2,()))) (fun y=>((),y.2.1))
abbrev qva:Mdl:=(aq (.cons (.d false dj.ty) (.cons (.d false qT1) .nil)) [] [] 2 q3n (B:=(Int×qL1)) (fun b=>(((),b.1,()),(b.2,()))) (fun a=>qcw a.1.1 a.1.2.1))
theorem qzt:MdlOK Tryz.prog 37 qva:=ek Tryz.func37 rfl q6a (.two .z (.two .z (.two .z (.two (.two .z (.s 0)) .z)))) (sC jj3 s0)
def q68:Shp:=⟨[qv9],[]⟩
abbrev jpm:Ctx (Bool):=⟨15,tt,false,false,[],d5 [(37,qva)],ed [],bj 15 tt [] [.tmp 4] q68 (fun x=>x.1.1)⟩
theorem jpl:CtxM Tryz.prog jpm:=eo fits ax (mC qzt m0)
abbrev q9r:Mdl:=(aq (.cons (.d false dj.ty) (.cons (.d false qT1) .nil)) [] [] 1 q68 (B:=Bool) (fun b=>((b,()),(()))) (fun a=>que a.1.1 a.1.2.1))
theorem jkx:MdlOK Tryz.prog 121 q9r:=ek Tryz.func121 rfl jpl .z s0
def q9n:Shp:=⟨[(0, .d true qT1),zac],[]⟩
abbrev js3:Ctx ((qL1×qL1)):=⟨15,tt,false,false,[],d5 [],ed [],bj 15 tt [] [.tmp 4, .tmp 5] q9n (fun x=>(x.1.1,x.1.2.1))⟩
theorem js2:CtxM Tryz.prog js3:=eo fits ax m0
abbrev q2h:Mdl:=(aq (.cons (.d true ab.ty) (.cons (.d false .bool) .nil)) [] [] 2 q9n (B:=(qL1×qL1)) (fun b=>((b.1,b.2,()),(()))) (fun a=>qrx a.1.1 a.1.2.1))
theorem q63:MdlOK Tryz.prog 156 q2h:=ek Tryz.func156 rfl js2 (.two .z (.two (.two .z (.two (.two (.d [0,1,0,4,3,31] [] []) .z) .z)) (.two (.d [0,1,0,4,3,31] [] []) .z))) s0
def q0d:Shp:=⟨[qv9],[]⟩
abbrev jkw:Ctx (Bool):=⟨7,tt,false,false,[],d5 [(35,b8)],ed [],bj 7 tt [] [.tmp 3] q0d (fun x=>x.1.1)⟩
theorem jkv:CtxM Tryz.prog jkw:=eo fits ax (mC bv m0)
abbrev q33:Mdl:=(aq (.cons (.d false qT0) (.cons (.rp false qT1) .nil)) [] [] 1 q0d (B:=Bool) (fun b=>((b,()),(()))) (fun a=>qvl a.1.1 a.1.2.1))
theorem jds:MdlOK Tryz.prog 181 q33:=ek Tryz.func181 rfl jkv .z s0
def yp:Shp:=⟨[jee],[]⟩
abbrev qaw:Ctx (Int):=⟨19,tt,false,false,[],d5 [(181,q33)],ed [af _ 19 [] qon (C:=(qL1×qL1×Int)) (S:=Int) (fun x=>((x.1.1,x.1.2.1.1,x.1.2.2.1),(pe3 x.1))) qom (CE:=Unit) (E:=Unit) (fun c e=>((()),(()))) (fun c=>()) (fun{R} c a nx dn rt=>iq c.1 c.2.1 c.2.2 a nx dn rt)],bj 19 tt [] [.tmp 4] yp (fun x=>x.1.1)⟩
theorem qau:CtxM Tryz.prog qaw:=eo fits ax (mC jds m0)
theorem qqa:al Tryz.prog qaw 0 (lc 0 Tryz.f79 37):=lp rfl qau .z s0 (fun c a=>((c.1,(c.2.1,()),c.2.2,a,()),(()))) (fun y=>((),()))
abbrev qav:Mdl:=(aq (.cons (.d false qT1) (.cons (.fn 181 (.cons (.rp false qT1) .nil)) .nil)) [] [] 1 yp (B:=Int) (fun b=>((b,()),(()))) (fun a=>p4 a.1.1 a.1.2.1.1))
theorem qoo:MdlOK Tryz.prog 79 qav:=ek Tryz.func79 rfl qau (.two .z (.two (.two .z (.s 0)) .z)) (sC qqa s0)
def s6:Shp:=⟨[qv9],[]⟩
abbrev qme:Ctx (Bool):=⟨9,tt,false,false,[],d5 [(79,qav)],ed [],bj 9 tt [] [.tmp 4] s6 (fun x=>x.1.1)⟩
theorem qmd:CtxM Tryz.prog qme:=eo fits ax (mC qoo m0)
abbrev uf:Mdl:=(aq (.cons (.d false qT1) (.cons (.fn 181 (.cons (.rp false qT1) .nil)) .nil)) [] [] 1 s6 (B:=Bool) (fun b=>((b,()),(()))) (fun a=>m5 a.1.1 a.1.2.1.1))
theorem qh1:MdlOK Tryz.prog 32 uf:=ek Tryz.func32 rfl qmd .z s0
def q67:Shp:=⟨[qv9],[]⟩
abbrev jpk:Ctx (Bool):=⟨8,tt,false,false,[],d5 [(32,uf)],ed [],bj 8 tt [] [.tmp 4] q67 (fun x=>x.1.1)⟩
theorem jpj:CtxM Tryz.prog jpk:=eo fits ax (mC qh1 m0)
abbrev qx6:Mdl:=(aq (.cons (.d false qT1) (.cons (.d false qT1) .nil)) [] [] 1 q67 (B:=Bool) (fun b=>((b,()),(()))) (fun a=>qfl a.1.1 a.1.2.1))
theorem q34:MdlOK Tryz.prog 157 qx6:=ek Tryz.func157 rfl jpj .z s0
def qxb:Shp:=⟨[qv9],[]⟩
abbrev jhg:Ctx (Bool):=⟨22,tt,false,false,[],d5 [(156,q2h),(157,qx6)],ed [],bj 22 tt [] [.tmp 4] qxb (fun x=>x.1.1)⟩
theorem jhf:CtxM Tryz.prog jhg:=eo fits ax (mC q63 (mC q34 m0))
abbrev q0a:Mdl:=(aq (.cons (.d false ab.ty) (.cons (.rp false .bool) (.cons (.rp false qT1) .nil))) [] [] 1 qxb (B:=Bool) (fun b=>((b,()),(()))) (fun a=>qhk a.1.1 a.1.2.1 a.1.2.2.1))
theorem jau:MdlOK Tryz.prog 180 q0a:=ek Tryz.func180 rfl jhf .z s0
def ma:Shp:=⟨[jee],[]⟩
abbrev mt:Ctx (Int):=⟨19,tt,false,false,[],d5 [(180,q0a)],ed [af _ 19 [] zy (C:=((List ab)×Bool×qL1×Int)) (S:=Int) (fun x=>((x.1.1,x.1.2.1.1,x.1.2.1.2.1,x.1.2.2.1),(pe3 x.1))) zx (CE:=Unit) (E:=Unit) (fun c e=>((()),(()))) (fun c=>()) (fun{R} c a nx dn rt=>dp c.1 c.2.1 c.2.2.1 c.2.2.2 a nx dn rt)],bj 19 tt [] [.tmp 4] ma (fun x=>x.1.1)⟩
theorem mq:CtxM Tryz.prog mt:=eo fits ax (mC jau m0)
theorem qbm:al Tryz.prog mt 0 (lc 0 Tryz.f83 37):=lp rfl mq .z s0 (fun c a=>((c.1,(c.2.1,c.2.2.1,()),c.2.2.2,a,()),(()))) (fun y=>((),()))
abbrev mr:Mdl:=(aq (.cons (.d false (.slice ab.ty)) (.cons (.fn 180 (.cons (.rp false .bool) (.cons (.rp false qT1) .nil))) .nil)) [] [] 1 ma (B:=Int) (fun b=>((b,()),(()))) (fun a=>gp a.1.1 a.1.2.1.1 a.1.2.1.2.1))
theorem zz:MdlOK Tryz.prog 83 mr:=ek Tryz.func83 rfl mq (.two .z (.two (.two .z (.s 0)) .z)) (sC qbm s0)
def kc:Shp:=⟨[qv9],[]⟩
abbrev x4:Ctx (Bool):=⟨9,tt,false,false,[],d5 [(83,mr)],ed [],bj 9 tt [] [.tmp 4] kc (fun x=>x.1.1)⟩
theorem xz:CtxM Tryz.prog x4:=eo fits ax (mC zz m0)
abbrev kz:Mdl:=(aq (.cons (.d false (.slice ab.ty)) (.cons (.fn 180 (.cons (.rp false .bool) (.cons (.rp false qT1) .nil))) .nil)) [] [] 1 kc (B:=Bool) (fun b=>((b,()),(()))) (fun a=>fx a.1.1 a.1.2.1.1 a.1.2.1.2.1))
theorem ve:MdlOK Tryz.prog 39 kz:=ek Tryz.func39 rfl xz .z s0
def q31:Shp:=⟨[qv9],[]⟩
abbrev jn8:Ctx (Bool):=⟨12,tt,false,false,[],d5 [(39,kz)],ed [],bj 12 tt [] [.tmp 6] q31 (fun x=>x.1.1)⟩
theorem jn7:CtxM Tryz.prog jn8:=eo fits ax (mC ve m0)
abbrev q62:Mdl:=(aq (.cons (.d false dj.ty) (.cons (.d false qT1) (.cons (.d false .bool) .nil))) [] [] 1 q31 (B:=Bool) (fun b=>((b,()),(()))) (fun a=>qq5 a.1.1 a.1.2.1 a.1.2.2.1))
theorem jhh:MdlOK Tryz.prog 155 q62:=ek Tryz.func155 rfl jn7 .z s0
def qtm:Shp:=⟨[qv9],[]⟩
abbrev ja0:Ctx (Bool):=⟨7,tt,false,false,[],d5 [(35,b8)],ed [],bj 7 tt [] [.tmp 3] qtm (fun x=>x.1.1)⟩
theorem jaz:CtxM Tryz.prog ja0:=eo fits ax (mC bv m0)
abbrev qhs:Mdl:=(aq (.cons (.d false qT0) (.cons (.rp false qT1) .nil)) [] [] 1 qtm (B:=Bool) (fun b=>((b,()),(()))) (fun a=>t6 a.1.1 a.1.2.1))
theorem qry:MdlOK Tryz.prog 159 qhs:=ek Tryz.func159 rfl jaz .z s0
def ym:Shp:=⟨[jee],[]⟩
abbrev qaq:Ctx (Int):=⟨19,tt,false,false,[],d5 [(159,qhs)],ed [af _ 19 [] qoh (C:=(qL1×qL1×Int)) (S:=Int) (fun x=>((x.1.1,x.1.2.1.1,x.1.2.2.1),(pe3 x.1))) qog (CE:=Unit) (E:=Unit) (fun c e=>((()),(()))) (fun c=>()) (fun{R} c a nx dn rt=>ip c.1 c.2.1 c.2.2 a nx dn rt)],bj 19 tt [] [.tmp 4] ym (fun x=>x.1.1)⟩
theorem qao:CtxM Tryz.prog qaq:=eo fits ax (mC qry m0)
theorem qp7:al Tryz.prog qaq 0 (lc 0 Tryz.f79 37):=lp rfl qao .z s0 (fun c a=>((c.1,(c.2.1,()),c.2.2,a,()),(()))) (fun y=>((),()))
abbrev qap:Mdl:=(aq (.cons (.d false qT1) (.cons (.fn 159 (.cons (.rp false qT1) .nil)) .nil)) [] [] 1 ym (B:=Int) (fun b=>((b,()),(()))) (fun a=>j6 a.1.1 a.1.2.1.1))
theorem qoi:MdlOK Tryz.prog 79 qap:=ek Tryz.func79 rfl qao (.two .z (.two (.two .z (.s 0)) .z)) (sC qp7 s0)
def vz:Shp:=⟨[q5w],[qrs]⟩
abbrev x9:Ctx (qL1):=⟨42,tt,false,false,[false],d5 [(79,qap),(159,qhs)],ed [af _ 42 [false] qmg (C:=qL1) (S:=(Int×Int×qL1)) (fun x=>(x.1.2.1.1,(x.1.2.2.1,(pe3 x.1),x.2.1))) qmf (CE:=Unit) (E:=(Int×qL1)) (fun c e=>(((),e.1,()),(e.2,()))) (fun c=>()) (fun{R} c a nx dn rt=>eq c a.1 a.2.1 a.2.2 nx dn rt)],bj 42 tt [false] [.tmp 4] vz (fun x=>x.2.1)⟩
theorem x7:CtxM Tryz.prog x9:=eo fits ax (mC qoi (mC qry m0))
theorem qnu:al Tryz.prog x9 0 (lc 0 Tryz.f158 151):=lp rfl x7 .z s0 (fun c a=>(((),(c,()),a.1,a.2.1,()),(a.2.2,()))) (fun y=>((),(y.1.2.1,y.2.1)))
abbrev x8:Mdl:=(aq (.cons (.own 0) (.cons (.fn 159 (.cons (.rp false qT1) .nil)) .nil)) [qrs] [false] 1 vz (B:=qL1) (fun b=>(((),()),(b,()))) (fun a=>jy a.1.2.1.1 a.2.1))
theorem qmh:MdlOK Tryz.prog 158 x8:=ek Tryz.func158 rfl x7 (.two .z (.two .z (.two .z (.two (.two .z (.s 0)) .z)))) (sC qnu s0)
def qxe:Shp:=⟨[q5w],[qrs]⟩
abbrev qpv:Ctx (qL1):=⟨44,tt,false,false,[],d5 [(45,gm),(155,q62),(156,q2h),(157,qx6),(158,x8)],ed [af _ 44 [] jaw (C:=(Bool×(List ab)×Int×Int×(List ab)×Int×Int)) (S:=(Int×qL1)) (fun x=>((x.1.1,(pe3 x.1),(pe4 x.1),x.2.1.1,x.2.1.2.1,x.2.1.2.2.1,(pe3 x.2.1)),((pe5 x.1),x.2.2.1))) jav (CE:=(Bool×Int×(List ab)×Int×Int)) (E:=qL1) (fun c e=>((c.1,(),(),()),((c.2.1,c.2.2.1,(pe3 c),(pf4 c),()),e,()))) (fun c=>(c.1,(pe3 c),(pe4 c),(pe5 c),(pf6 c))) (fun{R} c a nx dn rt=>qbh c.1 c.2.1 c.2.2.1 (pe3 c) (pe4 c) (pe5 c) (pf6 c) a.1 a.2 nx dn rt),af _ 44 [] jay (C:=(Bool×Int×(List ab)×Int×Int)) (S:=qL1) (fun x=>((x.1.1,x.2.1.1,x.2.1.2.1,x.2.1.2.2.1,(pe3 x.2.1)),x.2.2.1)) jax (CE:=Unit) (E:=qL1) (fun c e=>(((),()),(e,()))) (fun c=>()) (fun{R} c a nx dn rt=>qbi c.1 c.2.1 c.2.2.1 (pe3 c) (pf4 c) a nx dn rt)],bj 44 tt [] [.tmp 6] qxe (fun x=>x.2.1)⟩
theorem qpu:CtxM Tryz.prog qpv:=eo fits ax (mC ic (mC jhh (mC q63 (mC q34 (mC qmh m0)))))
theorem jdq:al Tryz.prog qpv 0 (lc 2 Tryz.f123 1187):=lp rfl qpu .z s0 (fun c a=>((c.1,(),(),c.2.1,c.2.2.1,a.1,()),(((pe3 c),(pe4 c),(pe5 c),(pf6 c),()),a.2,()))) (fun y=>((y.1.1,y.2.1.1,y.2.1.2.1,y.2.1.2.2.1,(pe3 y.2.1)),y.2.2.1))
theorem jdr:al Tryz.prog qpv 1 (lc 0 Tryz.f123 35):=lp rfl qpu (.two .z (.one (.two .z (.s 0)))) (sC jdq s0) (fun c a=>((c.1,(),(),()),((c.2.1,c.2.2.1,(pe3 c),(pf4 c),()),a,()))) (fun y=>((),y.2.1))
abbrev q0b:Mdl:=(aq (.cons (.d false dj.ty) (.cons (.d false qT1) (.cons (.d false .bool) .nil))) [] [] 1 qxe (B:=qL1) (fun b=>(((),()),(b,()))) (fun a=>tv a.1.1 a.1.2.1 a.1.2.2.1))
theorem ja1:MdlOK Tryz.prog 123 q0b:=ek Tryz.func123 rfl qpu (.two .z (.two .z (.two (.s 1) .z))) (sC jdr s0)
def qxf:Shp:=⟨[qv9],[]⟩
abbrev jhj:Ctx (Bool):=⟨9,tt,false,false,[],d5 [],ed [],bj 9 tt [] [.tmp 3] qxf (fun x=>x.1.1)⟩
theorem jhi:CtxM Tryz.prog jhj:=eo fits ax m0
abbrev q0c:Mdl:=(aq (.cons (.d false qT0) (.cons (.rp false qT1) .nil)) [] [] 1 qxf (B:=Bool) (fun b=>((b,()),(()))) (fun a=>qsy a.1.1 a.1.2.1))
theorem ja2:MdlOK Tryz.prog 154 q0c:=ek Tryz.func154 rfl jhi .z s0
def yk:Shp:=⟨[jee],[]⟩
abbrev qan:Ctx (Int):=⟨19,tt,false,false,[],d5 [(154,q0c)],ed [af _ 19 [] qoe (C:=(qL1×qL1×Int)) (S:=Int) (fun x=>((x.1.1,x.1.2.1.1,x.1.2.2.1),(pe3 x.1))) qod (CE:=Unit) (E:=Unit) (fun c e=>((()),(()))) (fun c=>()) (fun{R} c a nx dn rt=>io c.1 c.2.1 c.2.2 a nx dn rt)],bj 19 tt [] [.tmp 4] yk (fun x=>x.1.1)⟩
theorem qal:CtxM Tryz.prog qan:=eo fits ax (mC ja2 m0)
theorem qp6:al Tryz.prog qan 0 (lc 0 Tryz.f79 37):=lp rfl qal .z s0 (fun c a=>((c.1,(c.2.1,()),c.2.2,a,()),(()))) (fun y=>((),()))
abbrev qam:Mdl:=(aq (.cons (.d false qT1) (.cons (.fn 154 (.cons (.rp false qT1) .nil)) .nil)) [] [] 1 yk (B:=Int) (fun b=>((b,()),(()))) (fun a=>pz a.1.1 a.1.2.1.1))
theorem qof:MdlOK Tryz.prog 79 qam:=ek Tryz.func79 rfl qal (.two .z (.two (.two .z (.s 0)) .z)) (sC qp6 s0)
def s4:Shp:=⟨[qv9],[]⟩
abbrev qma:Ctx (Bool):=⟨9,tt,false,false,[],d5 [(79,qam)],ed [],bj 9 tt [] [.tmp 4] s4 (fun x=>x.1.1)⟩
theorem ql9:CtxM Tryz.prog qma:=eo fits ax (mC qof m0)
abbrev ud:Mdl:=(aq (.cons (.d false qT1) (.cons (.fn 154 (.cons (.rp false qT1) .nil)) .nil)) [] [] 1 s4 (B:=Bool) (fun b=>((b,()),(()))) (fun a=>m4 a.1.1 a.1.2.1.1))
theorem qhz:MdlOK Tryz.prog 32 ud:=ek Tryz.func32 rfl ql9 .z s0
def q32:Shp:=⟨[qv9],[]⟩
abbrev joa:Ctx (Bool):=⟨8,tt,false,false,[],d5 [(32,ud)],ed [],bj 8 tt [] [.tmp 4] q32 (fun x=>x.1.1)⟩
theorem jn9:CtxM Tryz.prog joa:=eo fits ax (mC qhz m0)
abbrev q64:Mdl:=(aq (.cons (.d false qT1) (.cons (.d false qT1) .nil)) [] [] 1 q32 (B:=Bool) (fun b=>((b,()),(()))) (fun a=>qq6 a.1.1 a.1.2.1))
theorem jhk:MdlOK Tryz.prog 122 q64:=ek Tryz.func122 rfl jn9 .z s0
def qw9:Shp:=⟨[qv9,zac,q7w],[]⟩
abbrev qz6:Ctx ((Bool×qL1×Int)):=⟨37,tt,false,false,[],d5 [(121,q9r),(64,qsw),(123,q0b),(122,q64)],ed [af _ 37 [] jas (C:=(qL1×qL2×Int×Int×(List ab)×Int×Int)) (S:=Int) (fun x=>((x.1.1,x.1.2.2.1,(pe3 x.1),x.2.1.1,x.2.1.2.1,x.2.1.2.2.1,(pe3 x.2.1)),(pe4 x.1))) jar (CE:=Unit) (E:=Unit) (fun c e=>((()),(()))) (fun c=>()) (fun{R} c a nx dn rt=>qbg c.1 c.2.1 c.2.2.1 (pe3 c) (pe4 c) (pe5 c) (pf6 c) a nx dn rt)],bj 37 tt [] [.tmp 4, .tmp 5, .tmp 6] qw9 (fun x=>(x.1.1,x.1.2.1,x.1.2.2.1))⟩
theorem qz4:CtxM Tryz.prog qz6:=eo fits ax (mC jkx (mC qxa (mC ja1 (mC jhk m0))))
theorem jdj:al Tryz.prog qz6 0 (lc 0 Tryz.f77 303):=lp rfl qz4 .z s0 (fun c a=>((c.1,(),c.2.1,c.2.2.1,a,()),(((pe3 c),(pe4 c),(pe5 c),(pf6 c),()),()))) (fun y=>((),()))
abbrev qz5:Mdl:=(aq (.cons (.d false dj.ty) (.cons (.d false qT1) .nil)) [] [] 3 qw9 (B:=(Bool×qL1×Int)) (fun b=>((b.1,b.2.1,b.2.2,()),(()))) (fun a=>qhj a.1.1 a.1.2.1))
theorem jat:MdlOK Tryz.prog 77 qz5:=ek Tryz.func77 rfl qz4 (.two .z (.two .z (.two .z (.two .z (.two (.two .z (.s 0)) .z))))) (sC jdj s0)
def qwm:Shp:=⟨[qv9,zac,q7w],[]⟩
abbrev jfa:Ctx ((Bool×qL1×Int)):=⟨32,tt,false,false,[],d5 [(41,j5),(75,qth),(42,rc),(76,qza),(77,qz5)],ed [],bj 32 tt [] [.tmp 4, .tmp 5, .tmp 6] qwm (fun x=>(x.1.1,x.1.2.1,x.1.2.2.1))⟩
theorem je9:CtxM Tryz.prog jfa:=eo fits ax (mC iv (mC q4t (mC tz (mC jab (mC jat m0)))))
abbrev qyx:Mdl:=(aq (.cons (.d false dj.ty) (.cons (.d false qT1) .nil)) [] [] 3 qwm (B:=(Bool×qL1×Int)) (fun b=>((b.1,b.2.1,b.2.2,()),(()))) (fun a=>qsn a.1.1 a.1.2.1))
theorem q96:MdlOK Tryz.prog 29 qyx:=ek Tryz.func29 rfl je9 .z s0
def q6m:Shp:=⟨[qv9],[]⟩
abbrev jpa:Ctx (Bool):=⟨17,tt,false,false,[],d5 [],ed [],bj 17 tt [] [.tmp 2] q6m (fun x=>x.1.1)⟩
theorem jo9:CtxM Tryz.prog jpa:=eo fits ax m0
abbrev q9c:Mdl:=(aq (.cons (.d false (.int .u8)) .nil) [] [] 1 q6m (B:=Bool) (fun b=>((b,()),(()))) (fun a=>qlm a.1.1))
theorem jkg:MdlOK Tryz.prog 91 q9c:=ek Tryz.func91 rfl jo9 .z s0
def q6l:Shp:=⟨[qv9],[]⟩
abbrev q9b:Ctx (Bool):=⟨52,tt,false,false,[],d5 [(91,q9c)],ed [af _ 52 [] jke (C:=ByteArray) (S:=Int) (fun x=>(x.1.1,x.1.2.1)) jkd (CE:=Unit) (E:=Unit) (fun c e=>((()),(()))) (fun c=>()) (fun{R} c a nx dn rt=>qb2 c a nx dn rt)],bj 52 tt [] [.tmp 2] q6l (fun x=>x.1.1)⟩
theorem q89:CtxM Tryz.prog q9b:=eo fits ax (mC jkg m0)
theorem jnt:al Tryz.prog q9b 0 (lc 0 Tryz.f47 75):=lp rfl q89 .z s0 (fun c a=>((c,a,()),(()))) (fun y=>((),()))
abbrev q9a:Mdl:=(aq (.cons (.d false .str) .nil) [] [] 1 q6l (B:=Bool) (fun b=>((b,()),(()))) (fun a=>qud a.1.1))
theorem jkf:MdlOK Tryz.prog 47 q9a:=ek Tryz.func47 rfl q89 (.two .z (.two .z (.two (.two .z (.s 0)) .z))) (sC jnt s0)
def q6r:Shp:=⟨[qv9],[]⟩
abbrev q9h:Ctx (Bool):=⟨41,tt,false,false,[],d5 [],ed [af _ 41 [] jkj (C:=(Int×qL1)) (S:=Int) (fun x=>((x.1.1,x.1.2.1),x.1.2.2.1)) jki (CE:=Unit) (E:=Unit) (fun c e=>((()),(()))) (fun c=>()) (fun{R} c a nx dn rt=>tu c.1 c.2 a nx dn rt)],bj 41 tt [] [.tmp 4] q6r (fun x=>x.1.1)⟩
theorem q9f:CtxM Tryz.prog q9h:=eo fits ax m0
theorem jnz:al Tryz.prog q9h 0 (lc 0 Tryz.f48 37):=lp rfl q9f (.two .z (.two (.one (.two (.d [0,0,3,7,15,31,63,63,255,511,63,2047,4095,8191,16383,32767,65535,131071,131071,393215,1048575,2097151,131071,131071,12713983,29491199,67108863,134217727,268435455] [] []) .z)) .z)) s0 (fun c a=>((c.1,c.2,a,()),(()))) (fun y=>((),()))
abbrev q9g:Mdl:=(aq (.cons (.d false qT0) (.cons (.d false qT1) .nil)) [] [] 1 q6r (B:=Bool) (fun b=>((b,()),(()))) (fun a=>qbf a.1.1 a.1.2.1))
theorem jkk:MdlOK Tryz.prog 48 q9g:=ek Tryz.func48 rfl q9f (.two .z (.two (.two .z (.s 0)) .z)) (sC jnz s0)
def q9e:Shp:=⟨[qv9],[]⟩
abbrev jdc:Ctx (Bool):=⟨80,tt,false,false,[],d5 [(47,q9a),(48,q9g)],ed [af _ 80 [] jny (C:=(Int×(List ab)×Int×Int)) (S:=Int) (fun x=>((x.2.1.1,x.2.1.2.1,x.2.1.2.2.1,(pe3 x.2.1)),x.1.2.1)) jnx (CE:=Unit) (E:=Unit) (fun c e=>((()),(()))) (fun c=>()) (fun{R} c a nx dn rt=>qlp c.1 c.2.1 c.2.2.1 c.2.2.2 a nx dn rt)],bj 80 tt [] [.tmp 2] q9e (fun x=>x.1.1)⟩
theorem jdb:CtxM Tryz.prog jdc:=eo fits ax (mC jkf (mC jkk m0))
theorem jpb:al Tryz.prog jdc 0 (lc 0 Tryz.f15 75):=lp rfl jdb .z s0 (fun c a=>(((),a,()),((c.1,c.2.1,c.2.2.1,c.2.2.2,()),()))) (fun y=>((),()))
abbrev q19:Mdl:=(aq (.cons (.d false dj.ty) .nil) [] [] 1 q9e (B:=Bool) (fun b=>((b,()),(()))) (fun a=>qrv a.1.1))
theorem q6p:MdlOK Tryz.prog 15 q19:=ek Tryz.func15 rfl jdb (.two .z (.two .z (.two (.two .z (.s 0)) .z))) (sC jpb s0)
def q3w:Shp:=⟨[qv9],[]⟩
abbrev q6o:Ctx (Bool):=⟨29,tt,false,false,[],d5 [],ed [af _ 29 [] jgx (C:=qL1) (S:=Int) (fun x=>(x.1.1,x.1.2.1)) jgw (CE:=Unit) (E:=Unit) (fun c e=>((()),(()))) (fun c=>()) (fun{R} c a nx dn rt=>qfk c a nx dn rt)],bj 29 tt [] [.tmp 4] q3w (fun x=>x.1.1)⟩
theorem q6n:CtxM Tryz.prog q6o:=eo fits ax m0
theorem jkh:al Tryz.prog q6o 0 (lc 0 Tryz.f31 75):=lp rfl q6n .z s0 (fun c a=>((c,a,()),(()))) (fun y=>((),()))
abbrev qlo:Mdl:=(aq (.cons (.d false dj.ty) (.cons (.d false qT1) .nil)) [] [] 1 q3w (B:=Bool) (fun b=>((b,()),(()))) (fun a=>qcx a.1.1 a.1.2.1))
theorem qps:MdlOK Tryz.prog 31 qlo:=ek Tryz.func31 rfl q6n (.two .z (.two .z (.two (.two .z (.s 0)) .z))) (sC jkh s0)
def qby:Shp:=⟨[qv9],[]⟩
abbrev qt6:Ctx (Bool):=⟨12,tt,false,false,[],d5 [],ed [],bj 12 tt [] [.tmp 3] qby (fun x=>x.1.1)⟩
theorem qt5:CtxM Tryz.prog qt6:=eo fits ax m0
abbrev qc8:Mdl:=(aq (.cons (.d false qT0) (.cons (.rp false dj.ty) .nil)) [] [] 1 qby (B:=Bool) (fun b=>((b,()),(()))) (fun a=>ri a.1.1 a.1.2.1))
theorem qrn:MdlOK Tryz.prog 33 qc8:=ek Tryz.func33 rfl qt5 .z s0
def qay:Shp:=⟨[jee],[]⟩
abbrev qcd:Ctx (Int):=⟨19,tt,false,false,[],d5 [(33,qc8)],ed [af _ 19 [] qqc (C:=(qL1×dj×Int)) (S:=Int) (fun x=>((x.1.1,x.1.2.1.1,x.1.2.2.1),(pe3 x.1))) qqb (CE:=Unit) (E:=Unit) (fun c e=>((()),(()))) (fun c=>()) (fun{R} c a nx dn rt=>jb c.1 c.2.1 c.2.2 a nx dn rt)],bj 19 tt [] [.tmp 4] qay (fun x=>x.1.1)⟩
theorem qcb:CtxM Tryz.prog qcd:=eo fits ax (mC qrn m0)
theorem qr0:al Tryz.prog qcd 0 (lc 0 Tryz.f79 37):=lp rfl qcb .z s0 (fun c a=>((c.1,(c.2.1,()),c.2.2,a,()),(()))) (fun y=>((),()))
abbrev qcc:Mdl:=(aq (.cons (.d false qT1) (.cons (.fn 33 (.cons (.rp false dj.ty) .nil)) .nil)) [] [] 1 qay (B:=Int) (fun b=>((b,()),(()))) (fun a=>qp a.1.1 a.1.2.1.1))
theorem qqd:MdlOK Tryz.prog 79 qcc:=ek Tryz.func79 rfl qcb (.two .z (.two (.two .z (.s 0)) .z)) (sC qr0 s0)
def ug:Shp:=⟨[qv9],[]⟩
abbrev qnj:Ctx (Bool):=⟨9,tt,false,false,[],d5 [(79,qcc)],ed [],bj 9 tt [] [.tmp 4] ug (fun x=>x.1.1)⟩
theorem qni:CtxM Tryz.prog qnj:=eo fits ax (mC qqd m0)
abbrev vm:Mdl:=(aq (.cons (.d false qT1) (.cons (.fn 33 (.cons (.rp false dj.ty) .nil)) .nil)) [] [] 1 ug (B:=Bool) (fun b=>((b,()),(()))) (fun a=>fm a.1.1 a.1.2.1.1))
theorem qjg:MdlOK Tryz.prog 32 vm:=ek Tryz.func32 rfl qni .z s0
def qbz:Shp:=⟨[qv9],[]⟩
abbrev qt8:Ctx (Bool):=⟨7,tt,false,false,[],d5 [(35,b8)],ed [],bj 7 tt [] [.tmp 3] qbz (fun x=>x.1.1)⟩
theorem qt7:CtxM Tryz.prog qt8:=eo fits ax (mC bv m0)
abbrev qc9:Mdl:=(aq (.cons (.d false qT0) (.cons (.rp false qT1) .nil)) [] [] 1 qbz (B:=Bool) (fun b=>((b,()),(()))) (fun a=>rj a.1.1 a.1.2.1))
theorem qro:MdlOK Tryz.prog 34 qc9:=ek Tryz.func34 rfl qt7 .z s0
def qa0:Shp:=⟨[jee],[]⟩
abbrev qcg:Ctx (Int):=⟨19,tt,false,false,[],d5 [(34,qc9)],ed [af _ 19 [] qqf (C:=(qL1×qL1×Int)) (S:=Int) (fun x=>((x.1.1,x.1.2.1.1,x.1.2.2.1),(pe3 x.1))) qqe (CE:=Unit) (E:=Unit) (fun c e=>((()),(()))) (fun c=>()) (fun{R} c a nx dn rt=>jd c.1 c.2.1 c.2.2 a nx dn rt)],bj 19 tt [] [.tmp 4] qa0 (fun x=>x.1.1)⟩
theorem qce:CtxM Tryz.prog qcg:=eo fits ax (mC qro m0)
theorem qr1:al Tryz.prog qcg 0 (lc 0 Tryz.f79 37):=lp rfl qce .z s0 (fun c a=>((c.1,(c.2.1,()),c.2.2,a,()),(()))) (fun y=>((),()))
abbrev qcf:Mdl:=(aq (.cons (.d false qT1) (.cons (.fn 34 (.cons (.rp false qT1) .nil)) .nil)) [] [] 1 qa0 (B:=Int) (fun b=>((b,()),(()))) (fun a=>qq a.1.1 a.1.2.1.1))
theorem qqg:MdlOK Tryz.prog 79 qcf:=ek Tryz.func79 rfl qce (.two .z (.two (.two .z (.s 0)) .z)) (sC qr1 s0)
def uh:Shp:=⟨[qv9],[]⟩
abbrev qnl:Ctx (Bool):=⟨9,tt,false,false,[],d5 [(79,qcf)],ed [],bj 9 tt [] [.tmp 4] uh (fun x=>x.1.1)⟩
theorem qnk:CtxM Tryz.prog qnl:=eo fits ax (mC qqg m0)
abbrev vn:Mdl:=(aq (.cons (.d false qT1) (.cons (.fn 34 (.cons (.rp false qT1) .nil)) .nil)) [] [] 1 uh (B:=Bool) (fun b=>((b,()),(()))) (fun a=>i9 a.1.1 a.1.2.1.1))
theorem qjh:MdlOK Tryz.prog 32 vn:=ek Tryz.func32 rfl qnk .z s0
def qb0:Shp:=⟨[qv9],[]⟩
abbrev qua:Ctx (Bool):=⟨7,tt,false,false,[],d5 [(35,b8)],ed [],bj 7 tt [] [.tmp 3] qb0 (fun x=>x.1.1)⟩
theorem qt9:CtxM Tryz.prog qua:=eo fits ax (mC bv m0)
abbrev qda:Mdl:=(aq (.cons (.d false qT0) (.cons (.rp false qT1) .nil)) [] [] 1 qb0 (B:=Bool) (fun b=>((b,()),(()))) (fun a=>qec a.1.1 a.1.2.1))
theorem qrp:MdlOK Tryz.prog 36 qda:=ek Tryz.func36 rfl qt9 .z s0
def qa1:Shp:=⟨[jee],[]⟩
abbrev qcj:Ctx (Int):=⟨19,tt,false,false,[],d5 [(36,qda)],ed [af _ 19 [] qqi (C:=(qL1×qL1×Int)) (S:=Int) (fun x=>((x.1.1,x.1.2.1.1,x.1.2.2.1),(pe3 x.1))) qqh (CE:=Unit) (E:=Unit) (fun c e=>((()),(()))) (fun c=>()) (fun{R} c a nx dn rt=>yq c.1 c.2.1 c.2.2 a nx dn rt)],bj 19 tt [] [.tmp 4] qa1 (fun x=>x.1.1)⟩
theorem qch:CtxM Tryz.prog qcj:=eo fits ax (mC qrp m0)
theorem qr3:al Tryz.prog qcj 0 (lc 0 Tryz.f79 37):=lp rfl qch .z s0 (fun c a=>((c.1,(c.2.1,()),c.2.2,a,()),(()))) (fun y=>((),()))
abbrev qci:Mdl:=(aq (.cons (.d false qT1) (.cons (.fn 36 (.cons (.rp false qT1) .nil)) .nil)) [] [] 1 qa1 (B:=Int) (fun b=>((b,()),(()))) (fun a=>qdg a.1.1 a.1.2.1.1))
theorem qqj:MdlOK Tryz.prog 79 qci:=ek Tryz.func79 rfl qch (.two .z (.two (.two .z (.s 0)) .z)) (sC qr3 s0)
def ui:Shp:=⟨[qv9],[]⟩
abbrev qnn:Ctx (Bool):=⟨9,tt,false,false,[],d5 [(79,qci)],ed [],bj 9 tt [] [.tmp 4] ui (fun x=>x.1.1)⟩
theorem qnm:CtxM Tryz.prog qnn:=eo fits ax (mC qqj m0)
abbrev vo:Mdl:=(aq (.cons (.d false qT1) (.cons (.fn 36 (.cons (.rp false qT1) .nil)) .nil)) [] [] 1 ui (B:=Bool) (fun b=>((b,()),(()))) (fun a=>ny a.1.1 a.1.2.1.1))
theorem qji:MdlOK Tryz.prog 32 vo:=ek Tryz.func32 rfl qnm .z s0
def jii:Shp:=⟨[qv9],[]⟩
abbrev jnw:Ctx (Bool):=⟨32,tt,false,false,[],d5 [],ed [af _ 32 [] jsu (C:=(qL1×Int×Int×(List ab)×Int×Int)) (S:=Int) (fun x=>((x.1.1,x.1.2.1,x.2.1.1,x.2.1.2.1,x.2.1.2.2.1,(pe3 x.2.1)),(pe3 x.1))) jst (CE:=Unit) (E:=Unit) (fun c e=>((()),(()))) (fun c=>()) (fun{R} c a nx dn rt=>qln c.1 c.2.1 c.2.2.1 (pe3 c) (pe4 c) (pf5 c) a nx dn rt)],bj 32 tt [] [.tmp 6] jii (fun x=>x.1.1)⟩
theorem jnu:CtxM Tryz.prog jnw:=eo fits ax m0
theorem jvd:al Tryz.prog jnw 0 (lc 0 Tryz.f116 37):=lp rfl jnu .z s0 (fun c a=>((c.1,c.2.1,(),a,()),((c.2.2.1,(pe3 c),(pe4 c),(pf5 c),()),()))) (fun y=>((),()))
abbrev jnv:Mdl:=(aq (.cons (.d false dj.ty) (.cons (.d false qT1) (.cons (.d false qT0) .nil))) [] [] 1 jii (B:=Bool) (fun b=>((b,()),(()))) (fun a=>q7s a.1.1 a.1.2.1 a.1.2.2.1))
theorem jsv:MdlOK Tryz.prog 116 jnv:=ek Tryz.func116 rfl jnu (.two .z (.two (.two .z (.s 0)) .z)) (sC jvd s0)
def q9k:Shp:=⟨[q5w,zld],[qrs]⟩
abbrev q2c:Ctx ((Bool×qL1)):=⟨58,tt,false,false,[],d5 [(31,qlo)],ed [af _ 58 [] jn1 (C:=(Int×(List ab)×Int×Int×ByteArray×qL1×qL1)) (S:=(Int×qL1)) (fun x=>((x.2.1.1,x.2.1.2.1,x.2.1.2.2.1,(pe3 x.2.1),(pe3 x).1,(pe3 x).2.1,(pe3 x).2.2.1),((pe3 x.1),x.2.2.1))) jn0 (CE:=(Int×(List ab)×Int×Int×ByteArray×qL1×qL1)) (E:=qL1) (fun c e=>(((),(),(),()),((c.1,c.2.1,c.2.2.1,(pe3 c),()),e,((pe4 c),(pe5 c),(pf6 c),()),()))) (fun c=>(c.1,c.2.1,c.2.2.1,(pe3 c),(pe4 c),(pe5 c),(pf6 c))) (fun{R} c a nx dn rt=>qlq c.1 c.2.1 c.2.2.1 (pe3 c) (pe4 c) (pe5 c) (pf6 c) a.1 a.2 nx dn rt),af _ 58 [] jn3 (C:=(Int×(List ab)×Int×Int×ByteArray×qL1×qL1)) (S:=(Int×qL1)) (fun x=>((x.2.1.1,x.2.1.2.1,x.2.1.2.2.1,(pe3 x.2.1),(pe3 x).1,(pe3 x).2.1,(pe3 x).2.2.1),((pe3 x.1),x.2.2.1))) jn2 (CE:=(Int×(List ab)×Int×Int)) (E:=qL1) (fun c e=>(((),(),()),((c.1,c.2.1,c.2.2.1,c.2.2.2,()),e,()))) (fun c=>(c.1,c.2.1,c.2.2.1,(pe3 c))) (fun{R} c a nx dn rt=>qlr c.1 c.2.1 c.2.2.1 (pe3 c) (pe4 c) (pe5 c) (pf6 c) a.1 a.2 nx dn rt)],bj 58 tt [] [.tmp 6, .tmp 7] q9k (fun x=>(x.1.2.1,x.2.1))⟩
theorem q2b:CtxM Tryz.prog q2c:=eo fits ax (mC qps m0)
theorem jpg:al Tryz.prog q2c 1 (lc 2 Tryz.f117 303):=lp rfl q2b .z s0 (fun c a=>(((),(),(),a.1,()),((c.1,c.2.1,c.2.2.1,(pe3 c),()),a.2,((pe4 c),(pe5 c),(pf6 c),()),()))) (fun y=>((y.2.1.1,y.2.1.2.1,y.2.1.2.2.1,(pe3 y.2.1)),y.2.2.1))
theorem jpf:al Tryz.prog q2c 0 (lc 0 Tryz.f117 151):=lp rfl q2b .z s0 (fun c a=>(((),(),(),a.1,()),((c.1,c.2.1,c.2.2.1,(pe3 c),()),a.2,((pe4 c),(pe5 c),(pf6 c),()),()))) (fun y=>((y.2.1.1,y.2.1.2.1,y.2.1.2.2.1,(pe3 y.2.1),(pe3 y).1,(pe3 y).2.1,(pe3 y).2.2.1),y.2.2.1))
abbrev jdg:Mdl:=(aq (.cons (.d false dj.ty) (.cons (.d false qT1) (.cons (.d false qT0) .nil))) [] [] 2 q9k (B:=(Bool×qL1)) (fun b=>(((),b.1,()),(b.2,()))) (fun a=>qw5 a.1.1 a.1.2.1 a.1.2.2.1))
theorem jn4:MdlOK Tryz.prog 117 jdg:=ek Tryz.func117 rfl q2b (.two .z (.two .z (.two .z (.two (.two .z (.s 0)) (.two (.two .z (.s 1)) .z))))) (sC jpf (sC jpg s0))
def qtl:Shp:=⟨[qv9],[]⟩
abbrev qvf:Ctx (Bool):=⟨26,tt,false,false,[],d5 [],ed [af _ 26 [] q6u (C:=(qL1×qL1)) (S:=Int) (fun x=>((x.1.1,x.1.2.1),x.1.2.2.1)) q6t (CE:=Unit) (E:=Unit) (fun c e=>((()),(()))) (fun c=>()) (fun{R} c a nx dn rt=>om c.1 c.2 a nx dn rt)],bj 26 tt [] [.tmp 4] qtl (fun x=>x.1.1)⟩
theorem qvd:CtxM Tryz.prog qvf:=eo fits ax m0
theorem q8h:al Tryz.prog qvf 0 (lc 0 Tryz.f153 75):=lp rfl qvd (.two .z (.two (.one (.two (.d [0,0,3,7,0,0,48,112,255] [] []) .z)) .z)) s0 (fun c a=>((c.1,c.2,a,()),(()))) (fun y=>((),()))
abbrev qve:Mdl:=(aq (.cons (.d false qT1) (.cons (.d false qT1) .nil)) [] [] 1 qtl (B:=Bool) (fun b=>((b,()),(()))) (fun a=>qdb a.1.1 a.1.2.1))
theorem q6v:MdlOK Tryz.prog 153 qve:=ek Tryz.func153 rfl qvd (.two .z (.two .z (.two (.two .z (.s 0)) .z))) (sC q8h s0)
def jdf:Shp:=⟨[jee],[]⟩
abbrev jil:Ctx (Int):=⟨21,tt,false,false,[],d5 [(153,qve)],ed [af _ 21 [] jpd (C:=(qL1×qL2×(List a8)×Bool)) (S:=Int) (fun x=>((x.1.1,x.2.1.1,x.2.1.2.1,x.2.1.2.2.1),x.1.2.2.1)) jpc (CE:=Unit) (E:=Unit) (fun c e=>((()),(()))) (fun c=>()) (fun{R} c a nx dn rt=>qq2 c.1 c.2.1 c.2.2.1 c.2.2.2 a nx dn rt)],bj 21 tt [] [.tmp 4] jdf (fun x=>x.1.1)⟩
theorem jij:CtxM Tryz.prog jil:=eo fits ax (mC q6v m0)
theorem jsw:al Tryz.prog jil 0 (lc 0 Tryz.f118 37):=lp rfl jij .z s0 (fun c a=>((c.1,(),a,()),((c.2.1,c.2.2.1,c.2.2.2,()),()))) (fun y=>((),()))
abbrev jik:Mdl:=(aq (.cons (.d false gq.ty) (.cons (.d false qT1) .nil)) [] [] 1 jdf (B:=Int) (fun b=>((b,()),(()))) (fun a=>q2a a.1.1 a.1.2.1))
theorem jpe:MdlOK Tryz.prog 118 jik:=ek Tryz.func118 rfl jij (.two .z (.two (.two .z (.s 0)) .z)) (sC jsw s0)
def q3z:Shp:=⟨[(0, .d true gq.ty),q0x],[]⟩
abbrev xw:Ctx ((gq×Int)):=⟨113,tt,false,true,[],d5 [(15,q19),(31,qlo),(116,jnv),(117,jdg),(118,jik)],ed [ko _ 113 [] jg3 (A:=(Int×Int×Int×Int×(List ab)×Int×Int×qL2×(List a8)×Bool×Bool×qL2×(List a8))) (fun x=>(x.1.1,(pe4 x.1),(pe5 x.1),x.2.1.1,x.2.1.2.1,x.2.1.2.2.1,(pe3 x.2.1),x.2.2.1.1,x.2.2.1.2.1,x.2.2.1.2.2.1,(pe3 x).2.2.1,(pe4 x),(pe5 x))) jg2 (CE:=(Int×Int×Int×(List ab)×Int×Int×qL2×(List a8)×Bool×Bool×qL2×(List a8))) (E:=Int) (fun c e=>((c.1,(),(),(),c.2.1,e,()),((c.2.2.1,(pe3 c),(pe4 c),(pe5 c),()),((pe6 c),(pe7 c),(pe8 c),()),((),(),(pe9 c),()),(pe10 c),(pf11 c),()))) (fun c=>(c.1,c.2.1,(pe3 c),(pe4 c),(pe5 c),(pe6 c),(pe7 c),(pe8 c),(pe9 c),(pe10 c),(pe11 c),(pf12 c))) (fun{R} c dn rt=>i7 c.1 c.2.1 c.2.2.1 (pe3 c) (pe4 c) (pe5 c) (pe6 c) (pe7 c) (pe8 c) (pe9 c) (pe10 c) (pe11 c) (pf12 c) dn rt),ko _ 113 [] jg5 (A:=(Int×Int×Int×qL1×Int×Bool×Int×(List ab)×Int×Int×qL2×(List a8)×Bool×Bool×qL2×(List a8))) (fun x=>(x.1.1,(pe4 x.1),(pe5 x.1),(pe6 x.1),(pe7 x.1),(pe8 x.1),x.2.1.1,x.2.1.2.1,x.2.1.2.2.1,(pe3 x.2.1),x.2.2.1.1,x.2.2.1.2.1,x.2.2.1.2.2.1,(pe3 x).2.2.1,(pe4 x),(pe5 x))) jg4 (CE:=(Int×Int×Int×Int×(List ab)×Int×Int×qL2×(List a8)×Bool×Bool×(List a8))) (E:=(Int×qL2)) (fun c e=>((c.1,(),(),(),c.2.1,c.2.2.1,e.1,()),(((pe3 c),(pe4 c),(pe5 c),(pe6 c),()),((pe7 c),(pe8 c),(pe9 c),()),((),(),(pe10 c),()),e.2,(pf11 c),()))) (fun c=>(c.1,c.2.1,c.2.2.1,(pe6 c),(pe7 c),(pe8 c),(pe9 c),(pe10 c),(pe11 c),(pe12 c),(pe13 c),(pf15 c))) (fun{R} c dn rt=>kw c.1 c.2.1 c.2.2.1 (pe3 c) (pe4 c) (pe5 c) (pe6 c) (pe7 c) (pe8 c) (pe9 c) (pe10 c) (pe11 c) (pe12 c) (pe13 c) (pe14 c) (pf15 c) dn rt),ko _ 113 [] jg7 (A:=(Int×Int×Int×Int×Int×(List ab)×Int×Int×qL2×(List a8)×Bool×Bool×qL2×(List a8))) (fun x=>(x.1.1,(pe4 x.1),(pe5 x.1),(pe6 x.1),x.2.1.1,x.2.1.2.1,x.2.1.2.2.1,(pe3 x.2.1),x.2.2.1.1,x.2.2.1.2.1,x.2.2.1.2.2.1,(pe3 x).2.2.1,(pe4 x),(pe5 x))) jg6 (CE:=(Int×Int×Int×Int×(List ab)×Int×Int×qL2×(List a8)×Bool×Bool×qL2)) (E:=(List a8)) (fun c e=>((c.1,(),(),(),c.2.1,c.2.2.1,()),(((pe3 c),(pe4 c),(pe5 c),(pe6 c),()),((pe7 c),(pe8 c),(pe9 c),()),((),(),(pe10 c),()),(pf11 c),e,()))) (fun c=>(c.1,c.2.1,c.2.2.1,(pe4 c),(pe5 c),(pe6 c),(pe7 c),(pe8 c),(pe9 c),(pe10 c),(pe11 c),(pe12 c))) (fun{R} c dn rt=>nw c.1 c.2.1 c.2.2.1 (pe3 c) (pe4 c) (pe5 c) (pe6 c) (pe7 c) (pe8 c) (pe9 c) (pe10 c) (pe11 c) (pe12 c) (pf13 c) dn rt),af _ 113 [] jgz (C:=(Int×Int×Int×(List ab)×Int×Int×qL2×(List a8)×Bool)) (S:=(Int×Bool×qL2×(List a8))) (fun x=>((x.1.1,(pe4 x.1),x.2.1.1,x.2.1.2.1,x.2.1.2.2.1,(pe3 x.2.1),x.2.2.1.1,x.2.2.1.2.1,x.2.2.1.2.2.1),((pe5 x.1),(pe3 x).2.2.1,(pe4 x),(pe5 x)))) jgy (CE:=(Int×Int×Int×(List ab)×Int×Int×qL2×(List a8)×Bool)) (E:=(Bool×qL2×(List a8))) (fun c e=>((c.1,(),(),(),c.2.1,()),((c.2.2.1,(pe3 c),(pe4 c),(pe5 c),()),((pe6 c),(pe7 c),(pf8 c),()),((),(),e.1,()),e.2.1,e.2.2,()))) (fun c=>(c.1,c.2.1,c.2.2.1,(pe3 c),(pe4 c),(pe5 c),(pe6 c),(pe7 c),(pf8 c))) (fun{R} c a nx dn rt=>ep c.1 c.2.1 c.2.2.1 (pe3 c) (pe4 c) (pe5 c) (pe6 c) (pe7 c) (pf8 c) a.1 a.2.1 a.2.2.1 a.2.2.2 nx dn rt),af _ 113 [] jg1 (C:=(Int×Int×(List ab)×Int×Int×qL2×(List a8)×Bool)) (S:=(Int×Bool×qL2×(List a8))) (fun x=>((x.1.1,x.2.1.1,x.2.1.2.1,x.2.1.2.2.1,(pe3 x.2.1),x.2.2.1.1,x.2.2.1.2.1,x.2.2.1.2.2.1),((pe4 x.1),(pe3 x).2.2.1,(pe4 x),(pe5 x)))) jg0 (CE:=(qL2×(List a8)×Bool)) (E:=(Bool×qL2×(List a8))) (fun c e=>(((),(),()),((c.1,c.2.1,c.2.2,()),((),(),e.1,()),e.2.1,e.2.2,()))) (fun c=>((pe5 c),(pe6 c),(pf7 c))) (fun{R} c a nx dn rt=>nv c.1 c.2.1 c.2.2.1 (pe3 c) (pe4 c) (pe5 c) (pe6 c) (pf7 c) a.1 a.2.1 a.2.2.1 a.2.2.2 nx dn rt)],bj 113 tt [] [.cell 6 45, .tmp 7] q3z (fun x=>(x.1.1,x.1.2.1))⟩
theorem xu:CtxM Tryz.prog xw:=eo fits ax (mC q6p (mC qps (mC jsv (mC jn4 (mC jpe m0)))))
theorem jkm:al Tryz.prog xw 1 (jc Tryz.f72 14567727):=jn rfl xu .z s0 (fun c=>((c.1,(),(),(),c.2.1,c.2.2.1,(pe3 c),(pe4 c),(pe5 c),()),(((pe6 c),(pe7 c),(pe8 c),(pe9 c),()),((pe10 c),(pe11 c),(pe12 c),()),((),(),(pe13 c),()),(pe14 c),(pf15 c),()))) (fun y=>((y.1.1,(pe4 y.1),(pe5 y.1),y.2.1.1,y.2.1.2.1,y.2.1.2.2.1,(pe3 y.2.1),y.2.2.1.1,y.2.2.1.2.1,y.2.2.1.2.2.1,(pe3 y).2.2.1,(pe5 y)),((pe6 y.1),(pe4 y))))
theorem jkn:al Tryz.prog xw 2 (jc Tryz.f72 16664879):=jn rfl xu .z s0 (fun c=>((c.1,(),(),(),c.2.1,c.2.2.1,(pe3 c),()),(((pe4 c),(pe5 c),(pe6 c),(pe7 c),()),((pe8 c),(pe9 c),(pe10 c),()),((),(),(pe11 c),()),(pe12 c),(pf13 c),()))) (fun y=>((y.1.1,(pe4 y.1),(pe5 y.1),y.2.1.1,y.2.1.2.1,y.2.1.2.2.1,(pe3 y.2.1),y.2.2.1.1,y.2.2.1.2.1,y.2.2.1.2.2.1,(pe3 y).2.2.1,(pe4 y)),(pe5 y)))
theorem jkl:al Tryz.prog xw 0 (jc Tryz.f72 117039):=jn rfl xu .z s0 (fun c=>((c.1,(),(),(),c.2.1,c.2.2.1,()),(((pe3 c),(pe4 c),(pe5 c),(pe6 c),()),((pe7 c),(pe8 c),(pe9 c),()),((),(),(pe10 c),()),(pe11 c),(pf12 c),()))) (fun y=>((y.1.1,(pe4 y.1),y.2.1.1,y.2.1.2.1,y.2.1.2.2.1,(pe3 y.2.1),y.2.2.1.1,y.2.2.1.2.1,y.2.2.1.2.2.1,(pe3 y).2.2.1,(pe4 y),(pe5 y)),(pe5 y.1)))
theorem jko:al Tryz.prog xw 3 (lc 2 Tryz.f72 18735):=lp rfl xu (.two .z (.two (.one (.two (.two (.d [0,0,2,0,14,30,0,127,255] [] []) .z) (.two (.d [0,0,2,0,14,30,0,127,255,511,511,1023,4095] [] []) (.two .z (.two .z (.two (.two .z (.s 1)) (.two .z (.s 2)))))))) (.s 0))) (sC jkm (sC jkn (sC jkl s0))) (fun c a=>((c.1,(),(),(),c.2.1,a.1,()),((c.2.2.1,(pe3 c),(pe4 c),(pe5 c),()),((pe6 c),(pe7 c),(pf8 c),()),((),(),a.2.1,()),a.2.2.1,a.2.2.2,()))) (fun y=>((y.1.1,(pe4 y.1),y.2.1.1,y.2.1.2.1,y.2.1.2.2.1,(pe3 y.2.1),y.2.2.1.1,y.2.2.1.2.1,y.2.2.1.2.2.1),((pe3 y).2.2.1,(pe4 y),(pe5 y))))
theorem jkp:al Tryz.prog xw 4 (lc 0 Tryz.f72 303):=lp rfl xu (.two .z (.two (.one (.two .z (.s 3))) .z)) (sC jko s0) (fun c a=>((c.1,(),(),(),a.1,()),((c.2.1,c.2.2.1,(pe3 c),(pe4 c),()),((pe5 c),(pe6 c),(pf7 c),()),((),(),a.2.1,()),a.2.2.1,a.2.2.2,()))) (fun y=>((y.2.1.1,y.2.1.2.1,y.2.1.2.2.1),(y.2.2.1.2.2.1,(pe3 y),(pe4 y))))
abbrev q6s:Mdl:=(aq (.cons (.d false dj.ty) (.cons (.d true qT1) (.cons (.d false qT0) .nil))) [] [] 2 q3z (B:=(gq×Int)) (fun b=>((b.1,b.2,()),(()))) (fun a=>qg4 a.1.1 a.1.2.1 a.1.2.2.1))
theorem jg8:MdlOK Tryz.prog 72 q6s:=ek Tryz.func72 rfl xu (.two .z (.two .z (.two .z (.two .z (.two (.two .z (.s 4)) .z))))) (sC jkp s0)
def q3b:Shp:=⟨[(0, .d true gq.ty),zld,zj0],[]⟩
abbrev xr:Ctx ((gq×Bool×Bool)):=⟨116,tt,false,false,[],d5 [(72,q6s)],ed [af _ 116 [] jfe (C:=(Int×qL2×(List a8)×Bool×qL2×(List a8)×Bool)) (S:=(Int×qL1)) (fun x=>(((pe3 x.1),x.2.1.1,x.2.1.2.1,x.2.1.2.2.1,x.2.2.1.1,x.2.2.1.2.1,x.2.2.1.2.2.1),((pe4 x.1),(pe3 x)))) jfd (CE:=(qL2×(List a8)×Bool×qL2×(List a8)×Bool)) (E:=qL1) (fun c e=>(((),(),(),()),((c.1,c.2.1,c.2.2.1,()),((pe3 c),(pe4 c),(pf5 c),()),e,()))) (fun c=>(c.2.1,c.2.2.1,(pe3 c),(pe4 c),(pe5 c),(pf6 c))) (fun{R} c a nx dn rt=>qfb c.1 c.2.1 c.2.2.1 (pe3 c) (pe4 c) (pe5 c) (pf6 c) a.1 a.2 nx dn rt),af _ 116 [] jfg (C:=((List a8)×Int×qL2×(List a8)×Bool×qL2×(List a8)×Bool)) (S:=(Int×qL1)) (fun x=>(((pe3 x.1),(pe4 x.1),x.2.1.1,x.2.1.2.1,x.2.1.2.2.1,x.2.2.1.1,x.2.2.1.2.1,x.2.2.1.2.2.1),((pe5 x.1),(pe3 x)))) jff (CE:=(qL2×(List a8)×Bool×qL2×(List a8)×Bool)) (E:=qL1) (fun c e=>(((),(),(),()),((c.1,c.2.1,c.2.2.1,()),((pe3 c),(pe4 c),(pf5 c),()),e,()))) (fun c=>(c.2.2.1,(pe3 c),(pe4 c),(pe5 c),(pe6 c),(pf7 c))) (fun{R} c a nx dn rt=>qfc c.1 c.2.1 c.2.2.1 (pe3 c) (pe4 c) (pe5 c) (pe6 c) (pf7 c) a.1 a.2 nx dn rt),af _ 116 [] jfi (C:=(qL1×Int×Int×Int×Int×Int×qL2×(List a8)×Bool×qL2×(List a8)×Bool)) (S:=(Bool×Int)) (fun x=>((x.1.2.2.1,(pe3 x.1),(pe4 x.1),(pe6 x.1),(pe7 x.1),(pe8 x.1),x.2.1.1,x.2.1.2.1,x.2.1.2.2.1,x.2.2.1.1,x.2.2.1.2.1,x.2.2.1.2.2.1),((pe5 x.1),(pe9 x.1)))) jfh (CE:=(qL1×Int×Int×Int×Int×qL2×(List a8)×Bool×qL2×(List a8)×Bool)) (E:=Bool) (fun c e=>(((),(),c.1,c.2.1,c.2.2.1,e,(pe3 c),(pe4 c),()),(((pe5 c),(pe6 c),(pe7 c),()),((pe8 c),(pe9 c),(pf10 c),()),()))) (fun c=>(c.1,c.2.1,c.2.2.1,(pe3 c),(pe4 c),(pe6 c),(pe7 c),(pe8 c),(pe9 c),(pe10 c),(pf11 c))) (fun{R} c a nx dn rt=>qfd c.1 c.2.1 c.2.2.1 (pe3 c) (pe4 c) (pe5 c) (pe6 c) (pe7 c) (pe8 c) (pe9 c) (pe10 c) (pf11 c) a.1 a.2 nx dn rt),af _ 116 [] jfk (C:=(qL1×Int×Int×Int×qL2×(List a8)×Bool×qL2×(List a8)×Bool)) (S:=Int) (fun x=>((x.1.2.2.1,(pe3 x.1),(pe5 x.1),(pe6 x.1),x.2.1.1,x.2.1.2.1,x.2.1.2.2.1,x.2.2.1.1,x.2.2.1.2.1,x.2.2.1.2.2.1),(pe4 x.1))) jfj (CE:=(qL1×Int×Int×qL2×(List a8)×Bool×qL2×(List a8)×Bool)) (E:=Unit) (fun c e=>(((),(),c.1,c.2.1,c.2.2.1,()),(((pe3 c),(pe4 c),(pe5 c),()),((pe6 c),(pe7 c),(pf8 c),()),()))) (fun c=>(c.1,c.2.2.1,(pe3 c),(pe4 c),(pe5 c),(pe6 c),(pe7 c),(pe8 c),(pf9 c))) (fun{R} c a nx dn rt=>xq c.1 c.2.1 c.2.2.1 (pe3 c) (pe4 c) (pe5 c) (pe6 c) (pe7 c) (pe8 c) (pf9 c) a nx dn rt),af _ 116 [] jfm (C:=(qL1×Int×qL2×(List a8)×Bool×qL2×(List a8)×Bool)) (S:=Int) (fun x=>((x.1.2.2.1,(pe3 x.1),x.2.1.1,x.2.1.2.1,x.2.1.2.2.1,x.2.2.1.1,x.2.2.1.2.1,x.2.2.1.2.2.1),(pe4 x.1))) jfl (CE:=(qL2×(List a8)×Bool×qL2×(List a8)×Bool)) (E:=Unit) (fun c e=>(((),(),()),((c.1,c.2.1,c.2.2.1,()),((pe3 c),(pe4 c),(pf5 c),()),()))) (fun c=>(c.2.2.1,(pe3 c),(pe4 c),(pe5 c),(pe6 c),(pf7 c))) (fun{R} c a nx dn rt=>qfe c.1 c.2.1 c.2.2.1 (pe3 c) (pe4 c) (pe5 c) (pe6 c) (pf7 c) a nx dn rt)],bj 116 tt [] [.cell 4 45, .tmp 5, .tmp 6] q3b (fun x=>(x.1.1,x.1.2.1,x.1.2.2.1))⟩
theorem xp:CtxM Tryz.prog xr:=eo fits ax (mC jg8 m0)
theorem jjf:al Tryz.prog xr 2 (lc 8 Tryz.f24 77909183):=lp rfl xp (.two .z (.two .z (.two (.one (.two .z (.two (.d [0,1,0,7,15,0,63,127,0,256,0,1792,3840,0,16128,32512,65535] [] []) .z))) .z))) s0 (fun c a=>(((),(),c.1,c.2.1,c.2.2.1,a.1,(pe3 c),(pe4 c),(pe5 c),a.2,()),(((pe6 c),(pe7 c),(pe8 c),()),((pe9 c),(pe10 c),(pf11 c),()),()))) (fun y=>((y.1.2.2.1,(pe3 y.1),(pe4 y.1),(pe6 y.1),(pe7 y.1),y.2.1.1,y.2.1.2.1,y.2.1.2.2.1,y.2.2.1.1,y.2.2.1.2.1,y.2.2.1.2.2.1),(pe5 y.1)))
theorem jjg:al Tryz.prog xr 3 (lc 6 Tryz.f24 314559):=lp rfl xp (.two .z (.two (.one (.two .z (.two (.two .z (.s 2)) .z))) .z)) (sC jjf s0) (fun c a=>(((),(),c.1,c.2.1,a,c.2.2.1,(pe3 c),()),(((pe4 c),(pe5 c),(pe6 c),()),((pe7 c),(pe8 c),(pf9 c),()),()))) (fun y=>((y.1.2.2.1,(pe3 y.1),(pe4 y.1),y.2.1.1,y.2.1.2.1,y.2.1.2.2.1,y.2.2.1.1,y.2.2.1.2.1,y.2.2.1.2.2.1),()))
theorem jjh:al Tryz.prog xr 4 (lc 4 Tryz.f24 1215):=lp rfl xp (.two .z (.two .z (.two (.one (.two .z (.two .z (.s 3)))) .z))) (sC jjg s0) (fun c a=>(((),(),c.1,c.2.1,a,()),((c.2.2.1,(pe3 c),(pe4 c),()),((pe5 c),(pe6 c),(pf7 c),()),()))) (fun y=>((y.2.1.1,y.2.1.2.1,y.2.1.2.2.1,y.2.2.1.1,y.2.2.1.2.1,y.2.2.1.2.2.1),()))
theorem jje:al Tryz.prog xr 1 (lc 2 Tryz.f24 607):=lp rfl xp .z s0 (fun c a=>(((),(),(),c.1,c.2.1,a.1,()),((c.2.2.1,(pe3 c),(pe4 c),()),((pe5 c),(pe6 c),(pf7 c),()),a.2,()))) (fun y=>((y.2.1.1,y.2.1.2.1,y.2.1.2.2.1,y.2.2.1.1,y.2.2.1.2.1,y.2.2.1.2.2.1),(pe3 y)))
theorem jjd:al Tryz.prog xr 0 (lc 0 Tryz.f24 303):=lp rfl xp .z s0 (fun c a=>(((),(),(),c.1,a.1,()),((c.2.1,c.2.2.1,(pe3 c),()),((pe4 c),(pe5 c),(pf6 c),()),a.2,()))) (fun y=>((y.2.1.1,y.2.1.2.1,y.2.1.2.2.1,y.2.2.1.1,y.2.2.1.2.1,y.2.2.1.2.2.1),(pe3 y)))
abbrev q5z:Mdl:=(aq (.cons (.d false dj.ty) (.cons (.d true qT1) .nil)) [] [] 3 q3b (B:=(gq×Bool×Bool)) (fun b=>((b.1,b.2.1,b.2.2,()),(()))) (fun a=>qg1 a.1.1 a.1.2.1))
theorem jfn:MdlOK Tryz.prog 24 q5z:=ek Tryz.func24 rfl xp (.two .z (.two .z (.two .z (.two .z (.two (.two .z (.s 0)) (.two (.two .z (.s 1)) (.two (.two .z (.s 4)) (.two (.d [0,0,2,1,15,31] [3] []) .z)))))))) (sC jjd (sC jje (sC jjh s0)))
def qeh:Shp:=⟨[q5w],[q8k]⟩
abbrev qvx:Ctx ((List Bool)):=⟨8,tt,false,false,[],d5 [],ed [],bj 8 tt [] [.tmp 2] qeh (fun x=>x.2.1)⟩
theorem qvv:CtxM Tryz.prog qvx:=eo fits ax m0
abbrev qvw:Mdl:=(aq (.cons (.nl false (.d false (.slice .bool))) .nil) [] [] 1 qeh (B:=(List Bool)) (fun b=>(((),()),(b,()))) (fun a=>qg5 a.1.1))
theorem quf:MdlOK Tryz.prog 74 qvw:=ek Tryz.func74 rfl qvv .z s0
def rl:Shp:=⟨[q5w],[q8k]⟩
abbrev qv1:Ctx ((List Bool)):=⟨8,tt,false,false,[],d5 [],ed [],bj 8 tt [] [.tmp 2] rl (fun x=>x.2.1)⟩
theorem qvz:CtxM Tryz.prog qv1:=eo fits ax m0
abbrev qv0:Mdl:=(aq (.cons (.nl true (.d false (.slice .bool))) .nil) [] [] 1 rl (B:=(List Bool)) (fun b=>(((),()),(b,()))) (fun a=>od a.1.1))
theorem qug:MdlOK Tryz.prog 74 qv0:=ek Tryz.func74 rfl qvz .z s0
abbrev qi5:Mdl:=(aq (.cons (.d false (.slice .bool)) .nil) [] [] 1 rl (fun(b:(List Bool))=>(((),()),(b,()))) (fun(a:(((List Bool)×Unit)×(Unit)))=>l6 a.1.1))
theorem qvy:MdlOK Tryz.prog 74 qi5:=by
 refine jqf (jzp _ _) quf qug (by kernel_rfl) (fun a b h=>⟨?_,h⟩);obtain⟨⟨xs,u1⟩,u2⟩:=a;cases xs with
 |nil=>exact h
 |cons x l=>
  have e:decide ((((x::l).length:Nat):Int)=0)=false:=decide_eq_false (by simp only[List.length_cons];omega);simp only[l6,od]at h;simp only[qg5,e,cond_false];exact h
def q3f:Shp:=⟨[q5w],[q8k]⟩
abbrev qu5:Ctx ((List Bool)):=⟨41,tt,false,false,[],d5 [(74,qi5)],ed [af _ 41 [] jfq (C:=(Int×Int×(List a8)×Int×qL2×(List a8)×Bool)) (S:=(Int×(List Bool))) (fun x=>((x.1.2.2.1,(pe3 x.1),(pe4 x.1),(pe5 x.1),x.2.1.1,x.2.1.2.1,x.2.1.2.2.1),((pe6 x.1),x.2.2.1))) jfp (CE:=(Int×Int×qL2×(List a8)×Bool)) (E:=(List Bool)) (fun c e=>(((),(),c.1,c.2.1,()),((c.2.2.1,(pe3 c),(pf4 c),()),e,()))) (fun c=>(c.1,c.2.1,(pe4 c),(pe5 c),(pf6 c))) (fun{R} c a nx dn rt=>qff c.1 c.2.1 c.2.2.1 (pe3 c) (pe4 c) (pe5 c) (pf6 c) a.1 a.2 nx dn rt),af _ 41 [] jfs (C:=(Int×qL2×(List a8)×Bool)) (S:=(Int×(List Bool))) (fun x=>((x.1.2.2.1,x.2.1.1,x.2.1.2.1,x.2.1.2.2.1),((pe3 x.1),x.2.2.1))) jfr (CE:=Unit) (E:=(List Bool)) (fun c e=>(((),()),(e,()))) (fun c=>()) (fun{R} c a nx dn rt=>qfg c.1 c.2.1 c.2.2.1 c.2.2.2 a.1 a.2 nx dn rt)],bj 41 tt [] [.tmp 4] q3f (fun x=>x.2.1)⟩
theorem qu4:CtxM Tryz.prog qu5:=eo fits ax (mC qvy m0)
theorem jji:al Tryz.prog qu5 0 (lc 2 Tryz.f28 9419):=lp rfl qu4 (.two .z (.two .z (.two (.one (.two .z (.d [0,0,2,0,0,16,56,120,248,504,504,1528,4088,8184,16376,32767,65535] [16] []))) .z))) s0 (fun c a=>(((),(),c.1,c.2.1,c.2.2.1,(pe3 c),a.1,()),(((pe4 c),(pe5 c),(pf6 c),()),a.2,()))) (fun y=>((y.1.2.2.1,(pe3 y.1),y.2.1.1,y.2.1.2.1,y.2.1.2.2.1),y.2.2.1))
theorem jjj:al Tryz.prog qu5 1 (lc 0 Tryz.f28 75):=lp rfl qu4 (.two .z (.two .z (.two (.one (.two .z (.s 0))) .z))) (sC jji s0) (fun c a=>(((),(),c.1,a.1,()),((c.2.1,c.2.2.1,c.2.2.2,()),a.2,()))) (fun y=>((),y.2.1))
abbrev q51:Mdl:=(aq (.cons (.d false gq.ty) (.cons (.d false (.slice .bool)) .nil)) [] [] 1 q3f (B:=(List Bool)) (fun b=>(((),()),(b,()))) (fun a=>qqy a.1.1 a.1.2.1))
theorem jft:MdlOK Tryz.prog 28 q51:=ek Tryz.func28 rfl qu4 (.two .z (.two .z (.two (.two .z (.s 1)) .z))) (sC jjj s0)
def qeb:Shp:=⟨[qv9],[]⟩
abbrev nj:Ctx (Bool):=⟨139,tt,false,false,[],d5 [(8,jcc),(9,jcd),(15,q19),(31,qlo),(29,qyx),(32,vm),(32,vn),(32,vo),(24,q5z),(37,qva),(35,b8),(28,q51),(27,rm)],ed [af _ 139 [] qt0 (C:=(qL1×Bool×(List ab)×Int×Int×(List ab)×Int×Int×qL1)) (S:=Int) (fun x=>((x.1.1,x.1.2.2.1,(pe4 x.1),(pe5 x.1),x.2.1.1,x.2.1.2.1,x.2.1.2.2.1,(pe3 x.2.1),x.2.2.1.1),(pe6 x.1))) qtz (CE:=(qL1×Bool×Int×(List ab)×Int×Int)) (E:=Unit) (fun c e=>((c.1,(),c.2.1,()),((c.2.2.1,(pe3 c),(pe4 c),(pf5 c),()),()))) (fun c=>(c.1,c.2.1,(pe4 c),(pe5 c),(pe6 c),(pe7 c))) (fun{R} c a nx dn rt=>lh c.1 c.2.1 c.2.2.1 (pe3 c) (pe4 c) (pe5 c) (pe6 c) (pe7 c) (pf8 c) a nx dn rt),af _ 139 [] qt2 (C:=(Bool×Bool×Int×Int×Int×qL2×Int×Int×(List ab)×Int×Int×qL2×(List a8)×Bool)) (S:=(Int×(List Bool))) (fun x=>((x.1.2.1,(pe3 x.1),(pe4 x.1),(pe6 x.1),(pe7 x.1),(pe8 x.1),(pe9 x.1),x.2.1.1,x.2.1.2.1,x.2.1.2.2.1,(pe3 x.2.1),x.2.2.1.1,x.2.2.1.2.1,x.2.2.1.2.2.1),((pe10 x.1),(pe3 x)))) qt1 (CE:=(Bool×Bool×Int×Int×Int×(List ab)×Int×Int×qL2×(List a8)×Bool)) (E:=(List Bool)) (fun c e=>(((),c.1,(),c.2.1,(),c.2.2.1,(pe3 c),()),(((pe4 c),(pe5 c),(pe6 c),(pe7 c),()),((pe8 c),(pe9 c),(pf10 c),()),e,()))) (fun c=>(c.1,c.2.1,(pe3 c),(pe4 c),(pe7 c),(pe8 c),(pe9 c),(pe10 c),(pe11 c),(pe12 c),(pf13 c))) (fun{R} c a nx dn rt=>li c.1 c.2.1 c.2.2.1 (pe3 c) (pe4 c) (pe5 c) (pe6 c) (pe7 c) (pe8 c) (pe9 c) (pe10 c) (pe11 c) (pe12 c) (pf13 c) a.1 a.2 nx dn rt),af _ 139 [] qt4 (C:=(Bool×Int×Int×(List ab)×Int×Int×qL2×(List a8)×Bool)) (S:=(Bool×Int)) (fun x=>((x.1.2.1,(pe4 x.1),x.2.1.1,x.2.1.2.1,x.2.1.2.2.1,(pe3 x.2.1),x.2.2.1.1,x.2.2.1.2.1,x.2.2.1.2.2.1),((pe3 x.1),(pe5 x.1)))) qt3 (CE:=Bool) (E:=Bool) (fun c e=>((c,e,()),(()))) (fun c=>c.1) (fun{R} c a nx dn rt=>lj c.1 c.2.1 c.2.2.1 (pe3 c) (pe4 c) (pe5 c) (pe6 c) (pe7 c) (pf8 c) a.1 a.2 nx dn rt)],bj 139 tt [] [.tmp 4] qeb (fun x=>x.1.1)⟩
theorem ni:CtxM Tryz.prog nj:=eo fits ax (mC jmn (mC jmq (mC q6p (mC qps (mC q96 (mC qjg (mC qjh (mC qji (mC jfn (mC qzt (mC bv (mC jft (mC qb5 m0)))))))))))))
theorem qu2:al Tryz.prog nj 1 (lc 4 Tryz.f7 19713023):=lp rfl ni .z s0 (fun c a=>(((),c.1,(),c.2.1,c.2.2.1,(),(pe3 c),(pe4 c),(pe5 c),(pe6 c),a.1,()),(((pe7 c),(pe8 c),(pe9 c),(pe10 c),()),((pe11 c),(pe12 c),(pf13 c),()),a.2,()))) (fun y=>((y.1.2.1,(pe3 y.1),(pe5 y.1),(pe6 y.1),y.2.1.1,y.2.1.2.1,y.2.1.2.2.1,(pe3 y.2.1),y.2.2.1.1,y.2.2.1.2.1,y.2.2.1.2.2.1),(pe3 y)))
theorem qu3:al Tryz.prog nj 2 (lc 2 Tryz.f7 19455):=lp rfl ni (.two .z (.two .z (.two (.one (.two .z (.two .z (.two (.two .z (.s 1)) .z)))) .z))) (sC qu2 s0) (fun c a=>(((),c.1,(),a.1,c.2.1,a.2,()),((c.2.2.1,(pe3 c),(pe4 c),(pe5 c),()),((pe6 c),(pe7 c),(pf8 c),()),()))) (fun y=>(y.1.1,y.1.2.1))
theorem qu1:al Tryz.prog nj 0 (lc 0 Tryz.f7 1215):=lp rfl ni .z s0 (fun c a=>((c.1,(),c.2.1,(),c.2.2.1,(pe3 c),a,()),(((pe4 c),(pe5 c),(pe6 c),(pe7 c),()),((pf8 c),()),()))) (fun y=>((y.1.1,y.1.2.2.1,y.2.1.1,y.2.1.2.1,y.2.1.2.2.1,(pe3 y.2.1)),()))
abbrev qvu:Mdl:=(aq (.cons (.d true dj.ty) (.cons (.d true qT1) .nil)) [] [] 1 qeb (B:=Bool) (fun b=>((b,()),(()))) (fun a=>u6 a.1.1 a.1.2.1))
theorem qub:MdlOK Tryz.prog 7 qvu:=ek Tryz.func7 rfl ni (.two .z (.two .z (.two .z (.two .z (.two .z (.two .z (.two (.two .z (.s 0)) (.two .z (.two .z (.two .z (.two (.two .z (.s 2)) .z))))))))))) (sC qu1 (sC qu3 s0))
end
end Go.Proofs.YtclbndfjhjladaaGreat
