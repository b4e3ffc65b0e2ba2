/-
  The functions compute what their models say. Made by program (mg3.py) out of the translation.
-/
import Derived.Test.YtclbndfjhjladaaGreatZ4Md
import Derived.Test.YtclbndfjhjladaaGreatZ4Tt
import Derived.Test.YtclbndfjhjladaaGreatZ4Ky
set_option linter.all false
set_option maxRecDepth 100000
namespace Go.Proofs.YtclbndfjhjladaaGreat
open Go.K Go.M
abbrev pe3{A0 A1 A2 A3 A4:Type}(x:A0×A1×A2×A3×A4):A3:=x.2.2.2.1
abbrev pe4{A0 A1 A2 A3 A4 A5:Type}(x:A0×A1×A2×A3×A4×A5):A4:=x.2.2.2.2.1
abbrev pe5{A0 A1 A2 A3 A4 A5 A6:Type}(x:A0×A1×A2×A3×A4×A5×A6):A5:=x.2.2.2.2.2.1
abbrev pe6{A0 A1 A2 A3 A4 A5 A6 A7:Type}(x:A0×A1×A2×A3×A4×A5×A6×A7):A6:=x.2.2.2.2.2.2.1
abbrev pe7{A0 A1 A2 A3 A4 A5 A6 A7 A8:Type}(x:A0×A1×A2×A3×A4×A5×A6×A7×A8):A7:=x.2.2.2.2.2.2.2.1
abbrev pe8{A0 A1 A2 A3 A4 A5 A6 A7 A8 A9:Type}(x:A0×A1×A2×A3×A4×A5×A6×A7×A8×A9):A8:=x.2.2.2.2.2.2.2.2.1
abbrev pe9{A0 A1 A2 A3 A4 A5 A6 A7 A8 A9 A10:Type}(x:A0×A1×A2×A3×A4×A5×A6×A7×A8×A9×A10):A9:=x.2.2.2.2.2.2.2.2.2.1
abbrev pe10{A0 A1 A2 A3 A4 A5 A6 A7 A8 A9 A10 A11:Type}(x:A0×A1×A2×A3×A4×A5×A6×A7×A8×A9×A10×A11):A10:=x.2.2.2.2.2.2.2.2.2.2.1
abbrev pe11{A0 A1 A2 A3 A4 A5 A6 A7 A8 A9 A10 A11 A12:Type}(x:A0×A1×A2×A3×A4×A5×A6×A7×A8×A9×A10×A11×A12):A11:=x.2.2.2.2.2.2.2.2.2.2.2.1
abbrev pe12{A0 A1 A2 A3 A4 A5 A6 A7 A8 A9 A10 A11 A12 A13:Type}(x:A0×A1×A2×A3×A4×A5×A6×A7×A8×A9×A10×A11×A12×A13):A12:=x.2.2.2.2.2.2.2.2.2.2.2.2.1
abbrev pf4{A0 A1 A2 A3 A4:Type}(x:A0×A1×A2×A3×A4):A4:=x.2.2.2.2
abbrev pf5{A0 A1 A2 A3 A4 A5:Type}(x:A0×A1×A2×A3×A4×A5):A5:=x.2.2.2.2.2
abbrev pf6{A0 A1 A2 A3 A4 A5 A6:Type}(x:A0×A1×A2×A3×A4×A5×A6):A6:=x.2.2.2.2.2.2
abbrev pf7{A0 A1 A2 A3 A4 A5 A6 A7:Type}(x:A0×A1×A2×A3×A4×A5×A6×A7):A7:=x.2.2.2.2.2.2.2
abbrev pf8{A0 A1 A2 A3 A4 A5 A6 A7 A8:Type}(x:A0×A1×A2×A3×A4×A5×A6×A7×A8):A8:=x.2.2.2.2.2.2.2.2
abbrev pf9{A0 A1 A2 A3 A4 A5 A6 A7 A8 A9:Type}(x:A0×A1×A2×A3×A4×A5×A6×A7×A8×A9):A9:=x.2.2.2.2.2.2.2.2.2
abbrev pf10{A0 A1 A2 A3 A4 A5 A6 A7 A8 A9 A10:Type}(x:A0×A1×A2×A3×A4×A5×A6×A7×A8×A9×A10):A10:=x.2.2.2.2.2.2.2.2.2.2
abbrev pf11{A0 A1 A2 A3 A4 A5 A6 A7 A8 A9 A10 A11:Type}(x:A0×A1×A2×A3×A4×A5×A6×A7×A8×A9×A10×A11):A11:=x.2.2.2.2.2.2.2.2.2.2.2
abbrev pf12{A0 A1 A2 A3 A4 A5 A6 A7 A8 A9 A10 A11 A12:Type}(x:A0×A1×A2×A3×A4×A5×A6×A7×A8×A9×A10×A11×A12):A12:=x.2.2.2.2.2.2.2.2.2.2.2.2
abbrev pf13{A0 A1 A2 A3 A4 A5 A6 A7 A8 A9 A10 A11 A12 A13:Type}(x:A0×A1×A2×A3×A4×A5×A6×A7×A8×A9×A10×A11×A12×A13):A13:=x.2.2.2.2.2.2.2.2.2.2.2.2.2
noncomputable section
def jcm:Shp:=⟨[(0, .d true af.ty)],[jfq,jfq]⟩
abbrev jur:Ctx ((af×qL1×qL1)):=⟨11,tt,false,false,[false,false],dv [],ee [],bj 11 tt [false,false] [.cell 6 64] jcm (fun x=>(x.1.1,x.2.1,x.2.2.1))⟩
theorem juq:CtxM Tryz.prog jur:=ek fits ax m0
abbrev jho:Mdl:=(aq (.cons (.d false .str) (.cons (.own 0) (.cons (.own 1) .nil))) [qf0,qf0] [false,false] 1 jcm (B:=(af×qL1×qL1)) (fun b=>((b.1,()),(b.2.1,b.2.2,()))) (fun a=>qef a.1.1 a.2.1 a.2.2.1))
theorem jnl:MdlOK Tryz.prog 38 jho:=eh Tryz.func38 rfl juq .z s0
def qvl:Shp:=⟨[qjn],[]⟩
abbrev jki:Ctx (Bool):=⟨17,tt,false,false,[],dv [],ee [],bj 17 tt [] [.tmp 2] qvl (fun x=>x.1.1)⟩
theorem jkh:CtxM Tryz.prog jki:=ek fits ax m0
abbrev qoc:Mdl:=(aq (.cons (.d false (.int .u8)) .nil) [] [] 1 qvl (B:=Bool) (fun b=>((b,()),(()))) (fun a=>qeg a.1.1))
theorem qr7:MdlOK Tryz.prog 128 qoc:=eh Tryz.func128 rfl jkh .z s0
def q6e:Shp:=⟨[qjn],[]⟩
abbrev jql:Ctx (Bool):=⟨25,tt,false,false,[],dv [(128,qoc)],ee [],bj 25 tt [] [.tmp 2] q6e (fun x=>x.1.1)⟩
theorem jqk:CtxM Tryz.prog jql:=ek fits ax (mC qr7 m0)
abbrev jc8:Mdl:=(aq (.cons (.d false (.int .u8)) .nil) [] [] 1 q6e (B:=Bool) (fun b=>((b,()),(()))) (fun a=>qug a.1.1))
theorem jkj:MdlOK Tryz.prog 129 jc8:=eh Tryz.func129 rfl jqk .z s0
def qvk:Shp:=⟨[qjn],[]⟩
abbrev qz6:Ctx (Bool):=⟨29,tt,false,false,[],dv [(128,qoc),(129,jc8)],ee [ai _ 29 [] jc6 (C:=(ByteArray×Int)) (S:=Int) (fun x=>((x.1.1,x.1.2.1),x.1.2.2.1)) jc5 (CE:=Unit) (E:=Unit) (fun c e=>((()),(()))) (fun c=>()) (fun{R} c a nx dn rt=>tk c.1 c.2 a nx dn rt)],bj 29 tt [] [.tmp 2] qvk (fun x=>x.1.1)⟩
theorem qz4:CtxM Tryz.prog qz6:=ek fits ax (mC qr7 (mC jkj m0))
theorem jf2:am Tryz.prog qz6 0 (lc 0 Tryz.f84 75):=lp rfl qz4 .z s0 (fun c a=>((c.1,c.2,a,()),(()))) (fun y=>((),()))
abbrev qz5:Mdl:=(aq (.cons (.d false .str) .nil) [] [] 1 qvk (B:=Bool) (fun b=>((b,()),(()))) (fun a=>qix a.1.1))
theorem jc7:MdlOK Tryz.prog 84 qz5:=eh Tryz.func84 rfl qz4 (.two .z (.two .z (.two (.two .z (.s 0)) .z))) (sC jf2 s0)
def qsa:Shp:=⟨[qjn],[]⟩
abbrev qvt:Ctx (Bool):=⟨36,tt,false,false,[],dv [],ee [ai _ 36 [] q8c (C:=(qL1×qL1×Int×Int×(List af)×Int×Int)) (S:=Int) (fun x=>((x.1.1,x.1.2.2.1,(pe3 x.1),x.2.1.1,x.2.1.2.1,x.2.1.2.2.1,(pe3 x.2.1)),(pe4 x.1))) q8b (CE:=Unit) (E:=Unit) (fun c e=>((()),(()))) (fun c=>()) (fun{R} c a nx dn rt=>ll c.1 c.2.1 c.2.2.1 (pe3 c) (pe4 c) (pe5 c) (pf6 c) a nx dn rt)],bj 36 tt [] [.tmp 4] qsa (fun x=>x.1.1)⟩
theorem qvr:CtxM Tryz.prog qvt:=ek fits ax m0
theorem jdg:am Tryz.prog qvt 0 (lc 0 Tryz.f85 37):=lp rfl qvr .z s0 (fun c a=>((c.1,(),c.2.1,c.2.2.1,a,()),(((pe3 c),(pe4 c),(pe5 c),(pf6 c),()),()))) (fun y=>((),()))
abbrev qvs:Mdl:=(aq (.cons (.d false ca.ty) (.cons (.d false qT1) .nil)) [] [] 1 qsa (B:=Bool) (fun b=>((b,()),(()))) (fun a=>jo a.1.1 a.1.2.1))
theorem q8d:MdlOK Tryz.prog 85 qvs:=eh Tryz.func85 rfl qvr (.two .z (.two (.two .z (.s 0)) .z)) (sC jdg s0)
def qvq:Shp:=⟨[qjn],[]⟩
abbrev q0e:Ctx (Bool):=⟨62,tt,false,false,[],dv [(84,qz5),(85,qvs)],ee [ai _ 62 [] jdf (C:=((List af)×Int×Int×(List af)×Int×Int)) (S:=Int) (fun x=>((x.1.2.1,x.1.2.2.1,x.2.1.1,x.2.1.2.1,x.2.1.2.2.1,(pe3 x.2.1)),(pe3 x.1))) jde (CE:=(Int×(List af)×Int×Int)) (E:=Unit) (fun c e=>(((),()),((c.1,c.2.1,c.2.2.1,c.2.2.2,()),()))) (fun c=>(c.2.2.1,(pe3 c),(pe4 c),(pf5 c))) (fun{R} c a nx dn rt=>z9 c.1 c.2.1 c.2.2.1 (pe3 c) (pe4 c) (pf5 c) a nx dn rt)],bj 62 tt [] [.tmp 2] qvq (fun x=>x.1.1)⟩
theorem q0d:CtxM Tryz.prog q0e:=ek fits ax (mC jc7 (mC q8d m0))
theorem jf3:am Tryz.prog q0e 0 (lc 0 Tryz.f41 75):=lp rfl q0d .z s0 (fun c a=>(((),c.1,c.2.1,a,()),((c.2.2.1,(pe3 c),(pe4 c),(pf5 c),()),()))) (fun y=>((y.2.1.1,y.2.1.2.1,y.2.1.2.2.1,(pe3 y.2.1)),()))
abbrev ie:Mdl:=(aq (.cons (.d false ca.ty) .nil) [] [] 1 qvq (B:=Bool) (fun b=>((b,()),(()))) (fun a=>gb a.1.1))
theorem f8:MdlOK Tryz.prog 41 ie:=eh Tryz.func41 rfl q0d (.two .z (.two .z (.two (.two .z (.s 0)) .z))) (sC jf3 s0)
def x9:Shp:=⟨[j2c],[qt8,qf0]⟩
abbrev zm:Ctx ((Int×qL1)):=⟨33,tt,false,false,[],dv [],ee [ai _ 33 [] qjz (C:=(Int×Int)) (S:=(Int×qL1)) (fun x=>((x.1.2.1,x.2.1.1),(x.1.2.2.1,x.2.2.1))) qjy (CE:=Int) (E:=qL1) (fun c e=>(((),()),((c,(),()),e,()))) (fun c=>c.2) (fun{R} c a nx dn rt=>ia c.1 c.2 a.1 a.2 nx dn rt)],bj 33 tt [] [.tmp 2] x9 (fun x=>(x.2.1.1,x.2.2.1))⟩
theorem zl:CtxM Tryz.prog zm:=ek fits ax m0
theorem qlb:am Tryz.prog zm 0 (lc 0 Tryz.f87 75):=lp rfl zl .z s0 (fun c a=>(((),c.1,a.1,()),((c.2,(),()),a.2,()))) (fun y=>(y.2.1.1,y.2.2.1))
abbrev pk:Mdl:=(aq (.cons (.d false ca.ty) .nil) [] [] 1 x9 (B:=(Int×qL1)) (fun b=>(((),()),((b.1,(),()),b.2,()))) (fun a=>gn a.1.1))
theorem vz:MdlOK Tryz.prog 87 pk:=eh Tryz.func87 rfl zl (.two .z (.two (.d [0,1,0,4,0,16,48,124,252,511,1023,2047] [] []) (.two (.two .z (.s 0)) .z))) (sC qlb s0)
def uw:Shp:=⟨[jqp],[qt8,qf0]⟩
abbrev vy:Ctx ((Int×Int×qL1)):=⟨41,tt,false,false,[true,true],dv [],ee [ai _ 41 [true,true] qhg (C:=Int) (S:=(Int×qL1)) (fun x=>(x.2.1.1,(x.1.2.1,x.2.2.1))) qhf (CE:=Int) (E:=(Int×qL1)) (fun c e=>((e.1,()),((c,(),()),e.2,()))) (fun c=>c) (fun{R} c a nx dn rt=>fy c a.1 a.2 nx dn rt)],bj 41 tt [true,true] [.tmp 4] uw (fun x=>(x.1.1,x.2.1.1,x.2.2.1))⟩
theorem vx:CtxM Tryz.prog vy:=ek fits ax m0
theorem qib:am Tryz.prog vy 0 (lc 0 Tryz.f89 17):=lp rfl vx (.two .z (.one (.two (.d [0,1,3,7,0,0,32,96,224,0,512,1536,3584,0,15872,32256,65504,131040,262143,524287] [19] []) .z))) s0 (fun c a=>(((),a.1,()),((c,(),()),a.2,()))) (fun y=>(y.2.1.1,(y.1.1,y.2.2.1)))
abbrev h8:Mdl:=(aq (.cons (.ptr 0) (.cons (.d false qT0) .nil)) [.cs 103 2 1 (.cons (.d false qT0) (.cons (.own 1) .nil)),qf0] [true,true] 1 uw (B:=(Int×Int×qL1)) (fun b=>((b.1,()),((b.2.1,(),()),b.2.2,()))) (fun a=>cd a.1.2.1 a.2.1.1 a.2.2.1))
theorem kd:MdlOK Tryz.prog 89 h8:=eh Tryz.func89 rfl vx (.two .z (.two (.s 0) .z)) (sC qib s0)
def td:Shp:=⟨[],[qt8,qf0]⟩
abbrev qid:Ctx ((Int×qL1)):=⟨30,tt,false,false,[true,true],dv [(89,h8)],ee [],bj 30 tt [true,true] [] td (fun x=>(x.2.1.1,x.2.2.1))⟩
theorem qic:CtxM Tryz.prog qid:=ek fits ax (mC kd m0)
abbrev ld:Mdl:=(aq (.cons (.ptr 0) (.cons (.d false qT0) (.cons (.d false qT0) .nil))) [.cs 103 2 1 (.cons (.d false qT0) (.cons (.own 1) .nil)),qf0] [true,true] 0 td (B:=(Int×qL1)) (fun b=>((()),((b.1,(),()),b.2,()))) (fun a=>cm a.1.2.1 a.1.2.2.1 a.2.1.1 a.2.2.1))
theorem sk:MdlOK Tryz.prog 88 ld:=eh Tryz.func88 rfl qic (.two (.d [0,0,3,0,0,16,48,112,0,496,1023,2047,4095] [2,10,11,12] []) .z) s0
def qb1:Shp:=⟨[j9v],[jv1]⟩
abbrev il:Ctx ((List ae)):=⟨99,tt,false,false,[],dv [(87,pk),(88,ld),(89,h8)],ee [ai _ 99 [] qnv (C:=(Int×(List af)×Int×Int×qL1×Int×Int×(List af)×Int×Int)) (S:=(Int×Int×qL1)) (fun x=>((x.1.2.2.1,(pe3 x.1),(pe4 x.1),(pe5 x.1),(pe6 x.1),(pe7 x.1),x.2.1.1,x.2.1.2.1,x.2.1.2.2.1,(pe3 x.2.1)),((pe8 x.1),x.2.2.1.1,(pe3 x)))) qnu (CE:=((List af)×Int×Int×Int×(List af)×Int×Int)) (E:=(Int×qL1)) (fun c e=>(((),(),c.1,c.2.1,c.2.2.1,()),(((pe3 c),(pe4 c),(pe5 c),(pf6 c),()),(e.1,(),()),e.2,()))) (fun c=>(c.2.1,c.2.2.1,(pe3 c),(pe6 c),(pe7 c),(pe8 c),(pf9 c))) (fun{R} c a nx dn rt=>c8 c.1 c.2.1 c.2.2.1 (pe3 c) (pe4 c) (pe5 c) (pe6 c) (pe7 c) (pe8 c) (pf9 c) a.1 a.2.1 a.2.2 nx dn rt),ai _ 99 [] qnx (C:=((List af)×Int×Int×(List af)×Int×Int)) (S:=(Int×Int×qL1)) (fun x=>((x.1.2.2.1,(pe3 x.1),x.2.1.1,x.2.1.2.1,x.2.1.2.2.1,(pe3 x.2.1)),((pe4 x.1),x.2.2.1.1,(pe3 x)))) qnw (CE:=(Int×(List af)×Int×Int)) (E:=(Int×qL1)) (fun c e=>(((),(),()),((c.1,c.2.1,c.2.2.1,c.2.2.2,()),(e.1,(),()),e.2,()))) (fun c=>(c.2.2.1,(pe3 c),(pe4 c),(pf5 c))) (fun{R} c a nx dn rt=>jk c.1 c.2.1 c.2.2.1 (pe3 c) (pe4 c) (pf5 c) a.1 a.2.1 a.2.2 nx dn rt),zp _ 99 [] qn1 (A:=(Int×Int×Int×Int×Int×(List af)×Int×Int×Int×(List (Int×Int))×(List ae)×qL1)) (fun x=>((pe4 x.1),(pe5 x.1),(pe6 x.1),(pe7 x.1),x.2.1.1,x.2.1.2.1,x.2.1.2.2.1,(pe3 x.2.1),x.2.2.1.1,(pe3 x),(pe4 x),(pe5 x))) qn0 (CE:=(Int×Int×Int×(List af)×Int×Int×Int×(List (Int×Int))×qL1)) (E:=(List ae)) (fun c e=>(((),(),(),(),c.1,c.2.1,()),((c.2.2.1,(pe3 c),(pe4 c),(pe5 c),()),((pe6 c),(),()),(pe7 c),e,(pf8 c),()))) (fun c=>(c.2.2.1,(pe3 c),(pe4 c),(pe5 c),(pe6 c),(pe7 c),(pe8 c),(pe9 c),(pf11 c))) (fun{R} c dn rt=>jl c.1 c.2.1 c.2.2.1 (pe3 c) (pe4 c) (pe5 c) (pe6 c) (pe7 c) (pe8 c) (pe9 c) (pe10 c) (pf11 c) dn rt),ai _ 99 [] qnz (C:=(Int×Int×(List af)×Int×Int)) (S:=(Int×Int×(List (Int×Int))×(List ae)×qL1)) (fun x=>(((pe4 x.1),x.2.1.1,x.2.1.2.1,x.2.1.2.2.1,(pe3 x.2.1)),((pe5 x.1),x.2.2.1.1,(pe3 x),(pe4 x),(pe5 x)))) qny (CE:=Unit) (E:=(List ae)) (fun c e=>(((),()),(e,()))) (fun c=>()) (fun{R} c a nx dn rt=>f5 c.1 c.2.1 c.2.2.1 (pe3 c) (pf4 c) a.1 a.2.1 a.2.2.1 (pe3 a) (pf4 a) nx dn rt)],bj 99 tt [] [.tmp 2] qb1 (fun x=>x.2.1)⟩
theorem ij:CtxM Tryz.prog il:=ek fits ax (mC vz (mC sk (mC kd m0)))
theorem qqm:am Tryz.prog il 2 (jc Tryz.f43 255583):=jn rfl ij (.two .z (.two (.d [0,0,0,0,12,28,60,0,128,508,3,2047,4095] [9,12] []) (.d [0,0,0,0,12,28,60,0,0,256,896,1920,4092,3,16383,32767] [12,15] []))) s0 (fun c=>(((),(),(),(),c.1,c.2.1,c.2.2.1,(pe3 c),()),(((pe4 c),(pe5 c),(pe6 c),(pe7 c),()),((pe8 c),(),()),(pe9 c),(pe10 c),(pf11 c),()))) (fun y=>(((pe4 y.1),(pe5 y.1),y.2.1.1,y.2.1.2.1,y.2.1.2.2.1,(pe3 y.2.1),y.2.2.1.1,(pe3 y),(pe5 y)),(pe4 y)))
theorem qqk:am Tryz.prog il 0 (lc 2 Tryz.f43 19659):=lp rfl ij .z s0 (fun c a=>(((),(),c.1,c.2.1,c.2.2.1,(pe3 c),(pe4 c),(pe5 c),a.1,()),(((pe6 c),(pe7 c),(pe8 c),(pf9 c),()),(a.2.1,(),()),a.2.2,()))) (fun y=>((y.1.2.2.1,(pe3 y.1),(pe4 y.1),y.2.1.1,y.2.1.2.1,y.2.1.2.2.1,(pe3 y.2.1)),(y.2.2.1.1,(pe3 y))))
theorem qqn:am Tryz.prog il 3 (lc 4 Tryz.f43 607):=lp rfl ij (.two .z (.two .z (.two (.one (.two .z (.two .z (.two .z (.two .z (.s 2)))))) .z))) (sC qqm s0) (fun c a=>(((),(),(),(),c.1,a.1,()),((c.2.1,c.2.2.1,(pe3 c),(pf4 c),()),(a.2.1,(),()),a.2.2.1,(pe3 a),(pf4 a),()))) (fun y=>((),y.2.1))
theorem qql:am Tryz.prog il 1 (lc 0 Tryz.f43 75):=lp rfl ij (.two .z (.two .z (.two (.one (.two .z (.two .z (.s 0)))) .z))) (sC qqk s0) (fun c a=>(((),(),c.1,c.2.1,a.1,()),((c.2.2.1,(pe3 c),(pe4 c),(pf5 c),()),(a.2.1,(),()),a.2.2,()))) (fun y=>((y.2.1.1,y.2.1.2.1,y.2.1.2.2.1,(pe3 y.2.1)),(y.2.2.1.1,(pe3 y))))
abbrev te:Mdl:=(aq (.cons (.d false ca.ty) .nil) [] [] 1 qb1 (B:=(List ae)) (fun b=>(((),()),(b,()))) (fun a=>de a.1.1))
theorem zf:MdlOK Tryz.prog 43 te:=eh Tryz.func43 rfl ij (.two .z (.two .z (.two (.two .z (.s 1)) (.two .z (.two .z (.two (.two .z (.s 3)) .z)))))) (sC qql (sC qqn s0))
def qbz:Shp:=⟨[j9v,qnf],[jv1]⟩
abbrev qrp:Ctx ((Int×(List ae))):=⟨9,tt,false,false,[],dv [(41,ie),(43,te)],ee [],bj 9 tt [] [.tmp 2, .tmp 3] qbz (fun x=>(x.1.2.1,x.2.1))⟩
theorem qro:CtxM Tryz.prog qrp:=ek fits ax (mC f8 (mC zf m0))
abbrev qd5:Mdl:=(aq (.cons (.d false ca.ty) .nil) [] [] 2 qbz (B:=(Int×(List ae))) (fun b=>(((),b.1,()),(b.2,()))) (fun a=>qfp a.1.1))
theorem qnr:MdlOK Tryz.prog 11 qd5:=eh Tryz.func11 rfl qro .z s0
def qa7:Shp:=⟨[jqp],[]⟩
abbrev qcd:Ctx (Int):=⟨19,tt,false,false,[],dv [],ee [ai _ 19 [] qmx (C:=(qL1×Int×Int)) (S:=Int) (fun x=>((x.1.1,x.1.2.1,x.1.2.2.1),(pe3 x.1))) qmw (CE:=Unit) (E:=Unit) (fun c e=>((()),(()))) (fun c=>()) (fun{R} c a nx dn rt=>i5 c.1 c.2.1 c.2.2 a nx dn rt)],bj 19 tt [] [.tmp 4] qa7 (fun x=>x.1.1)⟩
theorem qcb:CtxM Tryz.prog qcd:=ek fits ax m0
theorem qoq:am Tryz.prog qcd 0 (lc 0 Tryz.f80 37):=lp rfl qcb .z s0 (fun c a=>((c.1,c.2.1,c.2.2,a,()),(()))) (fun y=>((),()))
abbrev qcc:Mdl:=(aq (.cons (.d false qT1) (.cons (.d false qT0) .nil)) [] [] 1 qa7 (B:=Int) (fun b=>((b,()),(()))) (fun a=>tu a.1.1 a.1.2.1))
theorem qmy:MdlOK Tryz.prog 80 qcc:=eh Tryz.func80 rfl qcb (.two .z (.two (.two .z (.s 0)) .z)) (sC qoq s0)
def u3:Shp:=⟨[qjn],[]⟩
abbrev qko:Ctx (Bool):=⟨9,tt,false,false,[],dv [(80,qcc)],ee [],bj 9 tt [] [.tmp 4] u3 (fun x=>x.1.1)⟩
theorem qkn:CtxM Tryz.prog qko:=ek fits ax (mC qmy m0)
abbrev db:Mdl:=(aq (.cons (.d false qT1) (.cons (.d false qT0) .nil)) [] [] 1 u3 (B:=Bool) (fun b=>((b,()),(()))) (fun a=>bm a.1.1 a.1.2.1))
theorem dr:MdlOK Tryz.prog 35 db:=eh Tryz.func35 rfl qkn .z s0
def qi2:Shp:=⟨[qjn],[]⟩
abbrev q4d:Ctx (Bool):=⟨8,tt,false,false,[],dv [],ee [],bj 8 tt [] [.tmp 3] qi2 (fun x=>x.1.1)⟩
theorem q4c:CtxM Tryz.prog q4d:=ek fits ax m0
abbrev qlu:Mdl:=(aq (.cons (.d false qT0) (.cons (.rp false (.slice .bool)) .nil)) [] [] 1 qi2 (B:=Bool) (fun b=>((b,()),(()))) (fun a=>wo a.1.1 a.1.2.1))
theorem qxh:MdlOK Tryz.prog 130 qlu:=eh Tryz.func130 rfl q4c .z s0
def oa:Shp:=⟨[jqp],[]⟩
abbrev ov:Ctx (Int):=⟨19,tt,false,false,[],dv [(130,qlu)],ee [ai _ 19 [] qbj (C:=(qL1×(List Bool)×Int)) (S:=Int) (fun x=>((x.1.1,x.1.2.1.1,x.1.2.2.1),(pe3 x.1))) qbi (CE:=Unit) (E:=Unit) (fun c e=>((()),(()))) (fun c=>()) (fun{R} c a nx dn rt=>dp c.1 c.2.1 c.2.2 a nx dn rt)],bj 19 tt [] [.tmp 4] oa (fun x=>x.1.1)⟩
theorem ot:CtxM Tryz.prog ov:=ek fits ax (mC qxh m0)
theorem qcz:am Tryz.prog ov 0 (lc 0 Tryz.f79 37):=lp rfl ot .z s0 (fun c a=>((c.1,(c.2.1,()),c.2.2,a,()),(()))) (fun y=>((),()))
abbrev ou:Mdl:=(aq (.cons (.d false qT1) (.cons (.fn 130 (.cons (.rp false (.slice .bool)) .nil)) .nil)) [] [] 1 oa (B:=Int) (fun b=>((b,()),(()))) (fun a=>jb a.1.1 a.1.2.1.1))
theorem qbk:MdlOK Tryz.prog 79 ou:=eh Tryz.func79 rfl ot (.two .z (.two (.two .z (.s 0)) .z)) (sC qcz s0)
def k6:Shp:=⟨[qjn],[]⟩
abbrev qax:Ctx (Bool):=⟨9,tt,false,false,[],dv [(79,ou)],ee [],bj 9 tt [] [.tmp 4] k6 (fun x=>x.1.1)⟩
theorem qaw:CtxM Tryz.prog qax:=ek fits ax (mC qbk m0)
abbrev mb:Mdl:=(aq (.cons (.d false qT1) (.cons (.fn 130 (.cons (.rp false (.slice .bool)) .nil)) .nil)) [] [] 1 k6 (B:=Bool) (fun b=>((b,()),(()))) (fun a=>cw a.1.1 a.1.2.1.1))
theorem xu:MdlOK Tryz.prog 32 mb:=eh Tryz.func32 rfl qaw .z s0
def qpj:Shp:=⟨[ze2,(1, .own 1)],[qqz,qqz]⟩
abbrev qab:Ctx (((List Bool)×(List Bool))):=⟨69,tt,false,false,[],dv [(32,mb)],ee [ai _ 69 [] q37 (C:=(Bool×Bool×(List af)×Int×Int×qL1×Int×Int×(List af)×Int×Int×(List Bool))) (S:=(Int×(List Bool))) (fun x=>((x.1.1,(pe4 x.1),(pe5 x.1),(pe6 x.1),(pe7 x.1),(pe8 x.1),(pe9 x.1),x.2.1.1,x.2.1.2.1,x.2.1.2.2.1,(pe3 x.2.1),(pe3 x)),((pe10 x.1),(pe4 x)))) q36 (CE:=(Bool×Bool×(List af)×Int×Int×Int×(List af)×Int×Int×(List Bool))) (E:=(List Bool)) (fun c e=>((c.1,(),(),(),c.2.1,c.2.2.1,(pe3 c),(pe4 c),()),(((pe5 c),(pe6 c),(pe7 c),(pe8 c),()),((),()),(pf9 c),e,()))) (fun c=>(c.1,c.2.1,c.2.2.1,(pe3 c),(pe4 c),(pe7 c),(pe8 c),(pe9 c),(pe10 c),(pf11 c))) (fun{R} c a nx dn rt=>ug c.1 c.2.1 c.2.2.1 (pe3 c) (pe4 c) (pe5 c) (pe6 c) (pe7 c) (pe8 c) (pe9 c) (pe10 c) (pf11 c) a.1 a.2 nx dn rt),ai _ 69 [] q39 (C:=(Bool×(List af)×Int×Int×(List af)×Int×Int)) (S:=(Bool×Int×(List Bool)×(List Bool))) (fun x=>((x.1.1,(pe5 x.1),(pe6 x.1),x.2.1.1,x.2.1.2.1,x.2.1.2.2.1,(pe3 x.2.1)),((pe4 x.1),(pe7 x.1),(pe3 x),(pe4 x)))) q38 (CE:=(Bool×Int×(List af)×Int×Int)) (E:=(Bool×(List Bool)×(List Bool))) (fun c e=>((c.1,(),(),(),e.1,()),((c.2.1,c.2.2.1,(pe3 c),(pf4 c),()),((),()),e.2.1,e.2.2,()))) (fun c=>(c.1,(pe3 c),(pe4 c),(pe5 c),(pf6 c))) (fun{R} c a nx dn rt=>fl c.1 c.2.1 c.2.2.1 (pe3 c) (pe4 c) (pe5 c) (pf6 c) a.1 a.2.1 a.2.2.1 a.2.2.2 nx dn rt),ai _ 69 [] q4b (C:=(Bool×Int×(List af)×Int×Int)) (S:=(Bool×(List Bool)×(List Bool))) (fun x=>((x.1.1,x.2.1.1,x.2.1.2.1,x.2.1.2.2.1,(pe3 x.2.1)),((pe4 x.1),(pe3 x),(pe4 x)))) q4a (CE:=Unit) (E:=((List Bool)×(List Bool))) (fun c e=>(((),(),()),(((),()),e.1,e.2,()))) (fun c=>()) (fun{R} c a nx dn rt=>qco c.1 c.2.1 c.2.2.1 (pe3 c) (pf4 c) a.1 a.2.1 a.2.2 nx dn rt)],bj 69 tt [] [.tmp 6, .tmp 7] qpj (fun x=>(x.2.1,x.2.2.1))⟩
theorem qaa:CtxM Tryz.prog qab:=ek fits ax (mC xu m0)
theorem q8e:am Tryz.prog qab 0 (lc 4 Tryz.f90 41838231):=lp rfl qaa .z s0 (fun c a=>((c.1,(),(),(),c.2.1,c.2.2.1,(pe3 c),(pe4 c),(pe5 c),(pe6 c),a.1,()),(((pe7 c),(pe8 c),(pe9 c),(pe10 c),()),((),()),(pf11 c),a.2,()))) (fun y=>((y.1.1,(pe4 y.1),(pe5 y.1),(pe6 y.1),(pe7 y.1),y.2.1.1,y.2.1.2.1,y.2.1.2.2.1,(pe3 y.2.1),(pe3 y)),(pe4 y)))
theorem q8f:am Tryz.prog qab 1 (lc 2 Tryz.f90 9879):=lp rfl qaa (.two .z (.two .z (.two (.one (.two .z (.two (.d [0,1,0,4,3,31] [] []) (.two .z (.two .z (.two .z (.two .z (.s 0)))))))) .z))) (sC q8e s0) (fun c a=>((c.1,(),(),(),a.1,c.2.1,c.2.2.1,a.2.1,()),(((pe3 c),(pe4 c),(pe5 c),(pf6 c),()),((),()),a.2.2.1,a.2.2.2,()))) (fun y=>((y.1.1,y.2.1.1,y.2.1.2.1,y.2.1.2.2.1,(pe3 y.2.1)),((pe4 y.1),(pe3 y),(pe4 y))))
theorem q8g:am Tryz.prog qab 2 (lc 0 Tryz.f90 151):=lp rfl qaa (.two .z (.one (.two .z (.two .z (.s 1))))) (sC q8f s0) (fun c a=>((c.1,(),(),(),a.1,()),((c.2.1,c.2.2.1,(pe3 c),(pf4 c),()),((),()),a.2.1,a.2.2,()))) (fun y=>((),(y.2.2.1,(pe3 y))))
abbrev qsb:Mdl:=(aq (.cons (.d false ca.ty) (.cons (.d false qT0) (.cons (.d false .bool) .nil))) [] [] 2 qpj (B:=((List Bool)×(List Bool))) (fun b=>(((),(),()),(b.1,b.2,()))) (fun a=>mq a.1.1 a.1.2.1 a.1.2.2.1))
theorem q4e:MdlOK Tryz.prog 90 qsb:=eh Tryz.func90 rfl qaa (.two .z (.two (.d [0,1,3,0,8,24,56,0,135,511] [8] []) (.two .z (.two (.two .z (.s 2)) .z)))) (sC q8g s0)
def we:Shp:=⟨[jqp],[]⟩
abbrev yo:Ctx (Int):=⟨19,tt,false,false,[],dv [],ee [ai _ 19 [] qih (C:=((List Bool)×Bool×Int)) (S:=Int) (fun x=>((x.1.1,x.1.2.1,x.1.2.2.1),(pe3 x.1))) qig (CE:=Unit) (E:=Unit) (fun c e=>((()),(()))) (fun c=>()) (fun{R} c a nx dn rt=>gk c.1 c.2.1 c.2.2 a nx dn rt)],bj 19 tt [] [.tmp 4] we (fun x=>x.1.1)⟩
theorem ym:CtxM Tryz.prog yo:=ek fits ax m0
theorem qkp:am Tryz.prog yo 0 (lc 0 Tryz.f73 37):=lp rfl ym .z s0 (fun c a=>((c.1,c.2.1,c.2.2,a,()),(()))) (fun y=>((),()))
abbrev yn:Mdl:=(aq (.cons (.d false (.slice .bool)) (.cons (.d false .bool) .nil)) [] [] 1 we (B:=Int) (fun b=>((b,()),(()))) (fun a=>ql a.1.1 a.1.2.1))
theorem qii:MdlOK Tryz.prog 73 yn:=eh Tryz.func73 rfl ym (.two .z (.two (.two .z (.s 0)) .z)) (sC qkp s0)
def s7:Shp:=⟨[qjn],[]⟩
abbrev qh7:Ctx (Bool):=⟨9,tt,false,false,[],dv [(73,yn)],ee [],bj 9 tt [] [.tmp 4] s7 (fun x=>x.1.1)⟩
theorem qh6:CtxM Tryz.prog qh7:=ek fits ax (mC qii m0)
abbrev tq:Mdl:=(aq (.cons (.d false (.slice .bool)) (.cons (.d false .bool) .nil)) [] [] 1 s7 (B:=Bool) (fun b=>((b,()),(()))) (fun a=>cf a.1.1 a.1.2.1))
theorem qfl:MdlOK Tryz.prog 27 tq:=eh Tryz.func27 rfl qh6 .z s0
def qlt:Shp:=⟨[qjn],[]⟩
abbrev qe5:Ctx (Bool):=⟨65,tt,false,false,[],dv [(41,ie),(35,db),(90,qsb),(27,tq)],ee [ai _ 65 [] q0g (C:=((List af)×Int×Int×(List af)×Int×Int)) (S:=Int) (fun x=>((x.1.2.1,x.1.2.2.1,x.2.1.1,x.2.1.2.1,x.2.1.2.2.1,(pe3 x.2.1)),(pe3 x.1))) q0f (CE:=(Int×(List af)×Int×Int)) (E:=Unit) (fun c e=>(((),()),((c.1,c.2.1,c.2.2.1,c.2.2.2,()),()))) (fun c=>(c.2.2.1,(pe3 c),(pe4 c),(pf5 c))) (fun{R} c a nx dn rt=>sn c.1 c.2.1 c.2.2.1 (pe3 c) (pe4 c) (pf5 c) a nx dn rt),ai _ 65 [] q0i (C:=((List Bool)×Int×Int×(List af)×Int×Int)) (S:=Int) (fun x=>((x.1.2.1,x.1.2.2.1,x.2.1.1,x.2.1.2.1,x.2.1.2.2.1,(pe3 x.2.1)),(pe3 x.1))) q0h (CE:=Unit) (E:=Unit) (fun c e=>((()),(()))) (fun c=>()) (fun{R} c a nx dn rt=>sq c.1 c.2.1 c.2.2.1 (pe3 c) (pe4 c) (pf5 c) a nx dn rt)],bj 65 tt [] [.tmp 2] qlt (fun x=>x.1.1)⟩
theorem qe4:CtxM Tryz.prog qe5:=ek fits ax (mC f8 (mC dr (mC q4e (mC qfl m0))))
theorem q35:am Tryz.prog qe5 1 (lc 2 Tryz.f44 151):=lp rfl qe4 .z s0 (fun c a=>(((),c.1,c.2.1,a,()),((c.2.2.1,(pe3 c),(pe4 c),(pf5 c),()),()))) (fun y=>((),()))
theorem q34:am Tryz.prog qe5 0 (lc 0 Tryz.f44 75):=lp rfl qe4 .z s0 (fun c a=>(((),c.1,c.2.1,a,()),((c.2.2.1,(pe3 c),(pe4 c),(pf5 c),()),()))) (fun y=>((y.2.1.1,y.2.1.2.1,y.2.1.2.2.1,(pe3 y.2.1)),()))
abbrev qph:Mdl:=(aq (.cons (.d false ca.ty) .nil) [] [] 1 qlt (B:=Bool) (fun b=>((b,()),(()))) (fun a=>ns a.1.1))
theorem q0j:MdlOK Tryz.prog 44 qph:=eh Tryz.func44 rfl qe4 (.two .z (.two .z (.two (.two .z (.s 0)) (.two (.two .z (.s 1)) .z)))) (sC q34 (sC q35 s0))
def wc:Shp:=⟨[ze2],[qf0]⟩
abbrev qmo:Ctx (qL1):=⟨8,tt,false,false,[],dv [],ee [],bj 8 tt [] [.tmp 2] wc (fun x=>x.2.1)⟩
theorem qmm:CtxM Tryz.prog qmo:=ek fits ax m0
abbrev qmn:Mdl:=(aq (.cons (.nl false (.d false qT1)) .nil) [] [] 1 wc (B:=qL1) (fun b=>(((),()),(b,()))) (fun a=>qau a.1.1))
theorem qie:MdlOK Tryz.prog 45 qmn:=eh Tryz.func45 rfl qmm .z s0
def mw:Shp:=⟨[ze2],[qf0]⟩
abbrev qmr:Ctx (qL1):=⟨8,tt,false,false,[],dv [],ee [],bj 8 tt [] [.tmp 2] mw (fun x=>x.2.1)⟩
theorem qmp:CtxM Tryz.prog qmr:=ek fits ax m0
abbrev qmq:Mdl:=(aq (.cons (.nl true (.d false qT1)) .nil) [] [] 1 mw (B:=qL1) (fun b=>(((),()),(b,()))) (fun a=>jp a.1.1))
theorem qif:MdlOK Tryz.prog 45 qmq:=eh Tryz.func45 rfl qmp .z s0
abbrev eo:Mdl:=(aq (.cons (.d false qT1) .nil) [] [] 1 mw (fun(b:qL1)=>(((),()),(b,()))) (fun(a:((qL1×Unit)×(Unit)))=>b8 a.1.1))
theorem fo:MdlOK Tryz.prog 45 eo:=by
 refine juw (j1z _ _) qie qif (by kernel_rfl) (fun a b h=>⟨?_,h⟩);obtain⟨⟨xs,u1⟩,u2⟩:=a;cases xs with
 |nil=>exact h
 |cons x l=>
  have e:decide ((((x::l).length:Nat):Int)=0)=false:=decide_eq_false (by simp only[List.length_cons];omega);simp only[b8,jp]at h;simp only[qau,e,cond_false];exact h
def qha:Shp:=⟨[zgp,qnf],[]⟩
abbrev qiq:Ctx ((ca×Int)):=⟨60,tt,false,false,[],dv [(41,ie),(44,qph),(45,eo)],ee [ai _ 60 [] quw (C:=((List af)×Int×Int×(List af)×Int×Int×Int×(List af)×Int×Int×Int×Int×Int)) (S:=(Int×(List af))) (fun x=>(((pe3 x.1),(pe4 x.1),x.2.1.1,x.2.1.2.1,x.2.1.2.2.1,(pe3 x.2.1),x.2.2.1.1,x.2.2.1.2.1,x.2.2.1.2.2.1,(pe3 x.2.2.1),(pe3 x).1,(pe3 x).2.2.1,(pe3 (pe3 x))),((pe5 x.1),(pe4 x)))) quv (CE:=(Int×(List af)×Int×Int×Int×(List af)×Int×Int×Int×Int×Int)) (E:=(List af)) (fun c e=>(((),(),(),()),((c.1,c.2.1,c.2.2.1,(pe3 c),()),((pe4 c),(pe5 c),(pe6 c),(pe7 c),()),((pe8 c),(),(pe9 c),(pf10 c),()),e,()))) (fun c=>(c.2.2.1,(pe3 c),(pe4 c),(pe5 c),(pe6 c),(pe7 c),(pe8 c),(pe9 c),(pe10 c),(pe11 c),(pf12 c))) (fun{R} c a nx dn rt=>ne c.1 c.2.1 c.2.2.1 (pe3 c) (pe4 c) (pe5 c) (pe6 c) (pe7 c) (pe8 c) (pe9 c) (pe10 c) (pe11 c) (pf12 c) a.1 a.2 nx dn rt)],bj 60 tt [] [.cell 2 24, .tmp 3] qha (fun x=>(x.1.1,x.1.2.1))⟩
theorem qio:CtxM Tryz.prog qiq:=ek fits ax (mC f8 (mC q0j (mC fo m0)))
theorem qw4:am Tryz.prog qiq 0 (lc 1 Tryz.f12 303):=lp rfl qio (.two .z (.two .z (.two (.one (.two .z (.d [0,1,0,4,0,16,48,0,128,496,1020,2044,4095,8191,16383] [12,14] []))) .z))) s0 (fun c a=>(((),(),(),c.1,c.2.1,a.1,()),((c.2.2.1,(pe3 c),(pe4 c),(pe5 c),()),((pe6 c),(pe7 c),(pe8 c),(pe9 c),()),((pe10 c),(),(pe11 c),(pf12 c),()),a.2,()))) (fun y=>((y.2.1.1,y.2.1.2.1,y.2.1.2.2.1,(pe3 y.2.1),y.2.2.1.1,y.2.2.1.2.1,y.2.2.1.2.2.1,(pe3 y.2.2.1),(pe3 y).1,(pe3 y).2.2.1,(pe3 (pe3 y))),(pe4 y)))
abbrev qip:Mdl:=(aq (.cons (.d false ca.ty) .nil) [] [] 2 qha (B:=(ca×Int)) (fun b=>((b.1,b.2,()),(()))) (fun a=>t9 a.1.1))
theorem qux:MdlOK Tryz.prog 12 qip:=eh Tryz.func12 rfl qio (.two .z (.two .z (.two .z (.two .z (.two (.two .z (.s 0)) .z))))) (sC qw4 s0)
def qb5:Shp:=⟨[qjn],[]⟩
abbrev qrx:Ctx (Bool):=⟨8,tt,false,false,[],dv [(35,db)],ee [],bj 8 tt [] [.tmp 3] qb5 (fun x=>x.1.1)⟩
theorem qrw:CtxM Tryz.prog qrx:=ek fits ax (mC dr m0)
abbrev qec:Mdl:=(aq (.cons (.d false qT0) (.cons (.rp false af.ty) .nil)) [] [] 1 qb5 (B:=Bool) (fun b=>((b,()),(()))) (fun a=>ng a.1.1 a.1.2.1))
theorem qn5:MdlOK Tryz.prog 86 qec:=eh Tryz.func86 rfl qrw .z s0
def pc:Shp:=⟨[jqp],[]⟩
abbrev rk:Ctx (Int):=⟨19,tt,false,false,[],dv [(86,qec)],ee [ai _ 19 [] qc7 (C:=(qL1×af×Int)) (S:=Int) (fun x=>((x.1.1,x.1.2.1.1,x.1.2.2.1),(pe3 x.1))) qc6 (CE:=Unit) (E:=Unit) (fun c e=>((()),(()))) (fun c=>()) (fun{R} c a nx dn rt=>d8 c.1 c.2.1 c.2.2 a nx dn rt)],bj 19 tt [] [.tmp 4] pc (fun x=>x.1.1)⟩
theorem ri:CtxM Tryz.prog rk:=ek fits ax (mC qn5 m0)
theorem qep:am Tryz.prog rk 0 (lc 0 Tryz.f79 37):=lp rfl ri .z s0 (fun c a=>((c.1,(c.2.1,()),c.2.2,a,()),(()))) (fun y=>((),()))
abbrev rj:Mdl:=(aq (.cons (.d false qT1) (.cons (.fn 86 (.cons (.rp false af.ty) .nil)) .nil)) [] [] 1 pc (B:=Int) (fun b=>((b,()),(()))) (fun a=>jt a.1.1 a.1.2.1.1))
theorem qc8:MdlOK Tryz.prog 79 rj:=eh Tryz.func79 rfl ri (.two .z (.two (.two .z (.s 0)) .z)) (sC qep s0)
def mh:Shp:=⟨[qjn],[]⟩
abbrev qbf:Ctx (Bool):=⟨9,tt,false,false,[],dv [(79,rj)],ee [],bj 9 tt [] [.tmp 4] mh (fun x=>x.1.1)⟩
theorem qbe:CtxM Tryz.prog qbf:=ek fits ax (mC qc8 m0)
abbrev m4:Mdl:=(aq (.cons (.d false qT1) (.cons (.fn 86 (.cons (.rp false af.ty) .nil)) .nil)) [] [] 1 mh (B:=Bool) (fun b=>((b,()),(()))) (fun a=>d5 a.1.1 a.1.2.1.1))
theorem yr:MdlOK Tryz.prog 32 m4:=eh Tryz.func32 rfl qbe .z s0
def qa5:Shp:=⟨[qjn],[]⟩
abbrev qb9:Ctx (Bool):=⟨26,tt,false,false,[],dv [],ee [ai _ 26 [] qmv (C:=(qL1×qL1×Int)) (S:=Int) (fun x=>((x.1.1,x.1.2.1,x.1.2.2.1),(pe3 x.1))) qmu (CE:=Unit) (E:=Unit) (fun c e=>((()),(()))) (fun c=>()) (fun{R} c a nx dn rt=>fq c.1 c.2.1 c.2.2 a nx dn rt)],bj 26 tt [] [.tmp 4] qa5 (fun x=>x.1.1)⟩
theorem qb8:CtxM Tryz.prog qb9:=ek fits ax m0
theorem qoo:am Tryz.prog qb9 0 (lc 0 Tryz.f26 75):=lp rfl qb8 (.two .z (.two .z (.two (.one (.two .z (.two (.d [0,0,3,7,0,0,48,112,255] [] []) .z))) .z))) s0 (fun c a=>((c.1,c.2.1,c.2.2,a,()),(()))) (fun y=>((),()))
abbrev sc:Mdl:=(aq (.cons (.d false qT1) (.cons (.d false qT1) .nil)) [] [] 1 qa5 (B:=Bool) (fun b=>((b,()),(()))) (fun a=>iu a.1.1 a.1.2.1))
theorem yl:MdlOK Tryz.prog 26 sc:=eh Tryz.func26 rfl qb8 (.two .z (.two .z (.two (.two .z (.s 0)) .z))) (sC qoo s0)
def qfw:Shp:=⟨[qjn],[]⟩
abbrev xn:Ctx (Bool):=⟨38,tt,false,false,[],dv [(32,m4),(26,sc)],ee [ai _ 38 [] qrt (C:=((List af)×Int×Int×(List af)×Int×Int×(List af)×Int×Int×ByteArray×qL1×qL1)) (S:=Int) (fun x=>((x.1.2.2.1,(pe3 x.1),(pe4 x.1),(pe5 x.1),(pe6 x.1),x.2.1.1,x.2.1.2.1,x.2.1.2.2.1,(pe3 x.2.1),x.2.2.1.1,x.2.2.1.2.1,x.2.2.1.2.2.1),(pe7 x.1))) qrs (CE:=((List af)×Int×Int×Int×(List af)×Int×Int)) (E:=Unit) (fun c e=>(((),c.1,c.2.1,c.2.2.1,()),(((pe3 c),(pe4 c),(pe5 c),(pf6 c),()),()))) (fun c=>(c.1,c.2.1,c.2.2.1,(pe5 c),(pe6 c),(pe7 c),(pe8 c))) (fun{R} c a nx dn rt=>im c.1 c.2.1 c.2.2.1 (pe3 c) (pe4 c) (pe5 c) (pe6 c) (pe7 c) (pe8 c) (pe9 c) (pe10 c) (pf11 c) a nx dn rt),ai _ 38 [] qrv (C:=((List af)×Int×Int×(List af)×Int×Int)) (S:=Int) (fun x=>((x.1.2.1,x.1.2.2.1,x.2.1.1,x.2.1.2.1,x.2.1.2.2.1,(pe3 x.2.1)),(pe3 x.1))) qru (CE:=Unit) (E:=Unit) (fun c e=>((()),(()))) (fun c=>()) (fun{R} c a nx dn rt=>io c.1 c.2.1 c.2.2.1 (pe3 c) (pe4 c) (pf5 c) a nx dn rt)],bj 38 tt [] [.tmp 2] qfw (fun x=>x.1.1)⟩
theorem xm:CtxM Tryz.prog xn:=ek fits ax (mC yr (mC yl m0))
theorem qu0:am Tryz.prog xn 0 (lc 2 Tryz.f42 9829):=lp rfl xm .z s0 (fun c a=>(((),(),c.1,c.2.1,c.2.2.1,(pe3 c),(pe4 c),a,()),(((pe5 c),(pe6 c),(pe7 c),(pe8 c),()),((pe9 c),(pe10 c),(pf11 c),()),()))) (fun y=>((y.1.2.1,y.1.2.2.1,(pe3 y.1),y.2.1.1,y.2.1.2.1,y.2.1.2.2.1,(pe3 y.2.1)),()))
theorem qu1:am Tryz.prog xn 1 (lc 0 Tryz.f42 37):=lp rfl xm (.two .z (.two .z (.two (.one (.two .z (.two .z (.s 0)))) .z))) (sC qu0 s0) (fun c a=>(((),c.1,c.2.1,a,()),((c.2.2.1,(pe3 c),(pe4 c),(pf5 c),()),()))) (fun y=>((),()))
abbrev pj:Mdl:=(aq (.cons (.d false ca.ty) .nil) [] [] 1 qfw (B:=Bool) (fun b=>((b,()),(()))) (fun a=>f6 a.1.1))
theorem tf:MdlOK Tryz.prog 42 pj:=eh Tryz.func42 rfl xm (.two .z (.two (.two .z (.s 1)) .z)) (sC qu1 s0)
def qca:Shp:=⟨[ze2],[qf0]⟩
abbrev qt4:Ctx (qL1):=⟨27,tt,false,false,[],dv [],ee [],bj 27 tt [] [.tmp 4] qca (fun x=>x.2.1)⟩
theorem qt3:CtxM Tryz.prog qt4:=ek fits ax m0
abbrev qen:Mdl:=(aq (.cons (.e) (.cons (.d false qT0) .nil)) [] [] 1 qca (B:=qL1) (fun b=>(((),()),(b,()))) (fun a=>nh a.1.2.1))
theorem qop:MdlOK Tryz.prog 131 qen:=eh Tryz.func131 rfl qt3 .z s0
def yk:Shp:=⟨[ze2],[qf0]⟩
abbrev qh:Ctx (qL1):=⟨36,tt,false,false,[],dv [(131,qen)],ee [ai _ 36 [] qkj (C:=(qL2×qL2×Int)) (S:=(Int×Int)) (fun x=>((x.1.1,x.1.2.2.1,(pe3 x.1)),(x.1.2.1,(pe4 x.1)))) qki (CE:=qL2) (E:=Int) (fun c e=>((c,e,()),(()))) (fun c=>c.1) (fun{R} c a nx dn rt=>fa c.1 c.2.1 c.2.2 a.1 a.2 nx dn rt),ai _ 36 [] qkl (C:=(qL2×Int)) (S:=(Int×qL1)) (fun x=>((x.1.2.1,x.1.2.2.1),((pe3 x.1),x.2.1))) qkk (CE:=Unit) (E:=qL1) (fun c e=>(((),()),(e,()))) (fun c=>()) (fun{R} c a nx dn rt=>fb c.1 c.2 a.1 a.2 nx dn rt)],bj 36 tt [] [.tmp 2] yk (fun x=>x.2.1)⟩
theorem qg:CtxM Tryz.prog qh:=ek fits ax (mC qop m0)
theorem qmt:am Tryz.prog qh 1 (lc 2 Tryz.f92 303):=lp rfl qg .z s0 (fun c a=>(((),c.1,c.2,a.1,()),(a.2,()))) (fun y=>((),y.2.1))
theorem qms:am Tryz.prog qh 0 (lc 0 Tryz.f92 75):=lp rfl qg .z s0 (fun c a=>((c.1,a.1,c.2.1,c.2.2,a.2,()),(()))) (fun y=>(y.1.1,y.1.2.1))
abbrev qav:Mdl:=(aq (.cons (.d false qT2) .nil) [] [] 1 yk (B:=qL1) (fun b=>(((),()),(b,()))) (fun a=>kq a.1.1))
theorem qkm:MdlOK Tryz.prog 92 qav:=eh Tryz.func92 rfl qg (.two .z (.two .z (.two (.two .z (.s 0)) (.two .z (.two (.two .z (.s 1)) .z))))) (sC qms (sC qmt s0))
def zh:Shp:=⟨[qjn],[]⟩
abbrev ko:Ctx (Bool):=⟨55,tt,false,false,[],dv [(87,pk),(92,qav),(88,ld),(89,h8)],ee [ai _ 55 [] qk4 (C:=(Int×(List af)×Int×Int×qL1×Int)) (S:=(Int×Int×qL1)) (fun x=>((x.1.2.1,x.1.2.2.1,(pe3 x.1),(pe4 x.1),(pe5 x.1),(pe6 x.1)),((pe7 x.1),x.2.1.1,x.2.2.1))) qk3 (CE:=((List af)×Int×Int)) (E:=(Int×qL1)) (fun c e=>(((),c.1,c.2.1,c.2.2,()),((e.1,(),()),e.2,()))) (fun c=>(c.2.1,c.2.2.1,(pe3 c))) (fun{R} c a nx dn rt=>cz c.1 c.2.1 c.2.2.1 (pe3 c) (pe4 c) (pf5 c) a.1 a.2.1 a.2.2 nx dn rt),ai _ 55 [] qk6 (C:=((List af)×Int)) (S:=(Int×Int×qL1)) (fun x=>((x.1.2.1,x.1.2.2.1),((pe3 x.1),x.2.1.1,x.2.2.1))) qk5 (CE:=Unit) (E:=(Int×qL1)) (fun c e=>(((),()),((e.1,(),()),e.2,()))) (fun c=>()) (fun{R} c a nx dn rt=>iy c.1 c.2 a.1 a.2.1 a.2.2 nx dn rt),ai _ 55 [] qk8 (C:=Int) (S:=(Int×Int×qL1)) (fun x=>(x.1.2.1,(x.1.2.2.1,x.2.1.1,x.2.2.1))) qk7 (CE:=Unit) (E:=Unit) (fun c e=>((()),(()))) (fun c=>()) (fun{R} c a nx dn rt=>fh c a.1 a.2.1 a.2.2 nx dn rt)],bj 55 tt [] [.tmp 2] zh (fun x=>x.1.1)⟩
theorem km:CtxM Tryz.prog ko:=ek fits ax (mC vz (mC qkm (mC sk (mC kd m0))))
theorem qn2:am Tryz.prog ko 0 (lc 2 Tryz.f52 39319):=lp rfl km .z s0 (fun c a=>(((),c.1,c.2.1,c.2.2.1,(pe3 c),(pe4 c),(pf5 c),a.1,()),((a.2.1,(),()),a.2.2,()))) (fun y=>((y.1.2.1,y.1.2.2.1,(pe3 y.1)),(y.2.1.1,y.2.2.1)))
theorem qn4:am Tryz.prog ko 2 (lc 4 Tryz.f52 303):=lp rfl km .z s0 (fun c a=>(((),c,a.1,()),((a.2.1,(),()),a.2.2,()))) (fun y=>((),()))
theorem qn3:am Tryz.prog ko 1 (lc 0 Tryz.f52 151):=lp rfl km (.two .z (.two .z (.two (.one (.two .z (.two .z (.s 0)))) .z))) (sC qn2 s0) (fun c a=>(((),c.1,c.2,a.1,()),((a.2.1,(),()),a.2.2,()))) (fun y=>((),(y.2.1.1,y.2.2.1)))
abbrev qb2:Mdl:=(aq (.cons (.d false ca.ty) .nil) [] [] 1 zh (B:=Bool) (fun b=>((b,()),(()))) (fun a=>ly a.1.1))
theorem qk9:MdlOK Tryz.prog 52 qb2:=eh Tryz.func52 rfl km (.two .z (.two .z (.two .z (.two (.two .z (.s 1)) (.two (.two .z (.s 2)) .z))))) (sC qn3 (sC qn4 s0))
def qy1:Shp:=⟨[qjn],[]⟩
abbrev jm3:Ctx (Bool):=⟨12,tt,false,false,[],dv [],ee [],bj 12 tt [] [.tmp 2] qy1 (fun x=>x.1.1)⟩
theorem jm2:CtxM Tryz.prog jm3:=ek fits ax m0
abbrev qri:Mdl:=(aq (.cons (.d false ca.ty) .nil) [] [] 1 qy1 (B:=Bool) (fun b=>((b,()),(()))) (fun a=>qg3 a.1.1))
theorem qvb:MdlOK Tryz.prog 93 qri:=eh Tryz.func93 rfl jm2 .z s0
def qva:Shp:=⟨[jqp],[]⟩
abbrev jjo:Ctx (Int):=⟨27,tt,false,false,[],dv [(35,db)],ee [],bj 27 tt [] [.tmp 4] qva (fun x=>x.1.1)⟩
theorem jjn:CtxM Tryz.prog jjo:=ek fits ax (mC dr m0)
abbrev qnj:Mdl:=(aq (.cons (.d false af.ty) (.cons (.d false qT0) .nil)) [] [] 1 qva (B:=Int) (fun b=>((b,()),(()))) (fun a=>x6 a.1.1 a.1.2.1))
theorem qrg:MdlOK Tryz.prog 94 qnj:=eh Tryz.func94 rfl jjn (.two .z (.two (.d [0,1,0,7,0,16,0,127,255,511] [] []) .z)) s0
def jbs:Shp:=⟨[jqp],[]⟩
abbrev q28:Ctx (Int):=⟨24,tt,false,false,[],dv [],ee [ai _ 24 [] jmz (C:=(qL1×Int×Int)) (S:=(Int×Int)) (fun x=>((x.1.2.2.1,(pe3 x.1),(pe4 x.1)),(x.1.1,x.1.2.1))) jmy (CE:=(qL1×Int×Int)) (E:=Int) (fun c e=>((e,c.1,c.2.1,c.2.2,()),(()))) (fun c=>(c.1,c.2.1,c.2.2)) (fun{R} c a nx dn rt=>qd2 c.1 c.2.1 c.2.2 a.1 a.2 nx dn rt),ai _ 24 [] jm1 (C:=(qL1×Int)) (S:=(Int×Int)) (fun x=>((x.1.2.1,x.1.2.2.1),(x.1.1,(pe3 x.1)))) jm0 (CE:=Unit) (E:=Int) (fun c e=>((e,()),(()))) (fun c=>()) (fun{R} c a nx dn rt=>qd3 c.1 c.2 a.1 a.2 nx dn rt)],bj 24 tt [] [.tmp 2] jbs (fun x=>x.1.1)⟩
theorem q26:CtxM Tryz.prog q28:=ek fits ax m0
theorem jp4:am Tryz.prog q28 0 (lc 2 Tryz.f182 19659):=lp rfl q26 (.two .z (.one (.d [0,0,0,6,3,31] [] []))) s0 (fun c a=>((a.1,a.2,c.1,c.2.1,c.2.2,()),(()))) (fun y=>((y.1.2.1,y.1.2.2.1,(pe3 y.1)),y.1.1))
theorem jp5:am Tryz.prog q28 1 (lc 0 Tryz.f182 75):=lp rfl q26 (.two .z (.two .z (.two (.one (.two .z (.two .z (.s 0)))) .z))) (sC jp4 s0) (fun c a=>((a.1,c.1,c.2,a.2,()),(()))) (fun y=>((),y.1.1))
abbrev q27:Mdl:=(aq (.cons (.d false qT1) .nil) [] [] 1 jbs (B:=Int) (fun b=>((b,()),(()))) (fun a=>qrh a.1.1))
theorem q56:MdlOK Tryz.prog 182 q27:=eh Tryz.func182 rfl q26 (.two .z (.two .z (.two (.two .z (.s 1)) .z))) (sC jp5 s0)
def q58:Shp:=⟨[(0, .d true (.int .u64))],[]⟩
abbrev jbu:Ctx (Int):=⟨21,tt,false,false,[],dv [],ee [ai _ 21 [] jjq (C:=(qL1×Int)) (S:=(Int×Int)) (fun x=>((x.1.2.1,x.1.2.2.1),(x.1.1,(pe3 x.1)))) jjp (CE:=Unit) (E:=Int) (fun c e=>((e,()),(()))) (fun c=>()) (fun{R} c a nx dn rt=>y9 c.1 c.2 a.1 a.2 nx dn rt)],bj 21 tt [] [.tmp 2] q58 (fun x=>x.1.1)⟩
theorem jbt:CtxM Tryz.prog jbu:=ek fits ax m0
theorem jm4:am Tryz.prog jbu 0 (lc 0 Tryz.f183 75):=lp rfl jbt .z s0 (fun c a=>((a.1,c.1,c.2,a.2,()),(()))) (fun y=>((),y.1.1))
abbrev qw3:Mdl:=(aq (.cons (.d false qT1) .nil) [] [] 1 q58 (B:=Int) (fun b=>((b,()),(()))) (fun a=>ni a.1.1))
theorem qy2:MdlOK Tryz.prog 183 qw3:=eh Tryz.func183 rfl jbt (.two .z (.two .z (.two (.two .z (.s 0)) .z))) (sC jm4 s0)
def qo1:Shp:=⟨[],[q53,qgq,qgq]⟩
abbrev qg6:Ctx ((qL2×qL2)):=⟨116,tt,false,false,[true,false,false],dv [(45,eo),(182,q27),(183,qw3)],ee [ai _ 116 [true,false,false] q3f (C:=(qL1×qL1×Int×Int×qL2×qL2)) (S:=Int) (fun x=>((x.1.2.1,x.1.2.2.1,(pe3 x.1),(pe5 x.1),x.2.2.1,(pe3 x)),(pe6 x.1))) q3e (CE:=(qL1×qL1×Int×qL2×qL2)) (E:=Unit) (fun c e=>(((),c.1,c.2.1,c.2.2.1,()),(((),(),()),(pe3 c),(pf4 c),()))) (fun c=>(c.1,c.2.1,c.2.2.1,(pf5 c),(pe4 c))) (fun{R} c a nx dn rt=>t8 c.1 c.2.1 c.2.2.1 (pe3 c) (pe4 c) (pf5 c) a nx dn rt),ai _ 116 [true,false,false] q3h (C:=(qL1×qL1×Int×qL2×Int×qL2×qL2)) (S:=(Int×qL2×qL2)) (fun x=>((x.1.2.1,x.1.2.2.1,(pe3 x.1),(pe5 x.1),(pe6 x.1),x.2.1.1,x.2.1.2.1),((pe7 x.1),(pe3 x),(pe4 x)))) q3g (CE:=(qL1×qL1×qL2×qL2)) (E:=(qL2×qL2)) (fun c e=>(((),c.1,c.2.1,(),()),((c.2.2.1,c.2.2.2,()),((),(),()),e.1,e.2,()))) (fun c=>(c.1,c.2.1,(pe5 c),(pf6 c))) (fun{R} c a nx dn rt=>nj c.1 c.2.1 c.2.2.1 (pe3 c) (pe4 c) (pe5 c) (pf6 c) a.1 a.2.1 a.2.2 nx dn rt)],bj 116 tt [true,false,false] [] qo1 (fun x=>(x.2.2.1,(pe3 x)))⟩
theorem qg5:CtxM Tryz.prog qg6:=ek fits ax (mC fo (mC q56 (mC qy2 m0)))
theorem q7v:am Tryz.prog qg6 1 (lc 6 Tryz.f160 303):=lp rfl qg5 (.two .z (.two .z (.two (.one (.two .z (.two .z (.two (.d [0,1,0,4,12,28,0,124,252,508,1023,0,2048,0,8192,32767,8191,131071,262143,524287] [10,15,17,19] []) .z)))) .z))) s0 (fun c a=>(((),c.1,c.2.1,c.2.2.1,(),(pe3 c),(pe4 c),a.1,()),(((pe5 c),(pf6 c),()),((),(),()),a.2.1,a.2.2,()))) (fun y=>((y.1.2.1,y.1.2.2.1,y.2.1.1,y.2.1.2.1),((pe3 y),(pe4 y))))
theorem q7u:am Tryz.prog qg6 0 (lc 4 Tryz.f160 75):=lp rfl qg5 .z s0 (fun c a=>(((),c.1,c.2.1,c.2.2.1,(),(pe3 c),a,()),(((),(),()),(pe4 c),(pf5 c),()))) (fun y=>((y.1.2.1,y.1.2.2.1,(pe3 y.1),y.2.2.1,(pe3 y)),()))
abbrev qrn:Mdl:=(aq (.cons (.ptr 0) (.cons (.d true qT1) (.cons (.d true qT1) .nil))) [q53,qgq,qgq] [true,false,false] 0 qo1 (B:=(qL2×qL2)) (fun b=>((()),(((),(),()),b.1,b.2,()))) (fun a=>qdg a.1.2.1 a.1.2.2.1 a.2.2.1 (pe3 a)))
theorem q3i:MdlOK Tryz.prog 160 qrn:=eh Tryz.func160 rfl qg5 (.two .z (.two .z (.two (.two .z (.s 0)) (.two .z (.two (.two .z (.s 1)) (.d [0,0,0,4,0,16,60,0,128,0,512,2044,4093,8189,16381,32767,65535,131071] [6,11,14,17] [])))))) (sC q7u (sC q7v s0))
def jb0:Shp:=⟨[ze2],[qf0]⟩
abbrev jhj:Ctx (qL1):=⟨37,tt,false,false,[],dv [],ee [ai _ 37 [] jm6 (C:=(Int×qL1×Int×qL1×Int)) (S:=(Int×qL1)) (fun x=>((x.1.1,x.1.2.1,x.1.2.2.1,(pe3 x.1),(pe5 x.1)),((pe6 x.1),x.2.1))) jm5 (CE:=Unit) (E:=qL1) (fun c e=>(((),()),(e,()))) (fun c=>()) (fun{R} c a nx dn rt=>qim c.1 c.2.1 c.2.2.1 (pe3 c) (pf4 c) a.1 a.2 nx dn rt)],bj 37 tt [] [.tmp 8] jb0 (fun x=>x.2.1)⟩
theorem jhh:CtxM Tryz.prog jhj:=ek fits ax m0
theorem jp6:am Tryz.prog jhj 0 (lc 0 Tryz.f161 75):=lp rfl jhh (.two .z (.two .z (.two (.one (.two .z (.d [0,0,0,0,0,24,56,124,0,0,0,1536,3584,7936,16380,32767,65535] [16] []))) .z))) s0 (fun c a=>((c.1,c.2.1,c.2.2.1,(pe3 c),(),(pf4 c),a.1,()),(a.2,()))) (fun y=>((),y.2.1))
abbrev jhi:Mdl:=(aq (.cons (.d false qT0) (.cons (.d false qT1) (.cons (.d false qT0) (.cons (.d false qT1) .nil)))) [] [] 1 jb0 (B:=qL1) (fun b=>(((),()),(b,()))) (fun a=>qg7 a.1.1 a.1.2.1 a.1.2.2.1 (pe3 a.1)))
theorem jm7:MdlOK Tryz.prog 161 jhi:=eh Tryz.func161 rfl jhh (.two .z (.two .z (.two (.two .z (.s 0)) .z))) (sC jp6 s0)
def qk1:Shp:=⟨[],[q53,qgq,qgq,jfq,jfq]⟩
abbrev li:Ctx ((qL2×qL2×qL1×qL1)):=⟨116,tt,false,false,[true,false,false,false,false],dv [(45,eo),(182,q27),(183,qw3)],ee [ai _ 116 [true,false,false,false,false] qy5 (C:=(Int×Int×qL1×qL2×qL2)) (S:=(Int×qL1)) (fun x=>(((pe3 x.1),(pe4 x.1),(pe3 x),(pe4 x),(pe5 x)),((pe5 x.1),x.2.2.1))) qy4 (CE:=(Int×qL1×qL2×qL2)) (E:=qL1) (fun c e=>(((),(),(),c.1,()),(((),(),()),e,c.2.1,c.2.2.1,c.2.2.2,()))) (fun c=>(c.1,c.2.2.1,(pe3 c),(pf4 c))) (fun{R} c a nx dn rt=>sd c.1 c.2.1 c.2.2.1 (pe3 c) (pf4 c) a.1 a.2 nx dn rt),ai _ 116 [true,false,false,false,false] qy7 (C:=(qL1×Int×Int×qL2×qL2)) (S:=(Int×qL1×qL1)) (fun x=>((x.1.2.1,(pe3 x.1),(pe4 x.1),(pe3 x),(pe4 x)),((pe5 x.1),x.2.2.1,(pe5 x)))) qy6 (CE:=(qL1×qL2×qL2)) (E:=(qL1×qL1)) (fun c e=>(((),c.1,(),()),(((),(),()),e.1,c.2.1,c.2.2,e.2,()))) (fun c=>(c.1,(pe3 c),(pf4 c))) (fun{R} c a nx dn rt=>se c.1 c.2.1 c.2.2.1 (pe3 c) (pf4 c) a.1 a.2.1 a.2.2 nx dn rt),ai _ 116 [true,false,false,false,false] qy9 (C:=(qL1×qL1×Int×Int×qL2×qL2)) (S:=(Int×qL1×qL1)) (fun x=>((x.1.2.1,x.1.2.2.1,(pe3 x.1),(pe5 x.1),x.2.2.1,(pe3 x)),((pe6 x.1),(pe4 x),(pe5 x)))) qy8 (CE:=(qL1×qL1×Int×qL2×qL2)) (E:=(qL1×qL1)) (fun c e=>(((),c.1,c.2.1,c.2.2.1,()),(((),(),()),(pe3 c),(pf4 c),e.1,e.2,()))) (fun c=>(c.1,c.2.1,c.2.2.1,(pf5 c),(pe4 c))) (fun{R} c a nx dn rt=>iw c.1 c.2.1 c.2.2.1 (pe3 c) (pe4 c) (pf5 c) a.1 a.2.1 a.2.2 nx dn rt),ai _ 116 [true,false,false,false,false] qzb (C:=(qL1×qL1×Int×qL2×Int×qL2×qL2)) (S:=(Int×qL2×qL2×qL1)) (fun x=>((x.1.2.1,x.1.2.2.1,(pe3 x.1),(pe5 x.1),(pe6 x.1),x.2.1.1,x.2.1.2.1),((pe7 x.1),(pe3 x),(pe4 x),(pe5 x)))) qza (CE:=(qL1×qL1×qL2×qL2)) (E:=(qL2×qL2×qL1)) (fun c e=>(((),c.1,c.2.1,(),()),((c.2.2.1,c.2.2.2,()),((),(),()),e.1,e.2.1,e.2.2,()))) (fun c=>(c.1,c.2.1,(pe5 c),(pf6 c))) (fun{R} c a nx dn rt=>lu c.1 c.2.1 c.2.2.1 (pe3 c) (pe4 c) (pe5 c) (pf6 c) a.1 a.2.1 a.2.2.1 a.2.2.2 nx dn rt),zp _ 116 [true,false,false,false,false] qzd (A:=(qL1×qL1×qL2×qL2×qL1×qL1)) (fun x=>(x.1.2.1,x.1.2.2.1,x.2.2.1,(pe3 x),(pe4 x),(pe5 x))) qzc (CE:=Unit) (E:=(qL2×qL2×qL1×qL1)) (fun c e=>((()),(((),(),()),e.1,e.2.1,e.2.2.1,e.2.2.2,()))) (fun c=>()) (fun{R} c dn rt=>zd c.1 c.2.1 c.2.2.1 (pe3 c) (pe4 c) (pf5 c) dn rt)],bj 116 tt [true,false,false,false,false] [] qk1 (fun x=>(x.2.2.1,(pe3 x),(pe4 x),(pe5 x)))⟩
theorem lh:CtxM Tryz.prog li:=ek fits ax (mC fo (mC q56 (mC qy2 m0)))
theorem q29:am Tryz.prog li 0 (lc 0 Tryz.f160 294):=lp rfl lh .z s0 (fun c a=>(((),(),(),c.1,c.2.1,a.1,()),(((),(),()),a.2,c.2.2.1,(pe3 c),(pf4 c),()))) (fun y=>(((pe3 y.1),(pe3 y),(pe4 y),(pe5 y)),y.2.2.1))
theorem q3a:am Tryz.prog li 1 (lc 2 Tryz.f160 310):=lp rfl lh .z s0 (fun c a=>(((),c.1,(),c.2.1,c.2.2.1,a.1,()),(((),(),()),a.2.1,(pe3 c),(pf4 c),a.2.2,()))) (fun y=>((y.1.2.1,(pe3 y),(pe4 y)),(y.2.2.1,(pe5 y))))
theorem q3c:am Tryz.prog li 3 (lc 6 Tryz.f160 303):=lp rfl lh (.two .z (.two .z (.two (.one (.two .z (.two .z (.two (.d [0,1,0,4,12,28,0,124,252,508,1023,0,2048,0,8192,32767,8191,131071,262143,524287] [10,15,17,19] []) .z)))) .z))) s0 (fun c a=>(((),c.1,c.2.1,c.2.2.1,(),(pe3 c),(pe4 c),a.1,()),(((pe5 c),(pf6 c),()),((),(),()),a.2.1,a.2.2.1,a.2.2.2,()))) (fun y=>((y.1.2.1,y.1.2.2.1,y.2.1.1,y.2.1.2.1),((pe3 y),(pe4 y),(pe5 y))))
theorem q3b:am Tryz.prog li 2 (lc 4 Tryz.f160 75):=lp rfl lh .z s0 (fun c a=>(((),c.1,c.2.1,c.2.2.1,(),(pe3 c),a.1,()),(((),(),()),(pe4 c),(pf5 c),a.2.1,a.2.2,()))) (fun y=>((y.1.2.1,y.1.2.2.1,(pe3 y.1),y.2.2.1,(pe3 y)),((pe4 y),(pe5 y))))
theorem q3d:am Tryz.prog li 4 (jc Tryz.f160 3):=jn rfl lh (.two .z (.two (.two .z (.s 2)) (.two .z (.two (.two .z (.s 3)) (.d [0,0,0,4,0,16,60,0,128,0,512,2044,4093,8189,16381,32767,65535,131071] [6,11,14,17] []))))) (sC q3b (sC q3c s0)) (fun c=>(((),c.1,c.2.1,()),(((),(),()),c.2.2.1,(pe3 c),(pe4 c),(pf5 c),()))) (fun y=>((),(y.2.2.1,(pe3 y),(pe4 y),(pe5 y))))
abbrev qoy:Mdl:=(aq (.cons (.ptr 0) (.cons (.own 1) (.cons (.own 2) .nil))) [zfw,qf0,qf0,qgq,qgq] [true,false,false,false,false] 0 qk1 (B:=(qL2×qL2×qL1×qL1)) (fun b=>((()),(((),(),()),b.1,b.2.1,b.2.2.1,b.2.2.2,()))) (fun a=>zc a.2.2.1 (pe3 a) (pe4 a) (pe5 a)))
theorem qze:MdlOK Tryz.prog 160 qoy:=eh Tryz.func160 rfl lh (.two (.two .z (.two .z (.two (.two (.two .z (.s 0)) (.two .z (.s 1))) .z))) (.s 4)) (sC q29 (sC q3a (sC q3d s0)))
def qby:Shp:=⟨[qjn],[q53,qgq,qgq]⟩
abbrev lx:Ctx ((Bool×qL2×qL2)):=⟨142,tt,false,false,[true,false,false],dv [(160,qrn),(160,qoy),(161,jhi)],ee [ai _ 142 [true,false,false] qnl (C:=(Int×Int×qL2×qL2)) (S:=(Int×qL2×qL2)) (fun x=>((x.1.2.1,(pe3 x.1),(pe3 x),(pe4 x)),((pe4 x.1),(pe5 x),(pe6 x)))) qnk (CE:=(Int×qL2×qL2)) (E:=(qL2×qL2)) (fun c e=>(((),c.1,(),()),(((),(),()),((),(),()),c.2.1,c.2.2,e.1,e.2,()))) (fun c=>(c.1,c.2.2.1,c.2.2.2)) (fun{R} c a nx dn rt=>fx c.1 c.2.1 c.2.2.1 c.2.2.2 a.1 a.2.1 a.2.2 nx dn rt),ai _ 142 [true,false,false] qnn (C:=(Int×Int×Int×Int×Int×qL2×qL2)) (S:=(Int×qL2×qL2)) (fun x=>((x.1.2.1,(pe3 x.1),(pe4 x.1),(pe5 x.1),(pe6 x.1),(pe3 x),(pe4 x)),((pe7 x.1),(pe5 x),(pe6 x)))) qnm (CE:=(Int×Int×Int×qL2×qL2)) (E:=(qL2×qL2)) (fun c e=>(((),c.1,(),c.2.1,c.2.2.1,()),(((),(),()),((),(),()),(pe3 c),(pf4 c),e.1,e.2,()))) (fun c=>(c.1,c.2.2.1,(pe3 c),(pe5 c),(pf6 c))) (fun{R} c a nx dn rt=>d3 c.1 c.2.1 c.2.2.1 (pe3 c) (pe4 c) (pe5 c) (pf6 c) a.1 a.2.1 a.2.2 nx dn rt),ai _ 142 [true,false,false] qnp (C:=(Int×Int×qL2×qL2)) (S:=(Int×qL2×qL2)) (fun x=>((x.1.2.1,(pe3 x.1),(pe3 x),(pe4 x)),((pe4 x.1),(pe5 x),(pe6 x)))) qno (CE:=(qL2×qL2)) (E:=(qL2×qL2)) (fun c e=>(((),(),()),(((),(),()),((),(),()),c.1,c.2,e.1,e.2,()))) (fun c=>(c.2.2.1,c.2.2.2)) (fun{R} c a nx dn rt=>jj c.1 c.2.1 c.2.2.1 c.2.2.2 a.1 a.2.1 a.2.2 nx dn rt)],bj 142 tt [true,false,false] [.tmp 4] qby (fun x=>(x.1.1,x.2.2.1,(pe3 x)))⟩
theorem lw:CtxM Tryz.prog lx:=ek fits ax (mC q3i (mC qze (mC jm7 m0)))
theorem qqh:am Tryz.prog lx 1 (lc 4 Tryz.f132 39319):=lp rfl lw (.two .z (.two .z (.two (.one (.two .z (.two (.d [0,1,3,7,0,31,63,0,255,511,0,1024,3072,7168,0,31744,64512,0,261120,523264,1023,2097151] [] []) (.two .z (.two (.d [0,0,2,0,8,24,56,0,248,504,0,0,2048,6144,14336,0,63488,129024,262142,0,524288,0,2097152,6291456,14680064,0,65011712,132120576,0,0,536870912,1610612736,3758096384,0,16642998272,33822867456,68719476734,137438953471] [37] []) .z))))) .z))) s0 (fun c a=>(((),c.1,(),c.2.1,c.2.2.1,(pe3 c),(pe4 c),a.1,()),(((),(),()),((),(),()),(pe5 c),(pf6 c),a.2.1,a.2.2,()))) (fun y=>((y.1.2.1,(pe3 y.1),(pe4 y.1),(pe3 y),(pe4 y)),((pe5 y),(pe6 y))))
theorem qqi:am Tryz.prog lx 2 (lc 2 Tryz.f132 151):=lp rfl lw (.two .z (.two .z (.two (.one (.two .z (.two .z (.s 1)))) .z))) (sC qqh s0) (fun c a=>(((),c.1,(),c.2.1,a.1,()),(((),(),()),((),(),()),c.2.2.1,c.2.2.2,a.2.1,a.2.2,()))) (fun y=>(((pe3 y),(pe4 y)),((pe5 y),(pe6 y))))
theorem qqg:am Tryz.prog lx 0 (lc 0 Tryz.f132 75):=lp rfl lw (.two .z (.two .z (.two (.one (.two .z (.two .z (.two (.d [0,0,2,6,14,0,62,126,0,256,768,1792,0,7936,16128,32767] [15] []) .z)))) .z))) s0 (fun c a=>(((),c.1,(),c.2.1,a.1,()),(((),(),()),((),(),()),c.2.2.1,c.2.2.2,a.2.1,a.2.2,()))) (fun y=>((y.1.2.1,(pe3 y),(pe4 y)),((pe5 y),(pe6 y))))
abbrev qd4:Mdl:=(aq (.cons (.ptr 0) (.cons (.d false qT0) .nil)) [q53,qgq,qgq] [true,false,false] 1 qby (B:=(Bool×qL2×qL2)) (fun b=>((b.1,()),(((),(),()),b.2.1,b.2.2,()))) (fun a=>nc a.1.2.1 a.2.2.1 (pe3 a)))
theorem qnq:MdlOK Tryz.prog 132 qd4:=eh Tryz.func132 rfl lw (.two .z (.two .z (.two (.two .z (.s 0)) (.two (.two .z (.s 2)) .z)))) (sC qqg (sC qqi s0))
def qes:Shp:=⟨[],[qgq]⟩
abbrev rq:Mdl:=(aq (.cons (.own 0) (.cons (.fn 110 .nil) .nil)) [qgq] [true] 0 qes (B:=qL2) (fun b=>((()),(b,()))) (fun a=>jw a.2.1))
theorem qdd:MdlOK Tryz.prog 108 rq:=jtb 110 (by decide)
def qkw:Shp:=⟨[qjn],[]⟩
abbrev q7t:Ctx (Bool):=⟨5,tt,false,false,[],dv [],ee [],bj 5 tt [] [.tmp 2] qkw (fun x=>x.1.1)⟩
theorem q7s:CtxM Tryz.prog q7t:=ek fits ax m0
abbrev qow:Mdl:=(aq (.cons (.d false qT0) .nil) [] [] 1 qkw (B:=Bool) (fun b=>((b,()),(()))) (fun a=>qg4 a.1.1))
theorem qy3:MdlOK Tryz.prog 133 qow:=eh Tryz.func133 rfl q7s .z s0
def od:Shp:=⟨[jqp],[]⟩
abbrev oy:Ctx (Int):=⟨19,tt,false,false,[],dv [(133,qow)],ee [ai _ 19 [] qbm (C:=(qL1×Int)) (S:=Int) (fun x=>((x.1.1,x.1.2.2.1),(pe3 x.1))) qbl (CE:=Unit) (E:=Unit) (fun c e=>((()),(()))) (fun c=>()) (fun{R} c a nx dn rt=>dq c.1 c.2 a nx dn rt)],bj 19 tt [] [.tmp 4] od (fun x=>x.1.1)⟩
theorem ow:CtxM Tryz.prog oy:=ek fits ax (mC qy3 m0)
theorem qc0:am Tryz.prog oy 0 (lc 0 Tryz.f79 37):=lp rfl ow .z s0 (fun c a=>((c.1,(()),c.2,a,()),(()))) (fun y=>((),()))
abbrev ox:Mdl:=(aq (.cons (.d false qT1) (.cons (.fn 133 .nil) .nil)) [] [] 1 od (B:=Int) (fun b=>((b,()),(()))) (fun a=>jd a.1.1))
theorem qbn:MdlOK Tryz.prog 79 ox:=eh Tryz.func79 rfl ow (.two .z (.two (.two .z (.s 0)) .z)) (sC qc0 s0)
def k7:Shp:=⟨[qjn],[]⟩
abbrev qaz:Ctx (Bool):=⟨9,tt,false,false,[],dv [(79,ox)],ee [],bj 9 tt [] [.tmp 4] k7 (fun x=>x.1.1)⟩
theorem qay:CtxM Tryz.prog qaz:=ek fits ax (mC qbn m0)
abbrev mc:Mdl:=(aq (.cons (.d false qT1) (.cons (.fn 133 .nil) .nil)) [] [] 1 k7 (B:=Bool) (fun b=>((b,()),(()))) (fun a=>dm a.1.1))
theorem xw:MdlOK Tryz.prog 32 mc:=eh Tryz.func32 rfl qay .z s0
def qrm:Shp:=⟨[zgl,qnf],[]⟩
abbrev vm:Ctx ((qL2×Int)):=⟨83,tt,false,false,[],dv [(45,eo),(132,qd4),(108,rq),(32,mc)],ee [ai _ 83 [] q7l (C:=(qL2×qL2×Int)) (S:=(Int×qL2×qL2)) (fun x=>((x.1.1,x.1.2.2.1,(pe3 x.1)),((pe4 x.1),x.2.2.1,(pe3 x)))) q7k (CE:=qL2) (E:=(qL2×qL2)) (fun c e=>((c,(),()),(((),(),()),e.1,e.2,()))) (fun c=>c.1) (fun{R} c a nx dn rt=>wh c.1 c.2.1 c.2.2 a.1 a.2.1 a.2.2 nx dn rt),ai _ 83 [] q7n (C:=Int) (S:=(Int×qL2×qL2)) (fun x=>(x.1.2.1,(x.1.2.2.1,x.2.2.1,(pe3 x)))) q7m (CE:=Unit) (E:=(qL2×qL2)) (fun c e=>(((),()),(((),(),()),e.1,e.2,()))) (fun c=>()) (fun{R} c a nx dn rt=>wi c a.1 a.2.1 a.2.2 nx dn rt),ai _ 83 [] q7p (C:=(qL2×qL2×Int)) (S:=Int) (fun x=>((x.1.1,x.1.2.1,x.1.2.2.1),(pe3 x.1))) q7o (CE:=qL2) (E:=Unit) (fun c e=>((c,()),(()))) (fun c=>c.1) (fun{R} c a nx dn rt=>wj c.1 c.2.1 c.2.2 a nx dn rt),zp _ 83 [] q7r (A:=(qL2×qL2)) (fun x=>(x.2.1.1,x.2.2.1)) q7q (CE:=Unit) (E:=Unit) (fun c e=>((()),(()))) (fun c=>()) (fun{R} c dn rt=>qe1 c.1 c.2 dn rt)],bj 83 tt [] [.tmp 2, .tmp 3] qrm (fun x=>(x.1.1,x.1.2.1))⟩
theorem vk:CtxM Tryz.prog vm:=ek fits ax (mC fo (mC qnq (mC qdd (mC xw m0))))
theorem jbx:am Tryz.prog vm 2 (lc 4 Tryz.f95 2431):=lp rfl vk .z s0 (fun c a=>((c.1,c.2.1,c.2.2,a,()),(()))) (fun y=>(y.1.1,()))
theorem jbw:am Tryz.prog vm 1 (lc 2 Tryz.f95 599):=lp rfl vk .z s0 (fun c a=>(((),c,a.1,()),(((),(),()),a.2.1,a.2.2,()))) (fun y=>((),(y.2.2.1,(pe3 y))))
theorem jbv:am Tryz.prog vm 0 (lc 0 Tryz.f95 75):=lp rfl vk (.two .z (.two .z (.two (.one (.two .z (.two .z (.two .z (.d [0,0,0,4,12,28,0,64,192,508,0,1024,3072,7168,0,16384,65532,131069,262141,524285,1048575,2097151,4194303] [9,16,19,22] []))))) .z))) s0 (fun c a=>((c.1,(),c.2.1,c.2.2,a.1,()),(((),(),()),a.2.1,a.2.2,()))) (fun y=>(y.1.1,(y.2.2.1,(pe3 y))))
theorem jby:am Tryz.prog vm 3 (jc Tryz.f95 31):=jn rfl vk (.two .z (.two .z (.two .z (.two (.two .z (.s 2)) .z)))) (sC jbx s0) (fun c=>(((),()),((c.1,(),()),c.2,()))) (fun y=>((),()))
abbrev qjr:Mdl:=(aq (.cons (.d false qT2) .nil) [] [] 2 qrm (B:=(qL2×Int)) (fun b=>((b.1,b.2,()),(()))) (fun a=>za a.1.1))
theorem qox:MdlOK Tryz.prog 95 qjr:=eh Tryz.func95 rfl vk (.two .z (.two .z (.two (.two .z (.s 0)) (.two (.two .z (.two (.two .z (.s 1)) .z)) (.s 3))))) (sC jbv (sC jbw (sC jby s0)))
def qu9:Shp:=⟨[zgl,qnf],[]⟩
abbrev qni:Ctx ((qL2×Int)):=⟨43,tt,false,false,[],dv [(41,ie),(93,qri),(94,qnj),(95,qjr)],ee [ai _ 43 [] jbn (C:=(Int×Int×Int×(List af)×Int×Int×(List af)×Int×Int×qL2)) (S:=(Int×qL1)) (fun x=>((x.1.2.2.1,(pe4 x.1),(pe5 x.1),(pe6 x.1),(pe7 x.1),x.2.1.1,x.2.1.2.1,x.2.1.2.2.1,(pe3 x.2.1),x.2.2.1),((pe8 x.1),(pe3 x)))) jbm (CE:=(Int×Int×Int×(List af)×Int×Int×qL2)) (E:=qL1) (fun c e=>(((),(),(),c.1,c.2.1,()),((c.2.2.1,(pe3 c),(pe4 c),(pe5 c),()),(pf6 c),e,()))) (fun c=>(c.2.1,c.2.2.1,(pe5 c),(pe6 c),(pe7 c),(pe8 c),(pf9 c))) (fun{R} c a nx dn rt=>yz c.1 c.2.1 c.2.2.1 (pe3 c) (pe4 c) (pe5 c) (pe6 c) (pe7 c) (pe8 c) (pf9 c) a.1 a.2 nx dn rt),ai _ 43 [] jbp (C:=(Int×Int×(List af)×Int×Int)) (S:=(Int×qL2)) (fun x=>((x.1.2.2.1,x.2.1.1,x.2.1.2.1,x.2.1.2.2.1,(pe3 x.2.1)),((pe3 x.1),x.2.2.1))) jbo (CE:=Unit) (E:=qL2) (fun c e=>(((),()),(e,()))) (fun c=>()) (fun{R} c a nx dn rt=>y0 c.1 c.2.1 c.2.2.1 (pe3 c) (pf4 c) a.1 a.2 nx dn rt)],bj 43 tt [] [.tmp 2, .tmp 3] qu9 (fun x=>(x.1.1,x.1.2.1))⟩
theorem qnh:CtxM Tryz.prog qni:=ek fits ax (mC f8 (mC qvb (mC qrg (mC qox m0))))
theorem jfs:am Tryz.prog qni 0 (lc 2 Tryz.f53 308015):=lp rfl qnh .z s0 (fun c a=>(((),(),c.1,(),c.2.1,c.2.2.1,(pe3 c),(pe4 c),a.1,()),(((pe5 c),(pe6 c),(pe7 c),(pe8 c),()),(pf9 c),a.2,()))) (fun y=>(((pe3 y.1),(pe4 y.1),y.2.1.1,y.2.1.2.1,y.2.1.2.2.1,(pe3 y.2.1),y.2.2.1),(pe3 y)))
theorem jft:am Tryz.prog qni 1 (lc 0 Tryz.f53 303):=lp rfl qnh (.two .z (.two .z (.two (.one (.two .z (.two .z (.two (.two .z (.s 0)) .z)))) .z))) (sC jfs s0) (fun c a=>(((),(),c.1,a.1,()),((c.2.1,c.2.2.1,(pe3 c),(pf4 c),()),a.2,()))) (fun y=>((),y.2.1))
abbrev qy0:Mdl:=(aq (.cons (.d false ca.ty) .nil) [] [] 2 qu9 (B:=(qL2×Int)) (fun b=>((b.1,b.2,()),(()))) (fun a=>qik a.1.1))
theorem jbq:MdlOK Tryz.prog 53 qy0:=eh Tryz.func53 rfl qnh (.two .z (.two .z (.two .z (.two .z (.two (.two .z (.s 1)) .z))))) (sC jft s0)
def qg2:Shp:=⟨[zgl,qnf],[]⟩
abbrev y8:Ctx ((qL2×Int)):=⟨43,tt,false,false,[],dv [(41,ie),(93,qri),(94,qnj),(95,qjr)],ee [ai _ 43 [] qur (C:=((List af)×Int×Int×Int×Int×(List af)×Int×Int×qL2×ByteArray×qL1×qL1)) (S:=(Int×qL1)) (fun x=>(((pe4 x.1),(pe5 x.1),(pe6 x.1),(pe7 x.1),x.2.1.1,x.2.1.2.1,x.2.1.2.2.1,(pe3 x.2.1),x.2.2.1,(pe3 x).1,(pe3 x).2.1,(pe3 x).2.2.1),((pe8 x.1),(pe4 x)))) quq (CE:=((List af)×Int×Int×Int×(List af)×Int×Int×qL2)) (E:=qL1) (fun c e=>(((),(),(),c.1,c.2.1,c.2.2.1,()),(((pe3 c),(pe4 c),(pe5 c),(pe6 c),()),(pf7 c),e,()))) (fun c=>(c.1,c.2.1,c.2.2.1,(pe4 c),(pe5 c),(pe6 c),(pe7 c),(pe8 c))) (fun{R} c a nx dn rt=>m9 c.1 c.2.1 c.2.2.1 (pe3 c) (pe4 c) (pe5 c) (pe6 c) (pe7 c) (pe8 c) (pe9 c) (pe10 c) (pf11 c) a.1 a.2 nx dn rt),ai _ 43 [] qut (C:=((List af)×Int×Int×(List af)×Int×Int)) (S:=(Int×qL2)) (fun x=>((x.1.2.2.1,(pe3 x.1),x.2.1.1,x.2.1.2.1,x.2.1.2.2.1,(pe3 x.2.1)),((pe4 x.1),x.2.2.1))) qus (CE:=Unit) (E:=qL2) (fun c e=>(((),()),(e,()))) (fun c=>()) (fun{R} c a nx dn rt=>na c.1 c.2.1 c.2.2.1 (pe3 c) (pe4 c) (pf5 c) a.1 a.2 nx dn rt)],bj 43 tt [] [.tmp 2, .tmp 3] qg2 (fun x=>(x.1.1,x.1.2.1))⟩
theorem y7:CtxM Tryz.prog y8:=ek fits ax (mC f8 (mC qvb (mC qrg (mC qox m0))))
theorem qw0:am Tryz.prog y8 0 (lc 2 Tryz.f54 308015):=lp rfl y7 .z s0 (fun c a=>(((),(),(),(),c.1,c.2.1,c.2.2.1,(pe3 c),a.1,()),(((pe4 c),(pe5 c),(pe6 c),(pe7 c),()),(pe8 c),((pe9 c),(pe10 c),(pf11 c),()),a.2,()))) (fun y=>(((pe3 y.1),(pe4 y.1),(pe5 y.1),y.2.1.1,y.2.1.2.1,y.2.1.2.2.1,(pe3 y.2.1),y.2.2.1),(pe3 y)))
theorem qw1:am Tryz.prog y8 1 (lc 0 Tryz.f54 303):=lp rfl y7 (.two .z (.two .z (.two (.one (.two .z (.two .z (.two (.two .z (.s 0)) .z)))) .z))) (sC qw0 s0) (fun c a=>(((),(),c.1,c.2.1,a.1,()),((c.2.2.1,(pe3 c),(pe4 c),(pf5 c),()),a.2,()))) (fun y=>((),y.2.1))
abbrev qil:Mdl:=(aq (.cons (.d false ca.ty) .nil) [] [] 2 qg2 (B:=(qL2×Int)) (fun b=>((b.1,b.2,()),(()))) (fun a=>t6 a.1.1))
theorem quu:MdlOK Tryz.prog 54 qil:=eh Tryz.func54 rfl y7 (.two .z (.two .z (.two .z (.two .z (.two (.two .z (.s 1)) .z))))) (sC qw1 s0)
def qi1:Shp:=⟨[ze2,qnf],[q7a]⟩
abbrev qcn:Ctx ((Int×qL2)):=⟨80,tt,false,false,[],dv [(41,ie),(35,db)],ee [ai _ 80 [] qxd (C:=(Int×Int×Int×(List af)×Int×Int×(List af)×Int×Int)) (S:=(Int×qL2)) (fun x=>((x.1.2.2.1,(pe3 x.1),(pe4 x.1),(pe5 x.1),(pe6 x.1),x.2.1.1,x.2.1.2.1,x.2.1.2.2.1,(pe3 x.2.1)),((pe7 x.1),x.2.2.1))) qxc (CE:=(Int×Int×Int×(List af)×Int×Int)) (E:=qL2) (fun c e=>(((),(),c.1,c.2.1,()),((c.2.2.1,(pe3 c),(pe4 c),(pf5 c),()),e,()))) (fun c=>(c.2.1,c.2.2.1,(pe5 c),(pe6 c),(pe7 c),(pf8 c))) (fun{R} c a nx dn rt=>pp c.1 c.2.1 c.2.2.1 (pe3 c) (pe4 c) (pe5 c) (pe6 c) (pe7 c) (pf8 c) a.1 a.2 nx dn rt),ai _ 80 [] qxf (C:=(Int×Int×(List af)×Int×Int)) (S:=(Int×qL2)) (fun x=>((x.1.2.2.1,x.2.1.1,x.2.1.2.1,x.2.1.2.2.1,(pe3 x.2.1)),((pe3 x.1),x.2.2.1))) qxe (CE:=Unit) (E:=qL2) (fun c e=>(((),()),(e,()))) (fun c=>()) (fun{R} c a nx dn rt=>pq c.1 c.2.1 c.2.2.1 (pe3 c) (pf4 c) a.1 a.2 nx dn rt)],bj 80 tt [] [.tmp 2, .tmp 3] qi1 (fun x=>(x.1.2.1,x.2.1))⟩
theorem qcm:CtxM Tryz.prog qcn:=ek fits ax (mC f8 (mC dr m0))
theorem q0b:am Tryz.prog qcn 0 (lc 3 Tryz.f55 80279):=lp rfl qcm .z s0 (fun c a=>(((),(),c.1,c.2.1,c.2.2.1,(pe3 c),(pe4 c),a.1,()),(((pe5 c),(pe6 c),(pe7 c),(pf8 c),()),a.2,()))) (fun y=>((y.1.2.2.1,(pe3 y.1),y.2.1.1,y.2.1.2.1,y.2.1.2.2.1,(pe3 y.2.1)),y.2.2.1))
theorem q0c:am Tryz.prog qcn 1 (lc 1 Tryz.f55 151):=lp rfl qcm (.two .z (.two .z (.two (.one (.two .z (.two .z (.two .z (.s 0))))) .z))) (sC q0b s0) (fun c a=>(((),(),c.1,a.1,()),((c.2.1,c.2.2.1,(pe3 c),(pf4 c),()),a.2,()))) (fun y=>((),y.2.1))
abbrev qlq:Mdl:=(aq (.cons (.d false ca.ty) .nil) [] [] 2 qi1 (B:=(Int×qL2)) (fun b=>(((),b.1,()),(b.2,()))) (fun a=>wm a.1.1))
theorem qxg:MdlOK Tryz.prog 55 qlq:=eh Tryz.func55 rfl qcm (.two .z (.two .z (.two .z (.two (.two .z (.s 1)) .z)))) (sC q0c s0)
def qhm:Shp:=⟨[qjn],[]⟩
abbrev qz1:Ctx (Bool):=⟨9,tt,false,false,[],dv [],ee [],bj 9 tt [] [.tmp 2] qhm (fun x=>x.1.1)⟩
theorem qz0:CtxM Tryz.prog qz1:=ek fits ax m0
abbrev qiv:Mdl:=(aq (.cons (.d false qT0) .nil) [] [] 1 qhm (B:=Bool) (fun b=>((b,()),(()))) (fun a=>ub a.1.1))
theorem qu3:MdlOK Tryz.prog 162 qiv:=eh Tryz.func162 rfl qz0 .z s0
def oi:Shp:=⟨[jqp],[]⟩
abbrev o7:Ctx (Int):=⟨19,tt,false,false,[],dv [(162,qiv)],ee [ai _ 19 [] qbs (C:=(qL1×Int)) (S:=Int) (fun x=>((x.1.1,x.1.2.2.1),(pe3 x.1))) qbr (CE:=Unit) (E:=Unit) (fun c e=>((()),(()))) (fun c=>()) (fun{R} c a nx dn rt=>cj c.1 c.2 a nx dn rt)],bj 19 tt [] [.tmp 4] oi (fun x=>x.1.1)⟩
theorem o5:CtxM Tryz.prog o7:=ek fits ax (mC qu3 m0)
theorem qc2:am Tryz.prog o7 0 (lc 0 Tryz.f79 37):=lp rfl o5 .z s0 (fun c a=>((c.1,(()),c.2,a,()),(()))) (fun y=>((),()))
abbrev o6:Mdl:=(aq (.cons (.d false qT1) (.cons (.fn 162 .nil) .nil)) [] [] 1 oi (B:=Int) (fun b=>((b,()),(()))) (fun a=>jf a.1.1))
theorem qbt:MdlOK Tryz.prog 79 o6:=eh Tryz.func79 rfl o5 (.two .z (.two (.two .z (.s 0)) .z)) (sC qc2 s0)
def k9:Shp:=⟨[qjn],[]⟩
abbrev qa3:Ctx (Bool):=⟨9,tt,false,false,[],dv [(79,o6)],ee [],bj 9 tt [] [.tmp 4] k9 (fun x=>x.1.1)⟩
theorem qa2:CtxM Tryz.prog qa3:=ek fits ax (mC qbt m0)
abbrev mf:Mdl:=(aq (.cons (.d false qT1) (.cons (.fn 162 .nil) .nil)) [] [] 1 k9 (B:=Bool) (fun b=>((b,()),(()))) (fun a=>gh a.1.1))
theorem xy:MdlOK Tryz.prog 32 mf:=eh Tryz.func32 rfl qa2 .z s0
def qlj:Shp:=⟨[qjn],[]⟩
abbrev q71:Ctx (Bool):=⟨6,tt,false,false,[],dv [(32,mf)],ee [],bj 6 tt [] [.tmp 2] qlj (fun x=>x.1.1)⟩
theorem q70:CtxM Tryz.prog q71:=ek fits ax (mC xy m0)
abbrev qpa:Mdl:=(aq (.cons (.d false qT1) .nil) [] [] 1 qlj (B:=Bool) (fun b=>((b,()),(()))) (fun a=>zx a.1.1))
theorem qz2:MdlOK Tryz.prog 135 qpa:=eh Tryz.func135 rfl q70 .z s0
def qli:Shp:=⟨[qjn],[]⟩
abbrev q7y:Ctx (Bool):=⟨16,tt,false,false,[],dv [(135,qpa)],ee [],bj 16 tt [] [.tmp 3] qli (fun x=>x.1.1)⟩
theorem q7x:CtxM Tryz.prog q7y:=ek fits ax (mC qz2 m0)
abbrev qo9:Mdl:=(aq (.cons (.d false qT1) (.cons (.rp false qT2) .nil)) [] [] 1 qli (B:=Bool) (fun b=>((b,()),(()))) (fun a=>zw a.1.1 a.1.2.1))
theorem qzy:MdlOK Tryz.prog 134 qo9:=eh Tryz.func134 rfl q7x .z s0
def og:Shp:=⟨[jqp],[]⟩
abbrev o4:Ctx (Int):=⟨19,tt,false,false,[],dv [(134,qo9)],ee [ai _ 19 [] qbp (C:=(qL2×qL2×Int)) (S:=Int) (fun x=>((x.1.1,x.1.2.1.1,x.1.2.2.1),(pe3 x.1))) qbo (CE:=Unit) (E:=Unit) (fun c e=>((()),(()))) (fun c=>()) (fun{R} c a nx dn rt=>ci c.1 c.2.1 c.2.2 a nx dn rt)],bj 19 tt [] [.tmp 4] og (fun x=>x.1.1)⟩
theorem oz:CtxM Tryz.prog o4:=ek fits ax (mC qzy m0)
theorem qc1:am Tryz.prog o4 0 (lc 0 Tryz.f111 37):=lp rfl oz .z s0 (fun c a=>((c.1,(c.2.1,()),c.2.2,a,()),(()))) (fun y=>((),()))
abbrev o3:Mdl:=(aq (.cons (.d false qT2) (.cons (.fn 134 (.cons (.rp false qT2) .nil)) .nil)) [] [] 1 og (B:=Int) (fun b=>((b,()),(()))) (fun a=>je a.1.1 a.1.2.1.1))
theorem qbq:MdlOK Tryz.prog 111 o3:=eh Tryz.func111 rfl oz (.two .z (.two (.two .z (.s 0)) .z)) (sC qc1 s0)
def k8:Shp:=⟨[qjn],[]⟩
abbrev qa1:Ctx (Bool):=⟨9,tt,false,false,[],dv [(111,o3)],ee [],bj 9 tt [] [.tmp 4] k8 (fun x=>x.1.1)⟩
theorem qa0:CtxM Tryz.prog qa1:=ek fits ax (mC qbq m0)
abbrev me:Mdl:=(aq (.cons (.d false qT2) (.cons (.fn 134 (.cons (.rp false qT2) .nil)) .nil)) [] [] 1 k8 (B:=Bool) (fun b=>((b,()),(()))) (fun a=>gg a.1.1 a.1.2.1.1))
theorem xx:MdlOK Tryz.prog 65 me:=eh Tryz.func65 rfl qa0 .z s0
def qr2:Shp:=⟨[qjn],[]⟩
abbrev jf0:Ctx (Bool):=⟨29,tt,false,false,[],dv [(65,me)],ee [],bj 29 tt [] [.tmp 2] qr2 (fun x=>x.1.1)⟩
theorem jfz:CtxM Tryz.prog jf0:=ek fits ax (mC xx m0)
abbrev qvh:Mdl:=(aq (.cons (.d false qT2) .nil) [] [] 1 qr2 (B:=Bool) (fun b=>((b,()),(()))) (fun a=>qgb a.1.1))
theorem q7z:MdlOK Tryz.prog 96 qvh:=eh Tryz.func96 rfl jfz .z s0
def qzz:Shp:=⟨[jqp],[]⟩
abbrev jns:Ctx (Int):=⟨7,tt,false,false,[],dv [],ee [],bj 7 tt [] [.tmp 2] qzz (fun x=>x.1.1)⟩
theorem jnr:CtxM Tryz.prog jns:=ek fits ax m0
abbrev q6d:Mdl:=(aq (.cons (.d false qT0) .nil) [] [] 1 qzz (B:=Int) (fun b=>((b,()),(()))) (fun a=>qoa a.1.1))
theorem jf1:MdlOK Tryz.prog 136 q6d:=eh Tryz.func136 rfl jnr .z s0
def qr6:Shp:=⟨[qjn],[]⟩
abbrev qj8:Ctx (Bool):=⟨33,tt,false,false,[],dv [(136,q6d)],ee [ai _ 33 [] q76 (C:=(Int×qL2×Int×Int×qL1×Int)) (S:=(Int×Int)) (fun x=>((x.1.1,x.1.2.2.1,(pe3 x.1),(pe4 x.1),(pe5 x.1),(pe6 x.1)),(x.1.2.1,(pe7 x.1)))) q75 (CE:=(Int×qL2×Int×Int)) (E:=Int) (fun c e=>((c.1,e,c.2.1,c.2.2.1,c.2.2.2,()),(()))) (fun c=>(c.1,c.2.1,c.2.2.1,(pe3 c))) (fun{R} c a nx dn rt=>wl c.1 c.2.1 c.2.2.1 (pe3 c) (pe4 c) (pf5 c) a.1 a.2 nx dn rt),ai _ 33 [] q78 (C:=(qL2×Int)) (S:=(Int×Int)) (fun x=>((x.1.2.1,x.1.2.2.1),(x.1.1,(pe3 x.1)))) q77 (CE:=Unit) (E:=Unit) (fun c e=>((()),(()))) (fun c=>()) (fun{R} c a nx dn rt=>qr c.1 c.2 a.1 a.2 nx dn rt)],bj 33 tt [] [.tmp 2] qr6 (fun x=>x.1.1)⟩
theorem qj7:CtxM Tryz.prog qj8:=ek fits ax (mC jf1 m0)
theorem jcv:am Tryz.prog qj8 0 (lc 2 Tryz.f97 77003):=lp rfl qj7 .z s0 (fun c a=>((c.1,a.1,c.2.1,c.2.2.1,(pe3 c),(pe4 c),(pf5 c),a.2,()),(()))) (fun y=>((y.1.1,y.1.2.2.1,(pe3 y.1),(pe4 y.1)),y.1.2.1))
theorem jcw:am Tryz.prog qj8 1 (lc 0 Tryz.f97 75):=lp rfl qj7 (.two .z (.two .z (.two (.one (.two .z (.two .z (.two (.two .z (.s 0)) .z)))) .z))) (sC jcv s0) (fun c a=>((a.1,c.1,c.2,a.2,()),(()))) (fun y=>((),()))
abbrev qvi:Mdl:=(aq (.cons (.d false qT2) .nil) [] [] 1 qr6 (B:=Bool) (fun b=>((b,()),(()))) (fun a=>qgc a.1.1))
theorem q79:MdlOK Tryz.prog 97 qvi:=eh Tryz.func97 rfl qj7 (.two .z (.two .z (.two (.two .z (.s 1)) .z))) (sC jcw s0)
def yd:Shp:=⟨[],[jao,q7a,qf0]⟩
abbrev po:Ctx ((Int×Int×qL2×qL1)):=⟨72,tt,true,false,[true,true,true],dv [],ee [ai _ 72 [true,true,true] qj3 (C:=(Int×Int×Nat×Int×Nat×Int×Int×Int×Int×Int×Int×qL1)) (S:=(Int×qL2)) (fun x=>((x.1.2.1,x.1.2.2.1,(pe3 x.1),(pe4 x.1),(pe5 x.1),(pe6 x.1),(pe8 x.1),(pe9 x.1),(pe10 x.1),x.2.1.2.2.1,(pe3 x.2.1),(pe3 x)),((pe11 x.1),x.2.2.1))) qj2 (CE:=(Int×Int×Nat×Int×Int×Int×Int×Int×qL1)) (E:=qL2) (fun c e=>(((),c.1,c.2.1,c.2.2.1,(pe3 c),(),(pe4 c),(pe5 c),()),(((),(),(pe6 c),(pe7 c),()),e,(pf8 c),()))) (fun c=>(c.1,c.2.1,c.2.2.1,(pe3 c),(pe6 c),(pe7 c),(pe9 c),(pe10 c),(pf11 c))) (fun{R} c a nx dn rt=>ib c.1 c.2.1 c.2.2.1 (pe3 c) (pe4 c) (pe5 c) (pe6 c) (pe7 c) (pe8 c) (pe9 c) (pe10 c) (pf11 c) a.1 a.2 nx dn rt),ai _ 72 [true,true,true] qj5 (C:=(Int×Int×Nat×Int×Int×Int×Int×qL1)) (S:=(Int×qL2)) (fun x=>((x.1.2.1,x.1.2.2.1,(pe3 x.1),(pe4 x.1),(pe6 x.1),x.2.1.2.2.1,(pe3 x.2.1),(pe3 x)),((pe7 x.1),x.2.2.1))) qj4 (CE:=(Int×Int×Int×qL1)) (E:=qL2) (fun c e=>(((),c.1,()),(((),(),c.2.1,c.2.2.1,()),e,c.2.2.2,()))) (fun c=>((pe3 c),(pe5 c),(pe6 c),(pf7 c))) (fun{R} c a nx dn rt=>ey c.1 c.2.1 c.2.2.1 (pe3 c) (pe4 c) (pe5 c) (pe6 c) (pf7 c) a.1 a.2 nx dn rt)],bj 72 tt [true,true,true] [] yd (fun x=>(x.2.1.2.2.1,(pe3 x.2.1),x.2.2.1,(pe3 x)))⟩
theorem pn:CtxM Tryz.prog po:=ek fits ax m0
theorem qlk:am Tryz.prog po 0 (lc 2 Tryz.f137 81099):=lp rfl pn (.two .z (.two .z (.two (.one (.two .z (.d [0,0,0,0,0,24,56,124,0,0,0,1536,3584,7936,16380,0,32768,98304,229376,524284,1048575,2097151] [21] []))) .z))) s0 (fun c a=>(((),c.1,c.2.1,c.2.2.1,(pe3 c),(pe4 c),(pe5 c),(),(pe6 c),(pe7 c),(pe8 c),a.1,()),(((),(),(pe9 c),(pe10 c),()),a.2,(pf11 c),()))) (fun y=>((y.1.2.1,y.1.2.2.1,(pe3 y.1),(pe4 y.1),(pe6 y.1),(pe7 y.1),y.2.1.2.2.1,(pe3 y.2.1),(pe3 y)),y.2.2.1))
theorem qll:am Tryz.prog po 1 (lc 0 Tryz.f137 75):=lp rfl pn (.two .z (.two .z (.two (.one (.two .z (.two .z (.two .z (.two .z (.s 0)))))) .z))) (sC qlk s0) (fun c a=>(((),c.1,c.2.1,c.2.2.1,(pe3 c),(),(pe4 c),a.1,()),(((),(),(pe5 c),(pe6 c),()),a.2,(pf7 c),()))) (fun y=>((y.1.2.1,y.2.1.2.2.1,(pe3 y.2.1),(pe3 y)),y.2.2.1))
abbrev z5:Mdl:=(aq (.cons (.ptr 0) (.cons (.d false qT0) (.cons (.d false qT0) .nil))) [.cs 114 4 1 (.cons (.own 1) (.cons (.own 2) (.cons (.d false qT0) (.cons (.d false qT0) .nil)))),q7a,qf0] [true,true,true] 0 yd (B:=(Int×Int×qL2×qL1)) (fun b=>((()),(((),(),b.1,b.2.1,()),b.2.2.1,b.2.2.2,()))) (fun a=>gp a.1.2.1 a.1.2.2.1 a.2.1.2.2.1 (pe3 a.2.1) a.2.2.1 (pe3 a)))
theorem qj6:MdlOK Tryz.prog 137 z5:=eh Tryz.func137 rfl pn (.two .z (.two .z (.two (.two .z (.s 1)) .z))) (sC qll s0)
def qpe:Shp:=⟨[zgk],[]⟩
abbrev zz:Ctx (az):=⟨102,tt,true,false,[],dv [(45,eo),(137,z5)],ee [ai _ 102 [] q3u (C:=(Int×qL2×Int×qL2×qL1×Int×Int×Int×Int×qL1)) (S:=(Int×qL2)) (fun x=>((x.1.1,(pe3 x.1),(pe4 x.1),x.2.1.1,x.2.1.2.1,x.2.1.2.2.1,(pe3 x.2.1),x.2.2.1.2.2.1,(pe3 x.2.2.1),(pe4 x)),((pe5 x.1),(pe3 x)))) q3t (CE:=(Int×qL2×qL1×Int×Int×Int×Int×qL1)) (E:=qL2) (fun c e=>((c.1,(),(),()),((c.2.1,c.2.2.1,(pe3 c),(pe4 c),()),((),(),(pe5 c),(pe6 c),()),e,(pf7 c),()))) (fun c=>(c.1,(pe3 c),(pe4 c),(pe5 c),(pe6 c),(pe7 c),(pe8 c),(pf9 c))) (fun{R} c a nx dn rt=>uc c.1 c.2.1 c.2.2.1 (pe3 c) (pe4 c) (pe5 c) (pe6 c) (pe7 c) (pe8 c) (pf9 c) a.1 a.2 nx dn rt),ai _ 102 [] q3w (C:=(Int×Int×Int×qL2×qL1×Int×Int×Int×Int×qL2×qL1)) (S:=Int) (fun x=>((x.1.1,(pe3 x.1),(pe4 x.1),x.2.1.1,x.2.1.2.1,x.2.1.2.2.1,(pe3 x.2.1),x.2.2.1.2.2.1,(pe3 x.2.2.1),(pe3 x),(pe4 x)),(pe5 x.1))) q3v (CE:=(Int×Int×Int×qL2×qL1×Int×Int×Int×Int×qL2×qL1)) (E:=Int) (fun c e=>((c.1,(),(),c.2.1,c.2.2.1,e,()),(((pe3 c),(pe4 c),(pe5 c),(pe6 c),()),((),(),(pe7 c),(pe8 c),()),(pe9 c),(pf10 c),()))) (fun c=>(c.1,c.2.1,c.2.2.1,(pe3 c),(pe4 c),(pe5 c),(pe6 c),(pe7 c),(pe8 c),(pe9 c),(pf10 c))) (fun{R} c a nx dn rt=>nr c.1 c.2.1 c.2.2.1 (pe3 c) (pe4 c) (pe5 c) (pe6 c) (pe7 c) (pe8 c) (pe9 c) (pf10 c) a nx dn rt),ai _ 102 [] q3y (C:=(Int×qL2×qL1×Int×Int)) (S:=(Int×Int×Int×qL2×qL1)) (fun x=>((x.1.1,x.2.1.1,x.2.1.2.1,x.2.1.2.2.1,(pe3 x.2.1)),((pe3 x.1),x.2.2.1.2.2.1,(pe3 x.2.2.1),(pe3 x),(pe4 x)))) q3x (CE:=(qL2×qL1×Int×Int)) (E:=(Int×Int×qL2×qL1)) (fun c e=>(((),(),()),((c.1,c.2.1,c.2.2.1,c.2.2.2,()),((),(),e.1,e.2.1,()),e.2.2.1,e.2.2.2,()))) (fun c=>(c.2.1,c.2.2.1,(pe3 c),(pf4 c))) (fun{R} c a nx dn rt=>fk c.1 c.2.1 c.2.2.1 (pe3 c) (pf4 c) a.1 a.2.1 a.2.2.1 (pe3 a) (pf4 a) nx dn rt)],bj 102 tt [] [.cell 4 114] qpe (fun x=>x.1.1)⟩
theorem zy:CtxM Tryz.prog zz:=ek fits ax (mC fo (mC qj6 m0))
theorem q73:am Tryz.prog zz 1 (lc 4 Tryz.f98 35991):=lp rfl zy .z s0 (fun c a=>((c.1,(),(),c.2.1,c.2.2.1,a,()),(((pe3 c),(pe4 c),(pe5 c),(pe6 c),()),((),(),(pe7 c),(pe8 c),()),(pe9 c),(pf10 c),()))) (fun y=>((y.1.1,(pe3 y.1),(pe4 y.1),y.2.1.1,y.2.1.2.1,y.2.1.2.2.1,(pe3 y.2.1),y.2.2.1.2.2.1,(pe3 y.2.2.1),(pe3 y),(pe4 y)),(pe5 y.1)))
theorem q74:am Tryz.prog zz 2 (lc 2 Tryz.f98 151):=lp rfl zy (.two .z (.two (.one (.two .z (.two .z (.two (.s 1) (.two .z (.two (.two .z (.two (.two (.d [0,1,0,0,8,0,0,64,0,448,960,0,2048,0,14336,30720,65503,131039,262143,524287] [17,19] []) .z) .z)) .z)))))) .z)) (sC q73 s0) (fun c a=>((c.1,(),(),a.1,()),((c.2.1,c.2.2.1,(pe3 c),(pf4 c),()),((),(),a.2.1,a.2.2.1,()),(pe3 a),(pf4 a),()))) (fun y=>((y.2.1.1,y.2.1.2.1,y.2.1.2.2.1,(pe3 y.2.1)),(y.2.2.1.2.2.1,(pe3 y.2.2.1),(pe3 y),(pe4 y))))
theorem q72:am Tryz.prog zz 0 (lc 0 Tryz.f98 75):=lp rfl zy (.two .z (.two .z (.two (.one (.two .z (.d [0,1,0,4,12,31,63,127] [5,7] []))) .z))) s0 (fun c a=>((c.1,(),(),c.2.1,c.2.2.1,a.1,()),(((pe3 c),(pe4 c),(pe5 c),(pe6 c),()),((),(),(pe7 c),(pe8 c),()),a.2,(pf9 c),()))) (fun y=>((y.1.1,y.2.1.1,y.2.1.2.1,y.2.1.2.2.1,(pe3 y.2.1),y.2.2.1.2.2.1,(pe3 y.2.2.1),(pe4 y)),(pe3 y)))
abbrev qr3:Mdl:=(aq (.cons (.d false qT2) (.cons (.d false qT0) .nil)) [] [] 1 qpe (B:=az) (fun b=>((b,()),(()))) (fun a=>qdj a.1.1 a.1.2.1))
theorem q3z:MdlOK Tryz.prog 98 qr3:=eh Tryz.func98 rfl zy (.two .z (.two .z (.two (.two .z (.s 0)) (.two (.two .z (.s 2)) .z)))) (sC q72 (sC q74 s0))
def qvg:Shp:=⟨[jqp,qnf],[]⟩
abbrev jke:Ctx ((Int×Int)):=⟨20,tt,false,false,[],dv [(96,qvh),(97,qvi),(98,qr3)],ee [],bj 20 tt [] [.tmp 2, .tmp 3] qvg (fun x=>(x.1.1,x.1.2.1))⟩
theorem jkd:CtxM Tryz.prog jke:=ek fits ax (mC q7z (mC q79 (mC q3z m0)))
abbrev qzx:Mdl:=(aq (.cons (.d false qT2) .nil) [] [] 2 qvg (B:=(Int×Int)) (fun b=>((b.1,b.2,()),(()))) (fun a=>ya a.1.1))
theorem jcu:MdlOK Tryz.prog 56 qzx:=eh Tryz.func56 rfl jkd .z s0
def zk:Shp:=⟨[qjn],[]⟩
abbrev qqr:Ctx (Bool):=⟨15,tt,false,false,[],dv [],ee [],bj 15 tt [] [.tmp 3] zk (fun x=>x.1.1)⟩
theorem qqq:CtxM Tryz.prog qqr:=ek fits ax m0
abbrev qb3:Mdl:=(aq (.cons (.d false qT1) (.cons (.rp false qT0) .nil)) [] [] 1 zk (B:=Bool) (fun b=>((b,()),(()))) (fun a=>lz a.1.1 a.1.2.1))
theorem qla:MdlOK Tryz.prog 99 qb3:=eh Tryz.func99 rfl qqq .z s0
def pe:Shp:=⟨[jqp],[]⟩
abbrev rn:Ctx (Int):=⟨19,tt,false,false,[],dv [(99,qb3)],ee [ai _ 19 [] qda (C:=(qL2×Int×Int)) (S:=Int) (fun x=>((x.1.1,x.1.2.1.1,x.1.2.2.1),(pe3 x.1))) qc9 (CE:=Unit) (E:=Unit) (fun c e=>((()),(()))) (fun c=>()) (fun{R} c a nx dn rt=>d9 c.1 c.2.1 c.2.2 a nx dn rt)],bj 19 tt [] [.tmp 4] pe (fun x=>x.1.1)⟩
theorem rl:CtxM Tryz.prog rn:=ek fits ax (mC qla m0)
theorem qeq:am Tryz.prog rn 0 (lc 0 Tryz.f111 37):=lp rfl rl .z s0 (fun c a=>((c.1,(c.2.1,()),c.2.2,a,()),(()))) (fun y=>((),()))
abbrev rm:Mdl:=(aq (.cons (.d false qT2) (.cons (.fn 99 (.cons (.rp false qT0) .nil)) .nil)) [] [] 1 pe (B:=Int) (fun b=>((b,()),(()))) (fun a=>ju a.1.1 a.1.2.1.1))
theorem qdb:MdlOK Tryz.prog 111 rm:=eh Tryz.func111 rfl rl (.two .z (.two (.two .z (.s 0)) .z)) (sC qeq s0)
def mi:Shp:=⟨[qjn],[]⟩
abbrev qbh:Ctx (Bool):=⟨9,tt,false,false,[],dv [(111,rm)],ee [],bj 9 tt [] [.tmp 4] mi (fun x=>x.1.1)⟩
theorem qbg:CtxM Tryz.prog qbh:=ek fits ax (mC qdb m0)
abbrev m5:Mdl:=(aq (.cons (.d false qT2) (.cons (.fn 99 (.cons (.rp false qT0) .nil)) .nil)) [] [] 1 mi (B:=Bool) (fun b=>((b,()),(()))) (fun a=>d6 a.1.1 a.1.2.1.1))
theorem yt:MdlOK Tryz.prog 65 m5:=eh Tryz.func65 rfl qbg .z s0
def qeb:Shp:=⟨[qjn],[]⟩
abbrev qft:Ctx (Bool):=⟨15,tt,false,false,[],dv [(65,m5)],ee [ai _ 15 [] qqp (C:=(qL2×Int)) (S:=Int) (fun x=>((x.1.1,x.1.2.1),x.1.2.2.1)) qqo (CE:=Unit) (E:=Unit) (fun c e=>((()),(()))) (fun c=>()) (fun{R} c a nx dn rt=>gm c.1 c.2 a nx dn rt)],bj 15 tt [] [.tmp 4] qeb (fun x=>x.1.1)⟩
theorem qfs:CtxM Tryz.prog qft:=ek fits ax (mC yt m0)
theorem qrr:am Tryz.prog qft 0 (lc 0 Tryz.f58 37):=lp rfl qfs .z s0 (fun c a=>((c.1,c.2,a,()),(()))) (fun y=>((),()))
abbrev u7:Mdl:=(aq (.cons (.d false qT2) (.cons (.d false qT0) .nil)) [] [] 1 qeb (B:=Bool) (fun b=>((b,()),(()))) (fun a=>fg a.1.1 a.1.2.1))
theorem qb4:MdlOK Tryz.prog 58 u7:=eh Tryz.func58 rfl qfs (.two .z (.two (.two .z (.s 0)) .z)) (sC qrr s0)
def us:Shp:=⟨[qjn],[]⟩
abbrev qjt:Ctx (Bool):=⟨7,tt,false,false,[],dv [(58,u7)],ee [],bj 7 tt [] [.tmp 2] us (fun x=>x.1.1)⟩
theorem qjs:CtxM Tryz.prog qjt:=ek fits ax (mC qb4 m0)
abbrev vn:Mdl:=(aq (.cons (.rp false qT2) (.cons (.rp false ca.ty) .nil)) [] [] 1 us (B:=Bool) (fun b=>((b,()),(()))) (fun a=>nk a.1.1 a.1.2.1))
theorem qhc:MdlOK Tryz.prog 57 vn:=eh Tryz.func57 rfl qjs .z s0
def qn:Shp:=⟨[qjn],[]⟩
abbrev qf4:Ctx (Bool):=⟨6,tt,false,false,[],dv [(57,vn)],ee [],bj 6 tt [] [.tmp 2] qn (fun x=>x.1.1)⟩
theorem qf3:CtxM Tryz.prog qf4:=ek fits ax (mC qhc m0)
abbrev sg:Mdl:=(aq (.cons (.fn 57 (.cons (.rp false qT2) (.cons (.rp false ca.ty) .nil))) .nil) [] [] 1 qn (B:=Bool) (fun b=>((b,()),(()))) (fun a=>j9 a.1.1.1 a.1.1.2.1))
theorem qd7:MdlOK Tryz.prog 62 sg:=eh Tryz.func62 rfl qf3 .z s0
def ut:Shp:=⟨[qjn],[]⟩
abbrev qjv:Ctx (Bool):=⟨8,tt,false,false,[],dv [(58,u7)],ee [],bj 8 tt [] [.tmp 2] ut (fun x=>x.1.1)⟩
theorem qju:CtxM Tryz.prog qjv:=ek fits ax (mC qb4 m0)
abbrev vo:Mdl:=(aq (.cons (.rp false qT2) (.cons (.rp false ca.ty) .nil)) [] [] 1 ut (B:=Bool) (fun b=>((b,()),(()))) (fun a=>nm a.1.1 a.1.2.1))
theorem qhd:MdlOK Tryz.prog 59 vo:=eh Tryz.func59 rfl qju .z s0
def qo:Shp:=⟨[qjn],[]⟩
abbrev qf6:Ctx (Bool):=⟨6,tt,false,false,[],dv [(59,vo)],ee [],bj 6 tt [] [.tmp 2] qo (fun x=>x.1.1)⟩
theorem qf5:CtxM Tryz.prog qf6:=ek fits ax (mC qhd m0)
abbrev si:Mdl:=(aq (.cons (.fn 59 (.cons (.rp false qT2) (.cons (.rp false ca.ty) .nil))) .nil) [] [] 1 qo (B:=Bool) (fun b=>((b,()),(()))) (fun a=>kb a.1.1.1 a.1.1.2.1))
theorem qd8:MdlOK Tryz.prog 62 si:=eh Tryz.func62 rfl qf5 .z s0
def uu:Shp:=⟨[qjn],[]⟩
abbrev qjx:Ctx (Bool):=⟨9,tt,false,false,[],dv [(43,te)],ee [],bj 9 tt [] [.tmp 2] uu (fun x=>x.1.1)⟩
theorem qjw:CtxM Tryz.prog qjx:=ek fits ax (mC zf m0)
abbrev vp:Mdl:=(aq (.cons (.rp false qT0) (.cons (.rp false ca.ty) .nil)) [] [] 1 uu (B:=Bool) (fun b=>((b,()),(()))) (fun a=>nn a.1.1 a.1.2.1))
theorem qhe:MdlOK Tryz.prog 60 vp:=eh Tryz.func60 rfl qjw (.two .z (.two (.d [0,0,2,6,14,31,63] [] []) .z)) s0
def qp:Shp:=⟨[qjn],[]⟩
abbrev qf8:Ctx (Bool):=⟨6,tt,false,false,[],dv [(60,vp)],ee [],bj 6 tt [] [.tmp 2] qp (fun x=>x.1.1)⟩
theorem qf7:CtxM Tryz.prog qf8:=ek fits ax (mC qhe m0)
abbrev sj:Mdl:=(aq (.cons (.fn 60 (.cons (.rp false qT0) (.cons (.rp false ca.ty) .nil))) .nil) [] [] 1 qp (B:=Bool) (fun b=>((b,()),(()))) (fun a=>kc a.1.1.1 a.1.1.2.1))
theorem qd9:MdlOK Tryz.prog 62 sj:=eh Tryz.func62 rfl qf7 .z s0
def du:Shp:=⟨[jqp],[jly,zex,qov,zex,zgc]⟩
abbrev kw:Ctx ((Int×qL2×Int×(List af)×Int×Int×qL2×Int)):=⟨19,tt,false,false,[true,true,true,true,true],dv [(62,sg),(62,si),(62,sj)],ee [],bj 19 tt [true,true,true,true,true] [.tmp 4] du (fun x=>(x.1.1,x.2.2.1.1,(pe3 x).1,(pe3 x).2.1,(pe3 x).2.2.1,(pe3 (pe3 x)),(pe4 x).1,(pe5 x).1))⟩
theorem ks:CtxM Tryz.prog kw:=ek fits ax (mC qd7 (mC qd8 (mC qd9 m0)))
abbrev dy:Mdl:=(aq (.cons (.own 0) (.cons (.fn 62 .nil) .nil)) [jly,zex, .cs 24 4 1 (.cons (.d false qT0) (.cons (.d true (.slice af.ty)) (.cons (.d false qT0) (.cons (.d false qT0) .nil)))),zex, .cs 3 1 1 (.cons (.d false qT0) .nil)] [true,true,true,true,true] 1 du (B:=(Int×qL2×Int×(List af)×Int×Int×qL2×Int)) (fun b=>((b.1,()),((((),(),()),((),(),()),((),(),()),()),(b.2.1,()),(b.2.2.1,(pe3 b),(pe4 b),(pe5 b),()),((pe6 b),()),((pf7 b),()),()))) (fun a=>cr a.2.2.1.1 (pe3 a).1 (pe3 a).2.1 (pe3 a).2.2.1 (pe3 (pe3 a)) (pe4 a).1 (pe5 a).1))
theorem j8:MdlOK Tryz.prog 100 dy:=eh Tryz.func100 rfl ks (.two .z (.two (.two .z (.one (.u 4 .z))) .z)) s0
def df:Shp:=⟨[qjn],[jly,zex,qov,zex,zgc]⟩
abbrev jr:Ctx ((Bool×qL2×Int×(List af)×Int×Int×qL2×Int)):=⟨9,tt,false,false,[true,true,true,true,true],dv [(100,dy)],ee [],bj 9 tt [true,true,true,true,true] [.tmp 4] df (fun x=>(x.1.1,x.2.2.1.1,(pe3 x).1,(pe3 x).2.1,(pe3 x).2.2.1,(pe3 (pe3 x)),(pe4 x).1,(pe5 x).1))⟩
theorem jq:CtxM Tryz.prog jr:=ek fits ax (mC j8 m0)
abbrev dh:Mdl:=(aq (.cons (.own 0) (.cons (.fn 62 .nil) .nil)) [jly,zex, .cs 24 4 1 (.cons (.d false qT0) (.cons (.d true (.slice af.ty)) (.cons (.d false qT0) (.cons (.d false qT0) .nil)))),zex, .cs 3 1 1 (.cons (.d false qT0) .nil)] [true,true,true,true,true] 1 df (B:=(Bool×qL2×Int×(List af)×Int×Int×qL2×Int)) (fun b=>((b.1,()),((((),(),()),((),(),()),((),(),()),()),(b.2.1,()),(b.2.2.1,(pe3 b),(pe4 b),(pe5 b),()),((pe6 b),()),((pf7 b),()),()))) (fun a=>bt a.2.2.1.1 (pe3 a).1 (pe3 a).2.1 (pe3 a).2.2.1 (pe3 (pe3 a)) (pe4 a).1 (pe5 a).1))
theorem ja:MdlOK Tryz.prog 61 dh:=eh Tryz.func61 rfl jq .z s0
def x7:Shp:=⟨[qjn,qnf],[]⟩
abbrev qnt:Ctx ((Bool×Int)):=⟨61,tt,false,false,[],dv [(41,ie),(42,pj),(52,qb2),(53,qy0),(54,qil),(55,qlq),(56,qzx),(61,dh)],ee [],bj 61 tt [] [.tmp 2, .tmp 3] x7 (fun x=>(x.1.1,x.1.2.1))⟩
theorem qns:CtxM Tryz.prog qnt:=ek fits ax (mC f8 (mC tf (mC qk9 (mC jbq (mC quu (mC qxg (mC jcu (mC ja m0))))))))
abbrev ph:Mdl:=(aq (.cons (.d true ca.ty) .nil) [] [] 2 x7 (B:=(Bool×Int)) (fun b=>((b.1,b.2,()),(()))) (fun a=>cx a.1.1))
theorem vq:MdlOK Tryz.prog 19 ph:=eh Tryz.func19 rfl qns .z s0
def qt2:Shp:=⟨[(0, .d true (.int .u32))],[]⟩
abbrev qww:Ctx (Int):=⟨18,tt,false,false,[],dv [],ee [ai _ 18 [] jak (C:=(qL1×Int)) (S:=(Int×Int)) (fun x=>((x.1.2.1,x.1.2.2.1),(x.1.1,(pe3 x.1)))) jaj (CE:=Unit) (E:=Int) (fun c e=>((e,()),(()))) (fun c=>()) (fun{R} c a nx dn rt=>xj c.1 c.2 a.1 a.2 nx dn rt)],bj 18 tt [] [.tmp 2] qt2 (fun x=>x.1.1)⟩
theorem qwu:CtxM Tryz.prog qww:=ek fits ax m0
theorem jfd:am Tryz.prog qww 0 (lc 0 Tryz.f146 75):=lp rfl qwu .z s0 (fun c a=>((a.1,c.1,c.2,a.2,()),(()))) (fun y=>((),y.1.1))
abbrev qwv:Mdl:=(aq (.cons (.d false qT1) .nil) [] [] 1 qt2 (B:=Int) (fun b=>((b,()),(()))) (fun a=>qas a.1.1))
theorem jal:MdlOK Tryz.prog 146 qwv:=eh Tryz.func146 rfl qwu (.two .z (.two .z (.two (.two .z (.s 0)) .z))) (sC jfd s0)
def qml:Shp:=⟨[j9v],[jlz]⟩
abbrev rb:Ctx (qL1):=⟨106,tt,false,false,[],dv [(146,qwv)],ee [ai _ 106 [] q2d (C:=((List af)×Int×Int×(List af)×Int×Int)) (S:=(Int×qL1×qL1)) (fun x=>(((pe3 x.1),(pe4 x.1),x.2.1.1,x.2.1.2.1,x.2.1.2.2.1,(pe3 x.2.1)),((pe5 x.1),x.2.2.1,(pe3 x)))) q2c (CE:=(Int×(List af)×Int×Int)) (E:=(qL1×qL1)) (fun c e=>(((),(),(),()),((c.1,c.2.1,c.2.2.1,c.2.2.2,()),e.1,e.2,()))) (fun c=>(c.2.2.1,(pe3 c),(pe4 c),(pf5 c))) (fun{R} c a nx dn rt=>s5 c.1 c.2.1 c.2.2.1 (pe3 c) (pe4 c) (pf5 c) a.1 a.2.1 a.2.2 nx dn rt),ai _ 106 [] q2f (C:=(qL1×qL1×Int×Int×Int×(List af)×Int×Int×qL1)) (S:=(Int×(List Bool))) (fun x=>((x.1.2.1,x.1.2.2.1,(pe5 x.1),(pe6 x.1),x.2.1.1,x.2.1.2.1,x.2.1.2.2.1,(pe3 x.2.1),(pe3 x)),((pe7 x.1),x.2.2.1))) q2e (CE:=(qL1×qL1×Int×Int×(List af)×Int×Int×qL1)) (E:=(List Bool)) (fun c e=>(((),c.1,c.2.1,(),(),c.2.2.1,()),(((pe3 c),(pe4 c),(pe5 c),(pe6 c),()),e,(pf7 c),()))) (fun c=>(c.1,c.2.1,c.2.2.1,(pe4 c),(pe5 c),(pe6 c),(pe7 c),(pf8 c))) (fun{R} c a nx dn rt=>i3 c.1 c.2.1 c.2.2.1 (pe3 c) (pe4 c) (pe5 c) (pe6 c) (pe7 c) (pf8 c) a.1 a.2 nx dn rt),ai _ 106 [] q2h (C:=(qL1×qL1×Int×Int×Int×(List af)×Int×Int×(List Bool)×qL1)) (S:=(Bool×Int)) (fun x=>((x.1.2.1,x.1.2.2.1,(pe5 x.1),(pe7 x.1),x.2.1.1,x.2.1.2.1,x.2.1.2.2.1,(pe3 x.2.1),x.2.2.1,(pe3 x)),((pe6 x.1),(pe8 x.1)))) q2g (CE:=(qL1×qL1×Int×Int×(List af)×Int×Int×(List Bool)×qL1)) (E:=Bool) (fun c e=>(((),c.1,c.2.1,(),(),c.2.2.1,e,()),(((pe3 c),(pe4 c),(pe5 c),(pe6 c),()),(pe7 c),(pf8 c),()))) (fun c=>(c.1,c.2.1,c.2.2.1,(pe4 c),(pe5 c),(pe6 c),(pe7 c),(pe8 c),(pf9 c))) (fun{R} c a nx dn rt=>s6 c.1 c.2.1 c.2.2.1 (pe3 c) (pe4 c) (pe5 c) (pe6 c) (pe7 c) (pe8 c) (pf9 c) a.1 a.2 nx dn rt),ai _ 106 [] q2j (C:=(qL1×qL1×Int×(List af)×Int×Int)) (S:=(Int×(List Bool)×qL1)) (fun x=>((x.1.2.1,x.1.2.2.1,x.2.1.1,x.2.1.2.1,x.2.1.2.2.1,(pe3 x.2.1)),((pe5 x.1),x.2.2.1,(pe3 x)))) q2i (CE:=Unit) (E:=qL1) (fun c e=>(((),()),(e,()))) (fun c=>()) (fun{R} c a nx dn rt=>i4 c.1 c.2.1 c.2.2.1 (pe3 c) (pe4 c) (pf5 c) a.1 a.2.1 a.2.2 nx dn rt)],bj 106 tt [] [.tmp 2] qml (fun x=>x.2.1)⟩
theorem qz:CtxM Tryz.prog rb:=ek fits ax (mC jal m0)
theorem q5q:am Tryz.prog rb 2 (lc 6 Tryz.f107 619103):=lp rfl qz .z s0 (fun c a=>(((),c.1,c.2.1,(),(),c.2.2.1,a.1,(pe3 c),a.2,()),(((pe4 c),(pe5 c),(pe6 c),(pe7 c),()),(pe8 c),(pf9 c),()))) (fun y=>((y.1.2.1,y.1.2.2.1,(pe5 y.1),y.2.1.1,y.2.1.2.1,y.2.1.2.2.1,(pe3 y.2.1),y.2.2.1,(pe3 y)),(pe6 y.1)))
theorem q5p:am Tryz.prog rb 1 (lc 4 Tryz.f107 74335):=lp rfl qz .z s0 (fun c a=>(((),c.1,c.2.1,(),(),c.2.2.1,(pe3 c),a.1,()),(((pe4 c),(pe5 c),(pe6 c),(pe7 c),()),a.2,(pf8 c),()))) (fun y=>((y.1.2.1,y.1.2.2.1,(pe5 y.1),y.2.1.1,y.2.1.2.1,y.2.1.2.2.1,(pe3 y.2.1),(pe3 y)),y.2.2.1))
theorem q5r:am Tryz.prog rb 3 (lc 2 Tryz.f107 607):=lp rfl qz (.two .z (.two (.one (.two (.two .z (.s 1)) (.two .z (.two .z (.two (.two .z (.s 2)) .z))))) .z)) (sC q5p (sC q5q s0)) (fun c a=>(((),c.1,c.2.1,(),(),a.1,()),((c.2.2.1,(pe3 c),(pe4 c),(pf5 c),()),a.2.1,a.2.2,()))) (fun y=>((),y.2.1))
theorem q5o:am Tryz.prog rb 0 (lc 0 Tryz.f107 75):=lp rfl qz (.two .z (.two .z (.two (.one (.two .z (.d [0,0,2,6,14,31,0,0,128,447,959,2047,4095,8191] [5,11,12,13] [1]))) .z))) s0 (fun c a=>(((),(),(),c.1,c.2.1,a.1,()),((c.2.2.1,(pe3 c),(pe4 c),(pf5 c),()),a.2.1,a.2.2,()))) (fun y=>((y.2.1.1,y.2.1.2.1,y.2.1.2.2.1,(pe3 y.2.1)),(y.2.2.1,(pe3 y))))
abbrev qqb:Mdl:=(aq (.cons (.d false ca.ty) .nil) [] [] 1 qml (B:=qL1) (fun b=>(((),()),(b,()))) (fun a=>qat a.1.1))
theorem q2k:MdlOK Tryz.prog 107 qqb:=eh Tryz.func107 rfl qz (.two .z (.two .z (.two (.two .z (.s 0)) (.two .z (.two .z (.two (.two .z (.s 3)) .z)))))) (sC q5o (sC q5r s0))
def qer:Shp:=⟨[],[qgq]⟩
abbrev ro:Mdl:=(aq (.cons (.own 0) (.cons (.fn 109 .nil) .nil)) [qgq] [true] 0 qer (B:=qL2) (fun b=>((()),(b,()))) (fun a=>jv a.2.1))
theorem qdc:MdlOK Tryz.prog 108 ro:=jtb 109 (by decide)
def qmh:Shp:=⟨[j9v,qnf],[qgq]⟩
abbrev qfk:Ctx ((Int×qL2)):=⟨47,tt,false,false,[],dv [(41,ie),(107,qqb),(108,ro)],ee [ai _ 47 [] q18 (C:=(Int×qL1×Int×Int×Int×Int×(List af)×Int×Int×qL2)) (S:=(Int×qL1)) (fun x=>((x.1.2.2.1,(pe4 x.1),(pe5 x.1),(pe6 x.1),(pe7 x.1),x.2.1.1,x.2.1.2.1,x.2.1.2.2.1,(pe3 x.2.1),x.2.2.1),((pe8 x.1),(pe3 x)))) q17 (CE:=(qL1×Int×Int×Int×(List af)×Int×Int×qL2)) (E:=qL1) (fun c e=>(((),(),(),c.1,c.2.1,c.2.2.1,()),(((pe3 c),(pe4 c),(pe5 c),(pe6 c),()),(pf7 c),e,()))) (fun c=>(c.2.1,c.2.2.1,(pe3 c),(pe5 c),(pe6 c),(pe7 c),(pe8 c),(pf9 c))) (fun{R} c a nx dn rt=>ma c.1 c.2.1 c.2.2.1 (pe3 c) (pe4 c) (pe5 c) (pe6 c) (pe7 c) (pe8 c) (pf9 c) a.1 a.2 nx dn rt),ai _ 47 [] q2a (C:=(qL1×Int×Int×(List af)×Int×Int)) (S:=(Int×qL2)) (fun x=>((x.1.2.2.1,(pe3 x.1),x.2.1.1,x.2.1.2.1,x.2.1.2.2.1,(pe3 x.2.1)),((pe4 x.1),x.2.2.1))) q19 (CE:=Unit) (E:=qL2) (fun c e=>(((),()),(e,()))) (fun c=>()) (fun{R} c a nx dn rt=>s4 c.1 c.2.1 c.2.2.1 (pe3 c) (pe4 c) (pf5 c) a.1 a.2 nx dn rt)],bj 47 tt [] [.tmp 2, .tmp 3] qmh (fun x=>(x.1.2.1,x.2.1))⟩
theorem qfj:CtxM Tryz.prog qfk:=ek fits ax (mC f8 (mC q2k (mC qdc m0)))
theorem q5m:am Tryz.prog qfk 0 (lc 3 Tryz.f64 154007):=lp rfl qfj .z s0 (fun c a=>(((),(),c.1,(),c.2.1,c.2.2.1,(pe3 c),(pe4 c),a.1,()),(((pe5 c),(pe6 c),(pe7 c),(pe8 c),()),(pf9 c),a.2,()))) (fun y=>(((pe3 y.1),(pe4 y.1),(pe5 y.1),y.2.1.1,y.2.1.2.1,y.2.1.2.2.1,(pe3 y.2.1),y.2.2.1),(pe3 y)))
theorem q5n:am Tryz.prog qfk 1 (lc 1 Tryz.f64 151):=lp rfl qfj (.two .z (.two .z (.two (.one (.two .z (.two .z (.two (.two .z (.s 0)) .z)))) .z))) (sC q5m s0) (fun c a=>(((),(),c.1,c.2.1,a.1,()),((c.2.2.1,(pe3 c),(pe4 c),(pf5 c),()),a.2,()))) (fun y=>((),y.2.1))
abbrev qqa:Mdl:=(aq (.cons (.d false ca.ty) .nil) [] [] 2 qmh (B:=(Int×qL2)) (fun b=>(((),b.1,()),(b.2,()))) (fun a=>qar a.1.1))
theorem q2b:MdlOK Tryz.prog 64 qqa:=eh Tryz.func64 rfl qfj (.two .z (.two .z (.two .z (.two (.two .z (.s 1)) .z)))) (sC q5n s0)
def qd6:Shp:=⟨[qjn],[]⟩
abbrev quz:Ctx (Bool):=⟨9,tt,false,false,[],dv [(35,db)],ee [],bj 9 tt [] [.tmp 3] qd6 (fun x=>x.1.1)⟩
theorem quy:CtxM Tryz.prog quz:=ek fits ax (mC dr m0)
abbrev qfq:Mdl:=(aq (.cons (.d false qT1) (.cons (.rp false ca.ty) .nil)) [] [] 1 qd6 (B:=Bool) (fun b=>((b,()),(()))) (fun a=>xl a.1.1 a.1.2.1))
theorem qqj:MdlOK Tryz.prog 66 qfq:=eh Tryz.func66 rfl quy .z s0
def o9:Shp:=⟨[jqp],[]⟩
abbrev rh:Ctx (Int):=⟨19,tt,false,false,[],dv [(66,qfq)],ee [ai _ 19 [] qc4 (C:=(qL2×ca×Int)) (S:=Int) (fun x=>((x.1.1,x.1.2.1.1,x.1.2.2.1),(pe3 x.1))) qc3 (CE:=Unit) (E:=Unit) (fun c e=>((()),(()))) (fun c=>()) (fun{R} c a nx dn rt=>d7 c.1 c.2.1 c.2.2 a nx dn rt)],bj 19 tt [] [.tmp 4] o9 (fun x=>x.1.1)⟩
theorem rf:CtxM Tryz.prog rh:=ek fits ax (mC qqj m0)
theorem qeo:am Tryz.prog rh 0 (lc 0 Tryz.f111 37):=lp rfl rf .z s0 (fun c a=>((c.1,(c.2.1,()),c.2.2,a,()),(()))) (fun y=>((),()))
abbrev rg:Mdl:=(aq (.cons (.d false qT2) (.cons (.fn 66 (.cons (.rp false ca.ty) .nil)) .nil)) [] [] 1 o9 (B:=Int) (fun b=>((b,()),(()))) (fun a=>js a.1.1 a.1.2.1.1))
theorem qc5:MdlOK Tryz.prog 111 rg:=eh Tryz.func111 rfl rf (.two .z (.two (.two .z (.s 0)) .z)) (sC qeo s0)
def mg:Shp:=⟨[qjn],[]⟩
abbrev qbd:Ctx (Bool):=⟨9,tt,false,false,[],dv [(111,rg)],ee [],bj 9 tt [] [.tmp 4] mg (fun x=>x.1.1)⟩
theorem qbc:CtxM Tryz.prog qbd:=ek fits ax (mC qc5 m0)
abbrev m3:Mdl:=(aq (.cons (.d false qT2) (.cons (.fn 66 (.cons (.rp false ca.ty) .nil)) .nil)) [] [] 1 mg (B:=Bool) (fun b=>((b,()),(()))) (fun a=>d4 a.1.1 a.1.2.1.1))
theorem yq:MdlOK Tryz.prog 65 m3:=eh Tryz.func65 rfl qbc .z s0
def qhb:Shp:=⟨[qjn,qnf],[]⟩
abbrev qzh:Ctx ((Bool×Int)):=⟨43,tt,false,false,[],dv [(12,qip),(42,pj),(19,ph),(64,qqa),(65,m3)],ee [],bj 43 tt [] [.tmp 2, .tmp 3] qhb (fun x=>(x.1.1,x.1.2.1))⟩
theorem qzg:CtxM Tryz.prog qzh:=ek fits ax (mC qux (mC tf (mC vq (mC q2b (mC yq m0)))))
abbrev ze:Mdl:=(aq (.cons (.d false ca.ty) .nil) [] [] 2 qhb (B:=(Bool×Int)) (fun b=>((b.1,b.2,()),(()))) (fun a=>jz a.1.1))
theorem qfr:MdlOK Tryz.prog 21 ze:=eh Tryz.func21 rfl qzg .z s0
def qo2:Shp:=⟨[qjn,qnf],[]⟩
abbrev jb4:Ctx ((Bool×Int)):=⟨9,tt,false,false,[],dv [(41,ie),(42,pj)],ee [],bj 9 tt [] [.tmp 2, .tmp 3] qo2 (fun x=>(x.1.1,x.1.2.1))⟩
theorem jb3:CtxM Tryz.prog jb4:=ek fits ax (mC f8 (mC tf m0))
abbrev qrq:Mdl:=(aq (.cons (.d false ca.ty) .nil) [] [] 2 qo2 (B:=(Bool×Int)) (fun b=>((b.1,b.2,()),(()))) (fun a=>qvc a.1.1))
theorem q3j:MdlOK Tryz.prog 10 qrq:=eh Tryz.func10 rfl jb3 .z s0
def qve:Shp:=⟨[qjn],[]⟩
abbrev jj3:Ctx (Bool):=⟨93,tt,false,false,[],dv [(38,jho),(11,qd5),(21,ze),(10,qrq),(26,sc)],ee [],bj 93 tt [] [.tmp 0] qve (fun x=>x.1.1)⟩
theorem jj2:CtxM Tryz.prog jj3:=ek fits ax (mC jnl (mC qnr (mC qfr (mC q3j (mC yl m0)))))
abbrev qzp:Mdl:=(aq .nil [] [] 1 qve (B:=Bool) (fun b=>((b,()),(()))) (fun a=>qrz))
theorem jci:MdlOK Tryz.prog 8 qzp:=eh Tryz.func8 rfl jj2 .z s0
def qo6:Shp:=⟨[qjn],[]⟩
abbrev jck:Ctx (Bool):=⟨19,tt,false,false,[],dv [],ee [],bj 19 tt [] [.tmp 2] qo6 (fun x=>x.1.1)⟩
theorem jcj:CtxM Tryz.prog jck:=ek fits ax m0
abbrev qr0:Mdl:=(aq (.cons (.d false af.ty) .nil) [] [] 1 qo6 (B:=Bool) (fun b=>((b,()),(()))) (fun a=>qdh a.1.1))
theorem q3q:MdlOK Tryz.prog 40 qr0:=eh Tryz.func40 rfl jcj .z s0
def ge:Shp:=⟨[jqp],[]⟩
abbrev gv:Ctx (Int):=⟨19,tt,false,false,[],dv [(40,qr0)],ee [ai _ 19 [] qj (C:=((List af)×Int)) (S:=Int) (fun x=>((x.1.1,x.1.2.2.1),(pe3 x.1))) qi (CE:=Unit) (E:=Unit) (fun c e=>((()),(()))) (fun c=>()) (fun{R} c a nx dn rt=>ck c.1 c.2 a nx dn rt)],bj 19 tt [] [.tmp 4] ge (fun x=>x.1.1)⟩
theorem gq:CtxM Tryz.prog gv:=ek fits ax (mC q3q m0)
theorem rc:am Tryz.prog gv 0 (lc 0 Tryz.f83 37):=lp rfl gq .z s0 (fun c a=>((c.1,(()),c.2,a,()),(()))) (fun y=>((),()))
abbrev gu:Mdl:=(aq (.cons (.d false (.slice af.ty)) (.cons (.fn 40 .nil) .nil)) [] [] 1 ge (B:=Int) (fun b=>((b,()),(()))) (fun a=>dj a.1.1))
theorem qk:MdlOK Tryz.prog 83 gu:=eh Tryz.func83 rfl gq (.two .z (.two (.two .z (.s 0)) .z)) (sC rc s0)
def fp:Shp:=⟨[qjn],[]⟩
abbrev ol:Ctx (Bool):=⟨9,tt,false,false,[],dv [(83,gu)],ee [],bj 9 tt [] [.tmp 4] fp (fun x=>x.1.1)⟩
theorem oj:CtxM Tryz.prog ol:=ek fits ax (mC qk m0)
abbrev fw:Mdl:=(aq (.cons (.d false (.slice af.ty)) (.cons (.fn 40 .nil) .nil)) [] [] 1 fp (B:=Bool) (fun b=>((b,()),(()))) (fun a=>bg a.1.1))
theorem m8:MdlOK Tryz.prog 39 fw:=eh Tryz.func39 rfl oj .z s0
def qvf:Shp:=⟨[qjn],[]⟩
abbrev jj5:Ctx (Bool):=⟨34,tt,false,false,[],dv [(39,fw)],ee [],bj 34 tt [] [.tmp 2] qvf (fun x=>x.1.1)⟩
theorem jj4:CtxM Tryz.prog jj5:=ek fits ax (mC m8 m0)
abbrev qzq:Mdl:=(aq (.cons (.d false ca.ty) .nil) [] [] 1 qvf (B:=Bool) (fun b=>((b,()),(()))) (fun a=>qiu a.1.1))
theorem jcl:MdlOK Tryz.prog 9 qzq:=eh Tryz.func9 rfl jj4 .z s0
def qsg:Shp:=⟨[qjn],[]⟩
abbrev jf7:Ctx (Bool):=⟨17,tt,false,false,[],dv [],ee [],bj 17 tt [] [.tmp 2] qsg (fun x=>x.1.1)⟩
theorem jf6:CtxM Tryz.prog jf7:=ek fits ax m0
abbrev qvx:Mdl:=(aq (.cons (.d false (.int .u8)) .nil) [] [] 1 qsg (B:=Bool) (fun b=>((b,()),(()))) (fun a=>qad a.1.1))
theorem q8l:MdlOK Tryz.prog 91 qvx:=eh Tryz.func91 rfl jf6 .z s0
def qsf:Shp:=⟨[qjn],[]⟩
abbrev qvw:Ctx (Bool):=⟨52,tt,false,false,[],dv [(91,qvx)],ee [ai _ 52 [] q8j (C:=ByteArray) (S:=Int) (fun x=>(x.1.1,x.1.2.1)) q8i (CE:=Unit) (E:=Unit) (fun c e=>((()),(()))) (fun c=>()) (fun{R} c a nx dn rt=>qt c a nx dn rt)],bj 52 tt [] [.tmp 2] qsf (fun x=>x.1.1)⟩
theorem qvu:CtxM Tryz.prog qvw:=ek fits ax (mC q8l m0)
theorem jdk:am Tryz.prog qvw 0 (lc 0 Tryz.f47 75):=lp rfl qvu .z s0 (fun c a=>((c,a,()),(()))) (fun y=>((),()))
abbrev qvv:Mdl:=(aq (.cons (.d false .str) .nil) [] [] 1 qsf (B:=Bool) (fun b=>((b,()),(()))) (fun a=>qge a.1.1))
theorem q8k:MdlOK Tryz.prog 47 qvv:=eh Tryz.func47 rfl qvu (.two .z (.two .z (.two (.two .z (.s 0)) .z))) (sC jdk s0)
def qsx:Shp:=⟨[qjn],[]⟩
abbrev qwc:Ctx (Bool):=⟨41,tt,false,false,[],dv [],ee [ai _ 41 [] q85 (C:=(Int×qL1)) (S:=Int) (fun x=>((x.1.1,x.1.2.1),x.1.2.2.1)) q84 (CE:=Unit) (E:=Unit) (fun c e=>((()),(()))) (fun c=>()) (fun{R} c a nx dn rt=>ln c.1 c.2 a nx dn rt)],bj 41 tt [] [.tmp 4] qsx (fun x=>x.1.1)⟩
theorem qwa:CtxM Tryz.prog qwc:=ek fits ax m0
theorem jd7:am Tryz.prog qwc 0 (lc 0 Tryz.f48 37):=lp rfl qwa (.two .z (.two (.one (.two (.d [0,0,3,7,15,31,63,63,255,511,63,2047,4095,8191,16383,32767,65535,131071,131071,393215,1048575,2097151,131071,131071,12713983,29491199,67108863,134217727,268435455] [] []) .z)) .z)) s0 (fun c a=>((c.1,c.2,a,()),(()))) (fun y=>((),()))
abbrev qwb:Mdl:=(aq (.cons (.d false qT0) (.cons (.d false qT1) .nil)) [] [] 1 qsx (B:=Bool) (fun b=>((b,()),(()))) (fun a=>qa a.1.1 a.1.2.1))
theorem q86:MdlOK Tryz.prog 48 qwb:=eh Tryz.func48 rfl qwa (.two .z (.two (.two .z (.s 0)) .z)) (sC jd7 s0)
def qv9:Shp:=⟨[qjn],[]⟩
abbrev q0y:Ctx (Bool):=⟨80,tt,false,false,[],dv [(47,qvv),(48,qwb)],ee [ai _ 80 [] jd6 (C:=(Int×(List af)×Int×Int)) (S:=Int) (fun x=>((x.2.1.1,x.2.1.2.1,x.2.1.2.2.1,(pe3 x.2.1)),x.1.2.1)) jd5 (CE:=Unit) (E:=Unit) (fun c e=>((()),(()))) (fun c=>()) (fun{R} c a nx dn rt=>qah c.1 c.2.1 c.2.2.1 c.2.2.2 a nx dn rt)],bj 80 tt [] [.tmp 2] qv9 (fun x=>x.1.1)⟩
theorem q0x:CtxM Tryz.prog q0y:=ek fits ax (mC q8k (mC q86 m0))
theorem jgc:am Tryz.prog q0y 0 (lc 0 Tryz.f15 75):=lp rfl q0x .z s0 (fun c a=>(((),a,()),((c.1,c.2.1,c.2.2.1,c.2.2.2,()),()))) (fun y=>((),()))
abbrev p9:Mdl:=(aq (.cons (.d false ca.ty) .nil) [] [] 1 qv9 (B:=Bool) (fun b=>((b,()),(()))) (fun a=>l5 a.1.1))
theorem nw:MdlOK Tryz.prog 15 p9:=eh Tryz.func15 rfl q0x (.two .z (.two .z (.two (.two .z (.s 0)) .z))) (sC jgc s0)
def q6m:Shp:=⟨[qjn],[]⟩
abbrev jd4:Ctx (Bool):=⟨18,tt,false,false,[],dv [],ee [ai _ 18 [] jkx (C:=(qL1×Int)) (S:=Int) (fun x=>((x.1.1,x.1.2.1),x.1.2.2.1)) jkw (CE:=Unit) (E:=Unit) (fun c e=>((()),(()))) (fun c=>()) (fun{R} c a nx dn rt=>qgh c.1 c.2 a nx dn rt)],bj 18 tt [] [.tmp 4] q6m (fun x=>x.1.1)⟩
theorem jd3:CtxM Tryz.prog jd4:=ek fits ax m0
theorem joc:am Tryz.prog jd4 0 (lc 0 Tryz.f68 37):=lp rfl jd3 .z s0 (fun c a=>((c.1,c.2,a,()),(()))) (fun y=>((),()))
abbrev pz:Mdl:=(aq (.cons (.d false qT1) (.cons (.d false qT0) .nil)) [] [] 1 q6m (B:=Bool) (fun b=>((b,()),(()))) (fun a=>fm a.1.1 a.1.2.1))
theorem l4:MdlOK Tryz.prog 68 pz:=eh Tryz.func68 rfl jd3 (.two .z (.two (.two .z (.s 0)) .z)) (sC joc s0)
def qtu:Shp:=⟨[qjn],[]⟩
abbrev qws:Ctx (Bool):=⟨18,tt,false,false,[],dv [(68,pz)],ee [ai _ 18 [] q92 (C:=(qL1×qL1)) (S:=Int) (fun x=>((x.1.1,x.1.2.1),x.1.2.2.1)) q91 (CE:=Unit) (E:=Unit) (fun c e=>((()),(()))) (fun c=>()) (fun{R} c a nx dn rt=>xg c.1 c.2 a nx dn rt)],bj 18 tt [] [.tmp 4] qtu (fun x=>x.1.1)⟩
theorem qwq:CtxM Tryz.prog qws:=ek fits ax (mC l4 m0)
theorem je3:am Tryz.prog qws 0 (lc 0 Tryz.f49 37):=lp rfl qwq .z s0 (fun c a=>((c.1,c.2,a,()),(()))) (fun y=>((),()))
abbrev qwr:Mdl:=(aq (.cons (.d false qT1) (.cons (.d false qT1) .nil)) [] [] 1 qtu (B:=Bool) (fun b=>((b,()),(()))) (fun a=>qgn a.1.1 a.1.2.1))
theorem q93:MdlOK Tryz.prog 49 qwr:=eh Tryz.func49 rfl qwq (.two .z (.two (.two .z (.s 0)) .z)) (sC je3 s0)
def qpl:Shp:=⟨[qjn],[]⟩
abbrev qsr:Ctx (Bool):=⟨26,tt,false,false,[],dv [],ee [ai _ 26 [] q4h (C:=(qL1×qL1)) (S:=Int) (fun x=>((x.1.1,x.1.2.1),x.1.2.2.1)) q4g (CE:=Unit) (E:=Unit) (fun c e=>((()),(()))) (fun c=>()) (fun{R} c a nx dn rt=>nt c.1 c.2 a nx dn rt)],bj 26 tt [] [.tmp 4] qpl (fun x=>x.1.1)⟩
theorem qsp:CtxM Tryz.prog qsr:=ek fits ax m0
theorem q82:am Tryz.prog qsr 0 (lc 0 Tryz.f46 75):=lp rfl qsp (.two .z (.two (.one (.two (.d [0,0,3,7,0,0,48,112,255] [] []) .z)) .z)) s0 (fun c a=>((c.1,c.2,a,()),(()))) (fun y=>((),()))
abbrev qsq:Mdl:=(aq (.cons (.d false qT1) (.cons (.d false qT1) .nil)) [] [] 1 qpl (B:=Bool) (fun b=>((b,()),(()))) (fun a=>qdk a.1.1 a.1.2.1))
theorem q4i:MdlOK Tryz.prog 46 qsq:=eh Tryz.func46 rfl qsp (.two .z (.two .z (.two (.two .z (.s 0)) .z))) (sC q82 s0)
def jez:Shp:=⟨[qjn],[]⟩
abbrev q5a:Ctx (Bool):=⟨40,tt,false,false,[],dv [(49,qwr),(46,qsq)],ee [ai _ 40 [] joj (C:=(Int×Int×(List af)×Int×Int)) (S:=Int) (fun x=>((x.1.2.1,x.2.1.1,x.2.1.2.1,x.2.1.2.2.1,(pe3 x.2.1)),x.1.2.2.1)) joi (CE:=(Int×Int×(List af)×Int×Int)) (E:=Unit) (fun c e=>(((),c.1,()),((c.2.1,c.2.2.1,(pe3 c),(pf4 c),()),()))) (fun c=>(c.1,c.2.1,c.2.2.1,(pe3 c),(pf4 c))) (fun{R} c a nx dn rt=>qek c.1 c.2.1 c.2.2.1 (pe3 c) (pf4 c) a nx dn rt),ai _ 40 [] jol (C:=(Int×(List af)×Int×Int)) (S:=Int) (fun x=>((x.2.1.1,x.2.1.2.1,x.2.1.2.2.1,(pe3 x.2.1)),x.1.2.1)) jok (CE:=Unit) (E:=Unit) (fun c e=>((()),(()))) (fun c=>()) (fun{R} c a nx dn rt=>qel c.1 c.2.1 c.2.2.1 c.2.2.2 a nx dn rt)],bj 40 tt [] [.tmp 2] jez (fun x=>x.1.1)⟩
theorem q48:CtxM Tryz.prog q5a:=ek fits ax (mC q93 (mC q4i m0))
theorem jqt:am Tryz.prog q5a 0 (lc 2 Tryz.f16 2341):=lp rfl q48 (.two .z (.two (.one (.two (.d [0,1,0,7,15,31,0,64,0,448,960,1984,63,8191] [] []) .z)) .z)) s0 (fun c a=>(((),c.1,a,()),((c.2.1,c.2.2.1,(pe3 c),(pf4 c),()),()))) (fun y=>((y.1.2.1,y.2.1.1,y.2.1.2.1,y.2.1.2.2.1,(pe3 y.2.1)),()))
theorem jqu:am Tryz.prog q5a 1 (lc 0 Tryz.f16 37):=lp rfl q48 (.two .z (.two (.one (.two .z (.s 0))) .z)) (sC jqt s0) (fun c a=>(((),a,()),((c.1,c.2.1,c.2.2.1,c.2.2.2,()),()))) (fun y=>((),()))
abbrev q49:Mdl:=(aq (.cons (.d false ca.ty) .nil) [] [] 1 jez (B:=Bool) (fun b=>((b,()),(()))) (fun a=>qma a.1.1))
theorem q65:MdlOK Tryz.prog 16 q49:=eh Tryz.func16 rfl q48 (.two .z (.two (.two .z (.s 1)) .z)) (sC jqu s0)
def qtx:Shp:=⟨[ze2],[qqz]⟩
abbrev wb:Ctx ((List Bool)):=⟨77,tt,false,false,[],dv [],ee [ai _ 77 [] q97 (C:=(Bool×Int×qL1×Int×(List af)×Int×Int)) (S:=(Bool×Int×(List Bool))) (fun x=>((x.1.1,(pe4 x.1),(pe5 x.1),x.2.1.1,x.2.1.2.1,x.2.1.2.2.1,(pe3 x.2.1)),((pe3 x.1),(pe6 x.1),x.2.2.1))) q96 (CE:=(Bool×Int×Int×(List af)×Int×Int)) (E:=(Bool×(List Bool))) (fun c e=>((c.1,(),(),e.1,c.2.1,()),((c.2.2.1,(pe3 c),(pe4 c),(pf5 c),()),e.2,()))) (fun c=>(c.1,c.2.1,(pe3 c),(pe4 c),(pe5 c),(pf6 c))) (fun{R} c a nx dn rt=>xh c.1 c.2.1 c.2.2.1 (pe3 c) (pe4 c) (pe5 c) (pf6 c) a.1 a.2.1 a.2.2 nx dn rt),zp _ 77 [] jad (A:=(Bool×Bool×Int×qL1×Int×(List af)×Int×Int×(List Bool))) (fun x=>(x.1.1,(pe3 x.1),(pe4 x.1),(pe5 x.1),x.2.1.1,x.2.1.2.1,x.2.1.2.2.1,(pe3 x.2.1),x.2.2.1)) jac (CE:=(Bool×Int×Int×(List af)×Int×Int)) (E:=(Bool×(List Bool))) (fun c e=>((c.1,(),(),e.1,c.2.1,()),((c.2.2.1,(pe3 c),(pe4 c),(pf5 c),()),e.2,()))) (fun c=>(c.1,c.2.2.1,(pe4 c),(pe5 c),(pe6 c),(pe7 c))) (fun{R} c dn rt=>qfi c.1 c.2.1 c.2.2.1 (pe3 c) (pe4 c) (pe5 c) (pe6 c) (pe7 c) (pf8 c) dn rt),ai _ 77 [] q99 (C:=(Bool×Int×(List af)×Int×Int)) (S:=(Bool×Int×(List Bool))) (fun x=>((x.1.1,x.2.1.1,x.2.1.2.1,x.2.1.2.2.1,(pe3 x.2.1)),((pe3 x.1),(pe4 x.1),x.2.2.1))) q98 (CE:=(Bool×Int×(List af)×Int×Int)) (E:=(Bool×(List Bool))) (fun c e=>((c.1,(),(),e.1,()),((c.2.1,c.2.2.1,(pe3 c),(pf4 c),()),e.2,()))) (fun c=>(c.1,c.2.1,c.2.2.1,(pe3 c),(pf4 c))) (fun{R} c a nx dn rt=>qy c.1 c.2.1 c.2.2.1 (pe3 c) (pf4 c) a.1 a.2.1 a.2.2 nx dn rt),ai _ 77 [] jab (C:=(Bool×Int×(List af)×Int×Int)) (S:=(Bool×(List Bool))) (fun x=>((x.1.1,x.2.1.1,x.2.1.2.1,x.2.1.2.2.1,(pe3 x.2.1)),((pe3 x.1),x.2.2.1))) jaa (CE:=Unit) (E:=(List Bool)) (fun c e=>(((),()),(e,()))) (fun c=>()) (fun{R} c a nx dn rt=>qfh c.1 c.2.1 c.2.2.1 (pe3 c) (pf4 c) a.1 a.2 nx dn rt)],bj 77 tt [] [.tmp 6] qtx (fun x=>x.2.1)⟩
theorem wa:CtxM Tryz.prog wb:=ek fits ax m0
theorem je4:am Tryz.prog wb 0 (lc 4 Tryz.f50 5187223):=lp rfl wa (.two .z (.two (.one (.two (.d [0,0,3,7,0,16,0,112,15,511] [] []) (.two (.d [0,0,3,7,0,0,48,112,255] [] []) .z))) .z)) s0 (fun c a=>((c.1,(),(),a.1,c.2.1,c.2.2.1,a.2.1,()),(((pe3 c),(pe4 c),(pe5 c),(pf6 c),()),a.2.2,()))) (fun y=>((y.1.1,(pe4 y.1),y.2.1.1,y.2.1.2.1,y.2.1.2.2.1,(pe3 y.2.1)),((pe3 y.1),y.2.2.1)))
theorem je5:am Tryz.prog wb 1 (jc Tryz.f50 992919):=jn rfl wa (.two .z (.s 0)) (sC je4 s0) (fun c=>((c.1,(),(),c.2.1,c.2.2.1,(pe3 c),()),(((pe4 c),(pe5 c),(pe6 c),(pe7 c),()),(pf8 c),()))) (fun y=>((y.1.1,(pe4 y.1),y.2.1.1,y.2.1.2.1,y.2.1.2.2.1,(pe3 y.2.1)),((pe3 y.1),y.2.2.1)))
theorem je6:am Tryz.prog wb 2 (lc 2 Tryz.f50 9879):=lp rfl wa (.two .z (.two (.one (.two .z (.two .z (.two .z (.s 1))))) .z)) (sC je5 s0) (fun c a=>((c.1,(),(),a.1,a.2.1,()),((c.2.1,c.2.2.1,(pe3 c),(pf4 c),()),a.2.2,()))) (fun y=>((y.1.1,y.2.1.1,y.2.1.2.1,y.2.1.2.2.1,(pe3 y.2.1)),((pe3 y.1),y.2.2.1)))
theorem je7:am Tryz.prog wb 3 (lc 0 Tryz.f50 151):=lp rfl wa (.two .z (.one (.two .z (.two .z (.s 2))))) (sC je6 s0) (fun c a=>((c.1,(),(),a.1,()),((c.2.1,c.2.2.1,(pe3 c),(pf4 c),()),a.2,()))) (fun y=>((),y.2.1))
abbrev qkh:Mdl:=(aq (.cons (.d false ca.ty) (.cons (.d false qT0) (.cons (.d false .bool) .nil))) [] [] 1 qtx (B:=(List Bool)) (fun b=>(((),()),(b,()))) (fun a=>uq a.1.1 a.1.2.1 a.1.2.2.1))
theorem qp8:MdlOK Tryz.prog 50 qkh:=eh Tryz.func50 rfl wa (.two .z (.two .z (.two .z (.two (.two .z (.s 3)) .z)))) (sC je7 s0)
def qji:Shp:=⟨[qjn],[]⟩
abbrev ql9:Ctx (Bool):=⟨22,tt,false,false,[],dv [(50,qkh)],ee [ai _ 22 [] qx6 (C:=((List Bool)×Int×(List af)×Int×Int)) (S:=Int) (fun x=>((x.1.2.1,x.2.1.1,x.2.1.2.1,x.2.1.2.2.1,(pe3 x.2.1)),x.1.2.2.1)) qx5 (CE:=(Int×(List af)×Int×Int)) (E:=Unit) (fun c e=>(((),()),((c.1,c.2.1,c.2.2.1,c.2.2.2,()),()))) (fun c=>(c.2.1,c.2.2.1,(pe3 c),(pf4 c))) (fun{R} c a nx dn rt=>kj c.1 c.2.1 c.2.2.1 (pe3 c) (pf4 c) a nx dn rt)],bj 22 tt [] [.tmp 2] qji (fun x=>x.1.1)⟩
theorem ql7:CtxM Tryz.prog ql9:=ek fits ax (mC qp8 m0)
theorem q1s:am Tryz.prog ql9 0 (lc 0 Tryz.f101 75):=lp rfl ql7 .z s0 (fun c a=>(((),c.1,a,()),((c.2.1,c.2.2.1,(pe3 c),(pf4 c),()),()))) (fun y=>((y.2.1.1,y.2.1.2.1,y.2.1.2.2.1,(pe3 y.2.1)),()))
abbrev ql8:Mdl:=(aq (.cons (.d false ca.ty) .nil) [] [] 1 qji (B:=Bool) (fun b=>((b,()),(()))) (fun a=>xf a.1.1))
theorem qx7:MdlOK Tryz.prog 101 ql8:=eh Tryz.func101 rfl ql7 (.two .z (.two .z (.two (.two .z (.s 0)) .z))) (sC q1s s0)
def qwj:Shp:=⟨[qjn],[]⟩
abbrev jla:Ctx (Bool):=⟨12,tt,false,false,[],dv [],ee [],bj 12 tt [] [.tmp 2] qwj (fun x=>x.1.1)⟩
theorem jk9:CtxM Tryz.prog jla:=ek fits ax m0
abbrev qoj:Mdl:=(aq (.cons (.d false ca.ty) .nil) [] [] 1 qwj (B:=Bool) (fun b=>((b,()),(()))) (fun a=>qej a.1.1))
theorem qti:MdlOK Tryz.prog 138 qoj:=eh Tryz.func138 rfl jk9 .z s0
def q1l:Shp:=⟨[ze2],[qf0]⟩
abbrev joh:Ctx (qL1):=⟨12,tt,false,false,[],dv [],ee [],bj 12 tt [] [.tmp 4] q1l (fun x=>x.2.1)⟩
theorem jog:CtxM Tryz.prog joh:=ek fits ax m0
abbrev qtm:Mdl:=(aq (.cons (.d false qT0) (.cons (.d false qT0) .nil)) [] [] 1 q1l (B:=qL1) (fun b=>(((),()),(b,()))) (fun a=>qhx a.1.1 a.1.2.1))
theorem qwk:MdlOK Tryz.prog 139 qtm:=eh Tryz.func139 rfl jog .z s0
def q61:Shp:=⟨[qjn],[]⟩
abbrev jer:Ctx (Bool):=⟨18,tt,false,false,[],dv [],ee [ai _ 18 [] jk7 (C:=(qL1×Int)) (S:=Int) (fun x=>((x.1.1,x.1.2.1),x.1.2.2.1)) jk6 (CE:=Unit) (E:=Unit) (fun c e=>((()),(()))) (fun c=>()) (fun{R} c a nx dn rt=>qgm c.1 c.2 a nx dn rt)],bj 18 tt [] [.tmp 4] q61 (fun x=>x.1.1)⟩
theorem jep:CtxM Tryz.prog jer:=ek fits ax m0
theorem jof:am Tryz.prog jer 0 (lc 0 Tryz.f163 37):=lp rfl jep .z s0 (fun c a=>((c.1,c.2,a,()),(()))) (fun y=>((),()))
abbrev jeq:Mdl:=(aq (.cons (.d false qT1) (.cons (.d false qT0) .nil)) [] [] 1 q61 (B:=Bool) (fun b=>((b,()),(()))) (fun a=>ql3 a.1.1 a.1.2.1))
theorem jk8:MdlOK Tryz.prog 163 jeq:=eh Tryz.func163 rfl jep (.two .z (.two (.two .z (.s 0)) .z)) (sC jof s0)
def jel:Shp:=⟨[jqp],[]⟩
abbrev ju8:Ctx (Int):=⟨25,tt,false,false,[],dv [(163,jeq)],ee [],bj 25 tt [] [.tmp 4] jel (fun x=>x.1.1)⟩
theorem ju7:CtxM Tryz.prog ju8:=ek fits ax (mC jk8 m0)
abbrev q40:Mdl:=(aq (.cons (.d false af.ty) (.cons (.d false qT0) .nil)) [] [] 1 jel (B:=Int) (fun b=>((b,()),(()))) (fun a=>qs9 a.1.1 a.1.2.1))
theorem q6w:MdlOK Tryz.prog 140 q40:=eh Tryz.func140 rfl ju7 (.two .z (.two (.d [0,1,0,7,0,16,0,127,255,511] [] []) .z)) s0
def qto:Shp:=⟨[qjn],[]⟩
abbrev qwn:Ctx (Bool):=⟨24,tt,false,false,[],dv [],ee [ai _ 24 [] q9y (C:=(qL1×qL1)) (S:=Int) (fun x=>((x.1.1,x.1.2.1),x.1.2.2.1)) q9x (CE:=Unit) (E:=Unit) (fun c e=>((()),(()))) (fun c=>()) (fun{R} c a nx dn rt=>lq c.1 c.2 a nx dn rt)],bj 24 tt [] [.tmp 4] qto (fun x=>x.1.1)⟩
theorem qwl:CtxM Tryz.prog qwn:=ek fits ax m0
theorem jev:am Tryz.prog qwn 0 (lc 0 Tryz.f184 37):=lp rfl qwl .z s0 (fun c a=>((c.1,c.2,a,()),(()))) (fun y=>((),()))
abbrev qwm:Mdl:=(aq (.cons (.d false qT1) (.cons (.d false qT1) .nil)) [] [] 1 qto (B:=Bool) (fun b=>((b,()),(()))) (fun a=>qd a.1.1 a.1.2.1))
theorem q9z:MdlOK Tryz.prog 184 qwm:=eh Tryz.func184 rfl qwl (.two .z (.two (.two .z (.s 0)) .z)) (sC jev s0)
def q6z:Shp:=⟨[ze2],[qkq]⟩
abbrev qxu:Ctx ((List ae)):=⟨49,tt,false,false,[false],dv [(184,qwm)],ee [ai _ 49 [false] jk2 (C:=((List ae)×qL1×qL1)) (S:=Int) (fun x=>((x.2.1,x.2.2.1.1,x.2.2.1.2.1),x.1.2.2.1)) jk1 (CE:=((List ae)×qL1×qL1)) (E:=Unit) (fun c e=>(((),(),()),(c.1,(c.2.1,c.2.2,()),()))) (fun c=>(c.1,c.2.1,c.2.2)) (fun{R} c a nx dn rt=>qgl c.1 c.2.1 c.2.2 a nx dn rt),ai _ 49 [false] jk4 (C:=((List ae)×qL1×qL1)) (S:=(Int×(List ae))) (fun x=>((x.1.1,x.2.1.1,x.2.1.2.1),((pe3 x.1),x.2.2.1))) jk3 (CE:=(qL1×qL1)) (E:=(List ae)) (fun c e=>(((),(),()),((c.1,c.2,()),e,()))) (fun c=>(c.2.1,c.2.2)) (fun{R} c a nx dn rt=>qam c.1 c.2.1 c.2.2 a.1 a.2 nx dn rt)],bj 49 tt [false] [.tmp 4] q6z (fun x=>x.2.1)⟩
theorem qxt:CtxM Tryz.prog qxu:=ek fits ax (mC q9z m0)
theorem joe:am Tryz.prog qxu 1 (lc 2 Tryz.f164 151):=lp rfl qxt (.two .z (.two (.one (.two (.d [0,1,0,0,12,28,60,127,255] [] []) .z)) .z)) s0 (fun c a=>((c.1,(),(),a.1,()),((c.2.1,c.2.2,()),a.2,()))) (fun y=>((y.2.1.1,y.2.1.2.1),y.2.2.1))
theorem jod:am Tryz.prog qxu 0 (lc 0 Tryz.f164 37):=lp rfl qxt (.two .z (.two (.one (.two (.d [0,0,3,7,15,0,32,127] [] []) .z)) .z)) s0 (fun c a=>(((),(),a,()),(c.1,(c.2.1,c.2.2,()),()))) (fun y=>((y.2.1,y.2.2.1.1,y.2.2.1.2.1),()))
abbrev jeo:Mdl:=(aq (.cons (.own 0) (.cons (.d true ae.ty) .nil)) [qkq] [false] 1 q6z (B:=(List ae)) (fun b=>(((),()),(b,()))) (fun a=>ql2 a.1.2.1 a.2.1))
theorem jk5:MdlOK Tryz.prog 164 jeo:=eh Tryz.func164 rfl qxt (.two .z (.two (.two .z (.s 0)) (.two .z (.two (.two .z (.s 1)) .z)))) (sC jod (sC joe s0))
def q0u:Shp:=⟨[jqp],[]⟩
abbrev job:Ctx (Int):=⟨8,tt,false,false,[],dv [],ee [],bj 8 tt [] [.tmp 2] q0u (fun x=>x.1.1)⟩
theorem joa:CtxM Tryz.prog job:=ek fits ax m0
abbrev qss:Mdl:=(aq (.cons (.d false qT0) .nil) [] [] 1 q0u (B:=Int) (fun b=>((b,()),(()))) (fun a=>xq a.1.1))
theorem qv7:MdlOK Tryz.prog 168 qss:=eh Tryz.func168 rfl joa .z s0
def q6k:Shp:=⟨[jqp],[]⟩
abbrev jd2:Ctx (Int):=⟨12,tt,false,false,[],dv [],ee [ai _ 12 [] jku (C:=Unit) (S:=(Int×Int)) (fun x=>((),(x.1.1,x.1.2.1))) jkt (CE:=Unit) (E:=Int) (fun c e=>((e,()),(()))) (fun c=>()) (fun{R} c a nx dn rt=>qag a.1 a.2 nx dn rt)],bj 12 tt [] [.tmp 4] q6k (fun x=>x.1.1)⟩
theorem jd0:CtxM Tryz.prog jd2:=ek fits ax m0
theorem jn9:am Tryz.prog jd2 0 (lc 0 Tryz.f191 17):=lp rfl jd0 (.two .z (.one (.d [0,0,0,6,3,31] [] []))) s0 (fun c a=>((a.1,a.2,()),(()))) (fun y=>((),y.1.1))
abbrev jd1:Mdl:=(aq (.cons (.d false qT0) (.cons (.d false qT0) .nil)) [] [] 1 q6k (B:=Int) (fun b=>((b,()),(()))) (fun a=>quj a.1.1 a.1.2.1))
theorem jkv:MdlOK Tryz.prog 191 jd1:=eh Tryz.func191 rfl jd0 (.two .z (.two (.s 0) .z)) (sC jn9 s0)
def qi5:Shp:=⟨[ze2],[qf0]⟩
abbrev qcr:Ctx (qL1):=⟨41,tt,false,false,[],dv [(168,qss),(191,jd1)],ee [ai _ 41 [] qxk (C:=qL1) (S:=(Int×Int)) (fun x=>(x.1.1,(x.1.2.1,x.1.2.2.1))) qxj (CE:=qL1) (E:=Int) (fun c e=>((c,e,()),(()))) (fun c=>c) (fun{R} c a nx dn rt=>pu c a.1 a.2 nx dn rt),ai _ 41 [] qxm (C:=(qL1×Int)) (S:=(Int×qL1)) (fun x=>((x.1.1,x.1.2.1),((pe3 x.1),x.2.1))) qxl (CE:=Unit) (E:=qL1) (fun c e=>(((),()),(e,()))) (fun c=>()) (fun{R} c a nx dn rt=>px c.1 c.2 a.1 a.2 nx dn rt)],bj 41 tt [] [.tmp 2] qi5 (fun x=>x.2.1)⟩
theorem qcq:CtxM Tryz.prog qcr:=ek fits ax (mC qv7 (mC jkv m0))
theorem q0o:am Tryz.prog qcr 1 (lc 2 Tryz.f185 1199):=lp rfl qcq .z s0 (fun c a=>((c.1,c.2,(),a.1,()),(a.2,()))) (fun y=>((),y.2.1))
theorem q0n:am Tryz.prog qcr 0 (lc 0 Tryz.f185 75):=lp rfl qcq .z s0 (fun c a=>((c,a.1,a.2,()),(()))) (fun y=>(y.1.1,y.1.2.1))
abbrev qlv:Mdl:=(aq (.cons (.d false qT1) .nil) [] [] 1 qi5 (B:=qL1) (fun b=>(((),()),(b,()))) (fun a=>wq a.1.1))
theorem qxn:MdlOK Tryz.prog 185 qlv:=eh Tryz.func185 rfl qcq (.two .z (.two .z (.two (.two .z (.s 0)) (.two .z (.two (.two .z (.two (.two .z (.s 1)) .z)) .z))))) (sC q0n (sC q0o s0))
def qpz:Shp:=⟨[zgd],[]⟩
abbrev qhu:Ctx (ae):=⟨75,tt,false,false,[],dv [(185,qlv)],ee [ai _ 75 [] q42 (C:=(Int×Int×qL1×qL1×qL1×qL1×qL1×qL1)) (S:=(Int×qL1)) (fun x=>((x.1.1,x.1.2.1,x.2.1.1,x.2.1.2.1,x.2.2.1.1,x.2.2.1.2.1,(pe3 x).1,(pe3 x).2.1),((pe6 x.1),(pe4 x)))) q41 (CE:=(Int×Int×qL1×qL1×qL1×qL1×qL1×qL1)) (E:=qL1) (fun c e=>((c.1,c.2.1,(),(),(),(),()),((c.2.2.1,(pe3 c),()),((pe4 c),(pe5 c),()),((pe6 c),(pf7 c),()),e,()))) (fun c=>(c.1,c.2.1,c.2.2.1,(pe3 c),(pe4 c),(pe5 c),(pe6 c),(pf7 c))) (fun{R} c a nx dn rt=>uk c.1 c.2.1 c.2.2.1 (pe3 c) (pe4 c) (pe5 c) (pe6 c) (pf7 c) a.1 a.2 nx dn rt),ai _ 75 [] q44 (C:=(Int×Int×qL1×qL1×qL1×qL1×qL1×qL1)) (S:=(Int×qL1)) (fun x=>((x.1.1,x.1.2.1,x.2.1.1,x.2.1.2.1,x.2.2.1.1,x.2.2.1.2.1,(pe3 x).1,(pe3 x).2.1),((pe6 x.1),(pe4 x)))) q43 (CE:=(qL1×qL1×qL1×qL1)) (E:=qL1) (fun c e=>(((),(),(),()),((c.1,c.2.1,()),(c.2.2.1,c.2.2.2,()),e,()))) (fun c=>(c.2.2.1,(pe3 c),(pe6 c),(pf7 c))) (fun{R} c a nx dn rt=>ul c.1 c.2.1 c.2.2.1 (pe3 c) (pe4 c) (pe5 c) (pe6 c) (pf7 c) a.1 a.2 nx dn rt)],bj 75 tt [] [.cell 8 139] qpz (fun x=>x.1.1)⟩
theorem qht:CtxM Tryz.prog qhu:=ek fits ax (mC qxn m0)
theorem q9q:am Tryz.prog qhu 1 (lc 2 Tryz.f165 151):=lp rfl qht (.two .z (.two (.one (.d [0,0,0,4,0,28,60,126,0,0,512,0,3584,7680,16128,32766,65534,131071,262143] [17,18] [])) .z)) s0 (fun c a=>((c.1,c.2.1,(),(),(),(),a.1,()),((c.2.2.1,(pe3 c),()),((pe4 c),(pe5 c),()),((pe6 c),(pf7 c),()),a.2,()))) (fun y=>((y.2.1.1,y.2.1.2.1,y.2.2.1.1,y.2.2.1.2.1),(pe3 y)))
theorem q9p:am Tryz.prog qhu 0 (lc 0 Tryz.f165 75):=lp rfl qht (.two .z (.two (.one (.d [0,0,0,4,0,28,60,126,0,0,512,0,3584,7680,16128,32766,65534,131071,262143] [17,18] [])) .z)) s0 (fun c a=>((c.1,c.2.1,(),(),(),(),a.1,()),((c.2.2.1,(pe3 c),()),((pe4 c),(pe5 c),()),((pe6 c),(pf7 c),()),a.2,()))) (fun y=>((y.1.1,y.1.2.1,y.2.1.1,y.2.1.2.1,y.2.2.1.1,y.2.2.1.2.1,(pe3 y).1,(pe3 y).2.1),(pe4 y)))
abbrev qth:Mdl:=(aq (.cons (.d false ae.ty) (.cons (.d false qT0) (.cons (.d false ae.ty) (.cons (.d false qT0) .nil)))) [] [] 1 qpz (B:=ae) (fun b=>((b,()),(()))) (fun a=>v7 a.1.1 a.1.2.1 a.1.2.2.1 (pe3 a.1)))
theorem q45:MdlOK Tryz.prog 165 qth:=eh Tryz.func165 rfl qht (.two .z (.two .z (.two (.two .z (.s 0)) (.two (.two .z (.s 1)) (.two .z (.two .z (.two (.d [0,0,3,0,0,24,63,127] [7] []) .z))))))) (sC q9p (sC q9q s0))
def qjg:Shp:=⟨[qyj,(1, .d true .bool)],[jfq]⟩
abbrev j6:Ctx (((List ae)×Bool×qL1)):=⟨102,tt,false,false,[false],dv [(164,jeo),(165,qth)],ee [ai _ 102 [false] qxw (C:=((List ae)×Int×Int)) (S:=(Int×(List ae))) (fun x=>((x.1.1,x.1.2.1,x.1.2.2.1),((pe4 x.1),x.2.1))) qxv (CE:=((List ae)×Int×Int)) (E:=(List ae)) (fun c e=>((c.1,c.2.1,c.2.2,(),()),(e,()))) (fun c=>(c.1,c.2.1,c.2.2)) (fun{R} c a nx dn rt=>kg c.1 c.2.1 c.2.2 a.1 a.2 nx dn rt),zp _ 102 [false] qx4 (A:=((List ae)×Int×Int×Int×Int×Bool×(List ae))) (fun x=>(x.1.1,x.1.2.1,x.1.2.2.1,(pe4 x.1),(pe5 x.1),(pe6 x.1),x.2.1)) qx3 (CE:=((List ae)×Int×Int×Int×Int)) (E:=(List ae)) (fun c e=>((c.1,c.2.1,c.2.2.1,(),(pe3 c),(pf4 c),()),(e,()))) (fun c=>(c.1,c.2.1,c.2.2.1,(pe3 c),(pe4 c))) (fun{R} c dn rt=>kh c.1 c.2.1 c.2.2.1 (pe3 c) (pe4 c) (pe5 c) (pf6 c) dn rt),ai _ 102 [false] qxy (C:=((List ae)×Int×Int×Int)) (S:=(Int×(List ae))) (fun x=>((x.1.1,x.1.2.1,x.1.2.2.1,(pe4 x.1)),((pe5 x.1),x.2.1))) qxx (CE:=((List ae)×Int×Int×Int)) (E:=(List ae)) (fun c e=>((c.1,c.2.1,c.2.2.1,(),c.2.2.2,()),(e,()))) (fun c=>(c.1,c.2.1,c.2.2.1,c.2.2.2)) (fun{R} c a nx dn rt=>g9 c.1 c.2.1 c.2.2.1 c.2.2.2 a.1 a.2 nx dn rt),ai _ 102 [false] qx0 (C:=((List ae)×Int×Int)) (S:=(Int×(List ae))) (fun x=>((x.1.1,x.1.2.1,x.1.2.2.1),((pe4 x.1),x.2.1))) qxz (CE:=(Int×Int)) (E:=(List ae)) (fun c e=>((c.1,c.2,(),()),(e,()))) (fun c=>(c.2.1,c.2.2)) (fun{R} c a nx dn rt=>qb c.1 c.2.1 c.2.2 a.1 a.2 nx dn rt),ai _ 102 [false] qx2 (C:=Int) (S:=((List ae)×Int×qL1)) (fun x=>(x.1.2.1,(x.1.1,x.1.2.2.1,x.2.1))) qx1 (CE:=Unit) (E:=((List ae)×qL1)) (fun c e=>((e.1,()),(e.2,()))) (fun c=>()) (fun{R} c a nx dn rt=>qc c a.1 a.2.1 a.2.2 nx dn rt)],bj 102 tt [false] [.tmp 4, .tmp 5] qjg (fun x=>(x.1.1,x.1.2.1,x.2.1))⟩
theorem j5:CtxM Tryz.prog j6:=ek fits ax (mC jk5 (mC q45 m0))
theorem q1f:am Tryz.prog j6 1 (jc Tryz.f141 52710181):=jn rfl j5 (.two (.d [0,0,0,6,14,0,0,96,224,480,0,2016,4064,8160,0,0,49152,114688,0,0,786432,1835008,3932160,0,16515072,33292288,67108862,134217727,268435455] [27,28] []) .z) s0 (fun c=>((c.1,c.2.1,c.2.2.1,(),(pe3 c),(pe4 c),(pe5 c),()),((pf6 c),()))) (fun y=>((y.1.1,y.1.2.1,y.1.2.2.1,(pe4 y.1),(pe5 y.1)),y.2.1))
theorem q1g:am Tryz.prog j6 2 (lc 6 Tryz.f141 2378533):=lp rfl j5 (.two .z (.two (.one (.two .z (.s 1))) .z)) (sC q1f s0) (fun c a=>((c.1,c.2.1,c.2.2.1,(),c.2.2.2,a.1,()),(a.2,()))) (fun y=>((y.1.1,y.1.2.1,y.1.2.2.1,(pe4 y.1)),y.2.1))
theorem q1h:am Tryz.prog j6 3 (lc 4 Tryz.f141 19237):=lp rfl j5 (.two .z (.two (.one (.two (.two .z (.s 2)) .z)) .z)) (sC q1g s0) (fun c a=>((c.1,c.2.1,c.2.2,(),a.1,()),(a.2,()))) (fun y=>((y.1.1,y.1.2.1),y.2.1))
theorem q1e:am Tryz.prog j6 0 (lc 2 Tryz.f141 9509):=lp rfl j5 .z s0 (fun c a=>((c.1,c.2.1,c.2.2,(),a.1,()),(a.2,()))) (fun y=>((y.1.1,y.1.2.1,y.1.2.2.1),y.2.1))
theorem q1i:am Tryz.prog j6 4 (lc 0 Tryz.f141 37):=lp rfl j5 (.two .z (.two (.one (.two .z (.two (.two .z (.s 0)) (.two (.two .z (.s 3)) .z)))) .z)) (sC q1e (sC q1h s0)) (fun c a=>((a.1,c,a.2.1,()),(a.2.2,()))) (fun y=>((),(y.1.1,y.2.1)))
abbrev qcv:Mdl:=(aq (.cons (.own 0) (.cons (.d false qT0) .nil)) [qkq] [false] 2 qjg (B:=((List ae)×Bool×qL1)) (fun b=>((b.1,b.2.1,()),(b.2.2,()))) (fun a=>i7 a.1.2.1 a.2.1))
theorem qhv:MdlOK Tryz.prog 141 qcv:=eh Tryz.func141 rfl j5 (.two .z (.two (.two .z (.s 4)) .z)) (sC q1i s0)
def q1k:Shp:=⟨[qjn],[]⟩
abbrev q64:Ctx (Bool):=⟨30,tt,false,false,[],dv [],ee [ai _ 30 [] jgq (C:=(qL1×qL1)) (S:=Int) (fun x=>((x.1.1,x.1.2.1),x.1.2.2.1)) jgp (CE:=Unit) (E:=Unit) (fun c e=>((()),(()))) (fun c=>()) (fun{R} c a nx dn rt=>v8 c.1 c.2 a nx dn rt)],bj 30 tt [] [.tmp 4] q1k (fun x=>x.1.1)⟩
theorem q62:CtxM Tryz.prog q64:=ek fits ax m0
theorem jlb:am Tryz.prog q64 0 (lc 0 Tryz.f166 37):=lp rfl q62 (.two .z (.two (.one (.two (.d [0,0,3,7,0,0,48,112,255] [] []) (.two (.two (.d [0,0,3,7,0,0,48,112,255,511] [] []) .z) .z))) .z)) s0 (fun c a=>((c.1,c.2,a,()),(()))) (fun y=>((),()))
abbrev q63:Mdl:=(aq (.cons (.d false qT1) (.cons (.d false qT1) .nil)) [] [] 1 q1k (B:=Bool) (fun b=>((b,()),(()))) (fun a=>qok a.1.1 a.1.2.1))
theorem jgr:MdlOK Tryz.prog 166 q63:=eh Tryz.func166 rfl q62 (.two .z (.two (.two .z (.s 0)) .z)) (sC jlb s0)
def qtl:Shp:=⟨[zf5,qnf],[]⟩
abbrev qdt:Ctx ((qL2×Int)):=⟨74,tt,false,false,[],dv [(166,q63)],ee [ai _ 74 [] q9s (C:=((List ae)×qL2×Int)) (S:=Int) (fun x=>((x.1.1,x.1.2.1,x.1.2.2.1),(pe3 x.1))) q9r (CE:=((List ae)×qL2×Int)) (E:=Unit) (fun c e=>((c.1,c.2.1,c.2.2,()),(()))) (fun c=>(c.1,c.2.1,c.2.2)) (fun{R} c a nx dn rt=>xe c.1 c.2.1 c.2.2 a nx dn rt),ai _ 74 [] q9u (C:=((List ae)×qL2×Int)) (S:=Int) (fun x=>((x.1.1,x.1.2.1,x.1.2.2.1),(pe3 x.1))) q9t (CE:=((List ae)×qL2×Int)) (E:=Int) (fun c e=>((c.1,c.2.1,c.2.2,e,()),(()))) (fun c=>(c.1,c.2.1,c.2.2)) (fun{R} c a nx dn rt=>qw c.1 c.2.1 c.2.2 a nx dn rt),ai _ 74 [] q9w (C:=(List ae)) (S:=(qL2×Int)) (fun x=>(x.1.1,(x.1.2.1,x.1.2.2.1))) q9v (CE:=Unit) (E:=qL2) (fun c e=>((e,()),(()))) (fun c=>()) (fun{R} c a nx dn rt=>qx c a.1 a.2 nx dn rt)],bj 74 tt [] [.tmp 2, .tmp 3] qtl (fun x=>(x.1.1,x.1.2.1))⟩
theorem qds:CtxM Tryz.prog qdt:=ek fits ax (mC jgr m0)
theorem jet:am Tryz.prog qdt 1 (lc 4 Tryz.f142 35991):=lp rfl qds (.two (.two (.d [0,0,2,7,15,31,31,127,255,31,31,1567,3615,7711,16383,32767] [] []) .z) .z) s0 (fun c a=>((c.1,c.2.1,c.2.2,a,()),(()))) (fun y=>((y.1.1,y.1.2.1,y.1.2.2.1),(pe3 y.1)))
theorem jes:am Tryz.prog qdt 0 (lc 2 Tryz.f142 18583):=lp rfl qds .z s0 (fun c a=>((c.1,c.2.1,c.2.2,a,()),(()))) (fun y=>((y.1.1,y.1.2.1,y.1.2.2.1),()))
theorem jeu:am Tryz.prog qdt 2 (lc 0 Tryz.f142 151):=lp rfl qds (.two .z (.two (.one (.two (.two .z (.s 0)) (.two .z (.two (.s 1) .z)))) .z)) (sC jes (sC jet s0)) (fun c a=>((c,a.1,a.2,()),(()))) (fun y=>((),y.1.1))
abbrev qke:Mdl:=(aq (.cons (.d true (.slice ae.ty)) .nil) [] [] 2 qtl (B:=(qL2×Int)) (fun b=>((b.1,b.2,()),(()))) (fun a=>qan a.1.1))
theorem qp0:MdlOK Tryz.prog 142 qke:=eh Tryz.func142 rfl qds (.two .z (.two .z (.two .z (.two (.two .z (.s 2)) .z)))) (sC jeu s0)
def qtb:Shp:=⟨[zf5,qnf],[]⟩
abbrev qkd:Ctx ((qL2×Int)):=⟨62,tt,false,false,[],dv [(15,p9),(138,qoj),(139,qtm),(140,q40),(141,qcv),(142,qke)],ee [ai _ 62 [] q9l (C:=(Int×Int×(List af)×Int×Int×(List ae)×qL1)) (S:=(Int×qL1)) (fun x=>((x.1.2.2.1,x.2.1.1,x.2.1.2.1,x.2.1.2.2.1,(pe3 x.2.1),x.2.2.1,(pe3 x).2.1),((pe4 x.1),(pe4 x)))) q9k (CE:=(Int×Int×(List af)×Int×Int×(List ae)×qL1)) (E:=qL1) (fun c e=>(((),(),c.1,(),()),((c.2.1,c.2.2.1,(pe3 c),(pe4 c),()),(pe5 c),((),(pf6 c),()),e,()))) (fun c=>(c.1,c.2.1,c.2.2.1,(pe3 c),(pe4 c),(pe5 c),(pf6 c))) (fun{R} c a nx dn rt=>xc c.1 c.2.1 c.2.2.1 (pe3 c) (pe4 c) (pe5 c) (pf6 c) a.1 a.2 nx dn rt),ai _ 62 [] q9n (C:=(Int×(List af)×Int×Int)) (S:=(Int×(List ae))) (fun x=>((x.2.1.1,x.2.1.2.1,x.2.1.2.2.1,(pe3 x.2.1)),(x.1.2.2.1,x.2.2.1))) q9m (CE:=(Int×(List af)×Int×Int)) (E:=(List ae)) (fun c e=>(((),(),()),((c.1,c.2.1,c.2.2.1,c.2.2.2,()),e,()))) (fun c=>(c.1,c.2.1,c.2.2.1,c.2.2.2)) (fun{R} c a nx dn rt=>xd c.1 c.2.1 c.2.2.1 c.2.2.2 a.1 a.2 nx dn rt)],bj 62 tt [] [.tmp 2, .tmp 3] qtb (fun x=>(x.1.1,x.1.2.1))⟩
theorem qkc:CtxM Tryz.prog qkd:=ek fits ax (mC nw (mC qti (mC qwk (mC q6w (mC qhv (mC qp0 m0))))))
theorem jem:am Tryz.prog qkd 0 (lc 2 Tryz.f102 76079):=lp rfl qkc (.two .z (.two (.one (.d [0,1,0,4,0,28,60,0,252,508,1023,2047,4095] [10,12] [])) .z)) s0 (fun c a=>(((),(),c.1,(),a.1,()),((c.2.1,c.2.2.1,(pe3 c),(pe4 c),()),(pe5 c),((),(pf6 c),()),a.2,()))) (fun y=>((y.1.2.2.1,y.2.1.1,y.2.1.2.1,y.2.1.2.2.1,(pe3 y.2.1),y.2.2.1,(pe3 y).2.1),(pe4 y)))
theorem jen:am Tryz.prog qkd 1 (lc 0 Tryz.f102 303):=lp rfl qkc (.two .z (.two (.one (.two .z (.two (.two .z (.s 0)) .z))) .z)) (sC jem s0) (fun c a=>(((),(),a.1,()),((c.1,c.2.1,c.2.2.1,c.2.2.2,()),a.2,()))) (fun y=>((y.2.1.1,y.2.1.2.1,y.2.1.2.2.1,(pe3 y.2.1)),y.2.2.1))
abbrev qwi:Mdl:=(aq (.cons (.d false ca.ty) .nil) [] [] 2 qtb (B:=(qL2×Int)) (fun b=>((b.1,b.2,()),(()))) (fun a=>qgk a.1.1))
theorem q9o:MdlOK Tryz.prog 102 qwi:=eh Tryz.func102 rfl qkc (.two .z (.two .z (.two .z (.two .z (.two (.two .z (.s 1)) .z))))) (sC jen s0)
def qfy:Shp:=⟨[zf5,qnf],[]⟩
abbrev xt:Ctx ((qL2×Int)):=⟨62,tt,false,false,[],dv [(15,p9),(138,qoj),(139,qtm),(140,q40),(141,qcv),(142,qke)],ee [ai _ 62 [] qtd (C:=(Int×Int×(List af)×Int×Int×(List ae)×qL1)) (S:=(Int×qL1)) (fun x=>((x.1.2.2.1,x.2.1.1,x.2.1.2.1,x.2.1.2.2.1,(pe3 x.2.1),x.2.2.1,(pe3 x).2.1),((pe4 x.1),(pe4 x)))) qtc (CE:=(Int×Int×(List af)×Int×Int×(List ae)×qL1)) (E:=qL1) (fun c e=>(((),(),c.1,(),()),((c.2.1,c.2.2.1,(pe3 c),(pe4 c),()),(pe5 c),((),(pf6 c),()),e,()))) (fun c=>(c.1,c.2.1,c.2.2.1,(pe3 c),(pe4 c),(pe5 c),(pf6 c))) (fun{R} c a nx dn rt=>l7 c.1 c.2.1 c.2.2.1 (pe3 c) (pe4 c) (pe5 c) (pf6 c) a.1 a.2 nx dn rt),ai _ 62 [] qtf (C:=(Int×(List af)×Int×Int)) (S:=(Int×(List ae))) (fun x=>((x.2.1.1,x.2.1.2.1,x.2.1.2.2.1,(pe3 x.2.1)),(x.1.2.2.1,x.2.2.1))) qte (CE:=(Int×(List af)×Int×Int)) (E:=(List ae)) (fun c e=>(((),(),()),((c.1,c.2.1,c.2.2.1,c.2.2.2,()),e,()))) (fun c=>(c.1,c.2.1,c.2.2.1,c.2.2.2)) (fun{R} c a nx dn rt=>l8 c.1 c.2.1 c.2.2.1 c.2.2.2 a.1 a.2 nx dn rt)],bj 62 tt [] [.tmp 2, .tmp 3] qfy (fun x=>(x.1.1,x.1.2.1))⟩
theorem xr:CtxM Tryz.prog xt:=ek fits ax (mC nw (mC qti (mC qwk (mC q6w (mC qhv (mC qp0 m0))))))
theorem qu5:am Tryz.prog xt 0 (lc 2 Tryz.f103 76079):=lp rfl xr (.two .z (.two (.one (.d [0,1,0,4,0,28,60,0,252,508,1023,2047,4095] [10,12] [])) .z)) s0 (fun c a=>(((),(),c.1,(),a.1,()),((c.2.1,c.2.2.1,(pe3 c),(pe4 c),()),(pe5 c),((),(pf6 c),()),a.2,()))) (fun y=>((y.1.2.2.1,y.2.1.1,y.2.1.2.1,y.2.1.2.2.1,(pe3 y.2.1),y.2.2.1,(pe3 y).2.1),(pe4 y)))
theorem qu6:am Tryz.prog xt 1 (lc 0 Tryz.f103 303):=lp rfl xr (.two .z (.two (.one (.two .z (.two (.two .z (.s 0)) .z))) .z)) (sC qu5 s0) (fun c a=>(((),(),a.1,()),((c.1,c.2.1,c.2.2.1,c.2.2.2,()),a.2,()))) (fun y=>((y.2.1.1,y.2.1.2.1,y.2.1.2.2.1,(pe3 y.2.1)),y.2.2.1))
abbrev qhs:Mdl:=(aq (.cons (.d false ca.ty) .nil) [] [] 2 qfy (B:=(qL2×Int)) (fun b=>((b.1,b.2,()),(()))) (fun a=>su a.1.1))
theorem qtg:MdlOK Tryz.prog 103 qhs:=eh Tryz.func103 rfl xr (.two .z (.two .z (.two .z (.two .z (.two (.two .z (.s 1)) .z))))) (sC qu6 s0)
def qja:Shp:=⟨[j9v,qnf],[qgq]⟩
abbrev qcu:Ctx ((Int×qL2)):=⟨80,tt,false,false,[],dv [(15,p9),(68,pz)],ee [ai _ 80 [] qxp (C:=(Int×Int×(List af)×Int×Int×qL2)) (S:=(Int×qL1)) (fun x=>((x.1.2.2.1,x.2.1.1,x.2.1.2.1,x.2.1.2.2.1,(pe3 x.2.1),x.2.2.1),((pe4 x.1),(pe3 x)))) qxo (CE:=(Int×Int×(List af)×Int×Int×qL2)) (E:=qL1) (fun c e=>(((),(),c.1,(),()),((c.2.1,c.2.2.1,(pe3 c),(pe4 c),()),(pf5 c),e,()))) (fun c=>(c.1,c.2.1,c.2.2.1,(pe3 c),(pe4 c),(pf5 c))) (fun{R} c a nx dn rt=>p0 c.1 c.2.1 c.2.2.1 (pe3 c) (pe4 c) (pf5 c) a.1 a.2 nx dn rt),ai _ 80 [] qxr (C:=(Int×(List af)×Int×Int)) (S:=(Int×qL2)) (fun x=>((x.2.1.1,x.2.1.2.1,x.2.1.2.2.1,(pe3 x.2.1)),(x.1.2.2.1,x.2.2.1))) qxq (CE:=Unit) (E:=qL2) (fun c e=>(((),()),(e,()))) (fun c=>()) (fun{R} c a nx dn rt=>p8 c.1 c.2.1 c.2.2.1 c.2.2.2 a.1 a.2 nx dn rt)],bj 80 tt [] [.tmp 2, .tmp 3] qja (fun x=>(x.1.2.1,x.2.1))⟩
theorem qct:CtxM Tryz.prog qcu:=ek fits ax (mC nw (mC l4 m0))
theorem q0v:am Tryz.prog qcu 0 (lc 2 Tryz.f104 76079):=lp rfl qct .z s0 (fun c a=>(((),(),c.1,(),a.1,()),((c.2.1,c.2.2.1,(pe3 c),(pe4 c),()),(pf5 c),a.2,()))) (fun y=>((y.1.2.2.1,y.2.1.1,y.2.1.2.1,y.2.1.2.2.1,(pe3 y.2.1),y.2.2.1),(pe3 y)))
theorem q0w:am Tryz.prog qcu 1 (lc 0 Tryz.f104 303):=lp rfl qct (.two .z (.two (.one (.two .z (.two (.two .z (.s 0)) .z))) .z)) (sC q0v s0) (fun c a=>(((),(),a.1,()),((c.1,c.2.1,c.2.2.1,c.2.2.2,()),a.2,()))) (fun y=>((),y.2.1))
abbrev qlw:Mdl:=(aq (.cons (.d false ca.ty) .nil) [] [] 2 qja (B:=(Int×qL2)) (fun b=>(((),b.1,()),(b.2,()))) (fun a=>wx a.1.1))
theorem qxs:MdlOK Tryz.prog 104 qlw:=eh Tryz.func104 rfl qct (.two .z (.two .z (.two .z (.two .z (.two (.two .z (.s 1)) .z))))) (sC q0w s0)
def qsi:Shp:=⟨[qjn],[]⟩
abbrev qv0:Ctx (Bool):=⟨30,tt,false,false,[],dv [],ee [ai _ 30 [] q8n (C:=qL1) (S:=Int) (fun x=>(x.1.1,x.1.2.1)) q8m (CE:=Unit) (E:=Unit) (fun c e=>((()),(()))) (fun c=>()) (fun{R} c a nx dn rt=>lm c a nx dn rt)],bj 30 tt [] [.tmp 2] qsi (fun x=>x.1.1)⟩
theorem qvy:CtxM Tryz.prog qv0:=ek fits ax m0
theorem jdl:am Tryz.prog qv0 0 (lc 0 Tryz.f167 75):=lp rfl qvy .z s0 (fun c a=>((c,a,()),(()))) (fun y=>((),()))
abbrev qvz:Mdl:=(aq (.cons (.d false qT1) .nil) [] [] 1 qsi (B:=Bool) (fun b=>((b,()),(()))) (fun a=>qgf a.1.1))
theorem q8o:MdlOK Tryz.prog 167 qvz:=eh Tryz.func167 rfl qvy (.two .z (.two .z (.two (.two .z (.s 0)) .z))) (sC jdl s0)
def qv6:Shp:=⟨[qjn],[]⟩
abbrev q0t:Ctx (Bool):=⟨36,tt,false,false,[],dv [(167,qvz)],ee [ai _ 36 [] jdy (C:=qL2) (S:=Int) (fun x=>(x.1.1,x.1.2.1)) jdx (CE:=Unit) (E:=Unit) (fun c e=>((()),(()))) (fun c=>()) (fun{R} c a nx dn rt=>nv c a nx dn rt)],bj 36 tt [] [.tmp 2] qv6 (fun x=>x.1.1)⟩
theorem q0r:CtxM Tryz.prog q0t:=ek fits ax (mC q8o m0)
theorem jgb:am Tryz.prog q0t 0 (lc 0 Tryz.f143 75):=lp rfl q0r (.two .z (.two (.one (.two (.d [0,0,3,7,15,0,32,96,224,511,1023,2047,2047,8191,16383,32767,65535,131071] [] []) .z)) .z)) s0 (fun c a=>((c,a,()),(()))) (fun y=>((),()))
abbrev q0s:Mdl:=(aq (.cons (.d false qT2) .nil) [] [] 1 qv6 (B:=Bool) (fun b=>((b,()),(()))) (fun a=>qi7 a.1.1))
theorem jdz:MdlOK Tryz.prog 143 q0s:=eh Tryz.func143 rfl q0r (.two .z (.two .z (.two (.two .z (.s 0)) .z))) (sC jgb s0)
def qv4:Shp:=⟨[qjn],[]⟩
abbrev qog:Ctx (Bool):=⟨39,tt,false,false,[],dv [(168,qss)],ee [ai _ 39 [] jdt (C:=(qL2×Int×Int)) (S:=(Int×Int)) (fun x=>((x.1.1,x.1.2.1,x.1.2.2.1),((pe3 x.1),(pe4 x.1)))) jds (CE:=(qL2×Int×Int)) (E:=Int) (fun c e=>((c.1,c.2.1,c.2.2,e,()),(()))) (fun c=>(c.1,c.2.1,c.2.2)) (fun{R} c a nx dn rt=>qaf c.1 c.2.1 c.2.2 a.1 a.2 nx dn rt),ai _ 39 [] jdv (C:=qL2) (S:=(Int×Int)) (fun x=>(x.1.1,(x.1.2.1,x.1.2.2.1))) jdu (CE:=Unit) (E:=Unit) (fun c e=>((()),(()))) (fun c=>()) (fun{R} c a nx dn rt=>nu c a.1 a.2 nx dn rt)],bj 39 tt [] [.tmp 2] qv4 (fun x=>x.1.1)⟩
theorem qof:CtxM Tryz.prog qog:=ek fits ax (mC qv7 m0)
theorem jf9:am Tryz.prog qog 0 (lc 2 Tryz.f144 19019):=lp rfl qof .z s0 (fun c a=>((c.1,c.2.1,c.2.2,a.1,a.2,()),(()))) (fun y=>((y.1.1,y.1.2.1,y.1.2.2.1),(pe3 y.1)))
theorem jga:am Tryz.prog qog 1 (lc 0 Tryz.f144 75):=lp rfl qof (.two .z (.two (.one (.two .z (.two (.two .z (.s 0)) .z))) .z)) (sC jf9 s0) (fun c a=>((c,a.1,a.2,()),(()))) (fun y=>((),()))
abbrev q0q:Mdl:=(aq (.cons (.d false qT2) .nil) [] [] 1 qv4 (B:=Bool) (fun b=>((b,()),(()))) (fun a=>qi6 a.1.1))
theorem jdw:MdlOK Tryz.prog 144 q0q:=eh Tryz.func144 rfl qof (.two .z (.two .z (.two (.two .z (.s 1)) .z))) (sC jga s0)
def qso:Shp:=⟨[zgk],[]⟩
abbrev mu:Ctx (az):=⟨160,tt,true,false,[],dv [],ee [ai _ 160 [] q8q (C:=(qL2×Int×qL2×qL1×Int×Int×Int×Int×qL1)) (S:=(Int×qL2)) (fun x=>((x.1.1,x.1.2.1,x.2.1.1,x.2.1.2.1,x.2.1.2.2.1,(pe3 x.2.1),x.2.2.1.2.2.1,(pe3 x.2.2.1),(pe4 x)),((pe4 x.1),(pe3 x)))) q8p (CE:=(qL2×Int×qL2×qL1×Int×Int×Int×Int×qL1)) (E:=qL2) (fun c e=>((c.1,c.2.1,(),(),()),((c.2.2.1,(pe3 c),(pe4 c),(pe5 c),()),((),(),(pe6 c),(pe7 c),()),e,(pf8 c),()))) (fun c=>(c.1,c.2.1,c.2.2.1,(pe3 c),(pe4 c),(pe5 c),(pe6 c),(pe7 c),(pf8 c))) (fun{R} c a nx dn rt=>wu c.1 c.2.1 c.2.2.1 (pe3 c) (pe4 c) (pe5 c) (pe6 c) (pe7 c) (pf8 c) a.1 a.2 nx dn rt),ai _ 160 [] q8s (C:=(qL2×Int×Int×Int×qL2×qL1×Int×Int×Int×Int×qL2×qL1)) (S:=Int) (fun x=>((x.1.1,x.1.2.1,(pe4 x.1),(pe5 x.1),x.2.1.1,x.2.1.2.1,x.2.1.2.2.1,(pe3 x.2.1),x.2.2.1.2.2.1,(pe3 x.2.2.1),(pe3 x),(pe4 x)),(pe6 x.1))) q8r (CE:=(qL2×Int×Int×Int×qL2×qL1×Int×Int×Int×Int×qL2×qL1)) (E:=Int) (fun c e=>((c.1,c.2.1,(),(),c.2.2.1,(pe3 c),e,()),(((pe4 c),(pe5 c),(pe6 c),(pe7 c),()),((),(),(pe8 c),(pe9 c),()),(pe10 c),(pf11 c),()))) (fun c=>(c.1,c.2.1,c.2.2.1,(pe3 c),(pe4 c),(pe5 c),(pe6 c),(pe7 c),(pe8 c),(pe9 c),(pe10 c),(pf11 c))) (fun{R} c a nx dn rt=>qu c.1 c.2.1 c.2.2.1 (pe3 c) (pe4 c) (pe5 c) (pe6 c) (pe7 c) (pe8 c) (pe9 c) (pe10 c) (pf11 c) a nx dn rt),ai _ 160 [] q8u (C:=(qL2×Int×Int×Int×Int×Int×Int×qL2×qL1×Int×Int×Int×Int×qL1)) (S:=(Int×qL2)) (fun x=>((x.1.1,x.1.2.1,(pe4 x.1),(pe5 x.1),(pe6 x.1),(pe7 x.1),(pe8 x.1),x.2.1.1,x.2.1.2.1,x.2.1.2.2.1,(pe3 x.2.1),x.2.2.1.2.2.1,(pe3 x.2.2.1),(pe4 x)),((pe9 x.1),(pe3 x)))) q8t (CE:=(qL2×Int×Int×Int×Int×Int×qL2×qL1×Int×Int×Int×Int×qL1)) (E:=qL2) (fun c e=>((c.1,c.2.1,(),(),c.2.2.1,(pe3 c),(pe4 c),(pe5 c),()),(((pe6 c),(pe7 c),(pe8 c),(pe9 c),()),((),(),(pe10 c),(pe11 c),()),e,(pf12 c),()))) (fun c=>(c.1,c.2.1,c.2.2.1,(pe3 c),(pe4 c),(pe5 c),(pe7 c),(pe8 c),(pe9 c),(pe10 c),(pe11 c),(pe12 c),(pf13 c))) (fun{R} c a nx dn rt=>wv c.1 c.2.1 c.2.2.1 (pe3 c) (pe4 c) (pe5 c) (pe6 c) (pe7 c) (pe8 c) (pe9 c) (pe10 c) (pe11 c) (pe12 c) (pf13 c) a.1 a.2 nx dn rt),ai _ 160 [] q8w (C:=(qL2×Int×Int×Int×Int×qL2×qL1×Int×Int×Int×Int×qL1)) (S:=(Int×qL2)) (fun x=>((x.1.1,x.1.2.1,(pe4 x.1),(pe5 x.1),(pe6 x.1),x.2.1.1,x.2.1.2.1,x.2.1.2.2.1,(pe3 x.2.1),x.2.2.1.2.2.1,(pe3 x.2.2.1),(pe4 x)),((pe7 x.1),(pe3 x)))) q8v (CE:=(qL2×Int×Int×Int×qL2×qL1×Int×Int×Int×Int×qL1)) (E:=qL2) (fun c e=>((c.1,c.2.1,(),(),c.2.2.1,(pe3 c),()),(((pe4 c),(pe5 c),(pe6 c),(pe7 c),()),((),(),(pe8 c),(pe9 c),()),e,(pf10 c),()))) (fun c=>(c.1,c.2.1,c.2.2.1,(pe4 c),(pe5 c),(pe6 c),(pe7 c),(pe8 c),(pe9 c),(pe10 c),(pf11 c))) (fun{R} c a nx dn rt=>qv c.1 c.2.1 c.2.2.1 (pe3 c) (pe4 c) (pe5 c) (pe6 c) (pe7 c) (pe8 c) (pe9 c) (pe10 c) (pf11 c) a.1 a.2 nx dn rt),zp _ 160 [] q80 (A:=(qL2×Int×Int×Int×qL2×qL1×Int×Int×Int×Int×qL2×qL1)) (fun x=>(x.1.1,x.1.2.1,(pe4 x.1),(pe5 x.1),x.2.1.1,x.2.1.2.1,x.2.1.2.2.1,(pe3 x.2.1),x.2.2.1.2.2.1,(pe3 x.2.2.1),(pe3 x),(pe4 x))) q8z (CE:=(qL2×Int×Int×qL2×qL1×Int×Int×Int)) (E:=(Int×qL2×qL1)) (fun c e=>((c.1,c.2.1,(),(),c.2.2.1,()),(((pe3 c),(pe4 c),(pe5 c),(pe6 c),()),((),(),e.1,(pf7 c),()),e.2.1,e.2.2,()))) (fun c=>(c.1,c.2.1,c.2.2.1,(pe4 c),(pe5 c),(pe6 c),(pe7 c),(pe9 c))) (fun{R} c dn rt=>qe8 c.1 c.2.1 c.2.2.1 (pe3 c) (pe4 c) (pe5 c) (pe6 c) (pe7 c) (pe8 c) (pe9 c) (pe10 c) (pf11 c) dn rt),ai _ 160 [] q8y (C:=(qL2×Int×qL2×qL1×Int×Int)) (S:=(Int×Int×Int×qL2×qL1)) (fun x=>((x.1.1,x.1.2.1,x.2.1.1,x.2.1.2.1,x.2.1.2.2.1,(pe3 x.2.1)),((pe4 x.1),x.2.2.1.2.2.1,(pe3 x.2.2.1),(pe3 x),(pe4 x)))) q8x (CE:=(qL2×qL1×Int×Int)) (E:=(Int×Int×qL2×qL1)) (fun c e=>(((),(),()),((c.1,c.2.1,c.2.2.1,c.2.2.2,()),((),(),e.1,e.2.1,()),e.2.2.1,e.2.2.2,()))) (fun c=>(c.2.2.1,(pe3 c),(pe4 c),(pf5 c))) (fun{R} c a nx dn rt=>i6 c.1 c.2.1 c.2.2.1 (pe3 c) (pe4 c) (pf5 c) a.1 a.2.1 a.2.2.1 (pe3 a) (pf4 a) nx dn rt)],bj 160 tt [] [.cell 4 144] qso (fun x=>x.1.1)⟩
theorem mt:CtxM Tryz.prog mu:=ek fits ax m0
theorem jdo:am Tryz.prog mu 2 (lc 8 Tryz.f145 328400023):=lp rfl mt (.two .z (.two (.one (.d [0,1,0,7,15,0,0,0,128,0,896,1920,0,8064,16256,32704,0,0,131072,0,917504,1966080,0,8257536,16646144,33488896,67108800,0,134217728,536870848,1073741823,2147483647] [31] [])) .z)) s0 (fun c a=>((c.1,c.2.1,(),(),c.2.2.1,(pe3 c),(pe4 c),(pe5 c),(pe6 c),a.1,()),(((pe7 c),(pe8 c),(pe9 c),(pe10 c),()),((),(),(pe11 c),(pe12 c),()),a.2,(pf13 c),()))) (fun y=>((y.1.1,y.1.2.1,(pe4 y.1),(pe5 y.1),(pe6 y.1),(pe7 y.1),y.2.1.1,y.2.1.2.1,y.2.1.2.2.1,(pe3 y.2.1),y.2.2.1.2.2.1,(pe3 y.2.2.1),(pe4 y)),(pe3 y)))
theorem jdp:am Tryz.prog mu 3 (lc 6 Tryz.f145 1244311):=lp rfl mt (.two .z (.two (.one (.two .z (.two .z (.two .z (.s 2))))) .z)) (sC jdo s0) (fun c a=>((c.1,c.2.1,(),(),c.2.2.1,(pe3 c),(pe4 c),a.1,()),(((pe5 c),(pe6 c),(pe7 c),(pe8 c),()),((),(),(pe9 c),(pe10 c),()),a.2,(pf11 c),()))) (fun y=>((y.1.1,y.1.2.1,(pe4 y.1),(pe5 y.1),y.2.1.1,y.2.1.2.1,y.2.1.2.2.1,(pe3 y.2.1),y.2.2.1.2.2.1,(pe3 y.2.2.1),(pe4 y)),(pe3 y)))
theorem jdq:am Tryz.prog mu 4 (jc Tryz.f145 64663):=jn rfl mt (.two .z (.two (.two .z (.s 3)) .z)) (sC jdp s0) (fun c=>((c.1,c.2.1,(),(),c.2.2.1,(pe3 c),()),(((pe4 c),(pe5 c),(pe6 c),(pe7 c),()),((),(),(pe8 c),(pe9 c),()),(pe10 c),(pf11 c),()))) (fun y=>((y.1.1,y.1.2.1,(pe4 y.1),y.2.1.1,y.2.1.2.1,y.2.1.2.2.1,(pe3 y.2.1),(pe3 y.2.2.1)),(y.2.2.1.2.2.1,(pe3 y),(pe4 y))))
theorem jdn:am Tryz.prog mu 1 (lc 4 Tryz.f145 35991):=lp rfl mt .z s0 (fun c a=>((c.1,c.2.1,(),(),c.2.2.1,(pe3 c),a,()),(((pe4 c),(pe5 c),(pe6 c),(pe7 c),()),((),(),(pe8 c),(pe9 c),()),(pe10 c),(pf11 c),()))) (fun y=>((y.1.1,y.1.2.1,(pe4 y.1),(pe5 y.1),y.2.1.1,y.2.1.2.1,y.2.1.2.2.1,(pe3 y.2.1),y.2.2.1.2.2.1,(pe3 y.2.2.1),(pe3 y),(pe4 y)),(pe6 y.1)))
theorem jdr:am Tryz.prog mu 5 (lc 2 Tryz.f145 151):=lp rfl mt (.two .z (.two (.one (.two .z (.two .z (.two (.s 1) (.two .z (.two (.two .z (.two (.two (.d [0,1,0,0,8,0,0,64,0,448,960,0,2048,0,14336,30720,65479,131015,262143,524287] [17,19] []) .z) .z)) (.s 4))))))) .z)) (sC jdn (sC jdq s0)) (fun c a=>((c.1,c.2.1,(),(),a.1,()),((c.2.2.1,(pe3 c),(pe4 c),(pf5 c),()),((),(),a.2.1,a.2.2.1,()),(pe3 a),(pf4 a),()))) (fun y=>((y.2.1.1,y.2.1.2.1,y.2.1.2.2.1,(pe3 y.2.1)),(y.2.2.1.2.2.1,(pe3 y.2.2.1),(pe3 y),(pe4 y))))
theorem jdm:am Tryz.prog mu 0 (lc 0 Tryz.f145 75):=lp rfl mt (.two .z (.two (.one (.d [0,1,0,0,0,24,56,124,252,511,1023,2047] [7,8,9,11] [])) .z)) s0 (fun c a=>((c.1,c.2.1,(),(),a.1,()),((c.2.2.1,(pe3 c),(pe4 c),(pe5 c),()),((),(),(pe6 c),(pe7 c),()),a.2,(pf8 c),()))) (fun y=>((y.1.1,y.1.2.1,y.2.1.1,y.2.1.2.1,y.2.1.2.2.1,(pe3 y.2.1),y.2.2.1.2.2.1,(pe3 y.2.2.1),(pe4 y)),(pe3 y)))
abbrev qv1:Mdl:=(aq (.cons (.d false qT2) (.cons (.d false qT0) .nil)) [] [] 1 qso (B:=az) (fun b=>((b,()),(()))) (fun a=>qgg a.1.1 a.1.2.1))
theorem q81:MdlOK Tryz.prog 145 qv1:=eh Tryz.func145 rfl mt (.two .z (.two .z (.two (.two .z (.s 0)) (.two (.two .z (.s 5)) .z)))) (sC jdm (sC jdr s0))
def q0p:Shp:=⟨[jqp,qnf],[]⟩
abbrev jn8:Ctx ((Int×Int)):=⟨18,tt,false,false,[],dv [(143,q0s),(144,q0q),(145,qv1)],ee [],bj 18 tt [] [.tmp 2, .tmp 3] q0p (fun x=>(x.1.1,x.1.2.1))⟩
theorem jn7:CtxM Tryz.prog jn8:=ek fits ax (mC jdz (mC jdw (mC q81 m0)))
abbrev q6i:Mdl:=(aq (.cons (.d false qT2) .nil) [] [] 2 q0p (B:=(Int×Int)) (fun b=>((b.1,b.2,()),(()))) (fun a=>qcs a.1.1))
theorem jf8:MdlOK Tryz.prog 105 q6i:=eh Tryz.func105 rfl jn7 .z s0
def qp7:Shp:=⟨[qjn],[]⟩
abbrev qh0:Ctx (Bool):=⟨29,tt,false,false,[],dv [],ee [ai _ 29 [] q5f (C:=(qL2×Int×Int)) (S:=(Bool×Int)) (fun x=>((x.1.1,x.1.2.1,x.1.2.2.1),((pe3 x.1),(pe4 x.1)))) q5e (CE:=(qL2×Int×Int)) (E:=Bool) (fun c e=>((c.1,c.2.1,c.2.2,e,()),(()))) (fun c=>(c.1,c.2.1,c.2.2)) (fun{R} c a nx dn rt=>uo c.1 c.2.1 c.2.2 a.1 a.2 nx dn rt),ai _ 29 [] q5h (C:=(qL2×Int)) (S:=Int) (fun x=>((x.1.1,x.1.2.1),x.1.2.2.1)) q5g (CE:=Unit) (E:=Unit) (fun c e=>((()),(()))) (fun c=>()) (fun{R} c a nx dn rt=>n8 c.1 c.2 a nx dn rt)],bj 29 tt [] [.tmp 4] qp7 (fun x=>x.1.1)⟩
theorem qhz:CtxM Tryz.prog qh0:=ek fits ax m0
theorem q94:am Tryz.prog qh0 0 (lc 2 Tryz.f106 9509):=lp rfl qhz .z s0 (fun c a=>((c.1,c.2.1,c.2.2,a.1,a.2,()),(()))) (fun y=>((y.1.1,y.1.2.1,y.1.2.2.1),(pe3 y.1)))
theorem q95:am Tryz.prog qh0 1 (lc 0 Tryz.f106 37):=lp rfl qhz (.two .z (.two (.one (.two .z (.two (.two .z (.s 0)) .z))) .z)) (sC q94 s0) (fun c a=>((c.1,c.2,a,()),(()))) (fun y=>((),()))
abbrev qtv:Mdl:=(aq (.cons (.d false qT2) (.cons (.d false qT0) .nil)) [] [] 1 qp7 (B:=Bool) (fun b=>((b,()),(()))) (fun a=>v9 a.1.1 a.1.2.1))
theorem q5i:MdlOK Tryz.prog 106 qtv:=eh Tryz.func106 rfl qhz (.two .z (.two (.two .z (.s 1)) .z)) (sC q95 s0)
def qp4:Shp:=⟨[zgd],[]⟩
abbrev qts:Ctx (ae):=⟨43,tt,false,false,[],dv [],ee [ai _ 43 [] q5c (C:=((List Bool)×Int×(List af)×Int×Int×qL1×qL1)) (S:=(Int×qL1×qL1)) (fun x=>((x.1.1,x.2.1.1,x.2.1.2.1,x.2.1.2.2.1,(pe3 x.2.1),x.2.2.1.1,x.2.2.1.2.1),((pe4 x.1),(pe4 x),(pe5 x)))) q5b (CE:=(qL1×qL1)) (E:=(qL1×qL1)) (fun c e=>(((),(),()),((c.1,c.2,()),((),(),()),e.1,e.2,()))) (fun c=>((pe5 c),(pf6 c))) (fun{R} c a nx dn rt=>um c.1 c.2.1 c.2.2.1 (pe3 c) (pe4 c) (pe5 c) (pf6 c) a.1 a.2.1 a.2.2 nx dn rt)],bj 43 tt [] [.cell 4 69] qp4 (fun x=>x.1.1)⟩
theorem qtq:CtxM Tryz.prog qts:=ek fits ax m0
theorem q90:am Tryz.prog qts 0 (lc 0 Tryz.f51 75):=lp rfl qtq .z s0 (fun c a=>((c.1,(),(),(),a.1,()),((c.2.1,c.2.2.1,(pe3 c),(pe4 c),()),((pe5 c),(pf6 c),()),((),(),()),a.2.1,a.2.2,()))) (fun y=>((y.2.1.1,y.2.1.2.1),((pe3 y),(pe4 y))))
abbrev qtr:Mdl:=(aq (.cons (.d false ca.ty) (.cons (.d false (.slice .bool)) .nil)) [] [] 1 qp4 (B:=ae) (fun b=>((b,()),(()))) (fun a=>qdu a.1.1 a.1.2.1))
theorem q5d:MdlOK Tryz.prog 51 qtr:=eh Tryz.func51 rfl qtq (.two .z (.two .z (.two (.two .z (.s 0)) .z))) (sC q90 s0)
def ql6:Shp:=⟨[j9v],[jzm]⟩
abbrev qfg:Ctx ((List ae)):=⟨54,tt,false,false,[],dv [(50,qkh),(51,qtr)],ee [ai _ 54 [] q1o (C:=(Int×(List Bool)×Int×(List af)×Int×Int×(List ae))) (S:=(Int×(List Bool))) (fun x=>(((pe3 x.1),(pe4 x.1),x.2.1.1,x.2.1.2.1,x.2.1.2.2.1,(pe3 x.2.1),(pe3 x)),((pe5 x.1),x.2.2.1))) q1n (CE:=(Int×(List Bool)×Int×(List af)×Int×Int×(List ae))) (E:=(List Bool)) (fun c e=>(((),(),(),c.1,c.2.1,()),((c.2.2.1,(pe3 c),(pe4 c),(pe5 c),()),e,(pf6 c),()))) (fun c=>(c.1,c.2.1,c.2.2.1,(pe3 c),(pe4 c),(pe5 c),(pf6 c))) (fun{R} c a nx dn rt=>sx c.1 c.2.1 c.2.2.1 (pe3 c) (pe4 c) (pe5 c) (pf6 c) a.1 a.2 nx dn rt),ai _ 54 [] q1q (C:=(Int×(List af)×Int×Int)) (S:=(Int×(List Bool)×(List ae))) (fun x=>((x.2.1.1,x.2.1.2.1,x.2.1.2.2.1,(pe3 x.2.1)),((pe3 x.1),x.2.2.1,(pe3 x)))) q1p (CE:=Unit) (E:=(List ae)) (fun c e=>(((),()),(e,()))) (fun c=>()) (fun{R} c a nx dn rt=>sy c.1 c.2.1 c.2.2.1 c.2.2.2 a.1 a.2.1 a.2.2 nx dn rt)],bj 54 tt [] [.tmp 2] ql6 (fun x=>x.2.1)⟩
theorem qff:CtxM Tryz.prog qfg:=ek fits ax (mC qp8 (mC q5d m0))
theorem q46:am Tryz.prog qfg 0 (lc 2 Tryz.f18 76951):=lp rfl qff .z s0 (fun c a=>(((),(),(),c.1,c.2.1,a.1,()),((c.2.2.1,(pe3 c),(pe4 c),(pe5 c),()),a.2,(pf6 c),()))) (fun y=>(((pe3 y.1),(pe4 y.1),y.2.1.1,y.2.1.2.1,y.2.1.2.2.1,(pe3 y.2.1),(pe3 y)),y.2.2.1))
theorem q47:am Tryz.prog qfg 1 (lc 0 Tryz.f18 151):=lp rfl qff (.two .z (.two (.one (.two .z (.two .z (.two (.two .z (.s 0)) .z)))) .z)) (sC q46 s0) (fun c a=>(((),(),(),a.1,()),((c.1,c.2.1,c.2.2.1,c.2.2.2,()),a.2.1,a.2.2,()))) (fun y=>((),y.2.1))
abbrev qp1:Mdl:=(aq (.cons (.d false ca.ty) .nil) [] [] 1 ql6 (B:=(List ae)) (fun b=>(((),()),(b,()))) (fun a=>tn a.1.1))
theorem q1r:MdlOK Tryz.prog 18 qp1:=eh Tryz.func18 rfl qff (.two .z (.two .z (.two .z (.two (.two .z (.s 1)) .z)))) (sC q47 s0)
def qtp:Shp:=⟨[qjn,qnf],[]⟩
abbrev jgt:Ctx ((Bool×Int)):=⟨61,tt,false,false,[],dv [(101,ql8),(102,qwi),(103,qhs),(104,qlw),(105,q6i),(106,qtv),(18,qp1)],ee [],bj 61 tt [] [.tmp 2, .tmp 3] qtp (fun x=>(x.1.1,x.1.2.1))⟩
theorem jgs:CtxM Tryz.prog jgt:=ek fits ax (mC qx7 (mC q9o (mC qtg (mC qxs (mC jf8 (mC q5i (mC q1r m0)))))))
abbrev qkf:Mdl:=(aq (.cons (.d false ca.ty) .nil) [] [] 2 qtp (B:=(Bool×Int)) (fun b=>((b.1,b.2,()),(()))) (fun a=>qap a.1.1))
theorem qp2:MdlOK Tryz.prog 63 qkf:=eh Tryz.func63 rfl jgs .z s0
def qhy:Shp:=⟨[qjn,qnf],[]⟩
abbrev q1x:Ctx ((Bool×Int)):=⟨14,tt,false,false,[],dv [(15,p9),(16,q49),(63,qkf)],ee [],bj 14 tt [] [.tmp 2, .tmp 3] qhy (fun x=>(x.1.1,x.1.2.1))⟩
theorem q1w:CtxM Tryz.prog q1x:=ek fits ax (mC nw (mC q65 (mC qp2 m0)))
abbrev qjk:Mdl:=(aq (.cons (.d false ca.ty) .nil) [] [] 2 qhy (B:=(Bool×Int)) (fun b=>((b.1,b.2,()),(()))) (fun a=>j7 a.1.1))
theorem qu7:MdlOK Tryz.prog 20 qjk:=eh Tryz.func20 rfl q1w .z s0
def qwe:Shp:=⟨[ze2],[qf0]⟩
abbrev qgj:Ctx (qL1):=⟨72,tt,false,false,[],dv [(68,pz)],ee [ai _ 72 [] jd9 (C:=(Int×Int×Int×(List af)×Int×Int)) (S:=(Int×qL1)) (fun x=>((x.1.2.2.1,(pe3 x.1),x.2.1.1,x.2.1.2.1,x.2.1.2.2.1,(pe3 x.2.1)),((pe4 x.1),x.2.2.1))) jd8 (CE:=(Int×Int×Int×(List af)×Int×Int)) (E:=qL1) (fun c e=>(((),(),c.1,c.2.1,()),((c.2.2.1,(pe3 c),(pe4 c),(pf5 c),()),e,()))) (fun c=>(c.1,c.2.1,c.2.2.1,(pe3 c),(pe4 c),(pf5 c))) (fun{R} c a nx dn rt=>tl c.1 c.2.1 c.2.2.1 (pe3 c) (pe4 c) (pf5 c) a.1 a.2 nx dn rt),ai _ 72 [] jeb (C:=(Int×Int×(List af)×Int×Int)) (S:=(Int×qL1)) (fun x=>((x.1.2.2.1,x.2.1.1,x.2.1.2.1,x.2.1.2.2.1,(pe3 x.2.1)),((pe3 x.1),x.2.2.1))) jea (CE:=(Int×Int×(List af)×Int×Int)) (E:=qL1) (fun c e=>(((),(),c.1,()),((c.2.1,c.2.2.1,(pe3 c),(pf4 c),()),e,()))) (fun c=>(c.1,c.2.1,c.2.2.1,(pe3 c),(pf4 c))) (fun{R} c a nx dn rt=>tm c.1 c.2.1 c.2.2.1 (pe3 c) (pf4 c) a.1 a.2 nx dn rt),ai _ 72 [] jed (C:=(Int×(List af)×Int×Int)) (S:=(Int×qL1)) (fun x=>((x.2.1.1,x.2.1.2.1,x.2.1.2.2.1,(pe3 x.2.1)),(x.1.2.2.1,x.2.2.1))) jec (CE:=Unit) (E:=qL1) (fun c e=>(((),()),(e,()))) (fun c=>()) (fun{R} c a nx dn rt=>qai c.1 c.2.1 c.2.2.1 c.2.2.2 a.1 a.2 nx dn rt)],bj 72 tt [] [.tmp 4] qwe (fun x=>x.2.1)⟩
theorem qgi:CtxM Tryz.prog qgj:=ek fits ax (mC l4 m0)
theorem jgd:am Tryz.prog qgj 0 (lc 4 Tryz.f69 627275):=lp rfl qgi .z s0 (fun c a=>(((),(),c.1,c.2.1,a.1,()),((c.2.2.1,(pe3 c),(pe4 c),(pf5 c),()),a.2,()))) (fun y=>((y.1.2.2.1,(pe3 y.1),y.2.1.1,y.2.1.2.1,y.2.1.2.2.1,(pe3 y.2.1)),y.2.2.1))
theorem jge:am Tryz.prog qgj 1 (lc 2 Tryz.f69 4683):=lp rfl qgi (.two .z (.two (.one (.two (.two (.d [0,1,0,7,15,31,0,0,192,448,1023,2047] [] []) .z) (.two .z (.s 0)))) .z)) (sC jgd s0) (fun c a=>(((),(),c.1,a.1,()),((c.2.1,c.2.2.1,(pe3 c),(pf4 c),()),a.2,()))) (fun y=>((y.1.2.2.1,y.2.1.1,y.2.1.2.1,y.2.1.2.2.1,(pe3 y.2.1)),y.2.2.1))
theorem jgf:am Tryz.prog qgj 2 (lc 0 Tryz.f69 75):=lp rfl qgi (.two .z (.two (.one (.two .z (.s 1))) .z)) (sC jge s0) (fun c a=>(((),(),a.1,()),((c.1,c.2.1,c.2.2.1,c.2.2.2,()),a.2,()))) (fun y=>((),y.2.1))
abbrev q05:Mdl:=(aq (.cons (.d false ca.ty) (.cons (.d false qT0) .nil)) [] [] 1 qwe (B:=qL1) (fun b=>(((),()),(b,()))) (fun a=>qei a.1.1 a.1.2.1))
theorem jee:MdlOK Tryz.prog 69 q05:=eh Tryz.func69 rfl qgi (.two .z (.two .z (.two (.two .z (.s 2)) .z))) (sC jgf s0)
def qpn:Shp:=⟨[zgp],[]⟩
abbrev qsv:Ctx (ca):=⟨42,tt,false,false,[],dv [],ee [ai _ 42 [] q4k (C:=(Int×(List af)×Int×Int×Int×(List af)×Int×Int×Int×Int×Int)) (S:=(Int×(List af))) (fun x=>((x.2.1.1,x.2.1.2.1,x.2.1.2.2.1,(pe3 x.2.1),x.2.2.1.1,x.2.2.1.2.1,x.2.2.1.2.2.1,(pe3 x.2.2.1),(pe3 x).1,(pe3 x).2.2.1,(pe3 (pe3 x))),((pe3 x.1),(pe4 x)))) q4j (CE:=(Int×(List af)×Int×Int×Int×Int×Int)) (E:=(List af)) (fun c e=>(((),(),()),((c.1,c.2.1,c.2.2.1,(pe3 c),()),((pe4 c),(),(pe5 c),(pf6 c),()),e,()))) (fun c=>((pe4 c),(pe5 c),(pe6 c),(pe7 c),(pe8 c),(pe9 c),(pf10 c))) (fun{R} c a nx dn rt=>uh c.1 c.2.1 c.2.2.1 (pe3 c) (pe4 c) (pe5 c) (pe6 c) (pe7 c) (pe8 c) (pe9 c) (pf10 c) a.1 a.2 nx dn rt)],bj 42 tt [] [.cell 2 24] qpn (fun x=>x.1.1)⟩
theorem qst:CtxM Tryz.prog qsv:=ek fits ax m0
theorem q83:am Tryz.prog qsv 0 (lc 0 Tryz.f70 75):=lp rfl qst (.two .z (.two (.one (.two .z (.d [0,1,0,4,0,0,32,112,0,0,512,2032,4092,8188,16383,32767,65535] [7,11,12,13,14,16] []))) .z)) s0 (fun c a=>(((),(),(),a.1,()),((c.1,c.2.1,c.2.2.1,(pe3 c),()),((pe4 c),(pe5 c),(pe6 c),(pe7 c),()),((pe8 c),(),(pe9 c),(pf10 c),()),a.2,()))) (fun y=>((y.2.1.1,y.2.1.2.1,y.2.1.2.2.1,(pe3 y.2.1),y.2.2.1.1,y.2.2.1.2.2.1,(pe3 y.2.2.1)),(pe3 y)))
abbrev qsu:Mdl:=(aq (.cons (.d false ca.ty) .nil) [] [] 1 qpn (B:=ca) (fun b=>((b,()),(()))) (fun a=>qdl a.1.1))
theorem q4l:MdlOK Tryz.prog 70 qsu:=eh Tryz.func70 rfl qst (.two .z (.two .z (.two (.two .z (.s 0)) .z))) (sC q83 s0)
def q07:Shp:=⟨[qjn],[]⟩
abbrev q6p:Ctx (Bool):=⟨18,tt,false,false,[],dv [(68,pz)],ee [ai _ 18 [] jgh (C:=(qL1×qL1)) (S:=Int) (fun x=>((x.1.1,x.1.2.1),x.1.2.2.1)) jgg (CE:=Unit) (E:=Unit) (fun c e=>((()),(()))) (fun c=>()) (fun{R} c a nx dn rt=>qdm c.1 c.2 a nx dn rt)],bj 18 tt [] [.tmp 4] q07 (fun x=>x.1.1)⟩
theorem q6n:CtxM Tryz.prog q6p:=ek fits ax (mC l4 m0)
theorem jky:am Tryz.prog q6p 0 (lc 0 Tryz.f71 37):=lp rfl q6n .z s0 (fun c a=>((c.1,c.2,a,()),(()))) (fun y=>((),()))
abbrev q6o:Mdl:=(aq (.cons (.d false qT1) (.cons (.d false qT1) .nil)) [] [] 1 q07 (B:=Bool) (fun b=>((b,()),(()))) (fun a=>qhq a.1.1 a.1.2.1))
theorem jgi:MdlOK Tryz.prog 71 q6o:=eh Tryz.func71 rfl q6n (.two .z (.two (.two .z (.s 0)) .z)) (sC jky s0)
def qlz:Shp:=⟨[qjn],[]⟩
abbrev qfa:Ctx (Bool):=⟨81,tt,false,false,[],dv [(15,p9),(69,q05),(70,qsu),(68,pz),(71,q6o)],ee [ai _ 81 [] q00 (C:=(qL1×qL1×Int×(List af)×Int×Int)) (S:=Int) (fun x=>((x.1.2.1,x.1.2.2.1,x.2.1.1,x.2.1.2.1,x.2.1.2.2.1,(pe3 x.2.1)),(pe3 x.1))) q0z (CE:=(qL1×qL1×Int×(List af)×Int×Int)) (E:=Unit) (fun c e=>(((),c.1,c.2.1,()),((c.2.2.1,(pe3 c),(pe4 c),(pf5 c),()),()))) (fun c=>(c.1,c.2.1,c.2.2.1,(pe3 c),(pe4 c),(pf5 c))) (fun{R} c a nx dn rt=>l6 c.1 c.2.1 c.2.2.1 (pe3 c) (pe4 c) (pf5 c) a nx dn rt),ai _ 81 [] q02 (C:=(qL1×qL1×Int×(List af)×Int×Int)) (S:=Int) (fun x=>((x.1.2.1,x.1.2.2.1,x.2.1.1,x.2.1.2.1,x.2.1.2.2.1,(pe3 x.2.1)),(pe3 x.1))) q01 (CE:=Unit) (E:=Unit) (fun c e=>((()),(()))) (fun c=>()) (fun{R} c a nx dn rt=>sr c.1 c.2.1 c.2.2.1 (pe3 c) (pe4 c) (pf5 c) a nx dn rt)],bj 81 tt [] [.tmp 2] qlz (fun x=>x.1.1)⟩
theorem qe9:CtxM Tryz.prog qfa:=ek fits ax (mC nw (mC jee (mC q4l (mC l4 (mC jgi m0)))))
theorem q4n:am Tryz.prog qfa 1 (lc 2 Tryz.f23 607):=lp rfl qe9 .z s0 (fun c a=>(((),c.1,c.2.1,a,()),((c.2.2.1,(pe3 c),(pe4 c),(pf5 c),()),()))) (fun y=>((),()))
theorem q4m:am Tryz.prog qfa 0 (lc 0 Tryz.f23 303):=lp rfl qe9 .z s0 (fun c a=>(((),c.1,c.2.1,a,()),((c.2.2.1,(pe3 c),(pe4 c),(pf5 c),()),()))) (fun y=>((y.1.2.1,y.1.2.2.1,y.2.1.1,y.2.1.2.1,y.2.1.2.2.1,(pe3 y.2.1)),()))
abbrev qpo:Mdl:=(aq (.cons (.d false ca.ty) .nil) [] [] 1 qlz (B:=Bool) (fun b=>((b,()),(()))) (fun a=>ny a.1.1))
theorem q03:MdlOK Tryz.prog 23 qpo:=eh Tryz.func23 rfl qe9 (.two .z (.two .z (.two .z (.two (.d [0,1,0,4,15,31] [] []) (.two (.two .z (.s 0)) (.two (.two .z (.s 1)) .z)))))) (sC q4m (sC q4n s0))
def qwo:Shp:=⟨[zgp,qnf],[]⟩
abbrev jld:Ctx ((ca×Int)):=⟨41,tt,false,false,[],dv [(15,p9),(23,qpo)],ee [],bj 41 tt [] [.cell 2 24, .tmp 3] qwo (fun x=>(x.1.1,x.1.2.1))⟩
theorem jlc:CtxM Tryz.prog jld:=ek fits ax (mC nw (mC q03 m0))
abbrev q1m:Mdl:=(aq (.cons (.d true ca.ty) .nil) [] [] 2 qwo (B:=(ca×Int)) (fun b=>((b.1,b.2,()),(()))) (fun a=>qjh a.1.1))
theorem jew:MdlOK Tryz.prog 13 q1m:=eh Tryz.func13 rfl jlc (.two .z (.two .z (.two .z (.two .z (.two .z (.two (.d [0,1,0,4,15,0,32,96,0,256,768,2016,4064,8191,16383,32767] [4,13,15] []) .z)))))) s0
def q1b:Shp:=⟨[j9v],[qf0]⟩
abbrev q6s:Ctx (qL1):=⟨19,tt,false,false,[],dv [],ee [ai _ 19 [] jgk (C:=Unit) (S:=(Int×Int×qL1)) (fun x=>((),(x.1.1,x.1.2.2.1,x.2.1))) jgj (CE:=Unit) (E:=qL1) (fun c e=>(((),()),(e,()))) (fun c=>()) (fun{R} c a nx dn rt=>qdq a.1 a.2.1 a.2.2 nx dn rt)],bj 19 tt [] [.tmp 2] q1b (fun x=>x.2.1)⟩
theorem q6q:CtxM Tryz.prog q6s:=ek fits ax m0
theorem jkz:am Tryz.prog q6s 0 (lc 0 Tryz.f112 71):=lp rfl q6q .z s0 (fun c a=>((a.1,(),a.2.1,()),(a.2.2,()))) (fun y=>((),y.2.1))
abbrev q6r:Mdl:=(aq (.cons (.d false qT0) .nil) [] [] 1 q1b (B:=qL1) (fun b=>(((),()),(b,()))) (fun a=>qoh a.1.1))
theorem jgl:MdlOK Tryz.prog 112 q6r:=eh Tryz.func112 rfl q6q (.two .z (.two .z (.two .z (.two (.s 0) .z)))) (sC jkz s0)
def qs4:Shp:=⟨[qjn],[]⟩
abbrev qwh:Ctx (Bool):=⟨18,tt,false,false,[],dv [(68,pz)],ee [ai _ 18 [] q9i (C:=(qL1×qL1)) (S:=Int) (fun x=>((x.1.1,x.1.2.1),x.1.2.2.1)) q9h (CE:=Unit) (E:=Unit) (fun c e=>((()),(()))) (fun c=>()) (fun{R} c a nx dn rt=>xa c.1 c.2 a nx dn rt)],bj 18 tt [] [.tmp 4] qs4 (fun x=>x.1.1)⟩
theorem qwg:CtxM Tryz.prog qwh:=ek fits ax (mC l4 m0)
theorem jei:am Tryz.prog qwh 0 (lc 0 Tryz.f150 37):=lp rfl qwg .z s0 (fun c a=>((c.1,c.2,a,()),(()))) (fun y=>((),()))
abbrev qkb:Mdl:=(aq (.cons (.d false qT1) (.cons (.d false qT1) .nil)) [] [] 1 qs4 (B:=Bool) (fun b=>((b,()),(()))) (fun a=>uj a.1.1 a.1.2.1))
theorem qpu:MdlOK Tryz.prog 150 qkb:=eh Tryz.func150 rfl qwg (.two .z (.two (.two .z (.s 0)) .z)) (sC jei s0)
def ql1:Shp:=⟨[qjn],[]⟩
abbrev qpr:Ctx (Bool):=⟨32,tt,false,false,[],dv [(150,qkb)],ee [ai _ 32 [] q09 (C:=(qL1×Int×(List af)×Int×Int)) (S:=Int) (fun x=>((x.1.1,x.2.1.1,x.2.1.2.1,x.2.1.2.2.1,(pe3 x.2.1)),x.1.2.2.1)) q08 (CE:=Unit) (E:=Unit) (fun c e=>((()),(()))) (fun c=>()) (fun{R} c a nx dn rt=>ss c.1 c.2.1 c.2.2.1 (pe3 c) (pf4 c) a nx dn rt)],bj 32 tt [] [.tmp 4] ql1 (fun x=>x.1.1)⟩
theorem qpq:CtxM Tryz.prog qpr:=ek fits ax (mC qpu m0)
theorem q4o:am Tryz.prog qpr 0 (lc 0 Tryz.f113 37):=lp rfl qpq .z s0 (fun c a=>((c.1,(),a,()),((c.2.1,c.2.2.1,(pe3 c),(pf4 c),()),()))) (fun y=>((),()))
abbrev qfb:Mdl:=(aq (.cons (.d false ca.ty) (.cons (.d false qT1) .nil)) [] [] 1 ql1 (B:=Bool) (fun b=>((b,()),(()))) (fun a=>n4 a.1.1 a.1.2.1))
theorem qjb:MdlOK Tryz.prog 113 qfb:=eh Tryz.func113 rfl qpq (.two .z (.two (.two .z (.s 0)) .z)) (sC q4o s0)
def qpw:Shp:=⟨[ze2],[qf0]⟩
abbrev jek:Ctx (qL1):=⟨15,tt,false,false,[],dv [],ee [],bj 15 tt [] [.tmp 4] qpw (fun x=>x.2.1)⟩
theorem jej:CtxM Tryz.prog jek:=ek fits ax m0
abbrev qs8:Mdl:=(aq (.cons (.d false qT1) (.cons (.d false qT0) .nil)) [] [] 1 qpw (B:=qL1) (fun b=>(((),()),(b,()))) (fun a=>qdr a.1.1 a.1.2.1))
theorem q4z:MdlOK Tryz.prog 152 qs8:=eh Tryz.func152 rfl jej (.two .z (.two (.d [0,0,0,6,15,0,0,64,224,511,1023] [4,9,10] []) .z)) s0
def qs2:Shp:=⟨[j9v],[qf0]⟩
abbrev qdp:Ctx (qL1):=⟨64,tt,false,false,[],dv [(68,pz),(150,qkb)],ee [ai _ 64 [] q9b (C:=(qL1×Int×Int×(List af)×Int×Int×qL1)) (S:=(Bool×Int)) (fun x=>((x.1.2.1,(pe3 x.1),x.2.1.1,x.2.1.2.1,x.2.1.2.2.1,(pe3 x.2.1),x.2.2.1),((pe4 x.1),(pe5 x.1)))) q9a (CE:=(qL1×Int×Int×(List af)×Int×Int×qL1)) (E:=Bool) (fun c e=>(((),c.1,(),c.2.1,e,()),((c.2.2.1,(pe3 c),(pe4 c),(pe5 c),()),(pf6 c),()))) (fun c=>(c.1,c.2.1,c.2.2.1,(pe3 c),(pe4 c),(pe5 c),(pf6 c))) (fun{R} c a nx dn rt=>wy c.1 c.2.1 c.2.2.1 (pe3 c) (pe4 c) (pe5 c) (pf6 c) a.1 a.2 nx dn rt),ai _ 64 [] q9d (C:=(qL1×Int×(List af)×Int×Int)) (S:=(Int×qL1)) (fun x=>((x.1.2.1,x.2.1.1,x.2.1.2.1,x.2.1.2.2.1,(pe3 x.2.1)),((pe3 x.1),x.2.2.1))) q9c (CE:=(qL1×Int×(List af)×Int×Int)) (E:=qL1) (fun c e=>(((),c.1,(),()),((c.2.1,c.2.2.1,(pe3 c),(pf4 c),()),e,()))) (fun c=>(c.1,c.2.1,c.2.2.1,(pe3 c),(pf4 c))) (fun{R} c a nx dn rt=>wz c.1 c.2.1 c.2.2.1 (pe3 c) (pf4 c) a.1 a.2 nx dn rt),ai _ 64 [] q9f (C:=(Int×(List af)×Int×Int)) (S:=qL1) (fun x=>((x.2.1.1,x.2.1.2.1,x.2.1.2.2.1,(pe3 x.2.1)),x.1.2.1)) q9e (CE:=Unit) (E:=Unit) (fun c e=>((()),(()))) (fun c=>()) (fun{R} c a nx dn rt=>w9 c.1 c.2.1 c.2.2.1 c.2.2.2 a nx dn rt)],bj 64 tt [] [.tmp 4] qs2 (fun x=>x.2.1)⟩
theorem qdo:CtxM Tryz.prog qdp:=ek fits ax (mC l4 (mC qpu m0))
theorem jef:am Tryz.prog qdp 0 (lc 4 Tryz.f151 304291):=lp rfl qdo (.two .z (.two (.one (.d [0,1,3,7,3,31,63,127,3,3,771,1795,4095,8191,16383,32767,65535,32767,262143,524287,1048575,32767,4194303,8388607,16777215,33554431] [] [])) .z)) s0 (fun c a=>(((),c.1,(),c.2.1,a.1,a.2,()),((c.2.2.1,(pe3 c),(pe4 c),(pe5 c),()),(pf6 c),()))) (fun y=>((y.1.2.1,(pe3 y.1),y.2.1.1,y.2.1.2.1,y.2.1.2.2.1,(pe3 y.2.1),y.2.2.1),(pe4 y.1)))
theorem jeg:am Tryz.prog qdp 1 (lc 2 Tryz.f151 1187):=lp rfl qdo (.two .z (.two (.one (.two .z (.two (.two .z (.s 0)) .z))) .z)) (sC jef s0) (fun c a=>(((),c.1,(),a.1,()),((c.2.1,c.2.2.1,(pe3 c),(pf4 c),()),a.2,()))) (fun y=>((y.1.2.1,y.2.1.1,y.2.1.2.1,y.2.1.2.2.1,(pe3 y.2.1)),y.2.2.1))
theorem jeh:am Tryz.prog qdp 2 (lc 0 Tryz.f151 19):=lp rfl qdo (.one (.two .z (.two (.two .z (.s 1)) .z))) (sC jeg s0) (fun c a=>(((),a,()),((c.1,c.2.1,c.2.2.1,c.2.2.2,()),()))) (fun y=>((),()))
abbrev qwf:Mdl:=(aq (.cons (.d false ca.ty) (.cons (.d false qT1) .nil)) [] [] 1 qs2 (B:=qL1) (fun b=>(((),()),(b,()))) (fun a=>qal a.1.1 a.1.2.1))
theorem q9g:MdlOK Tryz.prog 151 qwf:=eh Tryz.func151 rfl qdo (.two .z (.two .z (.s 2))) (sC jeh s0)
def qpv:Shp:=⟨[qjn],[]⟩
abbrev qs7:Ctx (Bool):=⟨28,tt,false,false,[],dv [(113,qfb),(152,qs8),(151,qwf)],ee [ai _ 28 [] q4x (C:=(qL1×Int×(List af)×Int×Int)) (S:=Int) (fun x=>((x.1.1,x.2.1.1,x.2.1.2.1,x.2.1.2.2.1,(pe3 x.2.1)),x.1.2.2.1)) q4w (CE:=Unit) (E:=Unit) (fun c e=>((()),(()))) (fun c=>()) (fun{R} c a nx dn rt=>n7 c.1 c.2.1 c.2.2.1 (pe3 c) (pf4 c) a nx dn rt)],bj 28 tt [] [.tmp 4] qpv (fun x=>x.1.1)⟩
theorem qs5:CtxM Tryz.prog qs7:=ek fits ax (mC qjb (mC q4z (mC q9g m0)))
theorem q9j:am Tryz.prog qs7 0 (lc 0 Tryz.f114 75):=lp rfl qs5 (.two .z (.two (.one (.two (.d [0,0,0,6,15,31,63] [] []) .z)) .z)) s0 (fun c a=>((c.1,(),a,()),((c.2.1,c.2.2.1,(pe3 c),(pf4 c),()),()))) (fun y=>((),()))
abbrev qs6:Mdl:=(aq (.cons (.d false ca.ty) (.cons (.d false qT1) .nil)) [] [] 1 qpv (B:=Bool) (fun b=>((b,()),(()))) (fun a=>v6 a.1.1 a.1.2.1))
theorem q4y:MdlOK Tryz.prog 114 qs6:=eh Tryz.func114 rfl qs5 (.two .z (.two .z (.two (.two .z (.s 0)) .z))) (sC q9j s0)
def q1d:Shp:=⟨[qjn],[]⟩
abbrev q6v:Ctx (Bool):=⟨41,tt,false,false,[],dv [],ee [ai _ 41 [] jgn (C:=(qL1×qL1)) (S:=Int) (fun x=>((x.1.1,x.1.2.1),x.1.2.2.1)) jgm (CE:=(qL1×qL1)) (E:=Unit) (fun c e=>((c.1,c.2,()),(()))) (fun c=>(c.1,c.2)) (fun{R} c a nx dn rt=>rv c.1 c.2 a nx dn rt)],bj 41 tt [] [.tmp 4] q1d (fun x=>x.1.1)⟩
theorem q6t:CtxM Tryz.prog q6v:=ek fits ax m0
theorem jk0:am Tryz.prog q6v 0 (lc 0 Tryz.f115 37):=lp rfl q6t (.two .z (.two (.one (.two (.d [0,0,3,7,0,0,48,112,255] [] []) (.two (.two (.d [0,0,3,7,0,0,48,112,255,511] [] []) .z) .z))) .z)) s0 (fun c a=>((c.1,c.2,a,()),(()))) (fun y=>((y.1.1,y.1.2.1),()))
abbrev q6u:Mdl:=(aq (.cons (.d false qT1) (.cons (.d false qT1) .nil)) [] [] 1 q1d (B:=Bool) (fun b=>((b,()),(()))) (fun a=>qoi a.1.1 a.1.2.1))
theorem jgo:MdlOK Tryz.prog 115 q6u:=eh Tryz.func115 rfl q6t (.two .z (.two (.two .z (.s 0)) .z)) (sC jk0 s0)
def qpt:Shp:=⟨[zgl,qnf],[]⟩
abbrev qak:Ctx ((qL2×Int)):=⟨69,tt,false,false,[],dv [(112,q6r),(113,qfb),(114,qs6),(115,q6u)],ee [ai _ 69 [] q4q (C:=(Int×(List af)×Int×Int)) (S:=(Int×Int)) (fun x=>((x.2.1.1,x.2.1.2.1,x.2.1.2.2.1,(pe3 x.2.1)),(x.1.2.1,x.1.2.2.1))) q4p (CE:=(Int×(List af)×Int×Int)) (E:=Int) (fun c e=>(((),e,()),((c.1,c.2.1,c.2.2.1,c.2.2.2,()),()))) (fun c=>(c.1,c.2.1,c.2.2.1,c.2.2.2)) (fun{R} c a nx dn rt=>ui c.1 c.2.1 c.2.2.1 c.2.2.2 a.1 a.2 nx dn rt),ai _ 69 [] q4s (C:=(Int×qL2×Int×qL1×Int×(List af)×Int×Int)) (S:=Int) (fun x=>((x.1.2.1,x.1.2.2.1,(pe3 x.1),(pe4 x.1),x.2.1.1,x.2.1.2.1,x.2.1.2.2.1,(pe3 x.2.1)),(pe5 x.1))) q4r (CE:=(Int×qL2×Int×qL1×Int×(List af)×Int×Int)) (E:=Int) (fun c e=>(((),c.1,c.2.1,c.2.2.1,(pe3 c),e,()),(((pe4 c),(pe5 c),(pe6 c),(pf7 c),()),()))) (fun c=>(c.1,c.2.1,c.2.2.1,(pe3 c),(pe4 c),(pe5 c),(pe6 c),(pf7 c))) (fun{R} c a nx dn rt=>n5 c.1 c.2.1 c.2.2.1 (pe3 c) (pe4 c) (pe5 c) (pe6 c) (pf7 c) a nx dn rt),ai _ 69 [] q4u (C:=(Int×Int×(List af)×Int×Int)) (S:=(qL2×Int)) (fun x=>((x.1.2.1,x.2.1.1,x.2.1.2.1,x.2.1.2.2.1,(pe3 x.2.1)),(x.1.2.2.1,(pe3 x.1)))) q4t (CE:=Unit) (E:=qL2) (fun c e=>((e,()),(()))) (fun c=>()) (fun{R} c a nx dn rt=>j4 c.1 c.2.1 c.2.2.1 (pe3 c) (pf4 c) a.1 a.2 nx dn rt)],bj 69 tt [] [.tmp 2, .tmp 3] qpt (fun x=>(x.1.1,x.1.2.1))⟩
theorem qaj:CtxM Tryz.prog qak:=ek fits ax (mC jgl (mC qjb (mC q4y (mC jgo m0))))
theorem q88:am Tryz.prog qak 1 (lc 4 Tryz.f67 291423):=lp rfl qaj .z s0 (fun c a=>(((),c.1,c.2.1,c.2.2.1,(pe3 c),a,()),(((pe4 c),(pe5 c),(pe6 c),(pf7 c),()),()))) (fun y=>((y.1.2.1,y.1.2.2.1,(pe3 y.1),(pe4 y.1),y.2.1.1,y.2.1.2.1,y.2.1.2.2.1,(pe3 y.2.1)),(pe5 y.1)))
theorem q89:am Tryz.prog qak 2 (lc 2 Tryz.f67 607):=lp rfl qaj (.two .z (.two (.one (.two .z (.two .z (.two .z (.two (.s 1) .z))))) .z)) (sC q88 s0) (fun c a=>(((),c.1,a.1,a.2,()),((c.2.1,c.2.2.1,(pe3 c),(pf4 c),()),()))) (fun y=>((),y.1.1))
theorem q87:am Tryz.prog qak 0 (lc 0 Tryz.f67 151):=lp rfl qaj .z s0 (fun c a=>(((),a.1,a.2,()),((c.1,c.2.1,c.2.2.1,c.2.2.2,()),()))) (fun y=>((y.2.1.1,y.2.1.2.1,y.2.1.2.2.1,(pe3 y.2.1)),y.1.2.1))
abbrev qsy:Mdl:=(aq (.cons (.d false ca.ty) .nil) [] [] 2 qpt (B:=(qL2×Int)) (fun b=>((b.1,b.2,()),(()))) (fun a=>qdn a.1.1))
theorem q4v:MdlOK Tryz.prog 67 qsy:=eh Tryz.func67 rfl qaj (.two .z (.two .z (.two .z (.two (.two .z (.s 0)) (.two .z (.two (.two .z (.s 2)) .z)))))) (sC q87 (sC q89 s0))
def qwp:Shp:=⟨[qjn,qnf],[]⟩
abbrev q1v:Ctx ((Bool×Int)):=⟨54,tt,false,false,[],dv [(13,q1m),(16,q49),(63,qkf),(67,qsy),(68,pz)],ee [ai _ 54 [] je1 (C:=(qL2×Int×(List af)×Int×Int)) (S:=Int) (fun x=>((x.1.2.1,x.2.1.1,x.2.1.2.1,x.2.1.2.2.1,(pe3 x.2.1)),x.1.2.2.1)) je0 (CE:=Unit) (E:=Unit) (fun c e=>((()),(()))) (fun c=>()) (fun{R} c a nx dn rt=>tp c.1 c.2.1 c.2.2.1 (pe3 c) (pf4 c) a nx dn rt)],bj 54 tt [] [.tmp 2, .tmp 3] qwp (fun x=>(x.1.1,x.1.2.1))⟩
theorem q1t:CtxM Tryz.prog q1v:=ek fits ax (mC jew (mC q65 (mC qp2 (mC q4v (mC l4 m0)))))
theorem jgu:am Tryz.prog q1v 0 (lc 0 Tryz.f22 4863):=lp rfl q1t (.two .z (.two (.one (.two (.d [0,0,3,7,0,16,63,127] [] []) .z)) .z)) s0 (fun c a=>(((),c.1,a,()),((c.2.1,c.2.2.1,(pe3 c),(pf4 c),()),()))) (fun y=>((),()))
abbrev q1u:Mdl:=(aq (.cons (.d true ca.ty) .nil) [] [] 2 qwp (B:=(Bool×Int)) (fun b=>((b.1,b.2,()),(()))) (fun a=>qjj a.1.1))
theorem je2:MdlOK Tryz.prog 22 q1u:=eh Tryz.func22 rfl q1t (.two .z (.two .z (.two .z (.two .z (.two .z (.two .z (.two .z (.two .z (.two (.two .z (.s 0)) .z))))))))) (sC jgu s0)
def zt:Shp:=⟨[qjn],[]⟩
abbrev qqu:Ctx (Bool):=⟨53,tt,false,false,[],dv [(8,qzp),(9,qzq),(19,ph),(20,qjk),(21,ze),(22,q1u)],ee [],bj 53 tt [] [.tmp 2] zt (fun x=>x.1.1)⟩
theorem qqs:CtxM Tryz.prog qqu:=ek fits ax (mC jci (mC jcl (mC vq (mC qu7 (mC qfr (mC je2 m0))))))
abbrev qqt:Mdl:=(aq (.cons (.d true ca.ty) .nil) [] [] 1 zt (B:=Bool) (fun b=>((b,()),(()))) (fun a=>th a.1.1))
theorem qlf:MdlOK Tryz.prog 4 qqt:=eh Tryz.func4 rfl qqs .z s0
end
end Go.Proofs.YtclbndfjhjladaaGreat
