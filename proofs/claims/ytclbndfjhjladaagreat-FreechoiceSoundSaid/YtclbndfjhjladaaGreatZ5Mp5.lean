/-
  The functions compute what their models say. Made by program (mg3.py) out of the translation.
-/
import Derived.Test.YtclbndfjhjladaaGreatZ5Md
import Derived.Test.YtclbndfjhjladaaGreatZ5Tt
import Derived.Test.YtclbndfjhjladaaGreatZ5Ky
set_option linter.all false
set_option maxRecDepth 100000
namespace Go.Proofs.YtclbndfjhjladaaGreat
open Go.K Go.M
abbrev pe3{A0 A1 A2 A3 A4:Type}(x:A0×A1×A2×A3×A4):A3:=x.2.2.2.1
abbrev pe4{A0 A1 A2 A3 A4 A5:Type}(x:A0×A1×A2×A3×A4×A5):A4:=x.2.2.2.2.1
abbrev pe5{A0 A1 A2 A3 A4 A5 A6:Type}(x:A0×A1×A2×A3×A4×A5×A6):A5:=x.2.2.2.2.2.1
abbrev pe6{A0 A1 A2 A3 A4 A5 A6 A7:Type}(x:A0×A1×A2×A3×A4×A5×A6×A7):A6:=x.2.2.2.2.2.2.1
abbrev pe7{A0 A1 A2 A3 A4 A5 A6 A7 A8:Type}(x:A0×A1×A2×A3×A4×A5×A6×A7×A8):A7:=x.2.2.2.2.2.2.2.1
abbrev pe8{A0 A1 A2 A3 A4 A5 A6 A7 A8 A9:Type}(x:A0×A1×A2×A3×A4×A5×A6×A7×A8×A9):A8:=x.2.2.2.2.2.2.2.2.1
abbrev pe9{A0 A1 A2 A3 A4 A5 A6 A7 A8 A9 A10:Type}(x:A0×A1×A2×A3×A4×A5×A6×A7×A8×A9×A10):A9:=x.2.2.2.2.2.2.2.2.2.1
abbrev pe10{A0 A1 A2 A3 A4 A5 A6 A7 A8 A9 A10 A11:Type}(x:A0×A1×A2×A3×A4×A5×A6×A7×A8×A9×A10×A11):A10:=x.2.2.2.2.2.2.2.2.2.2.1
abbrev pe11{A0 A1 A2 A3 A4 A5 A6 A7 A8 A9 A10 A11 A12:Type}(x:A0×A1×A2×A3×A4×A5×A6×A7×A8×A9×A10×A11×A12):A11:=x.2.2.2.2.2.2.2.2.2.2.2.1
abbrev pe12{A0 A1 A2 A3 A4 A5 A6 A7 A8 A9 A10 A11 A12 A13:Type}(x:A0×A1×A2×A3×A4×A5×A6×A7×A8×A9×A10×A11×A12×A13):A12:=x.2.2.2.2.2.2.2.2.2.2.2.2.1
abbrev pe13{A0 A1 A2 A3 A4 A5 A6 A7 A8 A9 A10 A11 A12 A13 A14:Type}(x:A0×A1×A2×A3×A4×A5×A6×A7×A8×A9×A10×A11×A12×A13×A14):A13:=x.2.2.2.2.2.2.2.2.2.2.2.2.2.1
abbrev pe14{A0 A1 A2 A3 A4 A5 A6 A7 A8 A9 A10 A11 A12 A13 A14 A15:Type}(x:A0×A1×A2×A3×A4×A5×A6×A7×A8×A9×A10×A11×A12×A13×A14×A15):A14:=x.2.2.2.2.2.2.2.2.2.2.2.2.2.2.1
abbrev pf4{A0 A1 A2 A3 A4:Type}(x:A0×A1×A2×A3×A4):A4:=x.2.2.2.2
abbrev pf5{A0 A1 A2 A3 A4 A5:Type}(x:A0×A1×A2×A3×A4×A5):A5:=x.2.2.2.2.2
abbrev pf6{A0 A1 A2 A3 A4 A5 A6:Type}(x:A0×A1×A2×A3×A4×A5×A6):A6:=x.2.2.2.2.2.2
abbrev pf7{A0 A1 A2 A3 A4 A5 A6 A7:Type}(x:A0×A1×A2×A3×A4×A5×A6×A7):A7:=x.2.2.2.2.2.2.2
abbrev pf8{A0 A1 A2 A3 A4 A5 A6 A7 A8:Type}(x:A0×A1×A2×A3×A4×A5×A6×A7×A8):A8:=x.2.2.2.2.2.2.2.2
abbrev pf9{A0 A1 A2 A3 A4 A5 A6 A7 A8 A9:Type}(x:A0×A1×A2×A3×A4×A5×A6×A7×A8×A9):A9:=x.2.2.2.2.2.2.2.2.2
abbrev pf10{A0 A1 A2 A3 A4 A5 A6 A7 A8 A9 A10:Type}(x:A0×A1×A2×A3×A4×A5×A6×A7×A8×A9×A10):A10:=x.2.2.2.2.2.2.2.2.2.2
abbrev pf11{A0 A1 A2 A3 A4 A5 A6 A7 A8 A9 A10 A11:Type}(x:A0×A1×A2×A3×A4×A5×A6×A7×A8×A9×A10×A11):A11:=x.2.2.2.2.2.2.2.2.2.2.2
abbrev pf12{A0 A1 A2 A3 A4 A5 A6 A7 A8 A9 A10 A11 A12:Type}(x:A0×A1×A2×A3×A4×A5×A6×A7×A8×A9×A10×A11×A12):A12:=x.2.2.2.2.2.2.2.2.2.2.2.2
abbrev pf13{A0 A1 A2 A3 A4 A5 A6 A7 A8 A9 A10 A11 A12 A13:Type}(x:A0×A1×A2×A3×A4×A5×A6×A7×A8×A9×A10×A11×A12×A13):A13:=x.2.2.2.2.2.2.2.2.2.2.2.2.2
abbrev pf15{A0 A1 A2 A3 A4 A5 A6 A7 A8 A9 A10 A11 A12 A13 A14 A15:Type}(x:A0×A1×A2×A3×A4×A5×A6×A7×A8×A9×A10×A11×A12×A13×A14×A15):A15:=x.2.2.2.2.2.2.2.2.2.2.2.2.2.2.2
noncomputable section
def q5y:Shp:=⟨[(0, .d true ae.ty)],[qxy,qxy]⟩
abbrev jmo:Ctx ((ae×qL1×qL1)):=⟨11,tt,false,false,[false,false],i4 [],jm [],bx 11 tt [false,false] [.cell 6 64] q5y (fun x=>(x.1.1,x.2.1,x.2.2.1))⟩
theorem jmn:CtxM Tryz.prog jmo:=jq fits a9 m0
abbrev q9q:Mdl:=(az (.cons (.d false .str) (.cons (.own 0) (.cons (.own 1) .nil))) [qg1,qg1] [false,false] 1 q5y (B:=(ae×qL1×qL1)) (fun b=>((b.1,()),(b.2.1,b.2.2,()))) (fun a=>qdk a.1.1 a.2.1 a.2.2.1))
theorem jfh:MdlOK Tryz.prog 38 q9q:=jp Tryz.func38 rfl jmn .z s0
def qsb:Shp:=⟨[qi1],[]⟩
abbrev jcp:Ctx (Bool):=⟨17,tt,false,false,[],i4 [],jm [],bx 17 tt [] [.tmp 2] qsb (fun x=>x.1.1)⟩
theorem jco:CtxM Tryz.prog jcp:=jq fits a9 m0
abbrev ql8:Mdl:=(az (.cons (.d false (.int .u8)) .nil) [] [] 1 qsb (B:=Bool) (fun b=>((b,()),(()))) (fun a=>qdm a.1.1))
theorem qp3:MdlOK Tryz.prog 128 ql8:=jp Tryz.func128 rfl jco .z s0
def q07:Shp:=⟨[qi1],[]⟩
abbrev jh5:Ctx (Bool):=⟨25,tt,false,false,[],i4 [(128,ql8)],jm [],bx 25 tt [] [.tmp 2] q07 (fun x=>x.1.1)⟩
theorem jh4:CtxM Tryz.prog jh5:=jq fits a9 (mC qp3 m0)
abbrev q6l:Mdl:=(az (.cons (.d false (.int .u8)) .nil) [] [] 1 q07 (B:=Bool) (fun b=>((b,()),(()))) (fun a=>qq7 a.1.1))
theorem jcq:MdlOK Tryz.prog 129 q6l:=jp Tryz.func129 rfl jh4 .z s0
def qsa:Shp:=⟨[qi1],[]⟩
abbrev qvu:Ctx (Bool):=⟨29,tt,false,false,[],i4 [(128,ql8),(129,q6l)],jm [aq _ 29 [] q6j (C:=(ByteArray×Int)) (S:=Int) (fun x=>((x.1.1,x.1.2.1),x.1.2.2.1)) q6i (CE:=Unit) (E:=Unit) (fun c e=>((()),(()))) (fun c=>()) (fun{R} c a nx dn rt=>t9 c.1 c.2 a nx dn rt)],bx 29 tt [] [.tmp 2] qsa (fun x=>x.1.1)⟩
theorem qvs:CtxM Tryz.prog qvu:=jq fits a9 (mC qp3 (mC jcq m0))
theorem q8h:aw Tryz.prog qvu 0 (lc 0 Tryz.f84 75):=lp rfl qvs .z s0 (fun c a=>((c.1,c.2,a,()),(()))) (fun y=>((),()))
abbrev qvt:Mdl:=(az (.cons (.d false .str) .nil) [] [] 1 qsa (B:=Bool) (fun b=>((b,()),(()))) (fun a=>qhp a.1.1))
theorem q6k:MdlOK Tryz.prog 84 qvt:=jp Tryz.func84 rfl qvs (.two .z (.two .z (.two (.two .z (.s 0)) .z))) (sC q8h s0)
def qp6:Shp:=⟨[qi1],[]⟩
abbrev qsj:Ctx (Bool):=⟨36,tt,false,false,[],i4 [],jm [aq _ 36 [] q20 (C:=(qL1×qL1×Int×Int×(List ae)×Int×Int)) (S:=Int) (fun x=>((x.1.1,x.1.2.2.1,(pe3 x.1),x.2.1.1,x.2.1.2.1,x.2.1.2.2.1,(pe3 x.2.1)),(pe4 x.1))) q2z (CE:=Unit) (E:=Unit) (fun c e=>((()),(()))) (fun c=>()) (fun{R} c a nx dn rt=>mi c.1 c.2.1 c.2.2.1 (pe3 c) (pe4 c) (pe5 c) (pf6 c) a nx dn rt)],bx 36 tt [] [.tmp 4] qp6 (fun x=>x.1.1)⟩
theorem qsh:CtxM Tryz.prog qsj:=jq fits a9 m0
theorem q6u:aw Tryz.prog qsj 0 (lc 0 Tryz.f85 37):=lp rfl qsh .z s0 (fun c a=>((c.1,(),c.2.1,c.2.2.1,a,()),(((pe3 c),(pe4 c),(pe5 c),(pf6 c),()),()))) (fun y=>((),()))
abbrev qsi:Mdl:=(az (.cons (.d false bp.ty) (.cons (.d false qT1) .nil)) [] [] 1 qp6 (B:=Bool) (fun b=>((b,()),(()))) (fun a=>kj a.1.1 a.1.2.1))
theorem q21:MdlOK Tryz.prog 85 qsi:=jp Tryz.func85 rfl qsh (.two .z (.two (.two .z (.s 0)) .z)) (sC q6u s0)
def qsg:Shp:=⟨[qi1],[]⟩
abbrev qv4:Ctx (Bool):=⟨62,tt,false,false,[],i4 [(84,qvt),(85,qsi)],jm [aq _ 62 [] q6t (C:=((List ae)×Int×Int×(List ae)×Int×Int)) (S:=Int) (fun x=>((x.1.2.1,x.1.2.2.1,x.2.1.1,x.2.1.2.1,x.2.1.2.2.1,(pe3 x.2.1)),(pe3 x.1))) q6s (CE:=(Int×(List ae)×Int×Int)) (E:=Unit) (fun c e=>(((),()),((c.1,c.2.1,c.2.2.1,c.2.2.2,()),()))) (fun c=>(c.2.2.1,(pe3 c),(pe4 c),(pf5 c))) (fun{R} c a nx dn rt=>zt c.1 c.2.1 c.2.2.1 (pe3 c) (pe4 c) (pf5 c) a nx dn rt)],bx 62 tt [] [.tmp 2] qsg (fun x=>x.1.1)⟩
theorem qv3:CtxM Tryz.prog qv4:=jq fits a9 (mC q6k (mC q21 m0))
theorem q8i:aw Tryz.prog qv4 0 (lc 0 Tryz.f41 75):=lp rfl qv3 .z s0 (fun c a=>(((),c.1,c.2.1,a,()),((c.2.2.1,(pe3 c),(pe4 c),(pf5 c),()),()))) (fun y=>((y.2.1.1,y.2.1.2.1,y.2.1.2.2.1,(pe3 y.2.1)),()))
abbrev jf:Mdl:=(az (.cons (.d false bp.ty) .nil) [] [] 1 qsg (B:=Bool) (fun b=>((b,()),(()))) (fun a=>g9 a.1.1))
theorem gv:MdlOK Tryz.prog 41 jf:=jp Tryz.func41 rfl qv3 (.two .z (.two .z (.two (.two .z (.s 0)) .z))) (sC q8i s0)
def xy:Shp:=⟨[jds],[qpr,qg1]⟩
abbrev ze:Ctx ((Int×qL1)):=⟨33,tt,false,false,[],i4 [],jm [aq _ 33 [] qia (C:=(Int×Int)) (S:=(Int×qL1)) (fun x=>((x.1.2.1,x.2.1.1),(x.1.2.2.1,x.2.2.1))) qh9 (CE:=Int) (E:=qL1) (fun c e=>(((),()),((c,(),()),e,()))) (fun c=>c.2) (fun{R} c a nx dn rt=>ja c.1 c.2 a.1 a.2 nx dn rt)],bx 33 tt [] [.tmp 2] xy (fun x=>(x.2.1.1,x.2.2.1))⟩
theorem zd:CtxM Tryz.prog ze:=jq fits a9 m0
theorem qjp:aw Tryz.prog ze 0 (lc 0 Tryz.f87 75):=lp rfl zd .z s0 (fun c a=>(((),c.1,a.1,()),((c.2,(),()),a.2,()))) (fun y=>(y.2.1.1,y.2.2.1))
abbrev qb:Mdl:=(az (.cons (.d false bp.ty) .nil) [] [] 1 xy (B:=(Int×qL1)) (fun b=>(((),()),((b.1,(),()),b.2,()))) (fun a=>ir a.1.1))
theorem wb:MdlOK Tryz.prog 87 qb:=jp Tryz.func87 rfl zd (.two .z (.two (.d [0,1,0,4,0,16,48,124,252,511,1023,2047] [] []) (.two (.two .z (.s 0)) .z))) (sC qjp s0)
def va:Shp:=⟨[q5m],[qpr,qg1]⟩
abbrev wa:Ctx ((Int×Int×qL1)):=⟨41,tt,false,false,[true,true],i4 [],jm [aq _ 41 [true,true] qga (C:=Int) (S:=(Int×qL1)) (fun x=>(x.2.1.1,(x.1.2.1,x.2.2.1))) qf9 (CE:=Int) (E:=(Int×qL1)) (fun c e=>((e.1,()),((c,(),()),e.2,()))) (fun c=>c) (fun{R} c a nx dn rt=>gp c a.1 a.2 nx dn rt)],bx 41 tt [true,true] [.tmp 4] va (fun x=>(x.1.1,x.2.1.1,x.2.2.1))⟩
theorem v9:CtxM Tryz.prog wa:=jq fits a9 m0
theorem qgy:aw Tryz.prog wa 0 (lc 0 Tryz.f89 17):=lp rfl v9 (.two .z (.one (.two (.d [0,1,3,7,0,0,32,96,224,0,512,1536,3584,0,15872,32256,65504,131040,262143,524287] [19] []) .z))) s0 (fun c a=>(((),a.1,()),((c,(),()),a.2,()))) (fun y=>(y.2.1.1,(y.1.1,y.2.2.1)))
abbrev i9:Mdl:=(az (.cons (.ptr 0) (.cons (.d false qT0) .nil)) [.cs 103 2 1 (.cons (.d false qT0) (.cons (.own 1) .nil)),qg1] [true,true] 1 va (B:=(Int×Int×qL1)) (fun b=>((b.1,()),((b.2.1,(),()),b.2.2,()))) (fun a=>b9 a.1.2.1 a.2.1.1 a.2.2.1))
theorem li:MdlOK Tryz.prog 89 i9:=jp Tryz.func89 rfl v9 (.two .z (.two (.s 0) .z)) (sC qgy s0)
def t5:Shp:=⟨[],[qpr,qg1]⟩
abbrev qg0:Ctx ((Int×qL1)):=⟨30,tt,false,false,[true,true],i4 [(89,i9)],jm [],bx 30 tt [true,true] [] t5 (fun x=>(x.2.1.1,x.2.2.1))⟩
theorem qgz:CtxM Tryz.prog qg0:=jq fits a9 (mC li m0)
abbrev me:Mdl:=(az (.cons (.ptr 0) (.cons (.d false qT0) (.cons (.d false qT0) .nil))) [.cs 103 2 1 (.cons (.d false qT0) (.cons (.own 1) .nil)),qg1] [true,true] 0 t5 (B:=(Int×qL1)) (fun b=>((()),((b.1,(),()),b.2,()))) (fun a=>cm a.1.2.1 a.1.2.2.1 a.2.1.1 a.2.2.1))
theorem tc:MdlOK Tryz.prog 88 me:=jp Tryz.func88 rfl qgz (.two (.d [0,0,3,0,0,16,48,112,0,496,1023,2047,4095] [2,10,11,12] []) .z) s0
def qbj:Shp:=⟨[j71],[q74]⟩
abbrev jj:Ctx ((List ag)):=⟨99,tt,false,false,[],i4 [(87,qb),(88,me),(89,i9)],jm [aq _ 99 [] qlq (C:=(Int×(List ae)×Int×Int×qL1×Int×Int×(List ae)×Int×Int)) (S:=(Int×Int×qL1)) (fun x=>((x.1.2.2.1,(pe3 x.1),(pe4 x.1),(pe5 x.1),(pe6 x.1),(pe7 x.1),x.2.1.1,x.2.1.2.1,x.2.1.2.2.1,(pe3 x.2.1)),((pe8 x.1),x.2.2.1.1,(pe3 x)))) qlp (CE:=((List ae)×Int×Int×Int×(List ae)×Int×Int)) (E:=(Int×qL1)) (fun c e=>(((),(),c.1,c.2.1,c.2.2.1,()),(((pe3 c),(pe4 c),(pe5 c),(pf6 c),()),(e.1,(),()),e.2,()))) (fun c=>(c.2.1,c.2.2.1,(pe3 c),(pe6 c),(pe7 c),(pe8 c),(pf9 c))) (fun{R} c a nx dn rt=>dg c.1 c.2.1 c.2.2.1 (pe3 c) (pe4 c) (pe5 c) (pe6 c) (pe7 c) (pe8 c) (pf9 c) a.1 a.2.1 a.2.2 nx dn rt),aq _ 99 [] qls (C:=((List ae)×Int×Int×(List ae)×Int×Int)) (S:=(Int×Int×qL1)) (fun x=>((x.1.2.2.1,(pe3 x.1),x.2.1.1,x.2.1.2.1,x.2.1.2.2.1,(pe3 x.2.1)),((pe4 x.1),x.2.2.1.1,(pe3 x)))) qlr (CE:=(Int×(List ae)×Int×Int)) (E:=(Int×qL1)) (fun c e=>(((),(),()),((c.1,c.2.1,c.2.2.1,c.2.2.2,()),(e.1,(),()),e.2,()))) (fun c=>(c.2.2.1,(pe3 c),(pe4 c),(pf5 c))) (fun{R} c a nx dn rt=>kc c.1 c.2.1 c.2.2.1 (pe3 c) (pe4 c) (pf5 c) a.1 a.2.1 a.2.2 nx dn rt),wc _ 99 [] qlw (A:=(Int×Int×Int×Int×Int×(List ae)×Int×Int×Int×(List (Int×Int))×(List ag)×qL1)) (fun x=>((pe4 x.1),(pe5 x.1),(pe6 x.1),(pe7 x.1),x.2.1.1,x.2.1.2.1,x.2.1.2.2.1,(pe3 x.2.1),x.2.2.1.1,(pe3 x),(pe4 x),(pe5 x))) qlv (CE:=(Int×Int×Int×(List ae)×Int×Int×Int×(List (Int×Int))×qL1)) (E:=(List ag)) (fun c e=>(((),(),(),(),c.1,c.2.1,()),((c.2.2.1,(pe3 c),(pe4 c),(pe5 c),()),((pe6 c),(),()),(pe7 c),e,(pf8 c),()))) (fun c=>(c.2.2.1,(pe3 c),(pe4 c),(pe5 c),(pe6 c),(pe7 c),(pe8 c),(pe9 c),(pf11 c))) (fun{R} c dn rt=>kd c.1 c.2.1 c.2.2.1 (pe3 c) (pe4 c) (pe5 c) (pe6 c) (pe7 c) (pe8 c) (pe9 c) (pe10 c) (pf11 c) dn rt),aq _ 99 [] qlu (C:=(Int×Int×(List ae)×Int×Int)) (S:=(Int×Int×(List (Int×Int))×(List ag)×qL1)) (fun x=>(((pe4 x.1),x.2.1.1,x.2.1.2.1,x.2.1.2.2.1,(pe3 x.2.1)),((pe5 x.1),x.2.2.1.1,(pe3 x),(pe4 x),(pe5 x)))) qlt (CE:=Unit) (E:=(List ag)) (fun c e=>(((),()),(e,()))) (fun c=>()) (fun{R} c a nx dn rt=>gq c.1 c.2.1 c.2.2.1 (pe3 c) (pf4 c) a.1 a.2.1 a.2.2.1 (pe3 a) (pf4 a) nx dn rt)],bx 99 tt [] [.tmp 2] qbj (fun x=>x.2.1)⟩
theorem ji:CtxM Tryz.prog jj:=jq fits a9 (mC wb (mC tc (mC li m0)))
theorem qoi:aw Tryz.prog jj 2 (jc Tryz.f43 255583):=jn rfl ji (.two .z (.two (.d [0,0,0,0,12,28,60,0,128,508,3,2047,4095] [9,12] []) (.d [0,0,0,0,12,28,60,0,0,256,896,1920,4092,3,16383,32767] [12,15] []))) s0 (fun c=>(((),(),(),(),c.1,c.2.1,c.2.2.1,(pe3 c),()),(((pe4 c),(pe5 c),(pe6 c),(pe7 c),()),((pe8 c),(),()),(pe9 c),(pe10 c),(pf11 c),()))) (fun y=>(((pe4 y.1),(pe5 y.1),y.2.1.1,y.2.1.2.1,y.2.1.2.2.1,(pe3 y.2.1),y.2.2.1.1,(pe3 y),(pe5 y)),(pe4 y)))
theorem qog:aw Tryz.prog jj 0 (lc 2 Tryz.f43 19659):=lp rfl ji .z s0 (fun c a=>(((),(),c.1,c.2.1,c.2.2.1,(pe3 c),(pe4 c),(pe5 c),a.1,()),(((pe6 c),(pe7 c),(pe8 c),(pf9 c),()),(a.2.1,(),()),a.2.2,()))) (fun y=>((y.1.2.2.1,(pe3 y.1),(pe4 y.1),y.2.1.1,y.2.1.2.1,y.2.1.2.2.1,(pe3 y.2.1)),(y.2.2.1.1,(pe3 y))))
theorem qoj:aw Tryz.prog jj 3 (lc 4 Tryz.f43 607):=lp rfl ji (.two .z (.two .z (.two (.one (.two .z (.two .z (.two .z (.two .z (.s 2)))))) .z))) (sC qoi s0) (fun c a=>(((),(),(),(),c.1,a.1,()),((c.2.1,c.2.2.1,(pe3 c),(pf4 c),()),(a.2.1,(),()),a.2.2.1,(pe3 a),(pf4 a),()))) (fun y=>((),y.2.1))
theorem qoh:aw Tryz.prog jj 1 (lc 0 Tryz.f43 75):=lp rfl ji (.two .z (.two .z (.two (.one (.two .z (.two .z (.s 0)))) .z))) (sC qog s0) (fun c a=>(((),(),c.1,c.2.1,a.1,()),((c.2.2.1,(pe3 c),(pe4 c),(pf5 c),()),(a.2.1,(),()),a.2.2,()))) (fun y=>((y.2.1.1,y.2.1.2.1,y.2.1.2.2.1,(pe3 y.2.1)),(y.2.2.1.1,(pe3 y))))
abbrev t6:Mdl:=(az (.cons (.d false bp.ty) .nil) [] [] 1 qbj (B:=(List ag)) (fun b=>(((),()),(b,()))) (fun a=>dp a.1.1))
theorem y8:MdlOK Tryz.prog 43 t6:=jp Tryz.func43 rfl ji (.two .z (.two .z (.two (.two .z (.s 1)) (.two .z (.two .z (.two (.two .z (.s 3)) .z)))))) (sC qoh (sC qoj s0))
def qbh:Shp:=⟨[j71,qxg],[q74]⟩
abbrev qpi:Ctx ((Int×(List ag))):=⟨9,tt,false,false,[],i4 [(41,jf),(43,t6)],jm [],bx 9 tt [] [.tmp 2, .tmp 3] qbh (fun x=>(x.1.2.1,x.2.1))⟩
theorem qph:CtxM Tryz.prog qpi:=jq fits a9 (mC gv (mC y8 m0))
abbrev qda:Mdl:=(az (.cons (.d false bp.ty) .nil) [] [] 2 qbh (B:=(Int×(List ag))) (fun b=>(((),b.1,()),(b.2,()))) (fun a=>qen a.1.1))
theorem qlm:MdlOK Tryz.prog 11 qda:=jp Tryz.func11 rfl qph .z s0
def qaq:Shp:=⟨[q5m],[]⟩
abbrev qbw:Ctx (Int):=⟨19,tt,false,false,[],i4 [],jm [aq _ 19 [] qkx (C:=(qL1×Int×Int)) (S:=Int) (fun x=>((x.1.1,x.1.2.1,x.1.2.2.1),(pe3 x.1))) qkw (CE:=Unit) (E:=Unit) (fun c e=>((()),(()))) (fun c=>()) (fun{R} c a nx dn rt=>jx c.1 c.2.1 c.2.2 a nx dn rt)],bx 19 tt [] [.tmp 4] qaq (fun x=>x.1.1)⟩
theorem qbu:CtxM Tryz.prog qbw:=jq fits a9 m0
theorem qmo:aw Tryz.prog qbw 0 (lc 0 Tryz.f80 37):=lp rfl qbu .z s0 (fun c a=>((c.1,c.2.1,c.2.2,a,()),(()))) (fun y=>((),()))
abbrev qbv:Mdl:=(az (.cons (.d false qT1) (.cons (.d false qT0) .nil)) [] [] 1 qaq (B:=Int) (fun b=>((b,()),(()))) (fun a=>ue a.1.1 a.1.2.1))
theorem qky:MdlOK Tryz.prog 80 qbv:=jp Tryz.func80 rfl qbu (.two .z (.two (.two .z (.s 0)) .z)) (sC qmo s0)
def vb:Shp:=⟨[qi1],[]⟩
abbrev qiz:Ctx (Bool):=⟨9,tt,false,false,[],i4 [(80,qbv)],jm [],bx 9 tt [] [.tmp 4] vb (fun x=>x.1.1)⟩
theorem qiy:CtxM Tryz.prog qiz:=jq fits a9 (mC qky m0)
abbrev dl:Mdl:=(az (.cons (.d false qT1) (.cons (.d false qT0) .nil)) [] [] 1 vb (B:=Bool) (fun b=>((b,()),(()))) (fun a=>bj a.1.1 a.1.2.1))
theorem d5:MdlOK Tryz.prog 35 dl:=jp Tryz.func35 rfl qiy .z s0
def qhu:Shp:=⟨[qi1],[]⟩
abbrev qzq:Ctx (Bool):=⟨8,tt,false,false,[],i4 [],jm [],bx 8 tt [] [.tmp 3] qhu (fun x=>x.1.1)⟩
theorem qzp:CtxM Tryz.prog qzq:=jq fits a9 m0
abbrev qj8:Mdl:=(az (.cons (.d false qT0) (.cons (.rp false (.slice .bool)) .nil)) [] [] 1 qhu (B:=Bool) (fun b=>((b,()),(()))) (fun a=>xa a.1.1 a.1.2.1))
theorem qtt:MdlOK Tryz.prog 130 qj8:=jp Tryz.func130 rfl qzp .z s0
def ot:Shp:=⟨[q5m],[]⟩
abbrev pc:Ctx (Int):=⟨19,tt,false,false,[],i4 [(130,qj8)],jm [aq _ 19 [] qa0 (C:=(qL1×(List Bool)×Int)) (S:=Int) (fun x=>((x.1.1,x.1.2.1.1,x.1.2.2.1),(pe3 x.1))) qaz (CE:=Unit) (E:=Unit) (fun c e=>((()),(()))) (fun c=>()) (fun{R} c a nx dn rt=>d3 c.1 c.2.1 c.2.2 a nx dn rt)],bx 19 tt [] [.tmp 4] ot (fun x=>x.1.1)⟩
theorem o9:CtxM Tryz.prog pc:=jq fits a9 (mC qtt m0)
theorem qcb:aw Tryz.prog pc 0 (lc 0 Tryz.f79 37):=lp rfl o9 .z s0 (fun c a=>((c.1,(c.2.1,()),c.2.2,a,()),(()))) (fun y=>((),()))
abbrev pb:Mdl:=(az (.cons (.d false qT1) (.cons (.fn 130 (.cons (.rp false (.slice .bool)) .nil)) .nil)) [] [] 1 ot (B:=Int) (fun b=>((b,()),(()))) (fun a=>j5 a.1.1 a.1.2.1.1))
theorem qa1:MdlOK Tryz.prog 79 pb:=jp Tryz.func79 rfl o9 (.two .z (.two (.two .z (.s 0)) .z)) (sC qcb s0)
def l6:Shp:=⟨[qi1],[]⟩
abbrev qag:Ctx (Bool):=⟨9,tt,false,false,[],i4 [(79,pb)],jm [],bx 9 tt [] [.tmp 4] l6 (fun x=>x.1.1)⟩
theorem qaf:CtxM Tryz.prog qag:=jq fits a9 (mC qa1 m0)
abbrev mz:Mdl:=(az (.cons (.d false qT1) (.cons (.fn 130 (.cons (.rp false (.slice .bool)) .nil)) .nil)) [] [] 1 l6 (B:=Bool) (fun b=>((b,()),(()))) (fun a=>c7 a.1.1 a.1.2.1.1))
theorem xm:MdlOK Tryz.prog 32 mz:=jp Tryz.func32 rfl qaf .z s0
def qns:Shp:=⟨[j2j,(1, .own 1)],[qla,qla]⟩
abbrev zx:Ctx (((List Bool)×(List Bool))):=⟨69,tt,false,false,[],i4 [(32,mz)],jm [aq _ 69 [] qzk (C:=(Bool×Bool×(List ae)×Int×Int×qL1×Int×Int×(List ae)×Int×Int×(List Bool))) (S:=(Int×(List Bool))) (fun x=>((x.1.1,(pe4 x.1),(pe5 x.1),(pe6 x.1),(pe7 x.1),(pe8 x.1),(pe9 x.1),x.2.1.1,x.2.1.2.1,x.2.1.2.2.1,(pe3 x.2.1),(pe3 x)),((pe10 x.1),(pe4 x)))) qzj (CE:=(Bool×Bool×(List ae)×Int×Int×Int×(List ae)×Int×Int×(List Bool))) (E:=(List Bool)) (fun c e=>((c.1,(),(),(),c.2.1,c.2.2.1,(pe3 c),(pe4 c),()),(((pe5 c),(pe6 c),(pe7 c),(pe8 c),()),((),()),(pf9 c),e,()))) (fun c=>(c.1,c.2.1,c.2.2.1,(pe3 c),(pe4 c),(pe7 c),(pe8 c),(pe9 c),(pe10 c),(pf11 c))) (fun{R} c a nx dn rt=>uy c.1 c.2.1 c.2.2.1 (pe3 c) (pe4 c) (pe5 c) (pe6 c) (pe7 c) (pe8 c) (pe9 c) (pe10 c) (pf11 c) a.1 a.2 nx dn rt),aq _ 69 [] qzm (C:=(Bool×(List ae)×Int×Int×(List ae)×Int×Int)) (S:=(Bool×Int×(List Bool)×(List Bool))) (fun x=>((x.1.1,(pe5 x.1),(pe6 x.1),x.2.1.1,x.2.1.2.1,x.2.1.2.2.1,(pe3 x.2.1)),((pe4 x.1),(pe7 x.1),(pe3 x),(pe4 x)))) qzl (CE:=(Bool×Int×(List ae)×Int×Int)) (E:=(Bool×(List Bool)×(List Bool))) (fun c e=>((c.1,(),(),(),e.1,()),((c.2.1,c.2.2.1,(pe3 c),(pf4 c),()),((),()),e.2.1,e.2.2,()))) (fun c=>(c.1,(pe3 c),(pe4 c),(pe5 c),(pf6 c))) (fun{R} c a nx dn rt=>gb c.1 c.2.1 c.2.2.1 (pe3 c) (pe4 c) (pe5 c) (pf6 c) a.1 a.2.1 a.2.2.1 a.2.2.2 nx dn rt),aq _ 69 [] qzo (C:=(Bool×Int×(List ae)×Int×Int)) (S:=(Bool×(List Bool)×(List Bool))) (fun x=>((x.1.1,x.2.1.1,x.2.1.2.1,x.2.1.2.2.1,(pe3 x.2.1)),((pe4 x.1),(pe3 x),(pe4 x)))) qzn (CE:=Unit) (E:=((List Bool)×(List Bool))) (fun c e=>(((),(),()),(((),()),e.1,e.2,()))) (fun c=>()) (fun{R} c a nx dn rt=>qb5 c.1 c.2.1 c.2.2.1 (pe3 c) (pf4 c) a.1 a.2.1 a.2.2 nx dn rt)],bx 69 tt [] [.tmp 6, .tmp 7] qns (fun x=>(x.2.1,x.2.2.1))⟩
theorem zw:CtxM Tryz.prog zx:=jq fits a9 (mC xm m0)
theorem q22:aw Tryz.prog zx 0 (lc 4 Tryz.f90 41838231):=lp rfl zw .z s0 (fun c a=>((c.1,(),(),(),c.2.1,c.2.2.1,(pe3 c),(pe4 c),(pe5 c),(pe6 c),a.1,()),(((pe7 c),(pe8 c),(pe9 c),(pe10 c),()),((),()),(pf11 c),a.2,()))) (fun y=>((y.1.1,(pe4 y.1),(pe5 y.1),(pe6 y.1),(pe7 y.1),y.2.1.1,y.2.1.2.1,y.2.1.2.2.1,(pe3 y.2.1),(pe3 y)),(pe4 y)))
theorem q23:aw Tryz.prog zx 1 (lc 2 Tryz.f90 9879):=lp rfl zw (.two .z (.two .z (.two (.one (.two .z (.two (.d [0,1,0,4,3,31] [] []) (.two .z (.two .z (.two .z (.two .z (.s 0)))))))) .z))) (sC q22 s0) (fun c a=>((c.1,(),(),(),a.1,c.2.1,c.2.2.1,a.2.1,()),(((pe3 c),(pe4 c),(pe5 c),(pf6 c),()),((),()),a.2.2.1,a.2.2.2,()))) (fun y=>((y.1.1,y.2.1.1,y.2.1.2.1,y.2.1.2.2.1,(pe3 y.2.1)),((pe4 y.1),(pe3 y),(pe4 y))))
theorem q24:aw Tryz.prog zx 2 (lc 0 Tryz.f90 151):=lp rfl zw (.two .z (.one (.two .z (.two .z (.s 1))))) (sC q23 s0) (fun c a=>((c.1,(),(),(),a.1,()),((c.2.1,c.2.2.1,(pe3 c),(pf4 c),()),((),()),a.2.1,a.2.2,()))) (fun y=>((),(y.2.2.1,(pe3 y))))
abbrev qp7:Mdl:=(az (.cons (.d false bp.ty) (.cons (.d false qT0) (.cons (.d false .bool) .nil))) [] [] 2 qns (B:=((List Bool)×(List Bool))) (fun b=>(((),(),()),(b.1,b.2,()))) (fun a=>nc a.1.1 a.1.2.1 a.1.2.2.1))
theorem qzr:MdlOK Tryz.prog 90 qp7:=jp Tryz.func90 rfl zw (.two .z (.two (.d [0,1,3,0,8,24,56,0,135,511] [8] []) (.two .z (.two (.two .z (.s 2)) .z)))) (sC q24 s0)
def wn:Shp:=⟨[q5m],[]⟩
abbrev yh:Ctx (Int):=⟨19,tt,false,false,[],i4 [],jm [aq _ 19 [] qhc (C:=((List Bool)×Bool×Int)) (S:=Int) (fun x=>((x.1.1,x.1.2.1,x.1.2.2.1),(pe3 x.1))) qhb (CE:=Unit) (E:=Unit) (fun c e=>((()),(()))) (fun c=>()) (fun{R} c a nx dn rt=>ii c.1 c.2.1 c.2.2 a nx dn rt)],bx 19 tt [] [.tmp 4] wn (fun x=>x.1.1)⟩
theorem yf:CtxM Tryz.prog yh:=jq fits a9 m0
theorem qi0:aw Tryz.prog yh 0 (lc 0 Tryz.f73 37):=lp rfl yf .z s0 (fun c a=>((c.1,c.2.1,c.2.2,a,()),(()))) (fun y=>((),()))
abbrev yg:Mdl:=(az (.cons (.d false (.slice .bool)) (.cons (.d false .bool) .nil)) [] [] 1 wn (B:=Int) (fun b=>((b,()),(()))) (fun a=>qp a.1.1 a.1.2.1))
theorem qhd:MdlOK Tryz.prog 73 yg:=jp Tryz.func73 rfl yf (.two .z (.two (.two .z (.s 0)) .z)) (sC qi0 s0)
def tp:Shp:=⟨[qi1],[]⟩
abbrev qgv:Ctx (Bool):=⟨9,tt,false,false,[],i4 [(73,yg)],jm [],bx 9 tt [] [.tmp 4] tp (fun x=>x.1.1)⟩
theorem qgu:CtxM Tryz.prog qgv:=jq fits a9 (mC qhd m0)
abbrev lq:Mdl:=(az (.cons (.d false (.slice .bool)) (.cons (.d false .bool) .nil)) [] [] 1 tp (B:=Bool) (fun b=>((b,()),(()))) (fun a=>bn a.1.1 a.1.2.1))
theorem rl:MdlOK Tryz.prog 27 lq:=jp Tryz.func27 rfl qgu .z s0
def qj7:Shp:=⟨[qi1],[]⟩
abbrev qeb:Ctx (Bool):=⟨65,tt,false,false,[],i4 [(41,jf),(35,dl),(90,qp7),(27,lq)],jm [aq _ 65 [] qv6 (C:=((List ae)×Int×Int×(List ae)×Int×Int)) (S:=Int) (fun x=>((x.1.2.1,x.1.2.2.1,x.2.1.1,x.2.1.2.1,x.2.1.2.2.1,(pe3 x.2.1)),(pe3 x.1))) qv5 (CE:=(Int×(List ae)×Int×Int)) (E:=Unit) (fun c e=>(((),()),((c.1,c.2.1,c.2.2.1,c.2.2.2,()),()))) (fun c=>(c.2.2.1,(pe3 c),(pe4 c),(pf5 c))) (fun{R} c a nx dn rt=>tf c.1 c.2.1 c.2.2.1 (pe3 c) (pe4 c) (pf5 c) a nx dn rt),aq _ 65 [] qv8 (C:=((List Bool)×Int×Int×(List ae)×Int×Int)) (S:=Int) (fun x=>((x.1.2.1,x.1.2.2.1,x.2.1.1,x.2.1.2.1,x.2.1.2.2.1,(pe3 x.2.1)),(pe3 x.1))) qv7 (CE:=Unit) (E:=Unit) (fun c e=>((()),(()))) (fun c=>()) (fun{R} c a nx dn rt=>th c.1 c.2.1 c.2.2.1 (pe3 c) (pe4 c) (pf5 c) a nx dn rt)],bx 65 tt [] [.tmp 2] qj7 (fun x=>x.1.1)⟩
theorem qea:CtxM Tryz.prog qeb:=jq fits a9 (mC gv (mC d5 (mC qzr (mC rl m0))))
theorem qzi:aw Tryz.prog qeb 1 (lc 2 Tryz.f44 151):=lp rfl qea .z s0 (fun c a=>(((),c.1,c.2.1,a,()),((c.2.2.1,(pe3 c),(pe4 c),(pf5 c),()),()))) (fun y=>((),()))
theorem qzh:aw Tryz.prog qeb 0 (lc 0 Tryz.f44 75):=lp rfl qea .z s0 (fun c a=>(((),c.1,c.2.1,a,()),((c.2.2.1,(pe3 c),(pe4 c),(pf5 c),()),()))) (fun y=>((y.2.1.1,y.2.1.2.1,y.2.1.2.2.1,(pe3 y.2.1)),()))
abbrev qnq:Mdl:=(az (.cons (.d false bp.ty) .nil) [] [] 1 qj7 (B:=Bool) (fun b=>((b,()),(()))) (fun a=>ll a.1.1))
theorem qv9:MdlOK Tryz.prog 44 qnq:=jp Tryz.func44 rfl qea (.two .z (.two .z (.two (.two .z (.s 0)) (.two (.two .z (.s 1)) .z)))) (sC qzh (sC qzi s0))
def wl:Shp:=⟨[j2j],[qg1]⟩
abbrev qko:Ctx (qL1):=⟨8,tt,false,false,[],i4 [],jm [],bx 8 tt [] [.tmp 2] wl (fun x=>x.2.1)⟩
theorem qkm:CtxM Tryz.prog qko:=jq fits a9 m0
abbrev qkn:Mdl:=(az (.cons (.nl false (.d false qT1)) .nil) [] [] 1 wl (B:=qL1) (fun b=>(((),()),(b,()))) (fun a=>qad a.1.1))
theorem qg9:MdlOK Tryz.prog 45 qkn:=jp Tryz.func45 rfl qkm .z s0
def ne:Shp:=⟨[j2j],[qg1]⟩
abbrev qkr:Ctx (qL1):=⟨8,tt,false,false,[],i4 [],jm [],bx 8 tt [] [.tmp 2] ne (fun x=>x.2.1)⟩
theorem qkp:CtxM Tryz.prog qkr:=jq fits a9 m0
abbrev qkq:Mdl:=(az (.cons (.nl true (.d false qT1)) .nil) [] [] 1 ne (B:=qL1) (fun b=>(((),()),(b,()))) (fun a=>kl a.1.1))
theorem qha:MdlOK Tryz.prog 45 qkq:=jp Tryz.func45 rfl qkp .z s0
abbrev fh:Mdl:=(az (.cons (.d false qT1) .nil) [] [] 1 ne (fun(b:qL1)=>(((),()),(b,()))) (fun(a:((qL1×Unit)×(Unit)))=>b8 a.1.1))
theorem ge:MdlOK Tryz.prog 45 fh:=by
 refine q9z (jk0 _ _) qg9 qha (by kernel_rfl) (fun a b h=>⟨?_,h⟩);obtain⟨⟨xs,u1⟩,u2⟩:=a;cases xs with
 |nil=>exact h
 |cons x l=>
  have e:decide ((((x::l).length:Nat):Int)=0)=false:=decide_eq_false (by simp only[List.length_cons];omega);simp only[b8,kl]at h;simp only[qad,e,cond_false];exact h
def qf4:Shp:=⟨[(0, .d true bp.ty),qxg],[]⟩
abbrev qhj:Ctx ((bp×Int)):=⟨60,tt,false,false,[],i4 [(41,jf),(44,qnq),(45,fh)],jm [aq _ 60 [] qrl (C:=((List ae)×Int×Int×(List ae)×Int×Int×Int×(List ae)×Int×Int×Int×Int×Int)) (S:=(Int×(List ae))) (fun x=>(((pe3 x.1),(pe4 x.1),x.2.1.1,x.2.1.2.1,x.2.1.2.2.1,(pe3 x.2.1),x.2.2.1.1,x.2.2.1.2.1,x.2.2.1.2.2.1,(pe3 x.2.2.1),(pe3 x).1,(pe3 x).2.2.1,(pe3 (pe3 x))),((pe5 x.1),(pe4 x)))) qrk (CE:=(Int×(List ae)×Int×Int×Int×(List ae)×Int×Int×Int×Int×Int)) (E:=(List ae)) (fun c e=>(((),(),(),()),((c.1,c.2.1,c.2.2.1,(pe3 c),()),((pe4 c),(pe5 c),(pe6 c),(pe7 c),()),((pe8 c),(),(pe9 c),(pf10 c),()),e,()))) (fun c=>(c.2.2.1,(pe3 c),(pe4 c),(pe5 c),(pe6 c),(pe7 c),(pe8 c),(pe9 c),(pe10 c),(pe11 c),(pf12 c))) (fun{R} c a nx dn rt=>nr c.1 c.2.1 c.2.2.1 (pe3 c) (pe4 c) (pe5 c) (pe6 c) (pe7 c) (pe8 c) (pe9 c) (pe10 c) (pe11 c) (pf12 c) a.1 a.2 nx dn rt)],bx 60 tt [] [.cell 2 24, .tmp 3] qf4 (fun x=>(x.1.1,x.1.2.1))⟩
theorem qhi:CtxM Tryz.prog qhj:=jq fits a9 (mC gv (mC qv9 (mC ge m0)))
theorem qte:aw Tryz.prog qhj 0 (lc 1 Tryz.f12 303):=lp rfl qhi (.two .z (.two .z (.two (.one (.two .z (.d [0,1,0,4,0,16,48,0,128,496,1020,2044,4095,8191,16383] [12,14] []))) .z))) s0 (fun c a=>(((),(),(),c.1,c.2.1,a.1,()),((c.2.2.1,(pe3 c),(pe4 c),(pe5 c),()),((pe6 c),(pe7 c),(pe8 c),(pe9 c),()),((pe10 c),(),(pe11 c),(pf12 c),()),a.2,()))) (fun y=>((y.2.1.1,y.2.1.2.1,y.2.1.2.2.1,(pe3 y.2.1),y.2.2.1.1,y.2.2.1.2.1,y.2.2.1.2.2.1,(pe3 y.2.2.1),(pe3 y).1,(pe3 y).2.2.1,(pe3 (pe3 y))),(pe4 y)))
abbrev y0:Mdl:=(az (.cons (.d false bp.ty) .nil) [] [] 2 qf4 (B:=(bp×Int)) (fun b=>((b.1,b.2,()),(()))) (fun a=>k8 a.1.1))
theorem qem:MdlOK Tryz.prog 12 y0:=jp Tryz.func12 rfl qhi (.two .z (.two .z (.two .z (.two .z (.two (.two .z (.s 0)) .z))))) (sC qte s0)
def qbn:Shp:=⟨[qi1],[]⟩
abbrev qpq:Ctx (Bool):=⟨8,tt,false,false,[],i4 [(35,dl)],jm [],bx 8 tt [] [.tmp 3] qbn (fun x=>x.1.1)⟩
theorem qpp:CtxM Tryz.prog qpq:=jq fits a9 (mC d5 m0)
abbrev qdh:Mdl:=(az (.cons (.d false qT0) (.cons (.rp false ae.ty) .nil)) [] [] 1 qbn (B:=Bool) (fun b=>((b,()),(()))) (fun a=>ns a.1.1 a.1.2.1))
theorem ql0:MdlOK Tryz.prog 86 qdh:=jp Tryz.func86 rfl qpp .z s0
def pt:Shp:=⟨[q5m],[]⟩
abbrev rx:Ctx (Int):=⟨19,tt,false,false,[],i4 [(86,qdh)],jm [aq _ 19 [] qcj (C:=(qL1×ae×Int)) (S:=Int) (fun x=>((x.1.1,x.1.2.1.1,x.1.2.2.1),(pe3 x.1))) qci (CE:=Unit) (E:=Unit) (fun c e=>((()),(()))) (fun c=>()) (fun{R} c a nx dn rt=>ey c.1 c.2.1 c.2.2 a nx dn rt)],bx 19 tt [] [.tmp 4] pt (fun x=>x.1.1)⟩
theorem ru:CtxM Tryz.prog rx:=jq fits a9 (mC ql0 m0)
theorem qdu:aw Tryz.prog rx 0 (lc 0 Tryz.f79 37):=lp rfl ru .z s0 (fun c a=>((c.1,(c.2.1,()),c.2.2,a,()),(()))) (fun y=>((),()))
abbrev rv:Mdl:=(az (.cons (.d false qT1) (.cons (.fn 86 (.cons (.rp false ae.ty) .nil)) .nil)) [] [] 1 pt (B:=Int) (fun b=>((b,()),(()))) (fun a=>ks a.1.1 a.1.2.1.1))
theorem qck:MdlOK Tryz.prog 79 rv:=jp Tryz.func79 rfl ru (.two .z (.two (.two .z (.s 0)) .z)) (sC qdu s0)
def m7:Shp:=⟨[qi1],[]⟩
abbrev qaw:Ctx (Bool):=⟨9,tt,false,false,[],i4 [(79,rv)],jm [],bx 9 tt [] [.tmp 4] m7 (fun x=>x.1.1)⟩
theorem qav:CtxM Tryz.prog qaw:=jq fits a9 (mC qck m0)
abbrev nh:Mdl:=(az (.cons (.d false qT1) (.cons (.fn 86 (.cons (.rp false ae.ty) .nil)) .nil)) [] [] 1 m7 (B:=Bool) (fun b=>((b,()),(()))) (fun a=>eo a.1.1 a.1.2.1.1))
theorem yk:MdlOK Tryz.prog 32 nh:=jp Tryz.func32 rfl qav .z s0
def qao:Shp:=⟨[qi1],[]⟩
abbrev qbs:Ctx (Bool):=⟨26,tt,false,false,[],i4 [],jm [aq _ 26 [] qkv (C:=(qL1×qL1×Int)) (S:=Int) (fun x=>((x.1.1,x.1.2.1,x.1.2.2.1),(pe3 x.1))) qku (CE:=Unit) (E:=Unit) (fun c e=>((()),(()))) (fun c=>()) (fun{R} c a nx dn rt=>gh c.1 c.2.1 c.2.2 a nx dn rt)],bx 26 tt [] [.tmp 4] qao (fun x=>x.1.1)⟩
theorem qbr:CtxM Tryz.prog qbs:=jq fits a9 m0
theorem qmm:aw Tryz.prog qbs 0 (lc 0 Tryz.f26 75):=lp rfl qbr (.two .z (.two .z (.two (.one (.two .z (.two (.d [0,0,3,7,0,0,48,112,255] [] []) .z))) .z))) s0 (fun c a=>((c.1,c.2.1,c.2.2,a,()),(()))) (fun y=>((),()))
abbrev ly:Mdl:=(az (.cons (.d false qT1) (.cons (.d false qT1) .nil)) [] [] 1 qao (B:=Bool) (fun b=>((b,()),(()))) (fun a=>gg a.1.1 a.1.2.1))
theorem om:MdlOK Tryz.prog 26 ly:=jp Tryz.func26 rfl qbr (.two .z (.two .z (.two (.two .z (.s 0)) .z))) (sC qmm s0)
def qeu:Shp:=⟨[qi1],[]⟩
abbrev xj:Ctx (Bool):=⟨38,tt,false,false,[],i4 [(32,nh),(26,ly)],jm [aq _ 38 [] qpm (C:=((List ae)×Int×Int×(List ae)×Int×Int×(List ae)×Int×Int×ByteArray×qL1×qL1)) (S:=Int) (fun x=>((x.1.2.2.1,(pe3 x.1),(pe4 x.1),(pe5 x.1),(pe6 x.1),x.2.1.1,x.2.1.2.1,x.2.1.2.2.1,(pe3 x.2.1),x.2.2.1.1,x.2.2.1.2.1,x.2.2.1.2.2.1),(pe7 x.1))) qpl (CE:=((List ae)×Int×Int×Int×(List ae)×Int×Int)) (E:=Unit) (fun c e=>(((),c.1,c.2.1,c.2.2.1,()),(((pe3 c),(pe4 c),(pe5 c),(pf6 c),()),()))) (fun c=>(c.1,c.2.1,c.2.2.1,(pe5 c),(pe6 c),(pe7 c),(pe8 c))) (fun{R} c a nx dn rt=>jk c.1 c.2.1 c.2.2.1 (pe3 c) (pe4 c) (pe5 c) (pe6 c) (pe7 c) (pe8 c) (pe9 c) (pe10 c) (pf11 c) a nx dn rt),aq _ 38 [] qpo (C:=((List ae)×Int×Int×(List ae)×Int×Int)) (S:=Int) (fun x=>((x.1.2.1,x.1.2.2.1,x.2.1.1,x.2.1.2.1,x.2.1.2.2.1,(pe3 x.2.1)),(pe3 x.1))) qpn (CE:=Unit) (E:=Unit) (fun c e=>((()),(()))) (fun c=>()) (fun{R} c a nx dn rt=>jl c.1 c.2.1 c.2.2.1 (pe3 c) (pe4 c) (pf5 c) a nx dn rt)],bx 38 tt [] [.tmp 2] qeu (fun x=>x.1.1)⟩
theorem xh:CtxM Tryz.prog xj:=jq fits a9 (mC yk (mC om m0))
theorem qro:aw Tryz.prog xj 0 (lc 2 Tryz.f42 9829):=lp rfl xh .z s0 (fun c a=>(((),(),c.1,c.2.1,c.2.2.1,(pe3 c),(pe4 c),a,()),(((pe5 c),(pe6 c),(pe7 c),(pe8 c),()),((pe9 c),(pe10 c),(pf11 c),()),()))) (fun y=>((y.1.2.1,y.1.2.2.1,(pe3 y.1),y.2.1.1,y.2.1.2.1,y.2.1.2.2.1,(pe3 y.2.1)),()))
theorem qrp:aw Tryz.prog xj 1 (lc 0 Tryz.f42 37):=lp rfl xh (.two .z (.two .z (.two (.one (.two .z (.two .z (.s 0)))) .z))) (sC qro s0) (fun c a=>(((),c.1,c.2.1,a,()),((c.2.2.1,(pe3 c),(pe4 c),(pf5 c),()),()))) (fun y=>((),()))
abbrev qa:Mdl:=(az (.cons (.d false bp.ty) .nil) [] [] 1 qeu (B:=Bool) (fun b=>((b,()),(()))) (fun a=>gu a.1.1))
theorem t7:MdlOK Tryz.prog 42 qa:=jp Tryz.func42 rfl xh (.two .z (.two (.two .z (.s 1)) .z)) (sC qrp s0)
def qbt:Shp:=⟨[j2j],[qg1]⟩
abbrev qqw:Ctx (qL1):=⟨27,tt,false,false,[],i4 [],jm [],bx 27 tt [] [.tmp 4] qbt (fun x=>x.2.1)⟩
theorem qqv:CtxM Tryz.prog qqw:=jq fits a9 m0
abbrev qds:Mdl:=(az (.cons (.e) (.cons (.d false qT0) .nil)) [] [] 1 qbt (B:=qL1) (fun b=>(((),()),(b,()))) (fun a=>nt a.1.2.1))
theorem qmn:MdlOK Tryz.prog 131 qds:=jp Tryz.func131 rfl qqv .z s0
def ye:Shp:=⟨[j2j],[qg1]⟩
abbrev ql:Ctx (qL1):=⟨36,tt,false,false,[],i4 [(131,qds)],jm [aq _ 36 [] qiu (C:=(qL2×qL2×Int)) (S:=(Int×Int)) (fun x=>((x.1.1,x.1.2.2.1,(pe3 x.1)),(x.1.2.1,(pe4 x.1)))) qit (CE:=qL2) (E:=Int) (fun c e=>((c,e,()),(()))) (fun c=>c.1) (fun{R} c a nx dn rt=>fo c.1 c.2.1 c.2.2 a.1 a.2 nx dn rt),aq _ 36 [] qiw (C:=(qL2×Int)) (S:=(Int×qL1)) (fun x=>((x.1.2.1,x.1.2.2.1),((pe3 x.1),x.2.1))) qiv (CE:=Unit) (E:=qL1) (fun c e=>(((),()),(e,()))) (fun c=>()) (fun{R} c a nx dn rt=>fp c.1 c.2 a.1 a.2 nx dn rt)],bx 36 tt [] [.tmp 2] ye (fun x=>x.2.1)⟩
theorem qk:CtxM Tryz.prog ql:=jq fits a9 (mC qmn m0)
theorem qkt:aw Tryz.prog ql 1 (lc 2 Tryz.f92 303):=lp rfl qk .z s0 (fun c a=>(((),c.1,c.2,a.1,()),(a.2,()))) (fun y=>((),y.2.1))
theorem qks:aw Tryz.prog ql 0 (lc 0 Tryz.f92 75):=lp rfl qk .z s0 (fun c a=>((c.1,a.1,c.2.1,c.2.2,a.2,()),(()))) (fun y=>(y.1.1,y.1.2.1))
abbrev qae:Mdl:=(az (.cons (.d false qT2) .nil) [] [] 1 ye (B:=qL1) (fun b=>(((),()),(b,()))) (fun a=>lx a.1.1))
theorem qix:MdlOK Tryz.prog 92 qae:=jp Tryz.func92 rfl qk (.two .z (.two .z (.two (.two .z (.s 0)) (.two .z (.two (.two .z (.s 1)) .z))))) (sC qks (sC qkt s0))
def za:Shp:=⟨[qi1],[]⟩
abbrev lw:Ctx (Bool):=⟨55,tt,false,false,[],i4 [(87,qb),(92,qae),(88,me),(89,i9)],jm [aq _ 55 [] qji (C:=(Int×(List ae)×Int×Int×qL1×Int)) (S:=(Int×Int×qL1)) (fun x=>((x.1.2.1,x.1.2.2.1,(pe3 x.1),(pe4 x.1),(pe5 x.1),(pe6 x.1)),((pe7 x.1),x.2.1.1,x.2.2.1))) qjh (CE:=((List ae)×Int×Int)) (E:=(Int×qL1)) (fun c e=>(((),c.1,c.2.1,c.2.2,()),((e.1,(),()),e.2,()))) (fun c=>(c.2.1,c.2.2.1,(pe3 c))) (fun{R} c a nx dn rt=>da c.1 c.2.1 c.2.2.1 (pe3 c) (pe4 c) (pf5 c) a.1 a.2.1 a.2.2 nx dn rt),aq _ 55 [] qjk (C:=((List ae)×Int)) (S:=(Int×Int×qL1)) (fun x=>((x.1.2.1,x.1.2.2.1),((pe3 x.1),x.2.1.1,x.2.2.1))) qjj (CE:=Unit) (E:=(Int×qL1)) (fun c e=>(((),()),((e.1,(),()),e.2,()))) (fun c=>()) (fun{R} c a nx dn rt=>jt c.1 c.2 a.1 a.2.1 a.2.2 nx dn rt),aq _ 55 [] qjm (C:=Int) (S:=(Int×Int×qL1)) (fun x=>(x.1.2.1,(x.1.2.2.1,x.2.1.1,x.2.2.1))) qjl (CE:=Unit) (E:=Unit) (fun c e=>((()),(()))) (fun c=>()) (fun{R} c a nx dn rt=>f6 c a.1 a.2.1 a.2.2 nx dn rt)],bx 55 tt [] [.tmp 2] za (fun x=>x.1.1)⟩
theorem lu:CtxM Tryz.prog lw:=jq fits a9 (mC wb (mC qix (mC tc (mC li m0))))
theorem qlx:aw Tryz.prog lw 0 (lc 2 Tryz.f52 39319):=lp rfl lu .z s0 (fun c a=>(((),c.1,c.2.1,c.2.2.1,(pe3 c),(pe4 c),(pf5 c),a.1,()),((a.2.1,(),()),a.2.2,()))) (fun y=>((y.1.2.1,y.1.2.2.1,(pe3 y.1)),(y.2.1.1,y.2.2.1)))
theorem qlz:aw Tryz.prog lw 2 (lc 4 Tryz.f52 303):=lp rfl lu .z s0 (fun c a=>(((),c,a.1,()),((a.2.1,(),()),a.2.2,()))) (fun y=>((),()))
theorem qly:aw Tryz.prog lw 1 (lc 0 Tryz.f52 151):=lp rfl lu (.two .z (.two .z (.two (.one (.two .z (.two .z (.s 0)))) .z))) (sC qlx s0) (fun c a=>(((),c.1,c.2,a.1,()),((a.2.1,(),()),a.2.2,()))) (fun y=>((),(y.2.1.1,y.2.2.1)))
abbrev qbk:Mdl:=(az (.cons (.d false bp.ty) .nil) [] [] 1 za (B:=Bool) (fun b=>((b,()),(()))) (fun a=>mq a.1.1))
theorem qjn:MdlOK Tryz.prog 52 qbk:=jp Tryz.func52 rfl lu (.two .z (.two .z (.two .z (.two (.two .z (.s 1)) (.two (.two .z (.s 2)) .z))))) (sC qly (sC qlz s0))
def qup:Shp:=⟨[qi1],[]⟩
abbrev jex:Ctx (Bool):=⟨12,tt,false,false,[],i4 [],jm [],bx 12 tt [] [.tmp 2] qup (fun x=>x.1.1)⟩
theorem jew:CtxM Tryz.prog jex:=jq fits a9 m0
abbrev qpa:Mdl:=(az (.cons (.d false bp.ty) .nil) [] [] 1 qup (B:=Bool) (fun b=>((b,()),(()))) (fun a=>qfy a.1.1))
theorem qr0:MdlOK Tryz.prog 93 qpa:=jp Tryz.func93 rfl jew .z s0
def qrz:Shp:=⟨[q5m],[]⟩
abbrev jbs:Ctx (Int):=⟨27,tt,false,false,[],i4 [(35,dl)],jm [],bx 27 tt [] [.tmp 4] qrz (fun x=>x.1.1)⟩
theorem jbr:CtxM Tryz.prog jbs:=jq fits a9 (mC d5 m0)
abbrev qle:Mdl:=(az (.cons (.d false ae.ty) (.cons (.d false qT0) .nil)) [] [] 1 qrz (B:=Int) (fun b=>((b,()),(()))) (fun a=>xu a.1.1 a.1.2.1))
theorem qo8:MdlOK Tryz.prog 94 qle:=jp Tryz.func94 rfl jbr (.two .z (.two (.d [0,1,0,7,0,16,0,127,255,511] [] []) .z)) s0
def q46:Shp:=⟨[q5m],[]⟩
abbrev qx3:Ctx (Int):=⟨24,tt,false,false,[],i4 [],jm [aq _ 24 [] jet (C:=(qL1×Int×Int)) (S:=(Int×Int)) (fun x=>((x.1.2.2.1,(pe3 x.1),(pe4 x.1)),(x.1.1,x.1.2.1))) jes (CE:=(qL1×Int×Int)) (E:=Int) (fun c e=>((e,c.1,c.2.1,c.2.2,()),(()))) (fun c=>(c.1,c.2.1,c.2.2)) (fun{R} c a nx dn rt=>qc7 c.1 c.2.1 c.2.2 a.1 a.2 nx dn rt),aq _ 24 [] jev (C:=(qL1×Int)) (S:=(Int×Int)) (fun x=>((x.1.2.1,x.1.2.2.1),(x.1.1,(pe3 x.1)))) jeu (CE:=Unit) (E:=Int) (fun c e=>((e,()),(()))) (fun c=>()) (fun{R} c a nx dn rt=>qc8 c.1 c.2 a.1 a.2 nx dn rt)],bx 24 tt [] [.tmp 2] q46 (fun x=>x.1.1)⟩
theorem qx1:CtxM Tryz.prog qx3:=jq fits a9 m0
theorem jhm:aw Tryz.prog qx3 0 (lc 2 Tryz.f182 19659):=lp rfl qx1 (.two .z (.one (.d [0,0,0,6,3,31] [] []))) s0 (fun c a=>((a.1,a.2,c.1,c.2.1,c.2.2,()),(()))) (fun y=>((y.1.2.1,y.1.2.2.1,(pe3 y.1)),y.1.1))
theorem jhn:aw Tryz.prog qx3 1 (lc 0 Tryz.f182 75):=lp rfl qx1 (.two .z (.two .z (.two (.one (.two .z (.two .z (.s 0)))) .z))) (sC jhm s0) (fun c a=>((a.1,c.1,c.2,a.2,()),(()))) (fun y=>((),y.1.1))
abbrev qx2:Mdl:=(az (.cons (.d false qT1) .nil) [] [] 1 q46 (B:=Int) (fun b=>((b,()),(()))) (fun a=>qo9 a.1.1))
theorem q00:MdlOK Tryz.prog 182 qx2:=jp Tryz.func182 rfl qx1 (.two .z (.two .z (.two (.two .z (.s 1)) .z))) (sC jhn s0)
def q02:Shp:=⟨[(0, .d true (.int .u64))],[]⟩
abbrev q48:Ctx (Int):=⟨21,tt,false,false,[],i4 [],jm [aq _ 21 [] jbu (C:=(qL1×Int)) (S:=(Int×Int)) (fun x=>((x.1.2.1,x.1.2.2.1),(x.1.1,(pe3 x.1)))) jbt (CE:=Unit) (E:=Int) (fun c e=>((e,()),(()))) (fun c=>()) (fun{R} c a nx dn rt=>yv c.1 c.2 a.1 a.2 nx dn rt)],bx 21 tt [] [.tmp 2] q02 (fun x=>x.1.1)⟩
theorem q47:CtxM Tryz.prog q48:=jq fits a9 m0
theorem jey:aw Tryz.prog q48 0 (lc 0 Tryz.f183 75):=lp rfl q47 .z s0 (fun c a=>((a.1,c.1,c.2,a.2,()),(()))) (fun y=>((),y.1.1))
abbrev qtd:Mdl:=(az (.cons (.d false qT1) .nil) [] [] 1 q02 (B:=Int) (fun b=>((b,()),(()))) (fun a=>nv a.1.1))
theorem quq:MdlOK Tryz.prog 183 qtd:=jp Tryz.func183 rfl q47 (.two .z (.two .z (.two (.two .z (.s 0)) .z))) (sC jey s0)
def qm0:Shp:=⟨[],[qrw,qez,qez]⟩
abbrev qf1:Ctx ((qL2×qL2)):=⟨116,tt,false,false,[true,false,false],i4 [(45,fh),(182,qx2),(183,qtd)],jm [aq _ 116 [true,false,false] qya (C:=(qL1×qL1×Int×Int×qL2×qL2)) (S:=Int) (fun x=>((x.1.2.1,x.1.2.2.1,(pe3 x.1),(pe5 x.1),x.2.2.1,(pe3 x)),(pe6 x.1))) qx9 (CE:=(qL1×qL1×Int×qL2×qL2)) (E:=Unit) (fun c e=>(((),c.1,c.2.1,c.2.2.1,()),(((),(),()),(pe3 c),(pf4 c),()))) (fun c=>(c.1,c.2.1,c.2.2.1,(pf5 c),(pe4 c))) (fun{R} c a nx dn rt=>uj c.1 c.2.1 c.2.2.1 (pe3 c) (pe4 c) (pf5 c) a nx dn rt),aq _ 116 [true,false,false] qyc (C:=(qL1×qL1×Int×qL2×Int×qL2×qL2)) (S:=(Int×qL2×qL2)) (fun x=>((x.1.2.1,x.1.2.2.1,(pe3 x.1),(pe5 x.1),(pe6 x.1),x.2.1.1,x.2.1.2.1),((pe7 x.1),(pe3 x),(pe4 x)))) qyb (CE:=(qL1×qL1×qL2×qL2)) (E:=(qL2×qL2)) (fun c e=>(((),c.1,c.2.1,(),()),((c.2.2.1,c.2.2.2,()),((),(),()),e.1,e.2,()))) (fun c=>(c.1,c.2.1,(pe5 c),(pf6 c))) (fun{R} c a nx dn rt=>nw c.1 c.2.1 c.2.2.1 (pe3 c) (pe4 c) (pe5 c) (pf6 c) a.1 a.2.1 a.2.2 nx dn rt)],bx 116 tt [true,false,false] [] qm0 (fun x=>(x.2.2.1,(pe3 x)))⟩
theorem qf0:CtxM Tryz.prog qf1:=jq fits a9 (mC ge (mC q00 (mC quq m0)))
theorem q2c:aw Tryz.prog qf1 1 (lc 6 Tryz.f160 303):=lp rfl qf0 (.two .z (.two .z (.two (.one (.two .z (.two .z (.two (.d [0,1,0,4,12,28,0,124,252,508,1023,0,2048,0,8192,32767,8191,131071,262143,524287] [10,15,17,19] []) .z)))) .z))) s0 (fun c a=>(((),c.1,c.2.1,c.2.2.1,(),(pe3 c),(pe4 c),a.1,()),(((pe5 c),(pf6 c),()),((),(),()),a.2.1,a.2.2,()))) (fun y=>((y.1.2.1,y.1.2.2.1,y.2.1.1,y.2.1.2.1),((pe3 y),(pe4 y))))
theorem q2b:aw Tryz.prog qf1 0 (lc 4 Tryz.f160 75):=lp rfl qf0 .z s0 (fun c a=>(((),c.1,c.2.1,c.2.2.1,(),(pe3 c),a,()),(((),(),()),(pe4 c),(pf5 c),()))) (fun y=>((y.1.2.1,y.1.2.2.1,(pe3 y.1),y.2.2.1,(pe3 y)),()))
abbrev qpf:Mdl:=(az (.cons (.ptr 0) (.cons (.d true qT1) (.cons (.d true qT1) .nil))) [qrw,qez,qez] [true,false,false] 0 qm0 (B:=(qL2×qL2)) (fun b=>((()),(((),(),()),b.1,b.2,()))) (fun a=>qcv a.1.2.1 a.1.2.2.1 a.2.2.1 (pe3 a)))
theorem qyd:MdlOK Tryz.prog 160 qpf:=jp Tryz.func160 rfl qf0 (.two .z (.two .z (.two (.two .z (.s 0)) (.two .z (.two (.two .z (.s 1)) (.d [0,0,0,4,0,16,60,0,128,0,512,2044,4093,8189,16381,32767,65535,131071] [6,11,14,17] [])))))) (sC q2b (sC q2c s0))
def q5e:Shp:=⟨[j2j],[qg1]⟩
abbrev q9j:Ctx (qL1):=⟨37,tt,false,false,[],i4 [],jm [aq _ 37 [] je0 (C:=(Int×qL1×Int×qL1×Int)) (S:=(Int×qL1)) (fun x=>((x.1.1,x.1.2.1,x.1.2.2.1,(pe3 x.1),(pe5 x.1)),((pe6 x.1),x.2.1))) jez (CE:=Unit) (E:=qL1) (fun c e=>(((),()),(e,()))) (fun c=>()) (fun{R} c a nx dn rt=>qhg c.1 c.2.1 c.2.2.1 (pe3 c) (pf4 c) a.1 a.2 nx dn rt)],bx 37 tt [] [.tmp 8] q5e (fun x=>x.2.1)⟩
theorem q9h:CtxM Tryz.prog q9j:=jq fits a9 m0
theorem jho:aw Tryz.prog q9j 0 (lc 0 Tryz.f161 75):=lp rfl q9h (.two .z (.two .z (.two (.one (.two .z (.d [0,0,0,0,0,24,56,124,0,0,0,1536,3584,7936,16380,32767,65535] [16] []))) .z))) s0 (fun c a=>((c.1,c.2.1,c.2.2.1,(pe3 c),(),(pf4 c),a.1,()),(a.2,()))) (fun y=>((),y.2.1))
abbrev q9i:Mdl:=(az (.cons (.d false qT0) (.cons (.d false qT1) (.cons (.d false qT0) (.cons (.d false qT1) .nil)))) [] [] 1 q5e (B:=qL1) (fun b=>(((),()),(b,()))) (fun a=>qf2 a.1.1 a.1.2.1 a.1.2.2.1 (pe3 a.1)))
theorem je1:MdlOK Tryz.prog 161 q9i:=jp Tryz.func161 rfl q9h (.two .z (.two .z (.two (.two .z (.s 0)) .z))) (sC jho s0)
def qjg:Shp:=⟨[],[qrw,qez,qez,qxy,qxy]⟩
abbrev mh:Ctx ((qL2×qL2×qL1×qL1)):=⟨116,tt,false,false,[true,false,false,false,false],i4 [(45,fh),(182,qx2),(183,qtd)],jm [aq _ 116 [true,false,false,false,false] qut (C:=(Int×Int×qL1×qL2×qL2)) (S:=(Int×qL1)) (fun x=>(((pe3 x.1),(pe4 x.1),(pe3 x),(pe4 x),(pe5 x)),((pe5 x.1),x.2.2.1))) qus (CE:=(Int×qL1×qL2×qL2)) (E:=qL1) (fun c e=>(((),(),(),c.1,()),(((),(),()),e,c.2.1,c.2.2.1,c.2.2.2,()))) (fun c=>(c.1,c.2.2.1,(pe3 c),(pf4 c))) (fun{R} c a nx dn rt=>s6 c.1 c.2.1 c.2.2.1 (pe3 c) (pf4 c) a.1 a.2 nx dn rt),aq _ 116 [true,false,false,false,false] quv (C:=(qL1×Int×Int×qL2×qL2)) (S:=(Int×qL1×qL1)) (fun x=>((x.1.2.1,(pe3 x.1),(pe4 x.1),(pe3 x),(pe4 x)),((pe5 x.1),x.2.2.1,(pe5 x)))) quu (CE:=(qL1×qL2×qL2)) (E:=(qL1×qL1)) (fun c e=>(((),c.1,(),()),(((),(),()),e.1,c.2.1,c.2.2,e.2,()))) (fun c=>(c.1,(pe3 c),(pf4 c))) (fun{R} c a nx dn rt=>s7 c.1 c.2.1 c.2.2.1 (pe3 c) (pf4 c) a.1 a.2.1 a.2.2 nx dn rt),aq _ 116 [true,false,false,false,false] qux (C:=(qL1×qL1×Int×Int×qL2×qL2)) (S:=(Int×qL1×qL1)) (fun x=>((x.1.2.1,x.1.2.2.1,(pe3 x.1),(pe5 x.1),x.2.2.1,(pe3 x)),((pe6 x.1),(pe4 x),(pe5 x)))) quw (CE:=(qL1×qL1×Int×qL2×qL2)) (E:=(qL1×qL1)) (fun c e=>(((),c.1,c.2.1,c.2.2.1,()),(((),(),()),(pe3 c),(pf4 c),e.1,e.2,()))) (fun c=>(c.1,c.2.1,c.2.2.1,(pf5 c),(pe4 c))) (fun{R} c a nx dn rt=>js c.1 c.2.1 c.2.2.1 (pe3 c) (pe4 c) (pf5 c) a.1 a.2.1 a.2.2 nx dn rt),aq _ 116 [true,false,false,false,false] quz (C:=(qL1×qL1×Int×qL2×Int×qL2×qL2)) (S:=(Int×qL2×qL2×qL1)) (fun x=>((x.1.2.1,x.1.2.2.1,(pe3 x.1),(pe5 x.1),(pe6 x.1),x.2.1.1,x.2.1.2.1),((pe7 x.1),(pe3 x),(pe4 x),(pe5 x)))) quy (CE:=(qL1×qL1×qL2×qL2)) (E:=(qL2×qL2×qL1)) (fun c e=>(((),c.1,c.2.1,(),()),((c.2.2.1,c.2.2.2,()),((),(),()),e.1,e.2.1,e.2.2,()))) (fun c=>(c.1,c.2.1,(pe5 c),(pf6 c))) (fun{R} c a nx dn rt=>mm c.1 c.2.1 c.2.2.1 (pe3 c) (pe4 c) (pe5 c) (pf6 c) a.1 a.2.1 a.2.2.1 a.2.2.2 nx dn rt),wc _ 116 [true,false,false,false,false] qu1 (A:=(qL1×qL1×qL2×qL2×qL1×qL1)) (fun x=>(x.1.2.1,x.1.2.2.1,x.2.2.1,(pe3 x),(pe4 x),(pe5 x))) qu0 (CE:=Unit) (E:=(qL2×qL2×qL1×qL1)) (fun c e=>((()),(((),(),()),e.1,e.2.1,e.2.2.1,e.2.2.2,()))) (fun c=>()) (fun{R} c dn rt=>yz c.1 c.2.1 c.2.2.1 (pe3 c) (pe4 c) (pf5 c) dn rt)],bx 116 tt [true,false,false,false,false] [] qjg (fun x=>(x.2.2.1,(pe3 x),(pe4 x),(pe5 x)))⟩
theorem mg:CtxM Tryz.prog mh:=jq fits a9 (mC ge (mC q00 (mC quq m0)))
theorem qx4:aw Tryz.prog mh 0 (lc 0 Tryz.f160 294):=lp rfl mg .z s0 (fun c a=>(((),(),(),c.1,c.2.1,a.1,()),(((),(),()),a.2,c.2.2.1,(pe3 c),(pf4 c),()))) (fun y=>(((pe3 y.1),(pe3 y),(pe4 y),(pe5 y)),y.2.2.1))
theorem qx5:aw Tryz.prog mh 1 (lc 2 Tryz.f160 310):=lp rfl mg .z s0 (fun c a=>(((),c.1,(),c.2.1,c.2.2.1,a.1,()),(((),(),()),a.2.1,(pe3 c),(pf4 c),a.2.2,()))) (fun y=>((y.1.2.1,(pe3 y),(pe4 y)),(y.2.2.1,(pe5 y))))
theorem qx7:aw Tryz.prog mh 3 (lc 6 Tryz.f160 303):=lp rfl mg (.two .z (.two .z (.two (.one (.two .z (.two .z (.two (.d [0,1,0,4,12,28,0,124,252,508,1023,0,2048,0,8192,32767,8191,131071,262143,524287] [10,15,17,19] []) .z)))) .z))) s0 (fun c a=>(((),c.1,c.2.1,c.2.2.1,(),(pe3 c),(pe4 c),a.1,()),(((pe5 c),(pf6 c),()),((),(),()),a.2.1,a.2.2.1,a.2.2.2,()))) (fun y=>((y.1.2.1,y.1.2.2.1,y.2.1.1,y.2.1.2.1),((pe3 y),(pe4 y),(pe5 y))))
theorem qx6:aw Tryz.prog mh 2 (lc 4 Tryz.f160 75):=lp rfl mg .z s0 (fun c a=>(((),c.1,c.2.1,c.2.2.1,(),(pe3 c),a.1,()),(((),(),()),(pe4 c),(pf5 c),a.2.1,a.2.2,()))) (fun y=>((y.1.2.1,y.1.2.2.1,(pe3 y.1),y.2.2.1,(pe3 y)),((pe4 y),(pe5 y))))
theorem qx8:aw Tryz.prog mh 4 (jc Tryz.f160 3):=jn rfl mg (.two .z (.two (.two .z (.s 2)) (.two .z (.two (.two .z (.s 3)) (.d [0,0,0,4,0,16,60,0,128,0,512,2044,4093,8189,16381,32767,65535,131071] [6,11,14,17] []))))) (sC qx6 (sC qx7 s0)) (fun c=>(((),c.1,c.2.1,()),(((),(),()),c.2.2.1,(pe3 c),(pe4 c),(pf5 c),()))) (fun y=>((),(y.2.2.1,(pe3 y),(pe4 y),(pe5 y))))
abbrev qmx:Mdl:=(az (.cons (.ptr 0) (.cons (.own 1) (.cons (.own 2) .nil))) [j2r,qg1,qg1,qez,qez] [true,false,false,false,false] 0 qjg (B:=(qL2×qL2×qL1×qL1)) (fun b=>((()),(((),(),()),b.1,b.2.1,b.2.2.1,b.2.2.2,()))) (fun a=>yx a.2.2.1 (pe3 a) (pe4 a) (pe5 a)))
theorem qu2:MdlOK Tryz.prog 160 qmx:=jp Tryz.func160 rfl mg (.two (.two .z (.two .z (.two (.two (.two .z (.s 0)) (.two .z (.s 1))) .z))) (.s 4)) (sC qx4 (sC qx5 (sC qx8 s0)))
def qbg:Shp:=⟨[qi1],[qrw,qez,qez]⟩
abbrev mo:Ctx ((Bool×qL2×qL2)):=⟨142,tt,false,false,[true,false,false],i4 [(160,qpf),(160,qmx),(161,q9i)],jm [aq _ 142 [true,false,false] qlg (C:=(Int×Int×qL2×qL2)) (S:=(Int×qL2×qL2)) (fun x=>((x.1.2.1,(pe3 x.1),(pe3 x),(pe4 x)),((pe4 x.1),(pe5 x),(pe6 x)))) qlf (CE:=(Int×qL2×qL2)) (E:=(qL2×qL2)) (fun c e=>(((),c.1,(),()),(((),(),()),((),(),()),c.2.1,c.2.2,e.1,e.2,()))) (fun c=>(c.1,c.2.2.1,c.2.2.2)) (fun{R} c a nx dn rt=>gn c.1 c.2.1 c.2.2.1 c.2.2.2 a.1 a.2.1 a.2.2 nx dn rt),aq _ 142 [true,false,false] qli (C:=(Int×Int×Int×Int×Int×qL2×qL2)) (S:=(Int×qL2×qL2)) (fun x=>((x.1.2.1,(pe3 x.1),(pe4 x.1),(pe5 x.1),(pe6 x.1),(pe3 x),(pe4 x)),((pe7 x.1),(pe5 x),(pe6 x)))) qlh (CE:=(Int×Int×Int×qL2×qL2)) (E:=(qL2×qL2)) (fun c e=>(((),c.1,(),c.2.1,c.2.2.1,()),(((),(),()),((),(),()),(pe3 c),(pf4 c),e.1,e.2,()))) (fun c=>(c.1,c.2.2.1,(pe3 c),(pe5 c),(pf6 c))) (fun{R} c a nx dn rt=>eh c.1 c.2.1 c.2.2.1 (pe3 c) (pe4 c) (pe5 c) (pf6 c) a.1 a.2.1 a.2.2 nx dn rt),aq _ 142 [true,false,false] qlk (C:=(Int×Int×qL2×qL2)) (S:=(Int×qL2×qL2)) (fun x=>((x.1.2.1,(pe3 x.1),(pe3 x),(pe4 x)),((pe4 x.1),(pe5 x),(pe6 x)))) qlj (CE:=(qL2×qL2)) (E:=(qL2×qL2)) (fun c e=>(((),(),()),(((),(),()),((),(),()),c.1,c.2,e.1,e.2,()))) (fun c=>(c.2.2.1,c.2.2.2)) (fun{R} c a nx dn rt=>kb c.1 c.2.1 c.2.2.1 c.2.2.2 a.1 a.2.1 a.2.2 nx dn rt)],bx 142 tt [true,false,false] [.tmp 4] qbg (fun x=>(x.1.1,x.2.2.1,(pe3 x)))⟩
theorem mn:CtxM Tryz.prog mo:=jq fits a9 (mC qyd (mC qu2 (mC je1 m0)))
theorem qod:aw Tryz.prog mo 1 (lc 4 Tryz.f132 39319):=lp rfl mn (.two .z (.two .z (.two (.one (.two .z (.two (.d [0,1,3,7,0,31,63,0,255,511,0,1024,3072,7168,0,31744,64512,0,261120,523264,1023,2097151] [] []) (.two .z (.two (.d [0,0,2,0,8,24,56,0,248,504,0,0,2048,6144,14336,0,63488,129024,262142,0,524288,0,2097152,6291456,14680064,0,65011712,132120576,0,0,536870912,1610612736,3758096384,0,16642998272,33822867456,68719476734,137438953471] [37] []) .z))))) .z))) s0 (fun c a=>(((),c.1,(),c.2.1,c.2.2.1,(pe3 c),(pe4 c),a.1,()),(((),(),()),((),(),()),(pe5 c),(pf6 c),a.2.1,a.2.2,()))) (fun y=>((y.1.2.1,(pe3 y.1),(pe4 y.1),(pe3 y),(pe4 y)),((pe5 y),(pe6 y))))
theorem qoe:aw Tryz.prog mo 2 (lc 2 Tryz.f132 151):=lp rfl mn (.two .z (.two .z (.two (.one (.two .z (.two .z (.s 1)))) .z))) (sC qod s0) (fun c a=>(((),c.1,(),c.2.1,a.1,()),(((),(),()),((),(),()),c.2.2.1,c.2.2.2,a.2.1,a.2.2,()))) (fun y=>(((pe3 y),(pe4 y)),((pe5 y),(pe6 y))))
theorem qoc:aw Tryz.prog mo 0 (lc 0 Tryz.f132 75):=lp rfl mn (.two .z (.two .z (.two (.one (.two .z (.two .z (.two (.d [0,0,2,6,14,0,62,126,0,256,768,1792,0,7936,16128,32767] [15] []) .z)))) .z))) s0 (fun c a=>(((),c.1,(),c.2.1,a.1,()),(((),(),()),((),(),()),c.2.2.1,c.2.2.2,a.2.1,a.2.2,()))) (fun y=>((y.1.2.1,(pe3 y),(pe4 y)),((pe5 y),(pe6 y))))
abbrev qc9:Mdl:=(az (.cons (.ptr 0) (.cons (.d false qT0) .nil)) [qrw,qez,qez] [true,false,false] 1 qbg (B:=(Bool×qL2×qL2)) (fun b=>((b.1,()),(((),(),()),b.2.1,b.2.2,()))) (fun a=>nq a.1.2.1 a.2.2.1 (pe3 a)))
theorem qll:MdlOK Tryz.prog 132 qc9:=jp Tryz.func132 rfl mn (.two .z (.two .z (.two (.two .z (.s 0)) (.two (.two .z (.s 2)) .z)))) (sC qoc (sC qoe s0))
def qdx:Shp:=⟨[],[qez]⟩
abbrev sj:Mdl:=(az (.cons (.own 0) (.cons (.fn 110 .nil) .nil)) [qez] [true] 0 qdx (B:=qL2) (fun b=>((()),(b,()))) (fun a=>kz a.2.1))
theorem qcp:MdlOK Tryz.prog 108 sj:=jk5 110 (by decide)
def qjb:Shp:=⟨[qi1],[]⟩
abbrev q2a:Ctx (Bool):=⟨5,tt,false,false,[],i4 [],jm [],bx 5 tt [] [.tmp 2] qjb (fun x=>x.1.1)⟩
theorem q19:CtxM Tryz.prog q2a:=jq fits a9 m0
abbrev qmv:Mdl:=(az (.cons (.d false qT0) .nil) [] [] 1 qjb (B:=Bool) (fun b=>((b,()),(()))) (fun a=>qfz a.1.1))
theorem qur:MdlOK Tryz.prog 133 qmv:=jp Tryz.func133 rfl q19 .z s0
def ov:Shp:=⟨[q5m],[]⟩
abbrev pf:Ctx (Int):=⟨19,tt,false,false,[],i4 [(133,qmv)],jm [aq _ 19 [] qa3 (C:=(qL1×Int)) (S:=Int) (fun x=>((x.1.1,x.1.2.2.1),(pe3 x.1))) qa2 (CE:=Unit) (E:=Unit) (fun c e=>((()),(()))) (fun c=>()) (fun{R} c a nx dn rt=>d4 c.1 c.2 a nx dn rt)],bx 19 tt [] [.tmp 4] ov (fun x=>x.1.1)⟩
theorem pd:CtxM Tryz.prog pf:=jq fits a9 (mC qur m0)
theorem qcc:aw Tryz.prog pf 0 (lc 0 Tryz.f79 37):=lp rfl pd .z s0 (fun c a=>((c.1,(()),c.2,a,()),(()))) (fun y=>((),()))
abbrev pe:Mdl:=(az (.cons (.d false qT1) (.cons (.fn 133 .nil) .nil)) [] [] 1 ov (B:=Int) (fun b=>((b,()),(()))) (fun a=>j6 a.1.1))
theorem qa4:MdlOK Tryz.prog 79 pe:=jp Tryz.func79 rfl pd (.two .z (.two (.two .z (.s 0)) .z)) (sC qcc s0)
def l7:Shp:=⟨[qi1],[]⟩
abbrev qai:Ctx (Bool):=⟨9,tt,false,false,[],i4 [(79,pe)],jm [],bx 9 tt [] [.tmp 4] l7 (fun x=>x.1.1)⟩
theorem qah:CtxM Tryz.prog qai:=jq fits a9 (mC qa4 m0)
abbrev m3:Mdl:=(az (.cons (.d false qT1) (.cons (.fn 133 .nil) .nil)) [] [] 1 l7 (B:=Bool) (fun b=>((b,()),(()))) (fun a=>dz a.1.1))
theorem xn:MdlOK Tryz.prog 32 m3:=jp Tryz.func32 rfl qah .z s0
def qpe:Shp:=⟨[j9k,qxg],[]⟩
abbrev vz:Ctx ((qL2×Int)):=⟨83,tt,false,false,[],i4 [(45,fh),(132,qc9),(108,sj),(32,m3)],jm [aq _ 83 [] q12 (C:=(qL2×qL2×Int)) (S:=(Int×qL2×qL2)) (fun x=>((x.1.1,x.1.2.2.1,(pe3 x.1)),((pe4 x.1),x.2.2.1,(pe3 x)))) q11 (CE:=qL2) (E:=(qL2×qL2)) (fun c e=>((c,(),()),(((),(),()),e.1,e.2,()))) (fun c=>c.1) (fun{R} c a nx dn rt=>wu c.1 c.2.1 c.2.2 a.1 a.2.1 a.2.2 nx dn rt),aq _ 83 [] q14 (C:=Int) (S:=(Int×qL2×qL2)) (fun x=>(x.1.2.1,(x.1.2.2.1,x.2.2.1,(pe3 x)))) q13 (CE:=Unit) (E:=(qL2×qL2)) (fun c e=>(((),()),(((),(),()),e.1,e.2,()))) (fun c=>()) (fun{R} c a nx dn rt=>wv c a.1 a.2.1 a.2.2 nx dn rt),aq _ 83 [] q16 (C:=(qL2×qL2×Int)) (S:=Int) (fun x=>((x.1.1,x.1.2.1,x.1.2.2.1),(pe3 x.1))) q15 (CE:=qL2) (E:=Unit) (fun c e=>((c,()),(()))) (fun c=>c.1) (fun{R} c a nx dn rt=>wx c.1 c.2.1 c.2.2 a nx dn rt),wc _ 83 [] q18 (A:=(qL2×qL2)) (fun x=>(x.2.1.1,x.2.2.1)) q17 (CE:=Unit) (E:=Unit) (fun c e=>((()),(()))) (fun c=>()) (fun{R} c dn rt=>qd7 c.1 c.2 dn rt)],bx 83 tt [] [.tmp 2, .tmp 3] qpe (fun x=>(x.1.1,x.1.2.1))⟩
theorem vy:CtxM Tryz.prog vz:=jq fits a9 (mC ge (mC qll (mC qcp (mC xn m0))))
theorem q5b:aw Tryz.prog vz 2 (lc 4 Tryz.f95 2431):=lp rfl vy .z s0 (fun c a=>((c.1,c.2.1,c.2.2,a,()),(()))) (fun y=>(y.1.1,()))
theorem q5a:aw Tryz.prog vz 1 (lc 2 Tryz.f95 599):=lp rfl vy .z s0 (fun c a=>(((),c,a.1,()),(((),(),()),a.2.1,a.2.2,()))) (fun y=>((),(y.2.2.1,(pe3 y))))
theorem q49:aw Tryz.prog vz 0 (lc 0 Tryz.f95 75):=lp rfl vy (.two .z (.two .z (.two (.one (.two .z (.two .z (.two .z (.d [0,0,0,4,12,28,0,64,192,508,0,1024,3072,7168,0,16384,65532,131069,262141,524285,1048575,2097151,4194303] [9,16,19,22] []))))) .z))) s0 (fun c a=>((c.1,(),c.2.1,c.2.2,a.1,()),(((),(),()),a.2.1,a.2.2,()))) (fun y=>(y.1.1,(y.2.2.1,(pe3 y))))
theorem q5c:aw Tryz.prog vz 3 (jc Tryz.f95 31):=jn rfl vy (.two .z (.two .z (.two .z (.two (.two .z (.s 2)) .z)))) (sC q5b s0) (fun c=>(((),()),((c.1,(),()),c.2,()))) (fun y=>((),()))
abbrev qh2:Mdl:=(az (.cons (.d false qT2) .nil) [] [] 2 qpe (B:=(qL2×Int)) (fun b=>((b.1,b.2,()),(()))) (fun a=>yw a.1.1))
theorem qmw:MdlOK Tryz.prog 95 qh2:=jp Tryz.func95 rfl vy (.two .z (.two .z (.two (.two .z (.s 0)) (.two (.two .z (.two (.two .z (.s 1)) .z)) (.s 3))))) (sC q49 (sC q5a (sC q5c s0)))
def qry:Shp:=⟨[j9k,qxg],[]⟩
abbrev qld:Ctx ((qL2×Int)):=⟨43,tt,false,false,[],i4 [(41,jf),(93,qpa),(94,qle),(95,qh2)],jm [aq _ 43 [] q41 (C:=(Int×Int×Int×(List ae)×Int×Int×(List ae)×Int×Int×qL2)) (S:=(Int×qL1)) (fun x=>((x.1.2.2.1,(pe4 x.1),(pe5 x.1),(pe6 x.1),(pe7 x.1),x.2.1.1,x.2.1.2.1,x.2.1.2.2.1,(pe3 x.2.1),x.2.2.1),((pe8 x.1),(pe3 x)))) q40 (CE:=(Int×Int×Int×(List ae)×Int×Int×qL2)) (E:=qL1) (fun c e=>(((),(),(),c.1,c.2.1,()),((c.2.2.1,(pe3 c),(pe4 c),(pe5 c),()),(pf6 c),e,()))) (fun c=>(c.2.1,c.2.2.1,(pe5 c),(pe6 c),(pe7 c),(pe8 c),(pf9 c))) (fun{R} c a nx dn rt=>yq c.1 c.2.1 c.2.2.1 (pe3 c) (pe4 c) (pe5 c) (pe6 c) (pe7 c) (pe8 c) (pf9 c) a.1 a.2 nx dn rt),aq _ 43 [] q43 (C:=(Int×Int×(List ae)×Int×Int)) (S:=(Int×qL2)) (fun x=>((x.1.2.2.1,x.2.1.1,x.2.1.2.1,x.2.1.2.2.1,(pe3 x.2.1)),((pe3 x.1),x.2.2.1))) q42 (CE:=Unit) (E:=qL2) (fun c e=>(((),()),(e,()))) (fun c=>()) (fun{R} c a nx dn rt=>yr c.1 c.2.1 c.2.2.1 (pe3 c) (pf4 c) a.1 a.2 nx dn rt)],bx 43 tt [] [.tmp 2, .tmp 3] qry (fun x=>(x.1.1,x.1.2.1))⟩
theorem qlc:CtxM Tryz.prog qld:=jq fits a9 (mC gv (mC qr0 (mC qo8 (mC qmw m0))))
theorem q77:aw Tryz.prog qld 0 (lc 2 Tryz.f53 308015):=lp rfl qlc .z s0 (fun c a=>(((),(),c.1,(),c.2.1,c.2.2.1,(pe3 c),(pe4 c),a.1,()),(((pe5 c),(pe6 c),(pe7 c),(pe8 c),()),(pf9 c),a.2,()))) (fun y=>(((pe3 y.1),(pe4 y.1),y.2.1.1,y.2.1.2.1,y.2.1.2.2.1,(pe3 y.2.1),y.2.2.1),(pe3 y)))
theorem q78:aw Tryz.prog qld 1 (lc 0 Tryz.f53 303):=lp rfl qlc (.two .z (.two .z (.two (.one (.two .z (.two .z (.two (.two .z (.s 0)) .z)))) .z))) (sC q77 s0) (fun c a=>(((),(),c.1,a.1,()),((c.2.1,c.2.2.1,(pe3 c),(pf4 c),()),a.2,()))) (fun y=>((),y.2.1))
abbrev qun:Mdl:=(az (.cons (.d false bp.ty) .nil) [] [] 2 qry (B:=(qL2×Int)) (fun b=>((b.1,b.2,()),(()))) (fun a=>qhe a.1.1))
theorem q44:MdlOK Tryz.prog 53 qun:=jp Tryz.func53 rfl qlc (.two .z (.two .z (.two .z (.two .z (.two (.two .z (.s 1)) .z))))) (sC q78 s0)
def qfx:Shp:=⟨[j9k,qxg],[]⟩
abbrev yu:Ctx ((qL2×Int)):=⟨43,tt,false,false,[],i4 [(41,jf),(93,qpa),(94,qle),(95,qh2)],jm [aq _ 43 [] qrg (C:=((List ae)×Int×Int×Int×Int×(List ae)×Int×Int×qL2×ByteArray×qL1×qL1)) (S:=(Int×qL1)) (fun x=>(((pe4 x.1),(pe5 x.1),(pe6 x.1),(pe7 x.1),x.2.1.1,x.2.1.2.1,x.2.1.2.2.1,(pe3 x.2.1),x.2.2.1,(pe3 x).1,(pe3 x).2.1,(pe3 x).2.2.1),((pe8 x.1),(pe4 x)))) qrf (CE:=((List ae)×Int×Int×Int×(List ae)×Int×Int×qL2)) (E:=qL1) (fun c e=>(((),(),(),c.1,c.2.1,c.2.2.1,()),(((pe3 c),(pe4 c),(pe5 c),(pe6 c),()),(pf7 c),e,()))) (fun c=>(c.1,c.2.1,c.2.2.1,(pe4 c),(pe5 c),(pe6 c),(pe7 c),(pe8 c))) (fun{R} c a nx dn rt=>nm c.1 c.2.1 c.2.2.1 (pe3 c) (pe4 c) (pe5 c) (pe6 c) (pe7 c) (pe8 c) (pe9 c) (pe10 c) (pf11 c) a.1 a.2 nx dn rt),aq _ 43 [] qri (C:=((List ae)×Int×Int×(List ae)×Int×Int)) (S:=(Int×qL2)) (fun x=>((x.1.2.2.1,(pe3 x.1),x.2.1.1,x.2.1.2.1,x.2.1.2.2.1,(pe3 x.2.1)),((pe4 x.1),x.2.2.1))) qrh (CE:=Unit) (E:=qL2) (fun c e=>(((),()),(e,()))) (fun c=>()) (fun{R} c a nx dn rt=>np c.1 c.2.1 c.2.2.1 (pe3 c) (pe4 c) (pf5 c) a.1 a.2 nx dn rt)],bx 43 tt [] [.tmp 2, .tmp 3] qfx (fun x=>(x.1.1,x.1.2.1))⟩
theorem yt:CtxM Tryz.prog yu:=jq fits a9 (mC gv (mC qr0 (mC qo8 (mC qmw m0))))
theorem qta:aw Tryz.prog yu 0 (lc 2 Tryz.f54 308015):=lp rfl yt .z s0 (fun c a=>(((),(),(),(),c.1,c.2.1,c.2.2.1,(pe3 c),a.1,()),(((pe4 c),(pe5 c),(pe6 c),(pe7 c),()),(pe8 c),((pe9 c),(pe10 c),(pf11 c),()),a.2,()))) (fun y=>(((pe3 y.1),(pe4 y.1),(pe5 y.1),y.2.1.1,y.2.1.2.1,y.2.1.2.2.1,(pe3 y.2.1),y.2.2.1),(pe3 y)))
theorem qtb:aw Tryz.prog yu 1 (lc 0 Tryz.f54 303):=lp rfl yt (.two .z (.two .z (.two (.one (.two .z (.two .z (.two (.two .z (.s 0)) .z)))) .z))) (sC qta s0) (fun c a=>(((),(),c.1,c.2.1,a.1,()),((c.2.2.1,(pe3 c),(pe4 c),(pf5 c),()),a.2,()))) (fun y=>((),y.2.1))
abbrev qhf:Mdl:=(az (.cons (.d false bp.ty) .nil) [] [] 2 qfx (B:=(qL2×Int)) (fun b=>((b.1,b.2,()),(()))) (fun a=>uh a.1.1))
theorem qrj:MdlOK Tryz.prog 54 qhf:=jp Tryz.func54 rfl yt (.two .z (.two .z (.two .z (.two .z (.two (.two .z (.s 1)) .z))))) (sC qtb s0)
def qht:Shp:=⟨[j2j,qxg],[q3v]⟩
abbrev qb4:Ctx ((Int×qL2)):=⟨80,tt,false,false,[],i4 [(41,jf),(35,dl)],jm [aq _ 80 [] qtp (C:=(Int×Int×Int×(List ae)×Int×Int×(List ae)×Int×Int)) (S:=(Int×qL2)) (fun x=>((x.1.2.2.1,(pe3 x.1),(pe4 x.1),(pe5 x.1),(pe6 x.1),x.2.1.1,x.2.1.2.1,x.2.1.2.2.1,(pe3 x.2.1)),((pe7 x.1),x.2.2.1))) qto (CE:=(Int×Int×Int×(List ae)×Int×Int)) (E:=qL2) (fun c e=>(((),(),c.1,c.2.1,()),((c.2.2.1,(pe3 c),(pe4 c),(pf5 c),()),e,()))) (fun c=>(c.2.1,c.2.2.1,(pe5 c),(pe6 c),(pe7 c),(pf8 c))) (fun{R} c a nx dn rt=>qe c.1 c.2.1 c.2.2.1 (pe3 c) (pe4 c) (pe5 c) (pe6 c) (pe7 c) (pf8 c) a.1 a.2 nx dn rt),aq _ 80 [] qtr (C:=(Int×Int×(List ae)×Int×Int)) (S:=(Int×qL2)) (fun x=>((x.1.2.2.1,x.2.1.1,x.2.1.2.1,x.2.1.2.2.1,(pe3 x.2.1)),((pe3 x.1),x.2.2.1))) qtq (CE:=Unit) (E:=qL2) (fun c e=>(((),()),(e,()))) (fun c=>()) (fun{R} c a nx dn rt=>qf c.1 c.2.1 c.2.2.1 (pe3 c) (pf4 c) a.1 a.2 nx dn rt)],bx 80 tt [] [.tmp 2, .tmp 3] qht (fun x=>(x.1.2.1,x.2.1))⟩
theorem qb3:CtxM Tryz.prog qb4:=jq fits a9 (mC gv (mC d5 m0))
theorem qv1:aw Tryz.prog qb4 0 (lc 3 Tryz.f55 80279):=lp rfl qb3 .z s0 (fun c a=>(((),(),c.1,c.2.1,c.2.2.1,(pe3 c),(pe4 c),a.1,()),(((pe5 c),(pe6 c),(pe7 c),(pf8 c),()),a.2,()))) (fun y=>((y.1.2.2.1,(pe3 y.1),y.2.1.1,y.2.1.2.1,y.2.1.2.2.1,(pe3 y.2.1)),y.2.2.1))
theorem qv2:aw Tryz.prog qb4 1 (lc 1 Tryz.f55 151):=lp rfl qb3 (.two .z (.two .z (.two (.one (.two .z (.two .z (.two .z (.s 0))))) .z))) (sC qv1 s0) (fun c a=>(((),(),c.1,a.1,()),((c.2.1,c.2.2.1,(pe3 c),(pf4 c),()),a.2,()))) (fun y=>((),y.2.1))
abbrev qj4:Mdl:=(az (.cons (.d false bp.ty) .nil) [] [] 2 qht (B:=(Int×qL2)) (fun b=>(((),b.1,()),(b.2,()))) (fun a=>wz a.1.1))
theorem qts:MdlOK Tryz.prog 55 qj4:=jp Tryz.func55 rfl qb3 (.two .z (.two .z (.two .z (.two (.two .z (.s 1)) .z)))) (sC qv2 s0)
def qgi:Shp:=⟨[qi1],[]⟩
abbrev qvq:Ctx (Bool):=⟨9,tt,false,false,[],i4 [],jm [],bx 9 tt [] [.tmp 2] qgi (fun x=>x.1.1)⟩
theorem qvp:CtxM Tryz.prog qvq:=jq fits a9 m0
abbrev qhn:Mdl:=(az (.cons (.d false qT0) .nil) [] [] 1 qgi (B:=Bool) (fun b=>((b,()),(()))) (fun a=>us a.1.1))
theorem qrq:MdlOK Tryz.prog 162 qhn:=jp Tryz.func162 rfl qvp .z s0
def oz:Shp:=⟨[q5m],[]⟩
abbrev pn:Ctx (Int):=⟨19,tt,false,false,[],i4 [(162,qhn)],jm [aq _ 19 [] qa9 (C:=(qL1×Int)) (S:=Int) (fun x=>((x.1.1,x.1.2.2.1),(pe3 x.1))) qa8 (CE:=Unit) (E:=Unit) (fun c e=>((()),(()))) (fun c=>()) (fun{R} c a nx dn rt=>ci c.1 c.2 a nx dn rt)],bx 19 tt [] [.tmp 4] oz (fun x=>x.1.1)⟩
theorem pj:CtxM Tryz.prog pn:=jq fits a9 (mC qrq m0)
theorem qce:aw Tryz.prog pn 0 (lc 0 Tryz.f79 37):=lp rfl pj .z s0 (fun c a=>((c.1,(()),c.2,a,()),(()))) (fun y=>((),()))
abbrev pk:Mdl:=(az (.cons (.d false qT1) (.cons (.fn 162 .nil) .nil)) [] [] 1 oz (B:=Int) (fun b=>((b,()),(()))) (fun a=>j8 a.1.1))
theorem qba:MdlOK Tryz.prog 79 pk:=jp Tryz.func79 rfl pj (.two .z (.two (.two .z (.s 0)) .z)) (sC qce s0)
def l9:Shp:=⟨[qi1],[]⟩
abbrev qam:Ctx (Bool):=⟨9,tt,false,false,[],i4 [(79,pk)],jm [],bx 9 tt [] [.tmp 4] l9 (fun x=>x.1.1)⟩
theorem qal:CtxM Tryz.prog qam:=jq fits a9 (mC qba m0)
abbrev m5:Mdl:=(az (.cons (.d false qT1) (.cons (.fn 162 .nil) .nil)) [] [] 1 l9 (B:=Bool) (fun b=>((b,()),(()))) (fun a=>ie a.1.1))
theorem xp:MdlOK Tryz.prog 32 m5:=jp Tryz.func32 rfl qal .z s0
def qjz:Shp:=⟨[qi1],[]⟩
abbrev q2q:Ctx (Bool):=⟨6,tt,false,false,[],i4 [(32,m5)],jm [],bx 6 tt [] [.tmp 2] qjz (fun x=>x.1.1)⟩
theorem q2p:CtxM Tryz.prog q2q:=jq fits a9 (mC xp m0)
abbrev qnj:Mdl:=(az (.cons (.d false qT1) .nil) [] [] 1 qjz (B:=Bool) (fun b=>((b,()),(()))) (fun a=>zh a.1.1))
theorem qvr:MdlOK Tryz.prog 135 qnj:=jp Tryz.func135 rfl q2p .z s0
def qjy:Shp:=⟨[qi1],[]⟩
abbrev q2n:Ctx (Bool):=⟨16,tt,false,false,[],i4 [(135,qnj)],jm [],bx 16 tt [] [.tmp 3] qjy (fun x=>x.1.1)⟩
theorem q2m:CtxM Tryz.prog q2n:=jq fits a9 (mC qvr m0)
abbrev qni:Mdl:=(az (.cons (.d false qT1) (.cons (.rp false qT2) .nil)) [] [] 1 qjy (B:=Bool) (fun b=>((b,()),(()))) (fun a=>zg a.1.1 a.1.2.1))
theorem qvn:MdlOK Tryz.prog 134 qni:=jp Tryz.func134 rfl q2m .z s0
def ox:Shp:=⟨[q5m],[]⟩
abbrev pi:Ctx (Int):=⟨19,tt,false,false,[],i4 [(134,qni)],jm [aq _ 19 [] qa6 (C:=(qL2×qL2×Int)) (S:=Int) (fun x=>((x.1.1,x.1.2.1.1,x.1.2.2.1),(pe3 x.1))) qa5 (CE:=Unit) (E:=Unit) (fun c e=>((()),(()))) (fun c=>()) (fun{R} c a nx dn rt=>cg c.1 c.2.1 c.2.2 a nx dn rt)],bx 19 tt [] [.tmp 4] ox (fun x=>x.1.1)⟩
theorem pg:CtxM Tryz.prog pi:=jq fits a9 (mC qvn m0)
theorem qcd:aw Tryz.prog pi 0 (lc 0 Tryz.f111 37):=lp rfl pg .z s0 (fun c a=>((c.1,(c.2.1,()),c.2.2,a,()),(()))) (fun y=>((),()))
abbrev ph:Mdl:=(az (.cons (.d false qT2) (.cons (.fn 134 (.cons (.rp false qT2) .nil)) .nil)) [] [] 1 ox (B:=Int) (fun b=>((b,()),(()))) (fun a=>j7 a.1.1 a.1.2.1.1))
theorem qa7:MdlOK Tryz.prog 111 ph:=jp Tryz.func111 rfl pg (.two .z (.two (.two .z (.s 0)) .z)) (sC qcd s0)
def l8:Shp:=⟨[qi1],[]⟩
abbrev qak:Ctx (Bool):=⟨9,tt,false,false,[],i4 [(111,ph)],jm [],bx 9 tt [] [.tmp 4] l8 (fun x=>x.1.1)⟩
theorem qaj:CtxM Tryz.prog qak:=jq fits a9 (mC qa7 m0)
abbrev m4:Mdl:=(az (.cons (.d false qT2) (.cons (.fn 134 (.cons (.rp false qT2) .nil)) .nil)) [] [] 1 l8 (B:=Bool) (fun b=>((b,()),(()))) (fun a=>ic a.1.1 a.1.2.1.1))
theorem xo:MdlOK Tryz.prog 65 m4:=jp Tryz.func65 rfl qaj .z s0
def qpy:Shp:=⟨[qi1],[]⟩
abbrev q8e:Ctx (Bool):=⟨29,tt,false,false,[],i4 [(65,m4)],jm [],bx 29 tt [] [.tmp 2] qpy (fun x=>x.1.1)⟩
theorem q8d:CtxM Tryz.prog q8e:=jq fits a9 (mC xo m0)
abbrev qr6:Mdl:=(az (.cons (.d false qT2) .nil) [] [] 1 qpy (B:=Bool) (fun b=>((b,()),(()))) (fun a=>qfa a.1.1))
theorem q2o:MdlOK Tryz.prog 96 qr6:=jp Tryz.func96 rfl q8d .z s0
def qvo:Shp:=⟨[q5m],[]⟩
abbrev jfo:Ctx (Int):=⟨7,tt,false,false,[],i4 [],jm [],bx 7 tt [] [.tmp 2] qvo (fun x=>x.1.1)⟩
theorem jfn:CtxM Tryz.prog jfo:=jq fits a9 m0
abbrev q06:Mdl:=(az (.cons (.d false qT0) .nil) [] [] 1 qvo (B:=Int) (fun b=>((b,()),(()))) (fun a=>ql7 a.1.1))
theorem q8f:MdlOK Tryz.prog 136 q06:=jp Tryz.func136 rfl jfn .z s0
def qp2:Shp:=⟨[qi1],[]⟩
abbrev qiq:Ctx (Bool):=⟨33,tt,false,false,[],i4 [(136,q06)],jm [aq _ 33 [] q2v (C:=(Int×qL2×Int×Int×qL1×Int)) (S:=(Int×Int)) (fun x=>((x.1.1,x.1.2.2.1,(pe3 x.1),(pe4 x.1),(pe5 x.1),(pe6 x.1)),(x.1.2.1,(pe7 x.1)))) q2u (CE:=(Int×qL2×Int×Int)) (E:=Int) (fun c e=>((c.1,e,c.2.1,c.2.2.1,c.2.2.2,()),(()))) (fun c=>(c.1,c.2.1,c.2.2.1,(pe3 c))) (fun{R} c a nx dn rt=>wy c.1 c.2.1 c.2.2.1 (pe3 c) (pe4 c) (pf5 c) a.1 a.2 nx dn rt),aq _ 33 [] q2x (C:=(qL2×Int)) (S:=(Int×Int)) (fun x=>((x.1.2.1,x.1.2.2.1),(x.1.1,(pe3 x.1)))) q2w (CE:=Unit) (E:=Unit) (fun c e=>((()),(()))) (fun c=>()) (fun{R} c a nx dn rt=>rc c.1 c.2 a.1 a.2 nx dn rt)],bx 33 tt [] [.tmp 2] qp2 (fun x=>x.1.1)⟩
theorem qip:CtxM Tryz.prog qiq:=jq fits a9 (mC q8f m0)
theorem q56:aw Tryz.prog qiq 0 (lc 2 Tryz.f97 77003):=lp rfl qip .z s0 (fun c a=>((c.1,a.1,c.2.1,c.2.2.1,(pe3 c),(pe4 c),(pf5 c),a.2,()),(()))) (fun y=>((y.1.1,y.1.2.2.1,(pe3 y.1),(pe4 y.1)),y.1.2.1))
theorem q57:aw Tryz.prog qiq 1 (lc 0 Tryz.f97 75):=lp rfl qip (.two .z (.two .z (.two (.one (.two .z (.two .z (.two (.two .z (.s 0)) .z)))) .z))) (sC q56 s0) (fun c a=>((a.1,c.1,c.2,a.2,()),(()))) (fun y=>((),()))
abbrev qr7:Mdl:=(az (.cons (.d false qT2) .nil) [] [] 1 qp2 (B:=Bool) (fun b=>((b,()),(()))) (fun a=>qfb a.1.1))
theorem q2y:MdlOK Tryz.prog 97 qr7:=jp Tryz.func97 rfl qip (.two .z (.two .z (.two (.two .z (.s 1)) .z))) (sC q57 s0)
def x8:Shp:=⟨[],[qr8,q3v,qg1]⟩
abbrev qd:Ctx ((Int×Int×qL2×qL1)):=⟨72,tt,true,false,[true,true,true],i4 [],jm [aq _ 72 [true,true,true] qil (C:=(Int×Int×Nat×Int×Nat×Int×Int×Int×Int×Int×Int×qL1)) (S:=(Int×qL2)) (fun x=>((x.1.2.1,x.1.2.2.1,(pe3 x.1),(pe4 x.1),(pe5 x.1),(pe6 x.1),(pe8 x.1),(pe9 x.1),(pe10 x.1),x.2.1.2.2.1,(pe3 x.2.1),(pe3 x)),((pe11 x.1),x.2.2.1))) qik (CE:=(Int×Int×Nat×Int×Int×Int×Int×Int×qL1)) (E:=qL2) (fun c e=>(((),c.1,c.2.1,c.2.2.1,(pe3 c),(),(pe4 c),(pe5 c),()),(((),(),(pe6 c),(pe7 c),()),e,(pf8 c),()))) (fun c=>(c.1,c.2.1,c.2.2.1,(pe3 c),(pe6 c),(pe7 c),(pe9 c),(pe10 c),(pf11 c))) (fun{R} c a nx dn rt=>je c.1 c.2.1 c.2.2.1 (pe3 c) (pe4 c) (pe5 c) (pe6 c) (pe7 c) (pe8 c) (pe9 c) (pe10 c) (pf11 c) a.1 a.2 nx dn rt),aq _ 72 [true,true,true] qin (C:=(Int×Int×Nat×Int×Int×Int×Int×qL1)) (S:=(Int×qL2)) (fun x=>((x.1.2.1,x.1.2.2.1,(pe3 x.1),(pe4 x.1),(pe6 x.1),x.2.1.2.2.1,(pe3 x.2.1),(pe3 x)),((pe7 x.1),x.2.2.1))) qim (CE:=(Int×Int×Int×qL1)) (E:=qL2) (fun c e=>(((),c.1,()),(((),(),c.2.1,c.2.2.1,()),e,c.2.2.2,()))) (fun c=>((pe3 c),(pe5 c),(pe6 c),(pf7 c))) (fun{R} c a nx dn rt=>fm c.1 c.2.1 c.2.2.1 (pe3 c) (pe4 c) (pe5 c) (pe6 c) (pf7 c) a.1 a.2 nx dn rt)],bx 72 tt [true,true,true] [] x8 (fun x=>(x.2.1.2.2.1,(pe3 x.2.1),x.2.2.1,(pe3 x)))⟩
theorem qc:CtxM Tryz.prog qd:=jq fits a9 m0
theorem qj0:aw Tryz.prog qd 0 (lc 2 Tryz.f137 81099):=lp rfl qc (.two .z (.two .z (.two (.one (.two .z (.d [0,0,0,0,0,24,56,124,0,0,0,1536,3584,7936,16380,0,32768,98304,229376,524284,1048575,2097151] [21] []))) .z))) s0 (fun c a=>(((),c.1,c.2.1,c.2.2.1,(pe3 c),(pe4 c),(pe5 c),(),(pe6 c),(pe7 c),(pe8 c),a.1,()),(((),(),(pe9 c),(pe10 c),()),a.2,(pf11 c),()))) (fun y=>((y.1.2.1,y.1.2.2.1,(pe3 y.1),(pe4 y.1),(pe6 y.1),(pe7 y.1),y.2.1.2.2.1,(pe3 y.2.1),(pe3 y)),y.2.2.1))
theorem qj1:aw Tryz.prog qd 1 (lc 0 Tryz.f137 75):=lp rfl qc (.two .z (.two .z (.two (.one (.two .z (.two .z (.two .z (.two .z (.s 0)))))) .z))) (sC qj0 s0) (fun c a=>(((),c.1,c.2.1,c.2.2.1,(pe3 c),(),(pe4 c),a.1,()),(((),(),(pe5 c),(pe6 c),()),a.2,(pf7 c),()))) (fun y=>((y.1.2.1,y.2.1.2.2.1,(pe3 y.2.1),(pe3 y)),y.2.2.1))
abbrev zm:Mdl:=(az (.cons (.ptr 0) (.cons (.d false qT0) (.cons (.d false qT0) .nil))) [.cs 114 4 1 (.cons (.own 1) (.cons (.own 2) (.cons (.d false qT0) (.cons (.d false qT0) .nil)))),q3v,qg1] [true,true,true] 0 x8 (B:=(Int×Int×qL2×qL1)) (fun b=>((()),(((),(),b.1,b.2.1,()),b.2.2.1,b.2.2.2,()))) (fun a=>iv a.1.2.1 a.1.2.2.1 a.2.1.2.2.1 (pe3 a.2.1) a.2.2.1 (pe3 a)))
theorem qio:MdlOK Tryz.prog 137 zm:=jp Tryz.func137 rfl qc (.two .z (.two .z (.two (.two .z (.s 1)) .z))) (sC qj1 s0)
def qnn:Shp:=⟨[(0, .d true db.ty)],[]⟩
abbrev zl:Ctx (db):=⟨102,tt,true,false,[],i4 [(45,fh),(137,zm)],jm [aq _ 102 [] qy6 (C:=(Int×qL2×Int×qL2×qL1×Int×Int×Int×Int×qL1)) (S:=(Int×qL2)) (fun x=>((x.1.1,(pe3 x.1),(pe4 x.1),x.2.1.1,x.2.1.2.1,x.2.1.2.2.1,(pe3 x.2.1),x.2.2.1.2.2.1,(pe3 x.2.2.1),(pe4 x)),((pe5 x.1),(pe3 x)))) qy5 (CE:=(Int×qL2×qL1×Int×Int×Int×Int×qL1)) (E:=qL2) (fun c e=>((c.1,(),(),()),((c.2.1,c.2.2.1,(pe3 c),(pe4 c),()),((),(),(pe5 c),(pe6 c),()),e,(pf7 c),()))) (fun c=>(c.1,(pe3 c),(pe4 c),(pe5 c),(pe6 c),(pe7 c),(pe8 c),(pf9 c))) (fun{R} c a nx dn rt=>ut c.1 c.2.1 c.2.2.1 (pe3 c) (pe4 c) (pe5 c) (pe6 c) (pe7 c) (pe8 c) (pf9 c) a.1 a.2 nx dn rt),aq _ 102 [] qy8 (C:=(Int×Int×Int×qL2×qL1×Int×Int×Int×Int×qL2×qL1)) (S:=Int) (fun x=>((x.1.1,(pe3 x.1),(pe4 x.1),x.2.1.1,x.2.1.2.1,x.2.1.2.2.1,(pe3 x.2.1),x.2.2.1.2.2.1,(pe3 x.2.2.1),(pe3 x),(pe4 x)),(pe5 x.1))) qy7 (CE:=(Int×Int×Int×qL2×qL1×Int×Int×Int×Int×qL2×qL1)) (E:=Int) (fun c e=>((c.1,(),(),c.2.1,c.2.2.1,e,()),(((pe3 c),(pe4 c),(pe5 c),(pe6 c),()),((),(),(pe7 c),(pe8 c),()),(pe9 c),(pf10 c),()))) (fun c=>(c.1,c.2.1,c.2.2.1,(pe3 c),(pe4 c),(pe5 c),(pe6 c),(pe7 c),(pe8 c),(pe9 c),(pf10 c))) (fun{R} c a nx dn rt=>oh c.1 c.2.1 c.2.2.1 (pe3 c) (pe4 c) (pe5 c) (pe6 c) (pe7 c) (pe8 c) (pe9 c) (pf10 c) a nx dn rt),aq _ 102 [] qza (C:=(Int×qL2×qL1×Int×Int)) (S:=(Int×Int×Int×qL2×qL1)) (fun x=>((x.1.1,x.2.1.1,x.2.1.2.1,x.2.1.2.2.1,(pe3 x.2.1)),((pe3 x.1),x.2.2.1.2.2.1,(pe3 x.2.2.1),(pe3 x),(pe4 x)))) qy9 (CE:=(qL2×qL1×Int×Int)) (E:=(Int×Int×qL2×qL1)) (fun c e=>(((),(),()),((c.1,c.2.1,c.2.2.1,c.2.2.2,()),((),(),e.1,e.2.1,()),e.2.2.1,e.2.2.2,()))) (fun c=>(c.2.1,c.2.2.1,(pe3 c),(pf4 c))) (fun{R} c a nx dn rt=>f8 c.1 c.2.1 c.2.2.1 (pe3 c) (pf4 c) a.1 a.2.1 a.2.2.1 (pe3 a) (pf4 a) nx dn rt)],bx 102 tt [] [.cell 4 114] qnn (fun x=>x.1.1)⟩
theorem zk:CtxM Tryz.prog zl:=jq fits a9 (mC ge (mC qio m0))
theorem q2s:aw Tryz.prog zl 1 (lc 4 Tryz.f98 35991):=lp rfl zk .z s0 (fun c a=>((c.1,(),(),c.2.1,c.2.2.1,a,()),(((pe3 c),(pe4 c),(pe5 c),(pe6 c),()),((),(),(pe7 c),(pe8 c),()),(pe9 c),(pf10 c),()))) (fun y=>((y.1.1,(pe3 y.1),(pe4 y.1),y.2.1.1,y.2.1.2.1,y.2.1.2.2.1,(pe3 y.2.1),y.2.2.1.2.2.1,(pe3 y.2.2.1),(pe3 y),(pe4 y)),(pe5 y.1)))
theorem q2t:aw Tryz.prog zl 2 (lc 2 Tryz.f98 151):=lp rfl zk (.two .z (.two (.one (.two .z (.two .z (.two (.s 1) (.two .z (.two (.two .z (.two (.two (.d [0,1,0,0,8,0,0,64,0,448,960,0,2048,0,14336,30720,65503,131039,262143,524287] [17,19] []) .z) .z)) .z)))))) .z)) (sC q2s s0) (fun c a=>((c.1,(),(),a.1,()),((c.2.1,c.2.2.1,(pe3 c),(pf4 c),()),((),(),a.2.1,a.2.2.1,()),(pe3 a),(pf4 a),()))) (fun y=>((y.2.1.1,y.2.1.2.1,y.2.1.2.2.1,(pe3 y.2.1)),(y.2.2.1.2.2.1,(pe3 y.2.2.1),(pe3 y),(pe4 y))))
theorem q2r:aw Tryz.prog zl 0 (lc 0 Tryz.f98 75):=lp rfl zk (.two .z (.two .z (.two (.one (.two .z (.d [0,1,0,4,12,31,63,127] [5,7] []))) .z))) s0 (fun c a=>((c.1,(),(),c.2.1,c.2.2.1,a.1,()),(((pe3 c),(pe4 c),(pe5 c),(pe6 c),()),((),(),(pe7 c),(pe8 c),()),a.2,(pf9 c),()))) (fun y=>((y.1.1,y.2.1.1,y.2.1.2.1,y.2.1.2.2.1,(pe3 y.2.1),y.2.2.1.2.2.1,(pe3 y.2.2.1),(pe4 y)),(pe3 y)))
abbrev qpz:Mdl:=(az (.cons (.d false qT2) (.cons (.d false qT0) .nil)) [] [] 1 qnn (B:=db) (fun b=>((b,()),(()))) (fun a=>qcx a.1.1 a.1.2.1))
theorem qzb:MdlOK Tryz.prog 98 qpz:=jp Tryz.func98 rfl zk (.two .z (.two .z (.two (.two .z (.s 0)) (.two (.two .z (.s 2)) .z)))) (sC q2r (sC q2t s0))
def qr5:Shp:=⟨[q5m,qxg],[]⟩
abbrev jcl:Ctx ((Int×Int)):=⟨20,tt,false,false,[],i4 [(96,qr6),(97,qr7),(98,qpz)],jm [],bx 20 tt [] [.tmp 2, .tmp 3] qr5 (fun x=>(x.1.1,x.1.2.1))⟩
theorem jck:CtxM Tryz.prog jcl:=jq fits a9 (mC q2o (mC q2y (mC qzb m0)))
abbrev qvm:Mdl:=(az (.cons (.d false qT2) .nil) [] [] 2 qr5 (B:=(Int×Int)) (fun b=>((b.1,b.2,()),(()))) (fun a=>x5 a.1.1))
theorem q55:MdlOK Tryz.prog 56 qvm:=jp Tryz.func56 rfl jck .z s0
def zc:Shp:=⟨[qi1],[]⟩
abbrev qon:Ctx (Bool):=⟨15,tt,false,false,[],i4 [],jm [],bx 15 tt [] [.tmp 3] zc (fun x=>x.1.1)⟩
theorem qom:CtxM Tryz.prog qon:=jq fits a9 m0
abbrev qbl:Mdl:=(az (.cons (.d false qT1) (.cons (.rp false qT0) .nil)) [] [] 1 zc (B:=Bool) (fun b=>((b,()),(()))) (fun a=>mr a.1.1 a.1.2.1))
theorem qjo:MdlOK Tryz.prog 99 qbl:=jp Tryz.func99 rfl qom .z s0
def px:Shp:=⟨[q5m],[]⟩
abbrev se:Ctx (Int):=⟨19,tt,false,false,[],i4 [(99,qbl)],jm [aq _ 19 [] qcm (C:=(qL2×Int×Int)) (S:=Int) (fun x=>((x.1.1,x.1.2.1.1,x.1.2.2.1),(pe3 x.1))) qcl (CE:=Unit) (E:=Unit) (fun c e=>((()),(()))) (fun c=>()) (fun{R} c a nx dn rt=>fa c.1 c.2.1 c.2.2 a nx dn rt)],bx 19 tt [] [.tmp 4] px (fun x=>x.1.1)⟩
theorem ry:CtxM Tryz.prog se:=jq fits a9 (mC qjo m0)
theorem qdv:aw Tryz.prog se 0 (lc 0 Tryz.f111 37):=lp rfl ry .z s0 (fun c a=>((c.1,(c.2.1,()),c.2.2,a,()),(()))) (fun y=>((),()))
abbrev rz:Mdl:=(az (.cons (.d false qT2) (.cons (.fn 99 (.cons (.rp false qT0) .nil)) .nil)) [] [] 1 px (B:=Int) (fun b=>((b,()),(()))) (fun a=>kw a.1.1 a.1.2.1.1))
theorem qcn:MdlOK Tryz.prog 111 rz:=jp Tryz.func111 rfl ry (.two .z (.two (.two .z (.s 0)) .z)) (sC qdv s0)
def m8:Shp:=⟨[qi1],[]⟩
abbrev qay:Ctx (Bool):=⟨9,tt,false,false,[],i4 [(111,rz)],jm [],bx 9 tt [] [.tmp 4] m8 (fun x=>x.1.1)⟩
theorem qax:CtxM Tryz.prog qay:=jq fits a9 (mC qcn m0)
abbrev ni:Mdl:=(az (.cons (.d false qT2) (.cons (.fn 99 (.cons (.rp false qT0) .nil)) .nil)) [] [] 1 m8 (B:=Bool) (fun b=>((b,()),(()))) (fun a=>er a.1.1 a.1.2.1.1))
theorem yl:MdlOK Tryz.prog 65 ni:=jp Tryz.func65 rfl qax .z s0
def qdg:Shp:=⟨[qi1],[]⟩
abbrev qer:Ctx (Bool):=⟨15,tt,false,false,[],i4 [(65,ni)],jm [aq _ 15 [] qol (C:=(qL2×Int)) (S:=Int) (fun x=>((x.1.1,x.1.2.1),x.1.2.2.1)) qok (CE:=Unit) (E:=Unit) (fun c e=>((()),(()))) (fun c=>()) (fun{R} c a nx dn rt=>iq c.1 c.2 a nx dn rt)],bx 15 tt [] [.tmp 4] qdg (fun x=>x.1.1)⟩
theorem qeq:CtxM Tryz.prog qer:=jq fits a9 (mC yl m0)
theorem qpk:aw Tryz.prog qer 0 (lc 0 Tryz.f58 37):=lp rfl qeq .z s0 (fun c a=>((c.1,c.2,a,()),(()))) (fun y=>((),()))
abbrev vj:Mdl:=(az (.cons (.d false qT2) (.cons (.d false qT0) .nil)) [] [] 1 qdg (B:=Bool) (fun b=>((b,()),(()))) (fun a=>fx a.1.1 a.1.2.1))
theorem qbm:MdlOK Tryz.prog 58 vj:=jp Tryz.func58 rfl qeq (.two .z (.two (.two .z (.s 0)) .z)) (sC qpk s0)
def u5:Shp:=⟨[qi1],[]⟩
abbrev qh4:Ctx (Bool):=⟨7,tt,false,false,[],i4 [(58,vj)],jm [],bx 7 tt [] [.tmp 2] u5 (fun x=>x.1.1)⟩
theorem qh3:CtxM Tryz.prog qh4:=jq fits a9 (mC qbm m0)
abbrev v5:Mdl:=(az (.cons (.rp false qT2) (.cons (.rp false bp.ty) .nil)) [] [] 1 u5 (B:=Bool) (fun b=>((b,()),(()))) (fun a=>ny a.1.1 a.1.2.1))
theorem qf6:MdlOK Tryz.prog 57 v5:=jp Tryz.func57 rfl qh3 .z s0
def qu:Shp:=⟨[qi1],[]⟩
abbrev qe3:Ctx (Bool):=⟨6,tt,false,false,[],i4 [(57,v5)],jm [],bx 6 tt [] [.tmp 2] qu (fun x=>x.1.1)⟩
theorem qe2:CtxM Tryz.prog qe3:=jq fits a9 (mC qf6 m0)
abbrev s8:Mdl:=(az (.cons (.fn 57 (.cons (.rp false qT2) (.cons (.rp false bp.ty) .nil))) .nil) [] [] 1 qu (B:=Bool) (fun b=>((b,()),(()))) (fun a=>ld a.1.1.1 a.1.1.2.1))
theorem qdc:MdlOK Tryz.prog 62 s8:=jp Tryz.func62 rfl qe2 .z s0
def u6:Shp:=⟨[qi1],[]⟩
abbrev qh6:Ctx (Bool):=⟨8,tt,false,false,[],i4 [(58,vj)],jm [],bx 8 tt [] [.tmp 2] u6 (fun x=>x.1.1)⟩
theorem qh5:CtxM Tryz.prog qh6:=jq fits a9 (mC qbm m0)
abbrev v6:Mdl:=(az (.cons (.rp false qT2) (.cons (.rp false bp.ty) .nil)) [] [] 1 u6 (B:=Bool) (fun b=>((b,()),(()))) (fun a=>n4 a.1.1 a.1.2.1))
theorem qf7:MdlOK Tryz.prog 59 v6:=jp Tryz.func59 rfl qh5 .z s0
def qv:Shp:=⟨[qi1],[]⟩
abbrev qe5:Ctx (Bool):=⟨6,tt,false,false,[],i4 [(59,v6)],jm [],bx 6 tt [] [.tmp 2] qv (fun x=>x.1.1)⟩
theorem qe4:CtxM Tryz.prog qe5:=jq fits a9 (mC qf7 m0)
abbrev s9:Mdl:=(az (.cons (.fn 59 (.cons (.rp false qT2) (.cons (.rp false bp.ty) .nil))) .nil) [] [] 1 qv (B:=Bool) (fun b=>((b,()),(()))) (fun a=>lg a.1.1.1 a.1.1.2.1))
theorem qdd:MdlOK Tryz.prog 62 s9:=jp Tryz.func62 rfl qe4 .z s0
def u7:Shp:=⟨[qi1],[]⟩
abbrev qh8:Ctx (Bool):=⟨9,tt,false,false,[],i4 [(43,t6)],jm [],bx 9 tt [] [.tmp 2] u7 (fun x=>x.1.1)⟩
theorem qh7:CtxM Tryz.prog qh8:=jq fits a9 (mC y8 m0)
abbrev v7:Mdl:=(az (.cons (.rp false qT0) (.cons (.rp false bp.ty) .nil)) [] [] 1 u7 (B:=Bool) (fun b=>((b,()),(()))) (fun a=>n5 a.1.1 a.1.2.1))
theorem qf8:MdlOK Tryz.prog 60 v7:=jp Tryz.func60 rfl qh7 (.two .z (.two (.d [0,0,2,6,14,31,63] [] []) .z)) s0
def qw:Shp:=⟨[qi1],[]⟩
abbrev qe7:Ctx (Bool):=⟨6,tt,false,false,[],i4 [(60,v7)],jm [],bx 6 tt [] [.tmp 2] qw (fun x=>x.1.1)⟩
theorem qe6:CtxM Tryz.prog qe7:=jq fits a9 (mC qf8 m0)
abbrev ta:Mdl:=(az (.cons (.fn 60 (.cons (.rp false qT0) (.cons (.rp false bp.ty) .nil))) .nil) [] [] 1 qw (B:=Bool) (fun b=>((b,()),(()))) (fun a=>lh a.1.1.1 a.1.1.2.1))
theorem qde:MdlOK Tryz.prog 62 ta:=jp Tryz.func62 rfl qe6 .z s0
def d6:Shp:=⟨[q5m],[qxm,jrw,qhy,jrw,j8q]⟩
abbrev l4:Ctx ((Int×qL2×Int×(List ae)×Int×Int×qL2×Int)):=⟨19,tt,false,false,[true,true,true,true,true],i4 [(62,s8),(62,s9),(62,ta)],jm [],bx 19 tt [true,true,true,true,true] [.tmp 4] d6 (fun x=>(x.1.1,x.2.2.1.1,(pe3 x).1,(pe3 x).2.1,(pe3 x).2.2.1,(pe3 (pe3 x)),(pe4 x).1,(pe5 x).1))⟩
theorem l3:CtxM Tryz.prog l4:=jq fits a9 (mC qdc (mC qdd (mC qde m0)))
abbrev ed:Mdl:=(az (.cons (.own 0) (.cons (.fn 62 .nil) .nil)) [qxm,jrw, .cs 24 4 1 (.cons (.d false qT0) (.cons (.d true (.slice ae.ty)) (.cons (.d false qT0) (.cons (.d false qT0) .nil)))),jrw, .cs 3 1 1 (.cons (.d false qT0) .nil)] [true,true,true,true,true] 1 d6 (B:=(Int×qL2×Int×(List ae)×Int×Int×qL2×Int)) (fun b=>((b.1,()),((((),(),()),((),(),()),((),(),()),()),(b.2.1,()),(b.2.2.1,(pe3 b),(pe4 b),(pe5 b),()),((pe6 b),()),((pf7 b),()),()))) (fun a=>cw a.2.2.1.1 (pe3 a).1 (pe3 a).2.1 (pe3 a).2.2.1 (pe3 (pe3 a)) (pe4 a).1 (pe5 a).1))
theorem la:MdlOK Tryz.prog 100 ed:=jp Tryz.func100 rfl l3 (.two .z (.two (.two .z (.one (.u 4 .z))) .z)) s0
def dq:Shp:=⟨[qi1],[qxm,jrw,qhy,jrw,j8q]⟩
abbrev ko:Ctx ((Bool×qL2×Int×(List ae)×Int×Int×qL2×Int)):=⟨9,tt,false,false,[true,true,true,true,true],i4 [(100,ed)],jm [],bx 9 tt [true,true,true,true,true] [.tmp 4] dq (fun x=>(x.1.1,x.2.2.1.1,(pe3 x).1,(pe3 x).2.1,(pe3 x).2.2.1,(pe3 (pe3 x)),(pe4 x).1,(pe5 x).1))⟩
theorem km:CtxM Tryz.prog ko:=jq fits a9 (mC la m0)
abbrev du:Mdl:=(az (.cons (.own 0) (.cons (.fn 62 .nil) .nil)) [qxm,jrw, .cs 24 4 1 (.cons (.d false qT0) (.cons (.d true (.slice ae.ty)) (.cons (.d false qT0) (.cons (.d false qT0) .nil)))),jrw, .cs 3 1 1 (.cons (.d false qT0) .nil)] [true,true,true,true,true] 1 dq (B:=(Bool×qL2×Int×(List ae)×Int×Int×qL2×Int)) (fun b=>((b.1,()),((((),(),()),((),(),()),((),(),()),()),(b.2.1,()),(b.2.2.1,(pe3 b),(pe4 b),(pe5 b),()),((pe6 b),()),((pf7 b),()),()))) (fun a=>bq a.2.2.1.1 (pe3 a).1 (pe3 a).2.1 (pe3 a).2.2.1 (pe3 (pe3 a)) (pe4 a).1 (pe5 a).1))
theorem j4:MdlOK Tryz.prog 61 du:=jp Tryz.func61 rfl km .z s0
def xw:Shp:=⟨[qi1,qxg],[]⟩
abbrev qlo:Ctx ((Bool×Int)):=⟨61,tt,false,false,[],i4 [(41,jf),(42,qa),(52,qbk),(53,qun),(54,qhf),(55,qj4),(56,qvm),(61,du)],jm [],bx 61 tt [] [.tmp 2, .tmp 3] xw (fun x=>(x.1.1,x.1.2.1))⟩
theorem qln:CtxM Tryz.prog qlo:=jq fits a9 (mC gv (mC t7 (mC qjn (mC q44 (mC qrj (mC qts (mC q55 (mC j4 m0))))))))
abbrev p8:Mdl:=(az (.cons (.d true bp.ty) .nil) [] [] 2 xw (B:=(Bool×Int)) (fun b=>((b.1,b.2,()),(()))) (fun a=>fg a.1.1))
theorem v8:MdlOK Tryz.prog 19 p8:=jp Tryz.func19 rfl qln .z s0
def qqu:Shp:=⟨[(0, .d true (.int .u32))],[]⟩
abbrev qs2:Ctx (Int):=⟨18,tt,false,false,[],i4 [],jm [aq _ 18 [] q3p (C:=(qL1×Int)) (S:=(Int×Int)) (fun x=>((x.1.2.1,x.1.2.2.1),(x.1.1,(pe3 x.1)))) q3o (CE:=Unit) (E:=Int) (fun c e=>((e,()),(()))) (fun c=>()) (fun{R} c a nx dn rt=>xc c.1 c.2 a.1 a.2 nx dn rt)],bx 18 tt [] [.tmp 2] qqu (fun x=>x.1.1)⟩
theorem qs0:CtxM Tryz.prog qs2:=jq fits a9 m0
theorem q7o:aw Tryz.prog qs2 0 (lc 0 Tryz.f146 75):=lp rfl qs0 .z s0 (fun c a=>((a.1,c.1,c.2,a.2,()),(()))) (fun y=>((),y.1.1))
abbrev qs1:Mdl:=(az (.cons (.d false qT1) .nil) [] [] 1 qqu (B:=Int) (fun b=>((b,()),(()))) (fun a=>qab a.1.1))
theorem q3q:MdlOK Tryz.prog 146 qs1:=jp Tryz.func146 rfl qs0 (.two .z (.two .z (.two (.two .z (.s 0)) .z))) (sC q7o s0)
def qkl:Shp:=⟨[j71],[qxv]⟩
abbrev rj:Ctx (qL1):=⟨106,tt,false,false,[],i4 [(146,qs1)],jm [aq _ 106 [] qw1 (C:=((List ae)×Int×Int×(List ae)×Int×Int)) (S:=(Int×qL1×qL1)) (fun x=>(((pe3 x.1),(pe4 x.1),x.2.1.1,x.2.1.2.1,x.2.1.2.2.1,(pe3 x.2.1)),((pe5 x.1),x.2.2.1,(pe3 x)))) qw0 (CE:=(Int×(List ae)×Int×Int)) (E:=(qL1×qL1)) (fun c e=>(((),(),(),()),((c.1,c.2.1,c.2.2.1,c.2.2.2,()),e.1,e.2,()))) (fun c=>(c.2.2.1,(pe3 c),(pe4 c),(pf5 c))) (fun{R} c a nx dn rt=>tm c.1 c.2.1 c.2.2.1 (pe3 c) (pe4 c) (pf5 c) a.1 a.2.1 a.2.2 nx dn rt),aq _ 106 [] qw3 (C:=(qL1×qL1×Int×Int×Int×(List ae)×Int×Int×qL1)) (S:=(Int×(List Bool))) (fun x=>((x.1.2.1,x.1.2.2.1,(pe5 x.1),(pe6 x.1),x.2.1.1,x.2.1.2.1,x.2.1.2.2.1,(pe3 x.2.1),(pe3 x)),((pe7 x.1),x.2.2.1))) qw2 (CE:=(qL1×qL1×Int×Int×(List ae)×Int×Int×qL1)) (E:=(List Bool)) (fun c e=>(((),c.1,c.2.1,(),(),c.2.2.1,()),(((pe3 c),(pe4 c),(pe5 c),(pe6 c),()),e,(pf7 c),()))) (fun c=>(c.1,c.2.1,c.2.2.1,(pe4 c),(pe5 c),(pe6 c),(pe7 c),(pf8 c))) (fun{R} c a nx dn rt=>jv c.1 c.2.1 c.2.2.1 (pe3 c) (pe4 c) (pe5 c) (pe6 c) (pe7 c) (pf8 c) a.1 a.2 nx dn rt),aq _ 106 [] qw5 (C:=(qL1×qL1×Int×Int×Int×(List ae)×Int×Int×(List Bool)×qL1)) (S:=(Bool×Int)) (fun x=>((x.1.2.1,x.1.2.2.1,(pe5 x.1),(pe7 x.1),x.2.1.1,x.2.1.2.1,x.2.1.2.2.1,(pe3 x.2.1),x.2.2.1,(pe3 x)),((pe6 x.1),(pe8 x.1)))) qw4 (CE:=(qL1×qL1×Int×Int×(List ae)×Int×Int×(List Bool)×qL1)) (E:=Bool) (fun c e=>(((),c.1,c.2.1,(),(),c.2.2.1,e,()),(((pe3 c),(pe4 c),(pe5 c),(pe6 c),()),(pe7 c),(pf8 c),()))) (fun c=>(c.1,c.2.1,c.2.2.1,(pe4 c),(pe5 c),(pe6 c),(pe7 c),(pe8 c),(pf9 c))) (fun{R} c a nx dn rt=>tn c.1 c.2.1 c.2.2.1 (pe3 c) (pe4 c) (pe5 c) (pe6 c) (pe7 c) (pe8 c) (pf9 c) a.1 a.2 nx dn rt),aq _ 106 [] qw7 (C:=(qL1×qL1×Int×(List ae)×Int×Int)) (S:=(Int×(List Bool)×qL1)) (fun x=>((x.1.2.1,x.1.2.2.1,x.2.1.1,x.2.1.2.1,x.2.1.2.2.1,(pe3 x.2.1)),((pe5 x.1),x.2.2.1,(pe3 x)))) qw6 (CE:=Unit) (E:=qL1) (fun c e=>(((),()),(e,()))) (fun c=>()) (fun{R} c a nx dn rt=>jw c.1 c.2.1 c.2.2.1 (pe3 c) (pe4 c) (pf5 c) a.1 a.2.1 a.2.2 nx dn rt)],bx 106 tt [] [.tmp 2] qkl (fun x=>x.2.1)⟩
theorem ri:CtxM Tryz.prog rj:=jq fits a9 (mC q3q m0)
theorem q0l:aw Tryz.prog rj 2 (lc 6 Tryz.f107 619103):=lp rfl ri .z s0 (fun c a=>(((),c.1,c.2.1,(),(),c.2.2.1,a.1,(pe3 c),a.2,()),(((pe4 c),(pe5 c),(pe6 c),(pe7 c),()),(pe8 c),(pf9 c),()))) (fun y=>((y.1.2.1,y.1.2.2.1,(pe5 y.1),y.2.1.1,y.2.1.2.1,y.2.1.2.2.1,(pe3 y.2.1),y.2.2.1,(pe3 y)),(pe6 y.1)))
theorem q0k:aw Tryz.prog rj 1 (lc 4 Tryz.f107 74335):=lp rfl ri .z s0 (fun c a=>(((),c.1,c.2.1,(),(),c.2.2.1,(pe3 c),a.1,()),(((pe4 c),(pe5 c),(pe6 c),(pe7 c),()),a.2,(pf8 c),()))) (fun y=>((y.1.2.1,y.1.2.2.1,(pe5 y.1),y.2.1.1,y.2.1.2.1,y.2.1.2.2.1,(pe3 y.2.1),(pe3 y)),y.2.2.1))
theorem q0m:aw Tryz.prog rj 3 (lc 2 Tryz.f107 607):=lp rfl ri (.two .z (.two (.one (.two (.two .z (.s 1)) (.two .z (.two .z (.two (.two .z (.s 2)) .z))))) .z)) (sC q0k (sC q0l s0)) (fun c a=>(((),c.1,c.2.1,(),(),a.1,()),((c.2.2.1,(pe3 c),(pe4 c),(pf5 c),()),a.2.1,a.2.2,()))) (fun y=>((),y.2.1))
theorem q0j:aw Tryz.prog rj 0 (lc 0 Tryz.f107 75):=lp rfl ri (.two .z (.two .z (.two (.one (.two .z (.d [0,0,2,6,14,31,0,0,128,447,959,2047,4095,8191] [5,11,12,13] [1]))) .z))) s0 (fun c a=>(((),(),(),c.1,c.2.1,a.1,()),((c.2.2.1,(pe3 c),(pe4 c),(pf5 c),()),a.2.1,a.2.2,()))) (fun y=>((y.2.1.1,y.2.1.2.1,y.2.1.2.2.1,(pe3 y.2.1)),(y.2.2.1,(pe3 y))))
abbrev qn3:Mdl:=(az (.cons (.d false bp.ty) .nil) [] [] 1 qkl (B:=qL1) (fun b=>(((),()),(b,()))) (fun a=>qac a.1.1))
theorem qw8:MdlOK Tryz.prog 107 qn3:=jp Tryz.func107 rfl ri (.two .z (.two .z (.two (.two .z (.s 0)) (.two .z (.two .z (.two (.two .z (.s 3)) .z)))))) (sC q0j (sC q0m s0))
def qdw:Shp:=⟨[],[qez]⟩
abbrev si:Mdl:=(az (.cons (.own 0) (.cons (.fn 109 .nil) .nil)) [qez] [true] 0 qdw (B:=qL2) (fun b=>((()),(b,()))) (fun a=>ky a.2.1))
theorem qco:MdlOK Tryz.prog 108 si:=jk5 109 (by decide)
def qkh:Shp:=⟨[j71,qxg],[qez]⟩
abbrev qei:Ctx ((Int×qL2)):=⟨47,tt,false,false,[],i4 [(41,jf),(107,qn3),(108,si)],jm [aq _ 47 [] qww (C:=(Int×qL1×Int×Int×Int×Int×(List ae)×Int×Int×qL2)) (S:=(Int×qL1)) (fun x=>((x.1.2.2.1,(pe4 x.1),(pe5 x.1),(pe6 x.1),(pe7 x.1),x.2.1.1,x.2.1.2.1,x.2.1.2.2.1,(pe3 x.2.1),x.2.2.1),((pe8 x.1),(pe3 x)))) qwv (CE:=(qL1×Int×Int×Int×(List ae)×Int×Int×qL2)) (E:=qL1) (fun c e=>(((),(),(),c.1,c.2.1,c.2.2.1,()),(((pe3 c),(pe4 c),(pe5 c),(pe6 c),()),(pf7 c),e,()))) (fun c=>(c.2.1,c.2.2.1,(pe3 c),(pe5 c),(pe6 c),(pe7 c),(pe8 c),(pf9 c))) (fun{R} c a nx dn rt=>my c.1 c.2.1 c.2.2.1 (pe3 c) (pe4 c) (pe5 c) (pe6 c) (pe7 c) (pe8 c) (pf9 c) a.1 a.2 nx dn rt),aq _ 47 [] qwy (C:=(qL1×Int×Int×(List ae)×Int×Int)) (S:=(Int×qL2)) (fun x=>((x.1.2.2.1,(pe3 x.1),x.2.1.1,x.2.1.2.1,x.2.1.2.2.1,(pe3 x.2.1)),((pe4 x.1),x.2.2.1))) qwx (CE:=Unit) (E:=qL2) (fun c e=>(((),()),(e,()))) (fun c=>()) (fun{R} c a nx dn rt=>tl c.1 c.2.1 c.2.2.1 (pe3 c) (pe4 c) (pf5 c) a.1 a.2 nx dn rt)],bx 47 tt [] [.tmp 2, .tmp 3] qkh (fun x=>(x.1.2.1,x.2.1))⟩
theorem qeh:CtxM Tryz.prog qei:=jq fits a9 (mC gv (mC qw8 (mC qco m0)))
theorem q0h:aw Tryz.prog qei 0 (lc 3 Tryz.f64 154007):=lp rfl qeh .z s0 (fun c a=>(((),(),c.1,(),c.2.1,c.2.2.1,(pe3 c),(pe4 c),a.1,()),(((pe5 c),(pe6 c),(pe7 c),(pe8 c),()),(pf9 c),a.2,()))) (fun y=>(((pe3 y.1),(pe4 y.1),(pe5 y.1),y.2.1.1,y.2.1.2.1,y.2.1.2.2.1,(pe3 y.2.1),y.2.2.1),(pe3 y)))
theorem q0i:aw Tryz.prog qei 1 (lc 1 Tryz.f64 151):=lp rfl qeh (.two .z (.two .z (.two (.one (.two .z (.two .z (.two (.two .z (.s 0)) .z)))) .z))) (sC q0h s0) (fun c a=>(((),(),c.1,c.2.1,a.1,()),((c.2.2.1,(pe3 c),(pe4 c),(pf5 c),()),a.2,()))) (fun y=>((),y.2.1))
abbrev qn2:Mdl:=(az (.cons (.d false bp.ty) .nil) [] [] 2 qkh (B:=(Int×qL2)) (fun b=>(((),b.1,()),(b.2,()))) (fun a=>qaa a.1.1))
theorem qwz:MdlOK Tryz.prog 64 qn2:=jp Tryz.func64 rfl qeh (.two .z (.two .z (.two .z (.two (.two .z (.s 1)) .z)))) (sC q0i s0)
def qdb:Shp:=⟨[qi1],[]⟩
abbrev qrn:Ctx (Bool):=⟨9,tt,false,false,[],i4 [(35,dl)],jm [],bx 9 tt [] [.tmp 3] qdb (fun x=>x.1.1)⟩
theorem qrm:CtxM Tryz.prog qrn:=jq fits a9 (mC d5 m0)
abbrev qeo:Mdl:=(az (.cons (.d false qT1) (.cons (.rp false bp.ty) .nil)) [] [] 1 qdb (B:=Bool) (fun b=>((b,()),(()))) (fun a=>xg a.1.1 a.1.2.1))
theorem qof:MdlOK Tryz.prog 66 qeo:=jp Tryz.func66 rfl qrm .z s0
def pp:Shp:=⟨[q5m],[]⟩
abbrev rq:Ctx (Int):=⟨19,tt,false,false,[],i4 [(66,qeo)],jm [aq _ 19 [] qcg (C:=(qL2×bp×Int)) (S:=Int) (fun x=>((x.1.1,x.1.2.1.1,x.1.2.2.1),(pe3 x.1))) qcf (CE:=Unit) (E:=Unit) (fun c e=>((()),(()))) (fun c=>()) (fun{R} c a nx dn rt=>ew c.1 c.2.1 c.2.2 a nx dn rt)],bx 19 tt [] [.tmp 4] pp (fun x=>x.1.1)⟩
theorem rn:CtxM Tryz.prog rq:=jq fits a9 (mC qof m0)
theorem qdt:aw Tryz.prog rq 0 (lc 0 Tryz.f111 37):=lp rfl rn .z s0 (fun c a=>((c.1,(c.2.1,()),c.2.2,a,()),(()))) (fun y=>((),()))
abbrev ro:Mdl:=(az (.cons (.d false qT2) (.cons (.fn 66 (.cons (.rp false bp.ty) .nil)) .nil)) [] [] 1 pp (B:=Int) (fun b=>((b,()),(()))) (fun a=>kq a.1.1 a.1.2.1.1))
theorem qch:MdlOK Tryz.prog 111 ro:=jp Tryz.func111 rfl rn (.two .z (.two (.two .z (.s 0)) .z)) (sC qdt s0)
def m6:Shp:=⟨[qi1],[]⟩
abbrev qau:Ctx (Bool):=⟨9,tt,false,false,[],i4 [(111,ro)],jm [],bx 9 tt [] [.tmp 4] m6 (fun x=>x.1.1)⟩
theorem qat:CtxM Tryz.prog qau:=jq fits a9 (mC qch m0)
abbrev ng:Mdl:=(az (.cons (.d false qT2) (.cons (.fn 66 (.cons (.rp false bp.ty) .nil)) .nil)) [] [] 1 m6 (B:=Bool) (fun b=>((b,()),(()))) (fun a=>em a.1.1 a.1.2.1.1))
theorem yj:MdlOK Tryz.prog 65 ng:=jp Tryz.func65 rfl qat .z s0
def qf5:Shp:=⟨[qi1,qxg],[]⟩
abbrev qu5:Ctx ((Bool×Int)):=⟨43,tt,false,false,[],i4 [(12,y0),(42,qa),(19,p8),(64,qn2),(65,ng)],jm [],bx 43 tt [] [.tmp 2, .tmp 3] qf5 (fun x=>(x.1.1,x.1.2.1))⟩
theorem qu4:CtxM Tryz.prog qu5:=jq fits a9 (mC qem (mC t7 (mC v8 (mC qwz (mC yj m0)))))
abbrev y7:Mdl:=(az (.cons (.d false bp.ty) .nil) [] [] 2 qf5 (B:=(Bool×Int)) (fun b=>((b.1,b.2,()),(()))) (fun a=>k9 a.1.1))
theorem qep:MdlOK Tryz.prog 21 y7:=jp Tryz.func21 rfl qu4 .z s0
def qm2:Shp:=⟨[qi1,qxg],[]⟩
abbrev q5i:Ctx ((Bool×Int)):=⟨9,tt,false,false,[],i4 [(41,jf),(42,qa)],jm [],bx 9 tt [] [.tmp 2, .tmp 3] qm2 (fun x=>(x.1.1,x.1.2.1))⟩
theorem q5h:CtxM Tryz.prog q5i:=jq fits a9 (mC gv (mC t7 m0))
abbrev qpj:Mdl:=(az (.cons (.d false bp.ty) .nil) [] [] 2 qm2 (B:=(Bool×Int)) (fun b=>((b.1,b.2,()),(()))) (fun a=>qr1 a.1.1))
theorem qyf:MdlOK Tryz.prog 10 qpj:=jp Tryz.func10 rfl q5h .z s0
def qr3:Shp:=⟨[qi1],[]⟩
abbrev jca:Ctx (Bool):=⟨93,tt,false,false,[],i4 [(38,q9q),(11,qda),(21,y7),(10,qpj),(26,ly)],jm [],bx 93 tt [] [.tmp 0] qr3 (fun x=>x.1.1)⟩
theorem jb9:CtxM Tryz.prog jca:=jq fits a9 (mC jfh (mC qlm (mC qep (mC qyf (mC om m0)))))
abbrev qvf:Mdl:=(az .nil [] [] 1 qr3 (B:=Bool) (fun b=>((b,()),(()))) (fun a=>qpt))
theorem q5u:MdlOK Tryz.prog 8 qvf:=jp Tryz.func8 rfl jb9 .z s0
def qnc:Shp:=⟨[qi1],[]⟩
abbrev q5w:Ctx (Bool):=⟨19,tt,false,false,[],i4 [],jm [],bx 19 tt [] [.tmp 2] qnc (fun x=>x.1.1)⟩
theorem q5v:CtxM Tryz.prog q5w:=jq fits a9 m0
abbrev qpv:Mdl:=(az (.cons (.d false ae.ty) .nil) [] [] 1 qnc (B:=Bool) (fun b=>((b,()),(()))) (fun a=>qcw a.1.1))
theorem qyw:MdlOK Tryz.prog 40 qpv:=jp Tryz.func40 rfl q5v .z s0
def ia:Shp:=⟨[q5m],[]⟩
abbrev iz:Ctx (Int):=⟨19,tt,false,false,[],i4 [(40,qpv)],jm [aq _ 19 [] qn (C:=((List ae)×Int)) (S:=Int) (fun x=>((x.1.1,x.1.2.2.1),(pe3 x.1))) qm (CE:=Unit) (E:=Unit) (fun c e=>((()),(()))) (fun c=>()) (fun{R} c a nx dn rt=>cj c.1 c.2 a nx dn rt)],bx 19 tt [] [.tmp 4] ia (fun x=>x.1.1)⟩
theorem iw:CtxM Tryz.prog iz:=jq fits a9 (mC qyw m0)
theorem rm:aw Tryz.prog iz 0 (lc 0 Tryz.f83 37):=lp rfl iw .z s0 (fun c a=>((c.1,(()),c.2,a,()),(()))) (fun y=>((),()))
abbrev iy:Mdl:=(az (.cons (.d false (.slice ae.ty)) (.cons (.fn 40 .nil) .nil)) [] [] 1 ia (B:=Int) (fun b=>((b,()),(()))) (fun a=>dx a.1.1))
theorem qo:MdlOK Tryz.prog 83 iy:=jp Tryz.func83 rfl iw (.two .z (.two (.two .z (.s 0)) .z)) (sC rm s0)
def gf:Shp:=⟨[qi1],[]⟩
abbrev o7:Ctx (Bool):=⟨9,tt,false,false,[],i4 [(83,iy)],jm [],bx 9 tt [] [.tmp 4] gf (fun x=>x.1.1)⟩
theorem o6:CtxM Tryz.prog o7:=jq fits a9 (mC qo m0)
abbrev gm:Mdl:=(az (.cons (.d false (.slice ae.ty)) (.cons (.fn 40 .nil) .nil)) [] [] 1 gf (B:=Bool) (fun b=>((b,()),(()))) (fun a=>ba a.1.1))
theorem nk:MdlOK Tryz.prog 39 gm:=jp Tryz.func39 rfl o6 .z s0
def qr4:Shp:=⟨[qi1],[]⟩
abbrev jcc:Ctx (Bool):=⟨34,tt,false,false,[],i4 [(39,gm)],jm [],bx 34 tt [] [.tmp 2] qr4 (fun x=>x.1.1)⟩
theorem jcb:CtxM Tryz.prog jcc:=jq fits a9 (mC nk m0)
abbrev qvg:Mdl:=(az (.cons (.d false bp.ty) .nil) [] [] 1 qr4 (B:=Bool) (fun b=>((b,()),(()))) (fun a=>qhm a.1.1))
theorem q5x:MdlOK Tryz.prog 9 qvg:=jp Tryz.func9 rfl jcb .z s0
def qqd:Shp:=⟨[qi1],[]⟩
abbrev q8m:Ctx (Bool):=⟨17,tt,false,false,[],i4 [],jm [],bx 17 tt [] [.tmp 2] qqd (fun x=>x.1.1)⟩
theorem q8l:CtxM Tryz.prog q8m:=jq fits a9 m0
abbrev qsn:Mdl:=(az (.cons (.d false (.int .u8)) .nil) [] [] 1 qqd (B:=Bool) (fun b=>((b,()),(()))) (fun a=>zz a.1.1))
theorem q29:MdlOK Tryz.prog 91 qsn:=jp Tryz.func91 rfl q8l .z s0
def qqc:Shp:=⟨[qi1],[]⟩
abbrev qsm:Ctx (Bool):=⟨52,tt,false,false,[],i4 [(91,qsn)],jm [aq _ 52 [] q27 (C:=ByteArray) (S:=Int) (fun x=>(x.1.1,x.1.2.1)) q26 (CE:=Unit) (E:=Unit) (fun c e=>((()),(()))) (fun c=>()) (fun{R} c a nx dn rt=>rg c a nx dn rt)],bx 52 tt [] [.tmp 2] qqc (fun x=>x.1.1)⟩
theorem qsk:CtxM Tryz.prog qsm:=jq fits a9 (mC q29 m0)
theorem q61:aw Tryz.prog qsm 0 (lc 0 Tryz.f47 75):=lp rfl qsk .z s0 (fun c a=>((c,a,()),(()))) (fun y=>((),()))
abbrev qsl:Mdl:=(az (.cons (.d false .str) .nil) [] [] 1 qqc (B:=Bool) (fun b=>((b,()),(()))) (fun a=>qfd a.1.1))
theorem q28:MdlOK Tryz.prog 47 qsl:=jp Tryz.func47 rfl qsk (.two .z (.two .z (.two (.two .z (.s 0)) .z))) (sC q61 s0)
def qql:Shp:=⟨[qi1],[]⟩
abbrev qss:Ctx (Bool):=⟨41,tt,false,false,[],i4 [],jm [aq _ 41 [] q3d (C:=(Int×qL1)) (S:=Int) (fun x=>((x.1.1,x.1.2.1),x.1.2.2.1)) q3c (CE:=Unit) (E:=Unit) (fun c e=>((()),(()))) (fun c=>()) (fun{R} c a nx dn rt=>mj c.1 c.2 a nx dn rt)],bx 41 tt [] [.tmp 4] qql (fun x=>x.1.1)⟩
theorem qsq:CtxM Tryz.prog qss:=jq fits a9 m0
theorem q7a:aw Tryz.prog qss 0 (lc 0 Tryz.f48 37):=lp rfl qsq (.two .z (.two (.one (.two (.d [0,0,3,7,15,31,63,63,255,511,63,2047,4095,8191,16383,32767,65535,131071,131071,393215,1048575,2097151,131071,131071,12713983,29491199,67108863,134217727,268435455] [] []) .z)) .z)) s0 (fun c a=>((c.1,c.2,a,()),(()))) (fun y=>((),()))
abbrev qsr:Mdl:=(az (.cons (.d false qT0) (.cons (.d false qT1) .nil)) [] [] 1 qql (B:=Bool) (fun b=>((b,()),(()))) (fun a=>qh a.1.1 a.1.2.1))
theorem q3e:MdlOK Tryz.prog 48 qsr:=jp Tryz.func48 rfl qsq (.two .z (.two (.two .z (.s 0)) .z)) (sC q7a s0)
def qsp:Shp:=⟨[qi1],[]⟩
abbrev qwd:Ctx (Bool):=⟨80,tt,false,false,[],i4 [(47,qsl),(48,qsr)],jm [aq _ 80 [] q69 (C:=(Int×(List ae)×Int×Int)) (S:=Int) (fun x=>((x.2.1.1,x.2.1.2.1,x.2.1.2.2.1,(pe3 x.2.1)),x.1.2.1)) q68 (CE:=Unit) (E:=Unit) (fun c e=>((()),(()))) (fun c=>()) (fun{R} c a nx dn rt=>z6 c.1 c.2.1 c.2.2.1 c.2.2.2 a nx dn rt)],bx 80 tt [] [.tmp 2] qsp (fun x=>x.1.1)⟩
theorem qwc:CtxM Tryz.prog qwd:=jq fits a9 (mC q28 (mC q3e m0))
theorem q8n:aw Tryz.prog qwd 0 (lc 0 Tryz.f15 75):=lp rfl qwc .z s0 (fun c a=>(((),a,()),((c.1,c.2.1,c.2.2.1,c.2.2.2,()),()))) (fun y=>((),()))
abbrev qmd:Mdl:=(az (.cons (.d false bp.ty) .nil) [] [] 1 qsp (B:=Bool) (fun b=>((b,()),(()))) (fun a=>qdo a.1.1))
theorem qqj:MdlOK Tryz.prog 15 qmd:=jp Tryz.func15 rfl qwc (.two .z (.two .z (.two (.two .z (.s 0)) .z))) (sC q8n s0)
def q1f:Shp:=⟨[qi1],[]⟩
abbrev q66:Ctx (Bool):=⟨18,tt,false,false,[],i4 [],jm [aq _ 18 [] jc3 (C:=(qL1×Int)) (S:=Int) (fun x=>((x.1.1,x.1.2.1),x.1.2.2.1)) jc2 (CE:=Unit) (E:=Unit) (fun c e=>((()),(()))) (fun c=>()) (fun{R} c a nx dn rt=>qfe c.1 c.2 a nx dn rt)],bx 18 tt [] [.tmp 4] q1f (fun x=>x.1.1)⟩
theorem q65:CtxM Tryz.prog q66:=jq fits a9 m0
theorem jf4:aw Tryz.prog q66 0 (lc 0 Tryz.f68 37):=lp rfl q65 .z s0 (fun c a=>((c.1,c.2,a,()),(()))) (fun y=>((),()))
abbrev qmb:Mdl:=(az (.cons (.d false qT1) (.cons (.d false qT0) .nil)) [] [] 1 q1f (B:=Bool) (fun b=>((b,()),(()))) (fun a=>ss a.1.1 a.1.2.1))
theorem qmc:MdlOK Tryz.prog 68 qmb:=jp Tryz.func68 rfl q65 (.two .z (.two (.two .z (.s 0)) .z)) (sC jf4 s0)
def qsu:Shp:=⟨[j2j],[qg1]⟩
abbrev qfg:Ctx (qL1):=⟨72,tt,false,false,[],i4 [(68,qmb)],jm [aq _ 72 [] q7c (C:=(Int×Int×Int×(List ae)×Int×Int)) (S:=(Int×qL1)) (fun x=>((x.1.2.2.1,(pe3 x.1),x.2.1.1,x.2.1.2.1,x.2.1.2.2.1,(pe3 x.2.1)),((pe4 x.1),x.2.2.1))) q7b (CE:=(Int×Int×Int×(List ae)×Int×Int)) (E:=qL1) (fun c e=>(((),(),c.1,c.2.1,()),((c.2.2.1,(pe3 c),(pe4 c),(pf5 c),()),e,()))) (fun c=>(c.1,c.2.1,c.2.2.1,(pe3 c),(pe4 c),(pf5 c))) (fun{R} c a nx dn rt=>ub c.1 c.2.1 c.2.2.1 (pe3 c) (pe4 c) (pf5 c) a.1 a.2 nx dn rt),aq _ 72 [] q7e (C:=(Int×Int×(List ae)×Int×Int)) (S:=(Int×qL1)) (fun x=>((x.1.2.2.1,x.2.1.1,x.2.1.2.1,x.2.1.2.2.1,(pe3 x.2.1)),((pe3 x.1),x.2.2.1))) q7d (CE:=(Int×Int×(List ae)×Int×Int)) (E:=qL1) (fun c e=>(((),(),c.1,()),((c.2.1,c.2.2.1,(pe3 c),(pf4 c),()),e,()))) (fun c=>(c.1,c.2.1,c.2.2.1,(pe3 c),(pf4 c))) (fun{R} c a nx dn rt=>uc c.1 c.2.1 c.2.2.1 (pe3 c) (pf4 c) a.1 a.2 nx dn rt),aq _ 72 [] q7g (C:=(Int×(List ae)×Int×Int)) (S:=(Int×qL1)) (fun x=>((x.2.1.1,x.2.1.2.1,x.2.1.2.2.1,(pe3 x.2.1)),(x.1.2.2.1,x.2.2.1))) q7f (CE:=Unit) (E:=qL1) (fun c e=>(((),()),(e,()))) (fun c=>()) (fun{R} c a nx dn rt=>z7 c.1 c.2.1 c.2.2.1 c.2.2.2 a.1 a.2 nx dn rt)],bx 72 tt [] [.tmp 4] qsu (fun x=>x.2.1)⟩
theorem qff:CtxM Tryz.prog qfg:=jq fits a9 (mC qmc m0)
theorem q8o:aw Tryz.prog qfg 0 (lc 4 Tryz.f69 627275):=lp rfl qff .z s0 (fun c a=>(((),(),c.1,c.2.1,a.1,()),((c.2.2.1,(pe3 c),(pe4 c),(pf5 c),()),a.2,()))) (fun y=>((y.1.2.2.1,(pe3 y.1),y.2.1.1,y.2.1.2.1,y.2.1.2.2.1,(pe3 y.2.1)),y.2.2.1))
theorem q8p:aw Tryz.prog qfg 1 (lc 2 Tryz.f69 4683):=lp rfl qff (.two .z (.two (.one (.two (.two (.d [0,1,0,7,15,31,0,0,192,448,1023,2047] [] []) .z) (.two .z (.s 0)))) .z)) (sC q8o s0) (fun c a=>(((),(),c.1,a.1,()),((c.2.1,c.2.2.1,(pe3 c),(pf4 c),()),a.2,()))) (fun y=>((y.1.2.2.1,y.2.1.1,y.2.1.2.1,y.2.1.2.2.1,(pe3 y.2.1)),y.2.2.1))
theorem q8q:aw Tryz.prog qfg 2 (lc 0 Tryz.f69 75):=lp rfl qff (.two .z (.two (.one (.two .z (.s 1))) .z)) (sC q8p s0) (fun c a=>(((),(),a.1,()),((c.1,c.2.1,c.2.2.1,c.2.2.2,()),a.2,()))) (fun y=>((),y.2.1))
abbrev qwk:Mdl:=(az (.cons (.d false bp.ty) (.cons (.d false qT0) .nil)) [] [] 1 qsu (B:=qL1) (fun b=>(((),()),(b,()))) (fun a=>qdp a.1.1 a.1.2.1))
theorem q7h:MdlOK Tryz.prog 69 qwk:=jp Tryz.func69 rfl qff (.two .z (.two .z (.two (.two .z (.s 2)) .z))) (sC q8q s0)
def qnw:Shp:=⟨[(0, .d true bp.ty)],[]⟩
abbrev qqi:Ctx (bp):=⟨42,tt,false,false,[],i4 [],jm [aq _ 42 [] qzx (C:=(Int×(List ae)×Int×Int×Int×(List ae)×Int×Int×Int×Int×Int)) (S:=(Int×(List ae))) (fun x=>((x.2.1.1,x.2.1.2.1,x.2.1.2.2.1,(pe3 x.2.1),x.2.2.1.1,x.2.2.1.2.1,x.2.2.1.2.2.1,(pe3 x.2.2.1),(pe3 x).1,(pe3 x).2.2.1,(pe3 (pe3 x))),((pe3 x.1),(pe4 x)))) qzw (CE:=(Int×(List ae)×Int×Int×Int×Int×Int)) (E:=(List ae)) (fun c e=>(((),(),()),((c.1,c.2.1,c.2.2.1,(pe3 c),()),((pe4 c),(),(pe5 c),(pf6 c),()),e,()))) (fun c=>((pe4 c),(pe5 c),(pe6 c),(pe7 c),(pe8 c),(pe9 c),(pf10 c))) (fun{R} c a nx dn rt=>u3 c.1 c.2.1 c.2.2.1 (pe3 c) (pe4 c) (pe5 c) (pe6 c) (pe7 c) (pe8 c) (pe9 c) (pf10 c) a.1 a.2 nx dn rt)],bx 42 tt [] [.cell 2 24] qnw (fun x=>x.1.1)⟩
theorem qqg:CtxM Tryz.prog qqi:=jq fits a9 m0
theorem q3b:aw Tryz.prog qqi 0 (lc 0 Tryz.f70 75):=lp rfl qqg (.two .z (.two (.one (.two .z (.d [0,1,0,4,0,0,32,112,0,0,512,2032,4092,8188,16383,32767,65535] [7,11,12,13,14,16] []))) .z)) s0 (fun c a=>(((),(),(),a.1,()),((c.1,c.2.1,c.2.2.1,(pe3 c),()),((pe4 c),(pe5 c),(pe6 c),(pe7 c),()),((pe8 c),(),(pe9 c),(pf10 c),()),a.2,()))) (fun y=>((y.2.1.1,y.2.1.2.1,y.2.1.2.2.1,(pe3 y.2.1),y.2.2.1.1,y.2.2.1.2.2.1,(pe3 y.2.2.1)),(pe3 y)))
abbrev qqh:Mdl:=(az (.cons (.d false bp.ty) .nil) [] [] 1 qnw (B:=bp) (fun b=>((b,()),(()))) (fun a=>qcy a.1.1))
theorem qzy:MdlOK Tryz.prog 70 qqh:=jp Tryz.func70 rfl qqg (.two .z (.two .z (.two (.two .z (.s 0)) .z))) (sC q3b s0)
def qwm:Shp:=⟨[qi1],[]⟩
abbrev q1j:Ctx (Bool):=⟨18,tt,false,false,[],i4 [(68,qmb)],jm [aq _ 18 [] q8s (C:=(qL1×qL1)) (S:=Int) (fun x=>((x.1.1,x.1.2.1),x.1.2.2.1)) q8r (CE:=Unit) (E:=Unit) (fun c e=>((()),(()))) (fun c=>()) (fun{R} c a nx dn rt=>qcz c.1 c.2 a nx dn rt)],bx 18 tt [] [.tmp 4] qwm (fun x=>x.1.1)⟩
theorem q1h:CtxM Tryz.prog q1j:=jq fits a9 (mC qmc m0)
theorem jc5:aw Tryz.prog q1j 0 (lc 0 Tryz.f71 37):=lp rfl q1h .z s0 (fun c a=>((c.1,c.2,a,()),(()))) (fun y=>((),()))
abbrev q1i:Mdl:=(az (.cons (.d false qT1) (.cons (.d false qT1) .nil)) [] [] 1 qwm (B:=Bool) (fun b=>((b,()),(()))) (fun a=>qgo a.1.1 a.1.2.1))
theorem q8t:MdlOK Tryz.prog 71 q1i:=jp Tryz.func71 rfl q1h (.two .z (.two (.two .z (.s 0)) .z)) (sC jc5 s0)
def qkc:Shp:=⟨[qi1],[]⟩
abbrev qef:Ctx (Bool):=⟨81,tt,false,false,[],i4 [(15,qmd),(69,qwk),(70,qqh),(68,qmb),(71,q1i)],jm [aq _ 81 [] qwf (C:=(qL1×qL1×Int×(List ae)×Int×Int)) (S:=Int) (fun x=>((x.1.2.1,x.1.2.2.1,x.2.1.1,x.2.1.2.1,x.2.1.2.2.1,(pe3 x.2.1)),(pe3 x.1))) qwe (CE:=(qL1×qL1×Int×(List ae)×Int×Int)) (E:=Unit) (fun c e=>(((),c.1,c.2.1,()),((c.2.2.1,(pe3 c),(pe4 c),(pf5 c),()),()))) (fun c=>(c.1,c.2.1,c.2.2.1,(pe3 c),(pe4 c),(pf5 c))) (fun{R} c a nx dn rt=>mw c.1 c.2.1 c.2.2.1 (pe3 c) (pe4 c) (pf5 c) a nx dn rt),aq _ 81 [] qwh (C:=(qL1×qL1×Int×(List ae)×Int×Int)) (S:=Int) (fun x=>((x.1.2.1,x.1.2.2.1,x.2.1.1,x.2.1.2.1,x.2.1.2.2.1,(pe3 x.2.1)),(pe3 x.1))) qwg (CE:=Unit) (E:=Unit) (fun c e=>((()),(()))) (fun c=>()) (fun{R} c a nx dn rt=>tj c.1 c.2.1 c.2.2.1 (pe3 c) (pe4 c) (pf5 c) a nx dn rt)],bx 81 tt [] [.tmp 2] qkc (fun x=>x.1.1)⟩
theorem qee:CtxM Tryz.prog qef:=jq fits a9 (mC qqj (mC q7h (mC qzy (mC qmc (mC q8t m0)))))
theorem qz0:aw Tryz.prog qef 1 (lc 2 Tryz.f23 607):=lp rfl qee .z s0 (fun c a=>(((),c.1,c.2.1,a,()),((c.2.2.1,(pe3 c),(pe4 c),(pf5 c),()),()))) (fun y=>((),()))
theorem qzz:aw Tryz.prog qef 0 (lc 0 Tryz.f23 303):=lp rfl qee .z s0 (fun c a=>(((),c.1,c.2.1,a,()),((c.2.2.1,(pe3 c),(pe4 c),(pf5 c),()),()))) (fun y=>((y.1.2.1,y.1.2.2.1,y.2.1.1,y.2.1.2.1,y.2.1.2.2.1,(pe3 y.2.1)),()))
abbrev qnx:Mdl:=(az (.cons (.d false bp.ty) .nil) [] [] 1 qkc (B:=Bool) (fun b=>((b,()),(()))) (fun a=>ua a.1.1))
theorem qwi:MdlOK Tryz.prog 23 qnx:=jp Tryz.func23 rfl qee (.two .z (.two .z (.two .z (.two (.d [0,1,0,4,15,31] [] []) (.two (.two .z (.s 0)) (.two (.two .z (.s 1)) .z)))))) (sC qzz (sC qz0 s0))
def q1g:Shp:=⟨[(0, .d true qT1)],[]⟩
abbrev jig:Ctx (qL1):=⟨13,tt,false,false,[],i4 [],jm [],bx 13 tt [] [.tmp 4] q1g (fun x=>x.1.1)⟩
theorem jif:CtxM Tryz.prog jig:=jq fits a9 m0
abbrev q67:Mdl:=(az (.cons (.d false bp.ty) (.cons (.d false qT0) .nil)) [] [] 1 q1g (B:=qL1) (fun b=>((b,()),(()))) (fun a=>qb7 a.1.1 a.1.2.1))
theorem jc4:MdlOK Tryz.prog 25 q67:=jp Tryz.func25 rfl jif .z s0
def qnu:Shp:=⟨[qi1],[]⟩
abbrev qqf:Ctx (Bool):=⟨29,tt,false,false,[],i4 [],jm [aq _ 29 [] qzv (C:=qL1) (S:=Int) (fun x=>(x.1.1,x.1.2.1)) qzu (CE:=Unit) (E:=Unit) (fun c e=>((()),(()))) (fun c=>()) (fun{R} c a nx dn rt=>uz c a nx dn rt)],bx 29 tt [] [.tmp 4] qnu (fun x=>x.1.1)⟩
theorem qqe:CtxM Tryz.prog qqf:=jq fits a9 m0
theorem q3a:aw Tryz.prog qqf 0 (lc 0 Tryz.f31 75):=lp rfl qqe .z s0 (fun c a=>((c,a,()),(()))) (fun y=>((),()))
abbrev qgn:Mdl:=(az (.cons (.d false bp.ty) (.cons (.d false qT1) .nil)) [] [] 1 qnu (B:=Bool) (fun b=>((b,()),(()))) (fun a=>wh a.1.1 a.1.2.1))
theorem qj9:MdlOK Tryz.prog 31 qgn:=jp Tryz.func31 rfl qqe (.two .z (.two .z (.two (.two .z (.s 0)) .z))) (sC q3a s0)
def q1d:Shp:=⟨[qi1],[]⟩
abbrev q64:Ctx (Bool):=⟨32,tt,false,false,[],i4 [],jm [aq _ 32 [] jc0 (C:=(qL1×Int×Int×(List ae)×Int×Int)) (S:=Int) (fun x=>((x.1.1,x.1.2.1,x.2.1.1,x.2.1.2.1,x.2.1.2.2.1,(pe3 x.2.1)),(pe3 x.1))) jcz (CE:=Unit) (E:=Unit) (fun c e=>((()),(()))) (fun c=>()) (fun{R} c a nx dn rt=>z5 c.1 c.2.1 c.2.2.1 (pe3 c) (pe4 c) (pf5 c) a nx dn rt)],bx 32 tt [] [.tmp 6] q1d (fun x=>x.1.1)⟩
theorem q62:CtxM Tryz.prog q64:=jq fits a9 m0
theorem jf3:aw Tryz.prog q64 0 (lc 0 Tryz.f116 37):=lp rfl q62 .z s0 (fun c a=>((c.1,c.2.1,(),a,()),((c.2.2.1,(pe3 c),(pe4 c),(pf5 c),()),()))) (fun y=>((),()))
abbrev q63:Mdl:=(az (.cons (.d false bp.ty) (.cons (.d false qT1) (.cons (.d false qT0) .nil))) [] [] 1 q1d (B:=Bool) (fun b=>((b,()),(()))) (fun a=>qq9 a.1.1 a.1.2.1 a.1.2.2.1))
theorem jc1:MdlOK Tryz.prog 116 q63:=jp Tryz.func116 rfl q62 (.two .z (.two (.two .z (.s 0)) .z)) (sC jf3 s0)
def qsx:Shp:=⟨[j2j,j9b],[qg1]⟩
abbrev qmg:Ctx ((Bool×qL1)):=⟨58,tt,false,false,[],i4 [(31,qgn)],jm [aq _ 58 [] q7j (C:=(Int×(List ae)×Int×Int×ByteArray×qL1×qL1)) (S:=(Int×qL1)) (fun x=>((x.2.1.1,x.2.1.2.1,x.2.1.2.2.1,(pe3 x.2.1),(pe3 x).1,(pe3 x).2.1,(pe3 x).2.2.1),((pe3 x.1),x.2.2.1))) q7i (CE:=(Int×(List ae)×Int×Int×ByteArray×qL1×qL1)) (E:=qL1) (fun c e=>(((),(),(),()),((c.1,c.2.1,c.2.2.1,(pe3 c),()),e,((pe4 c),(pe5 c),(pf6 c),()),()))) (fun c=>(c.1,c.2.1,c.2.2.1,(pe3 c),(pe4 c),(pe5 c),(pf6 c))) (fun{R} c a nx dn rt=>z8 c.1 c.2.1 c.2.2.1 (pe3 c) (pe4 c) (pe5 c) (pf6 c) a.1 a.2 nx dn rt),aq _ 58 [] q7l (C:=(Int×(List ae)×Int×Int×ByteArray×qL1×qL1)) (S:=(Int×qL1)) (fun x=>((x.2.1.1,x.2.1.2.1,x.2.1.2.2.1,(pe3 x.2.1),(pe3 x).1,(pe3 x).2.1,(pe3 x).2.2.1),((pe3 x.1),x.2.2.1))) q7k (CE:=(Int×(List ae)×Int×Int)) (E:=qL1) (fun c e=>(((),(),()),((c.1,c.2.1,c.2.2.1,c.2.2.2,()),e,()))) (fun c=>(c.1,c.2.1,c.2.2.1,(pe3 c))) (fun{R} c a nx dn rt=>z9 c.1 c.2.1 c.2.2.1 (pe3 c) (pe4 c) (pe5 c) (pf6 c) a.1 a.2 nx dn rt)],bx 58 tt [] [.tmp 6, .tmp 7] qsx (fun x=>(x.1.2.1,x.2.1))⟩
theorem qmf:CtxM Tryz.prog qmg:=jq fits a9 (mC qj9 m0)
theorem q8y:aw Tryz.prog qmg 1 (lc 2 Tryz.f117 303):=lp rfl qmf .z s0 (fun c a=>(((),(),(),a.1,()),((c.1,c.2.1,c.2.2.1,(pe3 c),()),a.2,((pe4 c),(pe5 c),(pf6 c),()),()))) (fun y=>((y.2.1.1,y.2.1.2.1,y.2.1.2.2.1,(pe3 y.2.1)),y.2.2.1))
theorem q8x:aw Tryz.prog qmg 0 (lc 0 Tryz.f117 151):=lp rfl qmf .z s0 (fun c a=>(((),(),(),a.1,()),((c.1,c.2.1,c.2.2.1,(pe3 c),()),a.2,((pe4 c),(pe5 c),(pf6 c),()),()))) (fun y=>((y.2.1.1,y.2.1.2.1,y.2.1.2.2.1,(pe3 y.2.1),(pe3 y).1,(pe3 y).2.1,(pe3 y).2.2.1),y.2.2.1))
abbrev qwp:Mdl:=(az (.cons (.d false bp.ty) (.cons (.d false qT1) (.cons (.d false qT0) .nil))) [] [] 2 qsx (B:=(Bool×qL1)) (fun b=>(((),b.1,()),(b.2,()))) (fun a=>qhv a.1.1 a.1.2.1 a.1.2.2.1))
theorem q7m:MdlOK Tryz.prog 117 qwp:=jp Tryz.func117 rfl qmf (.two .z (.two .z (.two .z (.two (.two .z (.s 0)) (.two (.two .z (.s 1)) .z))))) (sC q8x (sC q8y s0))
def qew:Shp:=⟨[qi1],[]⟩
abbrev qgr:Ctx (Bool):=⟨26,tt,false,false,[],i4 [],jm [aq _ 26 [] qqo (C:=(qL1×qL1)) (S:=Int) (fun x=>((x.1.1,x.1.2.1),x.1.2.2.1)) qqn (CE:=Unit) (E:=Unit) (fun c e=>((()),(()))) (fun c=>()) (fun{R} c a nx dn rt=>jo c.1 c.2 a nx dn rt)],bx 26 tt [] [.tmp 4] qew (fun x=>x.1.1)⟩
theorem qgp:CtxM Tryz.prog qgr:=jq fits a9 m0
theorem qrt:aw Tryz.prog qgr 0 (lc 0 Tryz.f153 75):=lp rfl qgp (.two .z (.two (.one (.two (.d [0,0,3,7,0,0,48,112,255] [] []) .z)) .z)) s0 (fun c a=>((c.1,c.2,a,()),(()))) (fun y=>((),()))
abbrev qgq:Mdl:=(az (.cons (.d false qT1) (.cons (.d false qT1) .nil)) [] [] 1 qew (B:=Bool) (fun b=>((b,()),(()))) (fun a=>tk a.1.1 a.1.2.1))
theorem qqp:MdlOK Tryz.prog 153 qgq:=jp Tryz.func153 rfl qgp (.two .z (.two .z (.two (.two .z (.s 0)) .z))) (sC qrt s0)
def qwo:Shp:=⟨[q5m],[]⟩
abbrev q1m:Ctx (Int):=⟨21,tt,false,false,[],i4 [(153,qgq)],jm [aq _ 21 [] q8v (C:=(qL1×qL2×(List ar)×Bool)) (S:=Int) (fun x=>((x.1.1,x.2.1.1,x.2.1.2.1,x.2.1.2.2.1),x.1.2.2.1)) q8u (CE:=Unit) (E:=Unit) (fun c e=>((()),(()))) (fun c=>()) (fun{R} c a nx dn rt=>qc0 c.1 c.2.1 c.2.2.1 c.2.2.2 a nx dn rt)],bx 21 tt [] [.tmp 4] qwo (fun x=>x.1.1)⟩
theorem q1k:CtxM Tryz.prog q1m:=jq fits a9 (mC qqp m0)
theorem jc6:aw Tryz.prog q1m 0 (lc 0 Tryz.f118 37):=lp rfl q1k .z s0 (fun c a=>((c.1,(),a,()),((c.2.1,c.2.2.1,c.2.2.2,()),()))) (fun y=>((),()))
abbrev q1l:Mdl:=(az (.cons (.d false dm.ty) (.cons (.d false qT1) .nil)) [] [] 1 qwo (B:=Int) (fun b=>((b,()),(()))) (fun a=>qme a.1.1 a.1.2.1))
theorem q8w:MdlOK Tryz.prog 118 q1l:=jp Tryz.func118 rfl q1k (.two .z (.two (.two .z (.s 0)) .z)) (sC jc6 s0)
def qn0:Shp:=⟨[(0, .d true dm.ty),qxg],[]⟩
abbrev ol:Ctx ((dm×Int)):=⟨113,tt,false,true,[],i4 [(15,qmd),(31,qgn),(116,q63),(117,qwp),(118,q1l)],jm [wc _ 113 [] qz6 (A:=(Int×Int×Int×Int×(List ae)×Int×Int×qL2×(List ar)×Bool×Bool×qL2×(List ar))) (fun x=>(x.1.1,(pe4 x.1),(pe5 x.1),x.2.1.1,x.2.1.2.1,x.2.1.2.2.1,(pe3 x.2.1),x.2.2.1.1,x.2.2.1.2.1,x.2.2.1.2.2.1,(pe3 x).2.2.1,(pe4 x),(pe5 x))) qz5 (CE:=(Int×Int×Int×(List ae)×Int×Int×qL2×(List ar)×Bool×Bool×qL2×(List ar))) (E:=Int) (fun c e=>((c.1,(),(),(),c.2.1,e,()),((c.2.2.1,(pe3 c),(pe4 c),(pe5 c),()),((pe6 c),(pe7 c),(pe8 c),()),((),(),(pe9 c),()),(pe10 c),(pf11 c),()))) (fun c=>(c.1,c.2.1,(pe3 c),(pe4 c),(pe5 c),(pe6 c),(pe7 c),(pe8 c),(pe9 c),(pe10 c),(pe11 c),(pf12 c))) (fun{R} c dn rt=>ek c.1 c.2.1 c.2.2.1 (pe3 c) (pe4 c) (pe5 c) (pe6 c) (pe7 c) (pe8 c) (pe9 c) (pe10 c) (pe11 c) (pf12 c) dn rt),wc _ 113 [] qz8 (A:=(Int×Int×Int×qL1×Int×Bool×Int×(List ae)×Int×Int×qL2×(List ar)×Bool×Bool×qL2×(List ar))) (fun x=>(x.1.1,(pe4 x.1),(pe5 x.1),(pe6 x.1),(pe7 x.1),(pe8 x.1),x.2.1.1,x.2.1.2.1,x.2.1.2.2.1,(pe3 x.2.1),x.2.2.1.1,x.2.2.1.2.1,x.2.2.1.2.2.1,(pe3 x).2.2.1,(pe4 x),(pe5 x))) qz7 (CE:=(Int×Int×Int×Int×(List ae)×Int×Int×qL2×(List ar)×Bool×Bool×(List ar))) (E:=(Int×qL2)) (fun c e=>((c.1,(),(),(),c.2.1,c.2.2.1,e.1,()),(((pe3 c),(pe4 c),(pe5 c),(pe6 c),()),((pe7 c),(pe8 c),(pe9 c),()),((),(),(pe10 c),()),e.2,(pf11 c),()))) (fun c=>(c.1,c.2.1,c.2.2.1,(pe6 c),(pe7 c),(pe8 c),(pe9 c),(pe10 c),(pe11 c),(pe12 c),(pe13 c),(pf15 c))) (fun{R} c dn rt=>gc c.1 c.2.1 c.2.2.1 (pe3 c) (pe4 c) (pe5 c) (pe6 c) (pe7 c) (pe8 c) (pe9 c) (pe10 c) (pe11 c) (pe12 c) (pe13 c) (pe14 c) (pf15 c) dn rt),wc _ 113 [] q0a (A:=(Int×Int×Int×Int×Int×(List ae)×Int×Int×qL2×(List ar)×Bool×Bool×qL2×(List ar))) (fun x=>(x.1.1,(pe4 x.1),(pe5 x.1),(pe6 x.1),x.2.1.1,x.2.1.2.1,x.2.1.2.2.1,(pe3 x.2.1),x.2.2.1.1,x.2.2.1.2.1,x.2.2.1.2.2.1,(pe3 x).2.2.1,(pe4 x),(pe5 x))) qz9 (CE:=(Int×Int×Int×Int×(List ae)×Int×Int×qL2×(List ar)×Bool×Bool×qL2)) (E:=(List ar)) (fun c e=>((c.1,(),(),(),c.2.1,c.2.2.1,()),(((pe3 c),(pe4 c),(pe5 c),(pe6 c),()),((pe7 c),(pe8 c),(pe9 c),()),((),(),(pe10 c),()),(pf11 c),e,()))) (fun c=>(c.1,c.2.1,c.2.2.1,(pe4 c),(pe5 c),(pe6 c),(pe7 c),(pe8 c),(pe9 c),(pe10 c),(pe11 c),(pe12 c))) (fun{R} c dn rt=>i7 c.1 c.2.1 c.2.2.1 (pe3 c) (pe4 c) (pe5 c) (pe6 c) (pe7 c) (pe8 c) (pe9 c) (pe10 c) (pe11 c) (pe12 c) (pf13 c) dn rt),aq _ 113 [] qz2 (C:=(Int×Int×Int×(List ae)×Int×Int×qL2×(List ar)×Bool)) (S:=(Int×Bool×qL2×(List ar))) (fun x=>((x.1.1,(pe4 x.1),x.2.1.1,x.2.1.2.1,x.2.1.2.2.1,(pe3 x.2.1),x.2.2.1.1,x.2.2.1.2.1,x.2.2.1.2.2.1),((pe5 x.1),(pe3 x).2.2.1,(pe4 x),(pe5 x)))) qz1 (CE:=(Int×Int×Int×(List ae)×Int×Int×qL2×(List ar)×Bool)) (E:=(Bool×qL2×(List ar))) (fun c e=>((c.1,(),(),(),c.2.1,()),((c.2.2.1,(pe3 c),(pe4 c),(pe5 c),()),((pe6 c),(pe7 c),(pf8 c),()),((),(),e.1,()),e.2.1,e.2.2,()))) (fun c=>(c.1,c.2.1,c.2.2.1,(pe3 c),(pe4 c),(pe5 c),(pe6 c),(pe7 c),(pf8 c))) (fun{R} c a nx dn rt=>cx c.1 c.2.1 c.2.2.1 (pe3 c) (pe4 c) (pe5 c) (pe6 c) (pe7 c) (pf8 c) a.1 a.2.1 a.2.2.1 a.2.2.2 nx dn rt),aq _ 113 [] qz4 (C:=(Int×Int×(List ae)×Int×Int×qL2×(List ar)×Bool)) (S:=(Int×Bool×qL2×(List ar))) (fun x=>((x.1.1,x.2.1.1,x.2.1.2.1,x.2.1.2.2.1,(pe3 x.2.1),x.2.2.1.1,x.2.2.1.2.1,x.2.2.1.2.2.1),((pe4 x.1),(pe3 x).2.2.1,(pe4 x),(pe5 x)))) qz3 (CE:=(qL2×(List ar)×Bool)) (E:=(Bool×qL2×(List ar))) (fun c e=>(((),(),()),((c.1,c.2.1,c.2.2,()),((),(),e.1,()),e.2.1,e.2.2,()))) (fun c=>((pe5 c),(pe6 c),(pf7 c))) (fun{R} c a nx dn rt=>i6 c.1 c.2.1 c.2.2.1 (pe3 c) (pe4 c) (pe5 c) (pe6 c) (pf7 c) a.1 a.2.1 a.2.2.1 a.2.2.2 nx dn rt)],bx 113 tt [] [.cell 6 45, .tmp 7] qn0 (fun x=>(x.1.1,x.1.2.1))⟩
theorem oj:CtxM Tryz.prog ol:=jq fits a9 (mC qqj (mC qj9 (mC jc1 (mC q7m (mC q8w m0)))))
theorem q3g:aw Tryz.prog ol 1 (jc Tryz.f72 14567727):=jn rfl oj .z s0 (fun c=>((c.1,(),(),(),c.2.1,c.2.2.1,(pe3 c),(pe4 c),(pe5 c),()),(((pe6 c),(pe7 c),(pe8 c),(pe9 c),()),((pe10 c),(pe11 c),(pe12 c),()),((),(),(pe13 c),()),(pe14 c),(pf15 c),()))) (fun y=>((y.1.1,(pe4 y.1),(pe5 y.1),y.2.1.1,y.2.1.2.1,y.2.1.2.2.1,(pe3 y.2.1),y.2.2.1.1,y.2.2.1.2.1,y.2.2.1.2.2.1,(pe3 y).2.2.1,(pe5 y)),((pe6 y.1),(pe4 y))))
theorem q3h:aw Tryz.prog ol 2 (jc Tryz.f72 16664879):=jn rfl oj .z s0 (fun c=>((c.1,(),(),(),c.2.1,c.2.2.1,(pe3 c),()),(((pe4 c),(pe5 c),(pe6 c),(pe7 c),()),((pe8 c),(pe9 c),(pe10 c),()),((),(),(pe11 c),()),(pe12 c),(pf13 c),()))) (fun y=>((y.1.1,(pe4 y.1),(pe5 y.1),y.2.1.1,y.2.1.2.1,y.2.1.2.2.1,(pe3 y.2.1),y.2.2.1.1,y.2.2.1.2.1,y.2.2.1.2.2.1,(pe3 y).2.2.1,(pe4 y)),(pe5 y)))
theorem q3f:aw Tryz.prog ol 0 (jc Tryz.f72 117039):=jn rfl oj .z s0 (fun c=>((c.1,(),(),(),c.2.1,c.2.2.1,()),(((pe3 c),(pe4 c),(pe5 c),(pe6 c),()),((pe7 c),(pe8 c),(pe9 c),()),((),(),(pe10 c),()),(pe11 c),(pf12 c),()))) (fun y=>((y.1.1,(pe4 y.1),y.2.1.1,y.2.1.2.1,y.2.1.2.2.1,(pe3 y.2.1),y.2.2.1.1,y.2.2.1.2.1,y.2.2.1.2.2.1,(pe3 y).2.2.1,(pe4 y),(pe5 y)),(pe5 y.1)))
theorem q3i:aw Tryz.prog ol 3 (lc 2 Tryz.f72 18735):=lp rfl oj (.two .z (.two (.one (.two (.two (.d [0,0,2,0,14,30,0,127,255] [] []) .z) (.two (.d [0,0,2,0,14,30,0,127,255,511,511,1023,4095] [] []) (.two .z (.two .z (.two (.two .z (.s 1)) (.two .z (.s 2)))))))) (.s 0))) (sC q3g (sC q3h (sC q3f s0))) (fun c a=>((c.1,(),(),(),c.2.1,a.1,()),((c.2.2.1,(pe3 c),(pe4 c),(pe5 c),()),((pe6 c),(pe7 c),(pf8 c),()),((),(),a.2.1,()),a.2.2.1,a.2.2.2,()))) (fun y=>((y.1.1,(pe4 y.1),y.2.1.1,y.2.1.2.1,y.2.1.2.2.1,(pe3 y.2.1),y.2.2.1.1,y.2.2.1.2.1,y.2.2.1.2.2.1),((pe3 y).2.2.1,(pe4 y),(pe5 y))))
theorem q3j:aw Tryz.prog ol 4 (lc 0 Tryz.f72 303):=lp rfl oj (.two .z (.two (.one (.two .z (.s 3))) .z)) (sC q3i s0) (fun c a=>((c.1,(),(),(),a.1,()),((c.2.1,c.2.2.1,(pe3 c),(pe4 c),()),((pe5 c),(pe6 c),(pf7 c),()),((),(),a.2.1,()),a.2.2.1,a.2.2.2,()))) (fun y=>((y.2.1.1,y.2.1.2.1,y.2.1.2.2.1),(y.2.2.1.2.2.1,(pe3 y),(pe4 y))))
abbrev qqm:Mdl:=(az (.cons (.d false bp.ty) (.cons (.d true qT1) (.cons (.d false qT0) .nil))) [] [] 2 qn0 (B:=(dm×Int)) (fun b=>((b.1,b.2,()),(()))) (fun a=>wi a.1.1 a.1.2.1 a.1.2.2.1))
theorem q0b:MdlOK Tryz.prog 72 qqm:=jp Tryz.func72 rfl oj (.two .z (.two .z (.two .z (.two .z (.two (.two .z (.s 4)) .z))))) (sC q3j s0)
def qnb:Shp:=⟨[(0, .d true dm.ty),j9b,j2s],[]⟩
abbrev oe:Ctx ((dm×Bool×Bool)):=⟨116,tt,false,false,[],i4 [(72,qqm)],jm [aq _ 116 [] qym (C:=(Int×qL2×(List ar)×Bool×qL2×(List ar)×Bool)) (S:=(Int×qL1)) (fun x=>(((pe3 x.1),x.2.1.1,x.2.1.2.1,x.2.1.2.2.1,x.2.2.1.1,x.2.2.1.2.1,x.2.2.1.2.2.1),((pe4 x.1),(pe3 x)))) qyl (CE:=(qL2×(List ar)×Bool×qL2×(List ar)×Bool)) (E:=qL1) (fun c e=>(((),(),(),()),((c.1,c.2.1,c.2.2.1,()),((pe3 c),(pe4 c),(pf5 c),()),e,()))) (fun c=>(c.2.1,c.2.2.1,(pe3 c),(pe4 c),(pe5 c),(pf6 c))) (fun{R} c a nx dn rt=>uk c.1 c.2.1 c.2.2.1 (pe3 c) (pe4 c) (pe5 c) (pf6 c) a.1 a.2 nx dn rt),aq _ 116 [] qyo (C:=((List ar)×Int×qL2×(List ar)×Bool×qL2×(List ar)×Bool)) (S:=(Int×qL1)) (fun x=>(((pe3 x.1),(pe4 x.1),x.2.1.1,x.2.1.2.1,x.2.1.2.2.1,x.2.2.1.1,x.2.2.1.2.1,x.2.2.1.2.2.1),((pe5 x.1),(pe3 x)))) qyn (CE:=(qL2×(List ar)×Bool×qL2×(List ar)×Bool)) (E:=qL1) (fun c e=>(((),(),(),()),((c.1,c.2.1,c.2.2.1,()),((pe3 c),(pe4 c),(pf5 c),()),e,()))) (fun c=>(c.2.2.1,(pe3 c),(pe4 c),(pe5 c),(pe6 c),(pf7 c))) (fun{R} c a nx dn rt=>ul c.1 c.2.1 c.2.2.1 (pe3 c) (pe4 c) (pe5 c) (pe6 c) (pf7 c) a.1 a.2 nx dn rt),aq _ 116 [] qyq (C:=(qL1×Int×Int×Int×Int×Int×qL2×(List ar)×Bool×qL2×(List ar)×Bool)) (S:=(Bool×Int)) (fun x=>((x.1.2.2.1,(pe3 x.1),(pe4 x.1),(pe6 x.1),(pe7 x.1),(pe8 x.1),x.2.1.1,x.2.1.2.1,x.2.1.2.2.1,x.2.2.1.1,x.2.2.1.2.1,x.2.2.1.2.2.1),((pe5 x.1),(pe9 x.1)))) qyp (CE:=(qL1×Int×Int×Int×Int×qL2×(List ar)×Bool×qL2×(List ar)×Bool)) (E:=Bool) (fun c e=>(((),(),c.1,c.2.1,c.2.2.1,e,(pe3 c),(pe4 c),()),(((pe5 c),(pe6 c),(pe7 c),()),((pe8 c),(pe9 c),(pf10 c),()),()))) (fun c=>(c.1,c.2.1,c.2.2.1,(pe3 c),(pe4 c),(pe6 c),(pe7 c),(pe8 c),(pe9 c),(pe10 c),(pf11 c))) (fun{R} c a nx dn rt=>um c.1 c.2.1 c.2.2.1 (pe3 c) (pe4 c) (pe5 c) (pe6 c) (pe7 c) (pe8 c) (pe9 c) (pe10 c) (pf11 c) a.1 a.2 nx dn rt),aq _ 116 [] qys (C:=(qL1×Int×Int×Int×qL2×(List ar)×Bool×qL2×(List ar)×Bool)) (S:=Int) (fun x=>((x.1.2.2.1,(pe3 x.1),(pe5 x.1),(pe6 x.1),x.2.1.1,x.2.1.2.1,x.2.1.2.2.1,x.2.2.1.1,x.2.2.1.2.1,x.2.2.1.2.2.1),(pe4 x.1))) qyr (CE:=(qL1×Int×Int×qL2×(List ar)×Bool×qL2×(List ar)×Bool)) (E:=Unit) (fun c e=>(((),(),c.1,c.2.1,c.2.2.1,()),(((pe3 c),(pe4 c),(pe5 c),()),((pe6 c),(pe7 c),(pf8 c),()),()))) (fun c=>(c.1,c.2.2.1,(pe3 c),(pe4 c),(pe5 c),(pe6 c),(pe7 c),(pe8 c),(pf9 c))) (fun{R} c a nx dn rt=>od c.1 c.2.1 c.2.2.1 (pe3 c) (pe4 c) (pe5 c) (pe6 c) (pe7 c) (pe8 c) (pf9 c) a nx dn rt),aq _ 116 [] qyu (C:=(qL1×Int×qL2×(List ar)×Bool×qL2×(List ar)×Bool)) (S:=Int) (fun x=>((x.1.2.2.1,(pe3 x.1),x.2.1.1,x.2.1.2.1,x.2.1.2.2.1,x.2.2.1.1,x.2.2.1.2.1,x.2.2.1.2.2.1),(pe4 x.1))) qyt (CE:=(qL2×(List ar)×Bool×qL2×(List ar)×Bool)) (E:=Unit) (fun c e=>(((),(),()),((c.1,c.2.1,c.2.2.1,()),((pe3 c),(pe4 c),(pf5 c),()),()))) (fun c=>(c.2.2.1,(pe3 c),(pe4 c),(pe5 c),(pe6 c),(pf7 c))) (fun{R} c a nx dn rt=>uo c.1 c.2.1 c.2.2.1 (pe3 c) (pe4 c) (pe5 c) (pe6 c) (pf7 c) a nx dn rt)],bx 116 tt [] [.cell 4 45, .tmp 5, .tmp 6] qnb (fun x=>(x.1.1,x.1.2.1,x.1.2.2.1))⟩
theorem oc:CtxM Tryz.prog oe:=jq fits a9 (mC q0b m0)
theorem q2g:aw Tryz.prog oe 2 (lc 8 Tryz.f24 77909183):=lp rfl oc (.two .z (.two .z (.two (.one (.two .z (.two (.d [0,1,0,7,15,0,63,127,0,256,0,1792,3840,0,16128,32512,65535] [] []) .z))) .z))) s0 (fun c a=>(((),(),c.1,c.2.1,c.2.2.1,a.1,(pe3 c),(pe4 c),(pe5 c),a.2,()),(((pe6 c),(pe7 c),(pe8 c),()),((pe9 c),(pe10 c),(pf11 c),()),()))) (fun y=>((y.1.2.2.1,(pe3 y.1),(pe4 y.1),(pe6 y.1),(pe7 y.1),y.2.1.1,y.2.1.2.1,y.2.1.2.2.1,y.2.2.1.1,y.2.2.1.2.1,y.2.2.1.2.2.1),(pe5 y.1)))
theorem q2h:aw Tryz.prog oe 3 (lc 6 Tryz.f24 314559):=lp rfl oc (.two .z (.two (.one (.two .z (.two (.two .z (.s 2)) .z))) .z)) (sC q2g s0) (fun c a=>(((),(),c.1,c.2.1,a,c.2.2.1,(pe3 c),()),(((pe4 c),(pe5 c),(pe6 c),()),((pe7 c),(pe8 c),(pf9 c),()),()))) (fun y=>((y.1.2.2.1,(pe3 y.1),(pe4 y.1),y.2.1.1,y.2.1.2.1,y.2.1.2.2.1,y.2.2.1.1,y.2.2.1.2.1,y.2.2.1.2.2.1),()))
theorem q2i:aw Tryz.prog oe 4 (lc 4 Tryz.f24 1215):=lp rfl oc (.two .z (.two .z (.two (.one (.two .z (.two .z (.s 3)))) .z))) (sC q2h s0) (fun c a=>(((),(),c.1,c.2.1,a,()),((c.2.2.1,(pe3 c),(pe4 c),()),((pe5 c),(pe6 c),(pf7 c),()),()))) (fun y=>((y.2.1.1,y.2.1.2.1,y.2.1.2.2.1,y.2.2.1.1,y.2.2.1.2.1,y.2.2.1.2.2.1),()))
theorem q2f:aw Tryz.prog oe 1 (lc 2 Tryz.f24 607):=lp rfl oc .z s0 (fun c a=>(((),(),(),c.1,c.2.1,a.1,()),((c.2.2.1,(pe3 c),(pe4 c),()),((pe5 c),(pe6 c),(pf7 c),()),a.2,()))) (fun y=>((y.2.1.1,y.2.1.2.1,y.2.1.2.2.1,y.2.2.1.1,y.2.2.1.2.1,y.2.2.1.2.2.1),(pe3 y)))
theorem q2e:aw Tryz.prog oe 0 (lc 0 Tryz.f24 303):=lp rfl oc .z s0 (fun c a=>(((),(),(),c.1,a.1,()),((c.2.1,c.2.2.1,(pe3 c),()),((pe4 c),(pe5 c),(pf6 c),()),a.2,()))) (fun y=>((y.2.1.1,y.2.1.2.1,y.2.1.2.2.1,y.2.2.1.1,y.2.2.1.2.1,y.2.2.1.2.2.1),(pe3 y)))
abbrev qpu:Mdl:=(az (.cons (.d false bp.ty) (.cons (.d true qT1) .nil)) [] [] 3 qnb (B:=(dm×Bool×Bool)) (fun b=>((b.1,b.2.1,b.2.2,()),(()))) (fun a=>wd a.1.1 a.1.2.1))
theorem qyv:MdlOK Tryz.prog 24 qpu:=jp Tryz.func24 rfl oc (.two .z (.two .z (.two .z (.two .z (.two (.two .z (.s 0)) (.two (.two .z (.s 1)) (.two (.two .z (.s 4)) (.two (.d [0,0,2,1,15,31] [3] []) .z)))))))) (sC q2e (sC q2f (sC q2i s0)))
def ud:Shp:=⟨[j2j],[qla]⟩
abbrev qg4:Ctx ((List Bool)):=⟨8,tt,false,false,[],i4 [],jm [],bx 8 tt [] [.tmp 2] ud (fun x=>x.2.1)⟩
theorem qg2:CtxM Tryz.prog qg4:=jq fits a9 m0
abbrev qg3:Mdl:=(az (.cons (.nl false (.d false (.slice .bool))) .nil) [] [] 1 ud (B:=(List Bool)) (fun b=>(((),()),(b,()))) (fun a=>wj a.1.1))
theorem qfh:MdlOK Tryz.prog 74 qg3:=jp Tryz.func74 rfl qg2 .z s0
def ln:Shp:=⟨[j2j],[qla]⟩
abbrev qg8:Ctx ((List Bool)):=⟨8,tt,false,false,[],i4 [],jm [],bx 8 tt [] [.tmp 2] ln (fun x=>x.2.1)⟩
theorem qg6:CtxM Tryz.prog qg8:=jq fits a9 m0
abbrev qg7:Mdl:=(az (.cons (.nl true (.d false (.slice .bool))) .nil) [] [] 1 ln (B:=(List Bool)) (fun b=>(((),()),(b,()))) (fun a=>jg a.1.1))
theorem qfi:MdlOK Tryz.prog 74 qg7:=jp Tryz.func74 rfl qg6 .z s0
abbrev yb:Mdl:=(az (.cons (.d false (.slice .bool)) .nil) [] [] 1 ln (fun(b:(List Bool))=>(((),()),(b,()))) (fun(a:(((List Bool)×Unit)×(Unit)))=>gz a.1.1))
theorem qg5:MdlOK Tryz.prog 74 yb:=by
 refine q9z (jk0 _ _) qfh qfi (by kernel_rfl) (fun a b h=>⟨?_,h⟩);obtain⟨⟨xs,u1⟩,u2⟩:=a;cases xs with
 |nil=>exact h
 |cons x l=>
  have e:decide ((((x::l).length:Nat):Int)=0)=false:=decide_eq_false (by simp only[List.length_cons];omega);simp only[gz,jg]at h;simp only[wj,e,cond_false];exact h
def qnf:Shp:=⟨[j2j],[qla]⟩
abbrev qge:Ctx ((List Bool)):=⟨41,tt,false,false,[],i4 [(74,yb)],jm [aq _ 41 [] qyy (C:=(Int×Int×(List ar)×Int×qL2×(List ar)×Bool)) (S:=(Int×(List Bool))) (fun x=>((x.1.2.2.1,(pe3 x.1),(pe4 x.1),(pe5 x.1),x.2.1.1,x.2.1.2.1,x.2.1.2.2.1),((pe6 x.1),x.2.2.1))) qyx (CE:=(Int×Int×qL2×(List ar)×Bool)) (E:=(List Bool)) (fun c e=>(((),(),c.1,c.2.1,()),((c.2.2.1,(pe3 c),(pf4 c),()),e,()))) (fun c=>(c.1,c.2.1,(pe4 c),(pe5 c),(pf6 c))) (fun{R} c a nx dn rt=>uq c.1 c.2.1 c.2.2.1 (pe3 c) (pe4 c) (pe5 c) (pf6 c) a.1 a.2 nx dn rt),aq _ 41 [] qy0 (C:=(Int×qL2×(List ar)×Bool)) (S:=(Int×(List Bool))) (fun x=>((x.1.2.2.1,x.2.1.1,x.2.1.2.1,x.2.1.2.2.1),((pe3 x.1),x.2.2.1))) qyz (CE:=Unit) (E:=(List Bool)) (fun c e=>(((),()),(e,()))) (fun c=>()) (fun{R} c a nx dn rt=>ur c.1 c.2.1 c.2.2.1 c.2.2.2 a.1 a.2 nx dn rt)],bx 41 tt [] [.tmp 4] qnf (fun x=>x.2.1)⟩
theorem qgd:CtxM Tryz.prog qge:=jq fits a9 (mC qg5 m0)
theorem q2j:aw Tryz.prog qge 0 (lc 2 Tryz.f28 9419):=lp rfl qgd (.two .z (.two .z (.two (.one (.two .z (.d [0,0,2,0,0,16,56,120,248,504,504,1528,4088,8184,16376,32767,65535] [16] []))) .z))) s0 (fun c a=>(((),(),c.1,c.2.1,c.2.2.1,(pe3 c),a.1,()),(((pe4 c),(pe5 c),(pf6 c),()),a.2,()))) (fun y=>((y.1.2.2.1,(pe3 y.1),y.2.1.1,y.2.1.2.1,y.2.1.2.2.1),y.2.2.1))
theorem q2k:aw Tryz.prog qge 1 (lc 0 Tryz.f28 75):=lp rfl qgd (.two .z (.two .z (.two (.one (.two .z (.s 0))) .z))) (sC q2j s0) (fun c a=>(((),(),c.1,a.1,()),((c.2.1,c.2.2.1,c.2.2.2,()),a.2,()))) (fun y=>((),y.2.1))
abbrev qpw:Mdl:=(az (.cons (.d false dm.ty) (.cons (.d false (.slice .bool)) .nil)) [] [] 1 qnf (B:=(List Bool)) (fun b=>(((),()),(b,()))) (fun a=>we a.1.1 a.1.2.1))
theorem qy1:MdlOK Tryz.prog 28 qpw:=jp Tryz.func28 rfl qgd (.two .z (.two .z (.two (.two .z (.s 1)) .z))) (sC q2k s0)
def xz:Shp:=⟨[qi1],[]⟩
abbrev kh:Ctx (Bool):=⟨143,tt,false,false,[],i4 [(8,qvf),(9,qvg),(23,qnx),(21,y7),(12,y0),(19,p8),(25,q67),(24,qpu),(26,ly),(28,qpw),(27,lq)],jm [aq _ 143 [] qie (C:=(Bool×qL1×qL2×Int×Int×(List ae)×Int×Int×qL2×(List ar)×Bool)) (S:=(Bool×Int×(List Bool))) (fun x=>((x.1.2.1,(pe3 x.1),(pe6 x.1),(pe7 x.1),x.2.1.1,x.2.1.2.1,x.2.1.2.2.1,(pe3 x.2.1),x.2.2.1.1,x.2.2.1.2.1,x.2.2.1.2.2.1),((pe5 x.1),(pe8 x.1),(pe3 x)))) qid (CE:=(Bool×Int×(List ae)×Int×Int×qL2×(List ar)×Bool)) (E:=(Bool×(List Bool))) (fun c e=>(((),c.1,(),(),e.1,()),((c.2.1,c.2.2.1,(pe3 c),(pe4 c),()),((pe5 c),(pe6 c),(pf7 c),()),e.2,()))) (fun c=>(c.1,(pe4 c),(pe5 c),(pe6 c),(pe7 c),(pe8 c),(pe9 c),(pf10 c))) (fun{R} c a nx dn rt=>jb c.1 c.2.1 c.2.2.1 (pe3 c) (pe4 c) (pe5 c) (pe6 c) (pe7 c) (pe8 c) (pe9 c) (pf10 c) a.1 a.2.1 a.2.2 nx dn rt),aq _ 143 [] qig (C:=(Bool×(List Bool)×Bool×(List ar)×Int×qL2×(List ar)×Bool)) (S:=(Int×(List Bool))) (fun x=>((x.1.1,x.1.2.2.1,(pe3 x.1),(pe5 x.1),(pe6 x.1),x.2.1.1,x.2.1.2.1,x.2.1.2.2.1),((pe7 x.1),x.2.2.1))) qif (CE:=(Bool×(List Bool)×Bool×qL2×(List ar)×Bool)) (E:=(List Bool)) (fun c e=>((c.1,(),c.2.1,c.2.2.1,(),()),(((pe3 c),(pe4 c),(pf5 c),()),e,()))) (fun c=>(c.1,c.2.1,c.2.2.1,(pe5 c),(pe6 c),(pf7 c))) (fun{R} c a nx dn rt=>jd c.1 c.2.1 c.2.2.1 (pe3 c) (pe4 c) (pe5 c) (pe6 c) (pf7 c) a.1 a.2 nx dn rt),wc _ 143 [] qii (A:=(Bool×Int×(List ae)×Int×Int)) (fun x=>(x.1.2.1,x.2.1.1,x.2.1.2.1,x.2.1.2.2.1,(pe3 x.2.1))) qih (CE:=Unit) (E:=Unit) (fun c e=>((()),(()))) (fun c=>()) (fun{R} c dn rt=>m9 c.1 c.2.1 c.2.2.1 (pe3 c) (pf4 c) dn rt)],bx 143 tt [] [.tmp 2] xz (fun x=>x.1.1)⟩
theorem kg:CtxM Tryz.prog kh:=jq fits a9 (mC q5u (mC q5x (mC qwi (mC qep (mC qem (mC v8 (mC jc4 (mC qyv (mC om (mC qy1 (mC rl m0)))))))))))
theorem qjt:aw Tryz.prog kh 1 (lc 2 Tryz.f5 311295):=lp rfl kg .z s0 (fun c a=>((c.1,(),c.2.1,c.2.2.1,(),(pe3 c),(pe4 c),a.1,()),(((pe5 c),(pe6 c),(pf7 c),()),a.2,()))) (fun y=>((y.1.1,y.1.2.2.1,(pe3 y.1),y.2.1.1,y.2.1.2.1,y.2.1.2.2.1),y.2.2.1))
theorem qjs:aw Tryz.prog kh 0 (lc 0 Tryz.f5 77823):=lp rfl kg .z s0 (fun c a=>(((),c.1,(),c.2.1,(),a.1,c.2.2.1,(pe3 c),a.2.1,()),(((pe4 c),(pe5 c),(pe6 c),(pe7 c),()),((pe8 c),(pe9 c),(pf10 c),()),a.2.2,()))) (fun y=>((y.1.2.1,y.2.1.1,y.2.1.2.1,y.2.1.2.2.1,(pe3 y.2.1),y.2.2.1.1,y.2.2.1.2.1,y.2.2.1.2.2.1),((pe4 y.1),(pe3 y))))
theorem qju:aw Tryz.prog kh 2 (jc Tryz.f5 127):=jn rfl kg (.two (.d [0,0,0,4,14,31,63,127,127,127,0,1279,3583,8191] [11] []) (.two .z (.two .z (.two .z (.two .z (.two .z (.two (.two .z (.s 0)) (.two .z (.two (.two .z (.s 1)) .z))))))))) (sC qjs (sC qjt s0)) (fun c=>(((),c.1,()),((c.2.1,c.2.2.1,(pe3 c),(pf4 c),()),()))) (fun y=>((),()))
abbrev ql6:Mdl:=(az (.cons (.d true bp.ty) .nil) [] [] 1 xz (B:=Bool) (fun b=>((b,()),(()))) (fun a=>s5 a.1.1))
theorem qij:MdlOK Tryz.prog 5 ql6:=jp Tryz.func5 rfl kg (.two .z (.two .z (.two .z (.two .z (.two .z (.two .z (.s 2))))))) (sC qju s0)
end
end Go.Proofs.YtclbndfjhjladaaGreat
