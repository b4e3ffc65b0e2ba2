/-
  The functions compute what their models say. Made by program (mg3.py) out of the translation.
-/
import Derived.Test.YtemahcdcacmgdaaGreatDoorZ3Md
import Derived.Test.YtemahcdcacmgdaaGreatDoorZ3Tt
import Derived.Test.YtemahcdcacmgdaaGreatDoorZ3Ky
import Derived.Test.YtemahcdcacmgdaaGreatDoorZ3Kq
set_option linter.all false
set_option maxRecDepth 100000
namespace Go.Proofs.YtemahcdcacmgdaaGreatDoor
open Go.K Go.M
abbrev pe3{A0 A1 A2 A3 A4:Type}(x:A0×A1×A2×A3×A4):A3:=x.2.2.2.1
abbrev pe4{A0 A1 A2 A3 A4 A5:Type}(x:A0×A1×A2×A3×A4×A5):A4:=x.2.2.2.2.1
abbrev pe5{A0 A1 A2 A3 A4 A5 A6:Type}(x:A0×A1×A2×A3×A4×A5×A6):A5:=x.2.2.2.2.2.1
abbrev pe6{A0 A1 A2 A3 A4 A5 A6 A7:Type}(x:A0×A1×A2×A3×A4×A5×A6×A7):A6:=x.2.2.2.2.2.2.1
abbrev pe7{A0 A1 A2 A3 A4 A5 A6 A7 A8:Type}(x:A0×A1×A2×A3×A4×A5×A6×A7×A8):A7:=x.2.2.2.2.2.2.2.1
abbrev pe8{A0 A1 A2 A3 A4 A5 A6 A7 A8 A9:Type}(x:A0×A1×A2×A3×A4×A5×A6×A7×A8×A9):A8:=x.2.2.2.2.2.2.2.2.1
abbrev pe9{A0 A1 A2 A3 A4 A5 A6 A7 A8 A9 A10:Type}(x:A0×A1×A2×A3×A4×A5×A6×A7×A8×A9×A10):A9:=x.2.2.2.2.2.2.2.2.2.1
abbrev pe10{A0 A1 A2 A3 A4 A5 A6 A7 A8 A9 A10 A11:Type}(x:A0×A1×A2×A3×A4×A5×A6×A7×A8×A9×A10×A11):A10:=x.2.2.2.2.2.2.2.2.2.2.1
abbrev pe11{A0 A1 A2 A3 A4 A5 A6 A7 A8 A9 A10 A11 A12:Type}(x:A0×A1×A2×A3×A4×A5×A6×A7×A8×A9×A10×A11×A12):A11:=x.2.2.2.2.2.2.2.2.2.2.2.1
abbrev pe12{A0 A1 A2 A3 A4 A5 A6 A7 A8 A9 A10 A11 A12 A13:Type}(x:A0×A1×A2×A3×A4×A5×A6×A7×A8×A9×A10×A11×A12×A13):A12:=x.2.2.2.2.2.2.2.2.2.2.2.2.1
abbrev pe13{A0 A1 A2 A3 A4 A5 A6 A7 A8 A9 A10 A11 A12 A13 A14:Type}(x:A0×A1×A2×A3×A4×A5×A6×A7×A8×A9×A10×A11×A12×A13×A14):A13:=x.2.2.2.2.2.2.2.2.2.2.2.2.2.1
abbrev pe14{A0 A1 A2 A3 A4 A5 A6 A7 A8 A9 A10 A11 A12 A13 A14 A15:Type}(x:A0×A1×A2×A3×A4×A5×A6×A7×A8×A9×A10×A11×A12×A13×A14×A15):A14:=x.2.2.2.2.2.2.2.2.2.2.2.2.2.2.1
abbrev pe15{A0 A1 A2 A3 A4 A5 A6 A7 A8 A9 A10 A11 A12 A13 A14 A15 A16:Type}(x:A0×A1×A2×A3×A4×A5×A6×A7×A8×A9×A10×A11×A12×A13×A14×A15×A16):A15:=x.2.2.2.2.2.2.2.2.2.2.2.2.2.2.2.1
abbrev pe16{A0 A1 A2 A3 A4 A5 A6 A7 A8 A9 A10 A11 A12 A13 A14 A15 A16 A17:Type}(x:A0×A1×A2×A3×A4×A5×A6×A7×A8×A9×A10×A11×A12×A13×A14×A15×A16×A17):A16:=x.2.2.2.2.2.2.2.2.2.2.2.2.2.2.2.2.1
abbrev pe17{A0 A1 A2 A3 A4 A5 A6 A7 A8 A9 A10 A11 A12 A13 A14 A15 A16 A17 A18:Type}(x:A0×A1×A2×A3×A4×A5×A6×A7×A8×A9×A10×A11×A12×A13×A14×A15×A16×A17×A18):A17:=x.2.2.2.2.2.2.2.2.2.2.2.2.2.2.2.2.2.1
abbrev pe18{A0 A1 A2 A3 A4 A5 A6 A7 A8 A9 A10 A11 A12 A13 A14 A15 A16 A17 A18 A19:Type}(x:A0×A1×A2×A3×A4×A5×A6×A7×A8×A9×A10×A11×A12×A13×A14×A15×A16×A17×A18×A19):A18:=x.2.2.2.2.2.2.2.2.2.2.2.2.2.2.2.2.2.2.1
abbrev pe19{A0 A1 A2 A3 A4 A5 A6 A7 A8 A9 A10 A11 A12 A13 A14 A15 A16 A17 A18 A19 A20:Type}(x:A0×A1×A2×A3×A4×A5×A6×A7×A8×A9×A10×A11×A12×A13×A14×A15×A16×A17×A18×A19×A20):A19:=x.2.2.2.2.2.2.2.2.2.2.2.2.2.2.2.2.2.2.2.1
abbrev pe20{A0 A1 A2 A3 A4 A5 A6 A7 A8 A9 A10 A11 A12 A13 A14 A15 A16 A17 A18 A19 A20 A21:Type}(x:A0×A1×A2×A3×A4×A5×A6×A7×A8×A9×A10×A11×A12×A13×A14×A15×A16×A17×A18×A19×A20×A21):A20:=x.2.2.2.2.2.2.2.2.2.2.2.2.2.2.2.2.2.2.2.2.1
abbrev pf4{A0 A1 A2 A3 A4:Type}(x:A0×A1×A2×A3×A4):A4:=x.2.2.2.2
abbrev pf5{A0 A1 A2 A3 A4 A5:Type}(x:A0×A1×A2×A3×A4×A5):A5:=x.2.2.2.2.2
abbrev pf6{A0 A1 A2 A3 A4 A5 A6:Type}(x:A0×A1×A2×A3×A4×A5×A6):A6:=x.2.2.2.2.2.2
abbrev pf7{A0 A1 A2 A3 A4 A5 A6 A7:Type}(x:A0×A1×A2×A3×A4×A5×A6×A7):A7:=x.2.2.2.2.2.2.2
abbrev pf8{A0 A1 A2 A3 A4 A5 A6 A7 A8:Type}(x:A0×A1×A2×A3×A4×A5×A6×A7×A8):A8:=x.2.2.2.2.2.2.2.2
abbrev pf9{A0 A1 A2 A3 A4 A5 A6 A7 A8 A9:Type}(x:A0×A1×A2×A3×A4×A5×A6×A7×A8×A9):A9:=x.2.2.2.2.2.2.2.2.2
abbrev pf10{A0 A1 A2 A3 A4 A5 A6 A7 A8 A9 A10:Type}(x:A0×A1×A2×A3×A4×A5×A6×A7×A8×A9×A10):A10:=x.2.2.2.2.2.2.2.2.2.2
abbrev pf11{A0 A1 A2 A3 A4 A5 A6 A7 A8 A9 A10 A11:Type}(x:A0×A1×A2×A3×A4×A5×A6×A7×A8×A9×A10×A11):A11:=x.2.2.2.2.2.2.2.2.2.2.2
abbrev pf12{A0 A1 A2 A3 A4 A5 A6 A7 A8 A9 A10 A11 A12:Type}(x:A0×A1×A2×A3×A4×A5×A6×A7×A8×A9×A10×A11×A12):A12:=x.2.2.2.2.2.2.2.2.2.2.2.2
abbrev pf13{A0 A1 A2 A3 A4 A5 A6 A7 A8 A9 A10 A11 A12 A13:Type}(x:A0×A1×A2×A3×A4×A5×A6×A7×A8×A9×A10×A11×A12×A13):A13:=x.2.2.2.2.2.2.2.2.2.2.2.2.2
abbrev pf15{A0 A1 A2 A3 A4 A5 A6 A7 A8 A9 A10 A11 A12 A13 A14 A15:Type}(x:A0×A1×A2×A3×A4×A5×A6×A7×A8×A9×A10×A11×A12×A13×A14×A15):A15:=x.2.2.2.2.2.2.2.2.2.2.2.2.2.2.2
abbrev pf16{A0 A1 A2 A3 A4 A5 A6 A7 A8 A9 A10 A11 A12 A13 A14 A15 A16:Type}(x:A0×A1×A2×A3×A4×A5×A6×A7×A8×A9×A10×A11×A12×A13×A14×A15×A16):A16:=x.2.2.2.2.2.2.2.2.2.2.2.2.2.2.2.2
abbrev pf18{A0 A1 A2 A3 A4 A5 A6 A7 A8 A9 A10 A11 A12 A13 A14 A15 A16 A17 A18:Type}(x:A0×A1×A2×A3×A4×A5×A6×A7×A8×A9×A10×A11×A12×A13×A14×A15×A16×A17×A18):A18:=x.2.2.2.2.2.2.2.2.2.2.2.2.2.2.2.2.2.2
abbrev pf19{A0 A1 A2 A3 A4 A5 A6 A7 A8 A9 A10 A11 A12 A13 A14 A15 A16 A17 A18 A19:Type}(x:A0×A1×A2×A3×A4×A5×A6×A7×A8×A9×A10×A11×A12×A13×A14×A15×A16×A17×A18×A19):A19:=x.2.2.2.2.2.2.2.2.2.2.2.2.2.2.2.2.2.2.2
abbrev pf21{A0 A1 A2 A3 A4 A5 A6 A7 A8 A9 A10 A11 A12 A13 A14 A15 A16 A17 A18 A19 A20 A21:Type}(x:A0×A1×A2×A3×A4×A5×A6×A7×A8×A9×A10×A11×A12×A13×A14×A15×A16×A17×A18×A19×A20×A21):A21:=x.2.2.2.2.2.2.2.2.2.2.2.2.2.2.2.2.2.2.2.2.2
noncomputable section
def quw:Shp:=⟨[qqp],[]⟩
abbrev jgc:Ctx (Bool):=⟨17,tt,false,false,[],j8 [],lm [],cm 17 tt [] [.tmp 2] quw (fun x=>x.1.1)⟩
theorem jgb:CtxM Tryz.prog jgc:=lw fits mixed m0
abbrev qnv:Mdl:=(ay (.cons (.d false (.int .u8)) .nil) [] [] 1 quw (B:=Bool) (fun b=>((b,()),(()))) (fun a=>qec a.1.1))
theorem qrw:MdlOK Tryz.prog 161 qnv:=nj Tryz.func161 rfl jgb .z s0
def q39:Shp:=⟨[qqp],[]⟩
abbrev jlt:Ctx (Bool):=⟨25,tt,false,false,[],j8 [(161,qnv)],lm [],cm 25 tt [] [.tmp 2] q39 (fun x=>x.1.1)⟩
theorem jls:CtxM Tryz.prog jlt:=lw fits mixed (mC qrw m0)
abbrev q88:Mdl:=(ay (.cons (.d false (.int .u8)) .nil) [] [] 1 q39 (B:=Bool) (fun b=>((b,()),(()))) (fun a=>qti a.1.1))
theorem jgd:MdlOK Tryz.prog 162 q88:=nj Tryz.func162 rfl jls .z s0
def quv:Shp:=⟨[qqp],[]⟩
abbrev qy9:Ctx (Bool):=⟨29,tt,false,false,[],j8 [(161,qnv),(162,q88)],lm [am _ 29 [] q87 (C:=(ByteArray×Int)) (S:=Int) (fun x=>((x.1.1,x.1.2.1),x.1.2.2.1)) q86 (CE:=Unit) (E:=Unit) (fun c e=>((()),(()))) (fun c=>()) (fun{R} c a nx dn rt=>tk c.1 c.2 a nx dn rt)],cm 29 tt [] [.tmp 2] quv (fun x=>x.1.1)⟩
theorem qy8:CtxM Tryz.prog qy9:=lw fits mixed (mC qrw (mC jgd m0))
theorem jbx:ao Tryz.prog qy9 0 (lc 0 Tryz.f109 75):=lp rfl qy8 .z s0 (fun c a=>((c.1,c.2,a,()),(()))) (fun y=>((),()))
abbrev qnu:Mdl:=(ay (.cons (.d false .str) .nil) [] [] 1 quv (B:=Bool) (fun b=>((b,()),(()))) (fun a=>qi6 a.1.1))
theorem qrv:MdlOK Tryz.prog 109 qnu:=nj Tryz.func109 rfl qy8 (.two .z (.two .z (.two (.two .z (.s 0)) .z))) (sC jbx s0)
def qr6:Shp:=⟨[qqp],[]⟩
abbrev qu7:Ctx (Bool):=⟨36,tt,false,false,[],j8 [],lm [am _ 36 [] q5q (C:=(qL1×qL1×Int×Int×(List ah)×Int×Int)) (S:=Int) (fun x=>((x.1.1,x.1.2.2.1,(pe3 x.1),x.2.1.1,x.2.1.2.1,x.2.1.2.2.1,(pe3 x.2.1)),(pe4 x.1))) q5p (CE:=Unit) (E:=Unit) (fun c e=>((()),(()))) (fun c=>()) (fun{R} c a nx dn rt=>lx c.1 c.2.1 c.2.2.1 (pe3 c) (pe4 c) (pe5 c) (pf6 c) a nx dn rt)],cm 36 tt [] [.tmp 4] qr6 (fun x=>x.1.1)⟩
theorem qu5:CtxM Tryz.prog qu7:=lw fits mixed m0
theorem q9t:ao Tryz.prog qu7 0 (lc 0 Tryz.f110 37):=lp rfl qu5 .z s0 (fun c a=>((c.1,(),c.2.1,c.2.2.1,a,()),(((pe3 c),(pe4 c),(pe5 c),(pf6 c),()),()))) (fun y=>((),()))
abbrev qu6:Mdl:=(ay (.cons (.d false b8.ty) (.cons (.d false qT1) .nil)) [] [] 1 qr6 (B:=Bool) (fun b=>((b,()),(()))) (fun a=>jr a.1.1 a.1.2.1))
theorem q5r:MdlOK Tryz.prog 110 qu6:=nj Tryz.func110 rfl qu5 (.two .z (.two (.two .z (.s 0)) .z)) (sC q9t s0)
def qu3:Shp:=⟨[qqp],[]⟩
abbrev qzi:Ctx (Bool):=⟨62,tt,false,false,[],j8 [(109,qnu),(110,qu6)],lm [am _ 62 [] q9o (C:=((List ah)×Int×Int×(List ah)×Int×Int)) (S:=Int) (fun x=>((x.1.2.1,x.1.2.2.1,x.2.1.1,x.2.1.2.1,x.2.1.2.2.1,(pe3 x.2.1)),(pe3 x.1))) q9n (CE:=(Int×(List ah)×Int×Int)) (E:=Unit) (fun c e=>(((),()),((c.1,c.2.1,c.2.2.1,c.2.2.2,()),()))) (fun c=>(c.2.2.1,(pe3 c),(pe4 c),(pf5 c))) (fun{R} c a nx dn rt=>zt c.1 c.2.1 c.2.2.1 (pe3 c) (pe4 c) (pf5 c) a nx dn rt)],cm 62 tt [] [.tmp 2] qu3 (fun x=>x.1.1)⟩
theorem qzh:CtxM Tryz.prog qzi:=lw fits mixed (mC qrv (mC q5r m0))
theorem jbz:ao Tryz.prog qzi 0 (lc 0 Tryz.f49 75):=lp rfl qzh .z s0 (fun c a=>(((),c.1,c.2.1,a,()),((c.2.2.1,(pe3 c),(pe4 c),(pf5 c),()),()))) (fun y=>((y.2.1.1,y.2.1.2.1,y.2.1.2.2.1,(pe3 y.2.1)),()))
abbrev de:Mdl:=(ay (.cons (.d false b8.ty) .nil) [] [] 1 qu3 (B:=Bool) (fun b=>((b,()),(()))) (fun a=>pz a.1.1))
theorem cq:MdlOK Tryz.prog 49 de:=nj Tryz.func49 rfl qzh (.two .z (.two .z (.two (.two .z (.s 0)) .z))) (sC jbz s0)
def qas:Shp:=⟨[q1r],[]⟩
abbrev qcc:Ctx (Int):=⟨19,tt,false,false,[],j8 [],lm [am _ 19 [] ql6 (C:=(qL1×Int×Int)) (S:=Int) (fun x=>((x.1.1,x.1.2.1,x.1.2.2.1),(pe3 x.1))) ql5 (CE:=Unit) (E:=Unit) (fun c e=>((()),(()))) (fun c=>()) (fun{R} c a nx dn rt=>i6 c.1 c.2.1 c.2.2 a nx dn rt)],cm 19 tt [] [.tmp 4] qas (fun x=>x.1.1)⟩
theorem qcb:CtxM Tryz.prog qcc:=lw fits mixed m0
theorem qob:ao Tryz.prog qcc 0 (lc 0 Tryz.f84 37):=lp rfl qcb .z s0 (fun c a=>((c.1,c.2.1,c.2.2,a,()),(()))) (fun y=>((),()))
abbrev se:Mdl:=(ay (.cons (.d false qT1) (.cons (.d false qT0) .nil)) [] [] 1 qas (B:=Int) (fun b=>((b,()),(()))) (fun a=>tu a.1.1 a.1.2.1))
theorem yg:MdlOK Tryz.prog 84 se:=nj Tryz.func84 rfl qcb (.two .z (.two (.two .z (.s 0)) .z)) (sC qob s0)
def uo:Shp:=⟨[qqp],[]⟩
abbrev qj7:Ctx (Bool):=⟨9,tt,false,false,[],j8 [(84,se)],lm [],cm 9 tt [] [.tmp 4] uo (fun x=>x.1.1)⟩
theorem qj6:CtxM Tryz.prog qj7:=lw fits mixed (mC yg m0)
abbrev bn:Mdl:=(ay (.cons (.d false qT1) (.cons (.d false qT0) .nil)) [] [] 1 uo (B:=Bool) (fun b=>((b,()),(()))) (fun a=>c6 a.1.1 a.1.2.1))
theorem bp:MdlOK Tryz.prog 48 bn:=nj Tryz.func48 rfl qj6 .z s0
def qjd:Shp:=⟨[qqp],[]⟩
abbrev q2j:Ctx (Bool):=⟨8,tt,false,false,[],j8 [],lm [],cm 8 tt [] [.tmp 3] qjd (fun x=>x.1.1)⟩
theorem q2i:CtxM Tryz.prog q2j:=lw fits mixed m0
abbrev qlm:Mdl:=(ay (.cons (.d false qT0) (.cons (.rp false (.slice .bool)) .nil)) [] [] 1 qjd (B:=Bool) (fun b=>((b,()),(()))) (fun a=>qpd a.1.1 a.1.2.1))
theorem qwa:MdlOK Tryz.prog 163 qlm:=nj Tryz.func163 rfl q2i .z s0
def ph:Shp:=⟨[q1r],[]⟩
abbrev qj:Ctx (Int):=⟨19,tt,false,false,[],j8 [(163,qlm)],lm [am _ 19 [] qbh (C:=(qL1×(List Bool)×Int)) (S:=Int) (fun x=>((x.1.1,x.1.2.1.1,x.1.2.2.1),(pe3 x.1))) qbg (CE:=Unit) (E:=Unit) (fun c e=>((()),(()))) (fun c=>()) (fun{R} c a nx dn rt=>oc c.1 c.2.1 c.2.2 a nx dn rt)],cm 19 tt [] [.tmp 4] ph (fun x=>x.1.1)⟩
theorem qh:CtxM Tryz.prog qj:=lw fits mixed (mC qwa m0)
theorem qc2:ao Tryz.prog qj 0 (lc 0 Tryz.f147 37):=lp rfl qh .z s0 (fun c a=>((c.1,(c.2.1,()),c.2.2,a,()),(()))) (fun y=>((),()))
abbrev qi:Mdl:=(ay (.cons (.d false qT1) (.cons (.fn 163 (.cons (.rp false (.slice .bool)) .nil)) .nil)) [] [] 1 ph (B:=Int) (fun b=>((b,()),(()))) (fun a=>rk a.1.1 a.1.2.1.1))
theorem qbi:MdlOK Tryz.prog 147 qi:=nj Tryz.func147 rfl qh (.two .z (.two (.two .z (.s 0)) .z)) (sC qc2 s0)
def lb:Shp:=⟨[qqp],[]⟩
abbrev qaj:Ctx (Bool):=⟨9,tt,false,false,[],j8 [(147,qi)],lm [],cm 9 tt [] [.tmp 4] lb (fun x=>x.1.1)⟩
theorem qai:CtxM Tryz.prog qaj:=lw fits mixed (mC qbi m0)
abbrev mw:Mdl:=(ay (.cons (.d false qT1) (.cons (.fn 163 (.cons (.rp false (.slice .bool)) .nil)) .nil)) [] [] 1 lb (B:=Bool) (fun b=>((b,()),(()))) (fun a=>gp a.1.1 a.1.2.1.1))
theorem xl:MdlOK Tryz.prog 92 mw:=nj Tryz.func92 rfl qai .z s0
def qpc:Shp:=⟨[jxr,(1, .own 1)],[qvr,qvr]⟩
abbrev zy:Ctx (((List Bool)×(List Bool))):=⟨69,tt,false,false,[],j8 [(92,mw)],lm [am _ 69 [] q2d (C:=(Bool×Bool×(List ah)×Int×Int×qL1×Int×Int×(List ah)×Int×Int×(List Bool))) (S:=(Int×(List Bool))) (fun x=>((x.1.1,(pe4 x.1),(pe5 x.1),(pe6 x.1),(pe7 x.1),(pe8 x.1),(pe9 x.1),x.2.1.1,x.2.1.2.1,x.2.1.2.2.1,(pe3 x.2.1),(pe3 x)),((pe10 x.1),(pe4 x)))) q2c (CE:=(Bool×Bool×(List ah)×Int×Int×Int×(List ah)×Int×Int×(List Bool))) (E:=(List Bool)) (fun c e=>((c.1,(),(),(),c.2.1,c.2.2.1,(pe3 c),(pe4 c),()),(((pe5 c),(pe6 c),(pe7 c),(pe8 c),()),((),()),(pf9 c),e,()))) (fun c=>(c.1,c.2.1,c.2.2.1,(pe3 c),(pe4 c),(pe7 c),(pe8 c),(pe9 c),(pe10 c),(pf11 c))) (fun{R} c a nx dn rt=>qlj c.1 c.2.1 c.2.2.1 (pe3 c) (pe4 c) (pe5 c) (pe6 c) (pe7 c) (pe8 c) (pe9 c) (pe10 c) (pf11 c) a.1 a.2 nx dn rt),am _ 69 [] q2f (C:=(Bool×(List ah)×Int×Int×(List ah)×Int×Int)) (S:=(Bool×Int×(List Bool)×(List Bool))) (fun x=>((x.1.1,(pe5 x.1),(pe6 x.1),x.2.1.1,x.2.1.2.1,x.2.1.2.2.1,(pe3 x.2.1)),((pe4 x.1),(pe7 x.1),(pe3 x),(pe4 x)))) q2e (CE:=(Bool×Int×(List ah)×Int×Int)) (E:=(Bool×(List Bool)×(List Bool))) (fun c e=>((c.1,(),(),(),e.1,()),((c.2.1,c.2.2.1,(pe3 c),(pf4 c),()),((),()),e.2.1,e.2.2,()))) (fun c=>(c.1,(pe3 c),(pe4 c),(pe5 c),(pf6 c))) (fun{R} c a nx dn rt=>qlk c.1 c.2.1 c.2.2.1 (pe3 c) (pe4 c) (pe5 c) (pf6 c) a.1 a.2.1 a.2.2.1 a.2.2.2 nx dn rt),am _ 69 [] q2h (C:=(Bool×Int×(List ah)×Int×Int)) (S:=(Bool×(List Bool)×(List Bool))) (fun x=>((x.1.1,x.2.1.1,x.2.1.2.1,x.2.1.2.2.1,(pe3 x.2.1)),((pe4 x.1),(pe3 x),(pe4 x)))) q2g (CE:=Unit) (E:=((List Bool)×(List Bool))) (fun c e=>(((),(),()),(((),()),e.1,e.2,()))) (fun c=>()) (fun{R} c a nx dn rt=>qll c.1 c.2.1 c.2.2.1 (pe3 c) (pf4 c) a.1 a.2.1 a.2.2 nx dn rt)],cm 69 tt [] [.tmp 6, .tmp 7] qpc (fun x=>(x.2.1,x.2.2.1))⟩
theorem zx:CtxM Tryz.prog zy:=lw fits mixed (mC xl m0)
theorem q5u:ao Tryz.prog zy 0 (lc 4 Tryz.f111 41838231):=lp rfl zx .z s0 (fun c a=>((c.1,(),(),(),c.2.1,c.2.2.1,(pe3 c),(pe4 c),(pe5 c),(pe6 c),a.1,()),(((pe7 c),(pe8 c),(pe9 c),(pe10 c),()),((),()),(pf11 c),a.2,()))) (fun y=>((y.1.1,(pe4 y.1),(pe5 y.1),(pe6 y.1),(pe7 y.1),y.2.1.1,y.2.1.2.1,y.2.1.2.2.1,(pe3 y.2.1),(pe3 y)),(pe4 y)))
theorem q5v:ao Tryz.prog zy 1 (lc 2 Tryz.f111 9879):=lp rfl zx (.two .z (.two .z (.two (.one (.two .z (.two (.d [0,1,0,4,3,31] [] []) (.two .z (.two .z (.two .z (.two .z (.s 0)))))))) .z))) (sC q5u s0) (fun c a=>((c.1,(),(),(),a.1,c.2.1,c.2.2.1,a.2.1,()),(((pe3 c),(pe4 c),(pe5 c),(pf6 c),()),((),()),a.2.2.1,a.2.2.2,()))) (fun y=>((y.1.1,y.2.1.1,y.2.1.2.1,y.2.1.2.2.1,(pe3 y.2.1)),((pe4 y.1),(pe3 y),(pe4 y))))
theorem q5w:ao Tryz.prog zy 2 (lc 0 Tryz.f111 151):=lp rfl zx (.two .z (.one (.two .z (.two .z (.s 1))))) (sC q5v s0) (fun c a=>((c.1,(),(),(),a.1,()),((c.2.1,c.2.2.1,(pe3 c),(pf4 c),()),((),()),a.2.1,a.2.2,()))) (fun y=>((),(y.2.2.1,(pe3 y))))
abbrev qr7:Mdl:=(ay (.cons (.d false b8.ty) (.cons (.d false qT0) (.cons (.d false .bool) .nil))) [] [] 2 qpc (B:=((List Bool)×(List Bool))) (fun b=>(((),(),()),(b.1,b.2,()))) (fun a=>qjv a.1.1 a.1.2.1 a.1.2.2.1))
theorem q2k:MdlOK Tryz.prog 111 qr7:=nj Tryz.func111 rfl zx (.two .z (.two (.d [0,1,3,0,8,24,56,0,135,511] [8] []) (.two .z (.two (.two .z (.s 2)) .z)))) (sC q5w s0)
def v6:Shp:=⟨[q1r],[]⟩
abbrev yf:Ctx (Int):=⟨19,tt,false,false,[],j8 [],lm [am _ 19 [] qih (C:=((List Bool)×Bool×Int)) (S:=Int) (fun x=>((x.1.1,x.1.2.1,x.1.2.2.1),(pe3 x.1))) qig (CE:=Unit) (E:=Unit) (fun c e=>((()),(()))) (fun c=>()) (fun{R} c a nx dn rt=>uq c.1 c.2.1 c.2.2 a nx dn rt)],cm 19 tt [] [.tmp 4] v6 (fun x=>x.1.1)⟩
theorem yd:CtxM Tryz.prog yf:=lw fits mixed m0
theorem qj9:ao Tryz.prog yf 0 (lc 0 Tryz.f164 37):=lp rfl yd .z s0 (fun c a=>((c.1,c.2.1,c.2.2,a,()),(()))) (fun y=>((),()))
abbrev ye:Mdl:=(ay (.cons (.d false (.slice .bool)) (.cons (.d false .bool) .nil)) [] [] 1 v6 (B:=Int) (fun b=>((b,()),(()))) (fun a=>qaq a.1.1 a.1.2.1))
theorem qii:MdlOK Tryz.prog 164 ye:=nj Tryz.func164 rfl yd (.two .z (.two (.two .z (.s 0)) .z)) (sC qj9 s0)
def s5:Shp:=⟨[qqp],[]⟩
abbrev qho:Ctx (Bool):=⟨9,tt,false,false,[],j8 [(164,ye)],lm [],cm 9 tt [] [.tmp 4] s5 (fun x=>x.1.1)⟩
theorem qhn:CtxM Tryz.prog qho:=lw fits mixed (mC qii m0)
abbrev kh:Mdl:=(ay (.cons (.d false (.slice .bool)) (.cons (.d false .bool) .nil)) [] [] 1 s5 (B:=Bool) (fun b=>((b,()),(()))) (fun a=>er a.1.1 a.1.2.1))
theorem ri:MdlOK Tryz.prog 112 kh:=nj Tryz.func112 rfl qhn .z s0
def qlf:Shp:=⟨[qqp],[]⟩
abbrev qfa:Ctx (Bool):=⟨65,tt,false,false,[],j8 [(49,de),(48,bn),(111,qr7),(112,kh)],lm [am _ 65 [] qzk (C:=((List ah)×Int×Int×(List ah)×Int×Int)) (S:=Int) (fun x=>((x.1.2.1,x.1.2.2.1,x.2.1.1,x.2.1.2.1,x.2.1.2.2.1,(pe3 x.2.1)),(pe3 x.1))) qzj (CE:=(Int×(List ah)×Int×Int)) (E:=Unit) (fun c e=>(((),()),((c.1,c.2.1,c.2.2.1,c.2.2.2,()),()))) (fun c=>(c.2.2.1,(pe3 c),(pe4 c),(pf5 c))) (fun{R} c a nx dn rt=>qi9 c.1 c.2.1 c.2.2.1 (pe3 c) (pe4 c) (pf5 c) a nx dn rt),am _ 65 [] qzm (C:=((List Bool)×Int×Int×(List ah)×Int×Int)) (S:=Int) (fun x=>((x.1.2.1,x.1.2.2.1,x.2.1.1,x.2.1.2.1,x.2.1.2.2.1,(pe3 x.2.1)),(pe3 x.1))) qzl (CE:=Unit) (E:=Unit) (fun c e=>((()),(()))) (fun c=>()) (fun{R} c a nx dn rt=>qja c.1 c.2.1 c.2.2.1 (pe3 c) (pe4 c) (pf5 c) a nx dn rt)],cm 65 tt [] [.tmp 2] qlf (fun x=>x.1.1)⟩
theorem qe9:CtxM Tryz.prog qfa:=lw fits mixed (mC cq (mC bp (mC q2k (mC ri m0))))
theorem q16:ao Tryz.prog qfa 1 (lc 2 Tryz.f50 151):=lp rfl qe9 .z s0 (fun c a=>(((),c.1,c.2.1,a,()),((c.2.2.1,(pe3 c),(pe4 c),(pf5 c),()),()))) (fun y=>((),()))
theorem q15:ao Tryz.prog qfa 0 (lc 0 Tryz.f50 75):=lp rfl qe9 .z s0 (fun c a=>(((),c.1,c.2.1,a,()),((c.2.2.1,(pe3 c),(pe4 c),(pf5 c),()),()))) (fun y=>((y.2.1.1,y.2.1.2.1,y.2.1.2.2.1,(pe3 y.2.1)),()))
abbrev rg:Mdl:=(ay (.cons (.d false b8.ty) .nil) [] [] 1 qlf (B:=Bool) (fun b=>((b,()),(()))) (fun a=>qr1 a.1.1))
theorem su:MdlOK Tryz.prog 50 rg:=nj Tryz.func50 rfl qe9 (.two .z (.two .z (.two (.two .z (.s 0)) (.two (.two .z (.s 1)) .z)))) (sC q15 (sC q16 s0))
def q4f:Shp:=⟨[jxr,qvj],[qgb]⟩
abbrev jl1:Ctx ((Int×qL1)):=⟨17,tt,false,false,[],j8 [(49,de)],lm [],cm 17 tt [] [.tmp 4, .tmp 5] q4f (fun x=>(x.1.2.1,x.2.1))⟩
theorem jl0:CtxM Tryz.prog jl1:=lw fits mixed (mC cq m0)
abbrev qv9:Mdl:=(ay (.cons (.d false b8.ty) (.cons (.d false qT0) .nil)) [] [] 2 q4f (B:=(Int×qL1)) (fun b=>(((),b.1,()),(b.2,()))) (fun a=>q2b a.1.1 a.1.2.1))
theorem qzq:MdlOK Tryz.prog 88 qv9:=nj Tryz.func88 rfl jl0 .z s0
def qo8:Shp:=⟨[jxr,qvj],[qgb]⟩
abbrev q9k:Ctx ((Int×qL1)):=⟨10,tt,false,false,[],j8 [(88,qv9)],lm [],cm 10 tt [] [.tmp 2, .tmp 3] qo8 (fun x=>(x.1.2.1,x.2.1))⟩
theorem q9j:CtxM Tryz.prog q9k:=lw fits mixed (mC qzq m0)
abbrev qg6:Mdl:=(ay (.cons (.d false b8.ty) .nil) [] [] 2 qo8 (B:=(Int×qL1)) (fun b=>(((),b.1,()),(b.2,()))) (fun a=>qju a.1.1))
theorem qld:MdlOK Tryz.prog 37 qg6:=nj Tryz.func37 rfl q9j .z s0
def qsu:Shp:=⟨[jxr,qvj],[qgb]⟩
abbrev jce:Ctx ((Int×qL1)):=⟨27,tt,false,false,[],j8 [(49,de),(50,rg),(37,qg6)],lm [],cm 27 tt [] [.tmp 6, .tmp 7] qsu (fun x=>(x.1.2.1,x.2.1))⟩
theorem jcd:CtxM Tryz.prog jce:=lw fits mixed (mC cq (mC su (mC qld m0)))
abbrev qvf:Mdl:=(ay (.cons (.d false b8.ty) (.cons (.d false .bool) (.cons (.d false qT0) .nil))) [] [] 2 qsu (B:=(Int×qL1)) (fun b=>(((),b.1,()),(b.2,()))) (fun a=>qz0 a.1.1 a.1.2.1 a.1.2.2.1))
theorem q57:MdlOK Tryz.prog 79 qvf:=nj Tryz.func79 rfl jcd .z s0
def qjc:Shp:=⟨[qqp],[]⟩
abbrev q2a:Ctx (Bool):=⟨9,tt,false,false,[],j8 [],lm [],cm 9 tt [] [.tmp 2] qjc (fun x=>x.1.1)⟩
theorem q19:CtxM Tryz.prog q2a:=lw fits mixed m0
abbrev qli:Mdl:=(ay (.cons (.d false qT0) .nil) [] [] 1 qjc (B:=Bool) (fun b=>((b,()),(()))) (fun a=>qfc a.1.1))
theorem qv8:MdlOK Tryz.prog 134 qli:=nj Tryz.func134 rfl q19 .z s0
def pc:Shp:=⟨[q1r],[]⟩
abbrev p7:Ctx (Int):=⟨19,tt,false,false,[],j8 [(134,qli)],lm [am _ 19 [] qa5 (C:=(qL1×Int)) (S:=Int) (fun x=>((x.1.1,x.1.2.2.1),(pe3 x.1))) qa4 (CE:=Unit) (E:=Unit) (fun c e=>((()),(()))) (fun c=>()) (fun{R} c a nx dn rt=>ec c.1 c.2 a nx dn rt)],cm 19 tt [] [.tmp 4] pc (fun x=>x.1.1)⟩
theorem p5:CtxM Tryz.prog p7:=lw fits mixed (mC qv8 m0)
theorem qcy:ao Tryz.prog p7 0 (lc 0 Tryz.f147 37):=lp rfl p5 .z s0 (fun c a=>((c.1,(()),c.2,a,()),(()))) (fun y=>((),()))
abbrev p6:Mdl:=(ay (.cons (.d false qT1) (.cons (.fn 134 .nil) .nil)) [] [] 1 pc (B:=Int) (fun b=>((b,()),(()))) (fun a=>jf a.1.1))
theorem qa6:MdlOK Tryz.prog 147 p6:=nj Tryz.func147 rfl p5 (.two .z (.two (.two .z (.s 0)) .z)) (sC qcy s0)
def k8:Shp:=⟨[qqp],[]⟩
abbrev qad:Ctx (Bool):=⟨9,tt,false,false,[],j8 [(147,p6)],lm [],cm 9 tt [] [.tmp 4] k8 (fun x=>x.1.1)⟩
theorem qac:CtxM Tryz.prog qad:=lw fits mixed (mC qa6 m0)
abbrev mn:Mdl:=(ay (.cons (.d false qT1) (.cons (.fn 134 .nil) .nil)) [] [] 1 k8 (B:=Bool) (fun b=>((b,()),(()))) (fun a=>d8 a.1.1))
theorem xf:MdlOK Tryz.prog 92 mn:=nj Tryz.func92 rfl qac .z s0
def qpa:Shp:=⟨[qqp],[]⟩
abbrev q9s:Ctx (Bool):=⟨19,tt,false,false,[],j8 [(49,de),(92,mn)],lm [],cm 19 tt [] [.tmp 4] qpa (fun x=>x.1.1)⟩
theorem q9r:CtxM Tryz.prog q9s:=lw fits mixed (mC cq (mC xf m0))
abbrev zw:Mdl:=(ay (.cons (.d false b8.ty) (.cons (.d false qT1) .nil)) [] [] 1 qpa (B:=Bool) (fun b=>((b,()),(()))) (fun a=>nk a.1.1 a.1.2.1))
theorem qcu:MdlOK Tryz.prog 70 zw:=nj Tryz.func70 rfl q9r .z s0
def qjb:Shp:=⟨[qqp],[]⟩
abbrev q18:Ctx (Bool):=⟨9,tt,false,false,[],j8 [],lm [],cm 9 tt [] [.tmp 3] qjb (fun x=>x.1.1)⟩
theorem q17:CtxM Tryz.prog q18:=lw fits mixed m0
abbrev qlg:Mdl:=(ay (.cons (.d false qT0) (.cons (.rp false qT1) .nil)) [] [] 1 qjb (B:=Bool) (fun b=>((b,()),(()))) (fun a=>qfb a.1.1 a.1.2.1))
theorem qv7:MdlOK Tryz.prog 135 qlg:=nj Tryz.func135 rfl q17 .z s0
def pe:Shp:=⟨[q1r],[]⟩
abbrev qa:Ctx (Int):=⟨19,tt,false,false,[],j8 [(135,qlg)],lm [am _ 19 [] qa8 (C:=(qL1×qL1×Int)) (S:=Int) (fun x=>((x.1.1,x.1.2.1.1,x.1.2.2.1),(pe3 x.1))) qa7 (CE:=Unit) (E:=Unit) (fun c e=>((()),(()))) (fun c=>()) (fun{R} c a nx dn rt=>ed c.1 c.2.1 c.2.2 a nx dn rt)],cm 19 tt [] [.tmp 4] pe (fun x=>x.1.1)⟩
theorem p8:CtxM Tryz.prog qa:=lw fits mixed (mC qv7 m0)
theorem qcz:ao Tryz.prog qa 0 (lc 0 Tryz.f147 37):=lp rfl p8 .z s0 (fun c a=>((c.1,(c.2.1,()),c.2.2,a,()),(()))) (fun y=>((),()))
abbrev p9:Mdl:=(ay (.cons (.d false qT1) (.cons (.fn 135 (.cons (.rp false qT1) .nil)) .nil)) [] [] 1 pe (B:=Int) (fun b=>((b,()),(()))) (fun a=>jg a.1.1 a.1.2.1.1))
theorem qa9:MdlOK Tryz.prog 147 p9:=nj Tryz.func147 rfl p8 (.two .z (.two (.two .z (.s 0)) .z)) (sC qcz s0)
def k9:Shp:=⟨[qqp],[]⟩
abbrev qaf:Ctx (Bool):=⟨9,tt,false,false,[],j8 [(147,p9)],lm [],cm 9 tt [] [.tmp 4] k9 (fun x=>x.1.1)⟩
theorem qae:CtxM Tryz.prog qaf:=lw fits mixed (mC qa9 m0)
abbrev mq:Mdl:=(ay (.cons (.d false qT1) (.cons (.fn 135 (.cons (.rp false qT1) .nil)) .nil)) [] [] 1 k9 (B:=Bool) (fun b=>((b,()),(()))) (fun a=>gn a.1.1 a.1.2.1.1))
theorem xg:MdlOK Tryz.prog 92 mq:=nj Tryz.func92 rfl qae .z s0
def qo9:Shp:=⟨[qqp],[]⟩
abbrev q9q:Ctx (Bool):=⟨10,tt,false,false,[],j8 [(92,mq)],lm [],cm 10 tt [] [.tmp 4] qo9 (fun x=>x.1.1)⟩
theorem q9p:CtxM Tryz.prog q9q:=lw fits mixed (mC xg m0)
abbrev qg7:Mdl:=(ay (.cons (.d false ah.ty) (.cons (.d false qT1) .nil)) [] [] 1 qo9 (B:=Bool) (fun b=>((b,()),(()))) (fun a=>vm a.1.1 a.1.2.1))
theorem qlh:MdlOK Tryz.prog 71 qg7:=nj Tryz.func71 rfl q9p .z s0
def qo7:Shp:=⟨[(0, .nl false (.own 0)),qvj],[qgb]⟩
abbrev qrz:Ctx ((Int×qL1)):=⟨30,tt,false,false,[],j8 [(70,zw),(71,qg7)],lm [am _ 30 [] q12 (C:=(qL1×(List ah)×Int)) (S:=(Int×qL1)) (fun x=>((x.1.1,x.1.2.2.1,(pe3 x.1)),((pe4 x.1),x.2.1))) q11 (CE:=Unit) (E:=qL1) (fun c e=>(((),()),(e,()))) (fun c=>()) (fun{R} c a nx dn rt=>o5 c.1 c.2.1 c.2.2 a.1 a.2 nx dn rt)],cm 30 tt [] [.tmp 4, .tmp 5] qo7 (fun x=>(x.1.2.1,x.2.1))⟩
theorem qry:CtxM Tryz.prog qrz:=lw fits mixed (mC qcu (mC qlh m0))
theorem q5o:ao Tryz.prog qrz 0 (lc 0 Tryz.f21 151):=lp rfl qry .z s0 (fun c a=>((c.1,(),c.2.1,c.2.2,a.1,()),(a.2,()))) (fun y=>((),y.2.1))
abbrev kg:Mdl:=(ay (.cons (.d false b8.ty) (.cons (.d false qT1) .nil)) [] [] 2 qo7 (B:=(Int×qL1)) (fun b=>(((),b.1,()),(b.2,()))) (fun a=>fc a.1.1 a.1.2.1))
theorem j5:MdlOK Tryz.prog 21 kg:=nj Tryz.func21 rfl qry (.two .z (.two .z (.two .z (.two (.two .z (.s 0)) .z)))) (sC q5o s0)
def vy:Shp:=⟨[jxr],[qgb]⟩
abbrev qlz:Ctx (qL1):=⟨8,tt,false,false,[],j8 [],lm [],cm 8 tt [] [.tmp 2] vy (fun x=>x.2.1)⟩
theorem qlx:CtxM Tryz.prog qlz:=lw fits mixed m0
abbrev qly:Mdl:=(ay (.cons (.nl false (.d false qT1)) .nil) [] [] 1 vy (B:=qL1) (fun b=>(((),()),(b,()))) (fun a=>qaa a.1.1))
theorem qie:MdlOK Tryz.prog 22 qly:=nj Tryz.func22 rfl qlx .z s0
def nu:Shp:=⟨[jxr],[qgb]⟩
abbrev ql2:Ctx (qL1):=⟨8,tt,false,false,[],j8 [],lm [],cm 8 tt [] [.tmp 2] nu (fun x=>x.2.1)⟩
theorem ql0:CtxM Tryz.prog ql2:=lw fits mixed m0
abbrev ql1:Mdl:=(ay (.cons (.nl true (.d false qT1)) .nil) [] [] 1 nu (B:=qL1) (fun b=>(((),()),(b,()))) (fun a=>ju a.1.1))
theorem qif:MdlOK Tryz.prog 22 ql1:=nj Tryz.func22 rfl ql0 .z s0
abbrev bd:Mdl:=(ay (.cons (.d false qT1) .nil) [] [] 1 nu (fun(b:qL1)=>(((),()),(b,()))) (fun(a:((qL1×Unit)×(Unit)))=>bk a.1.1))
theorem bc:MdlOK Tryz.prog 22 bd:=by
 refine jqb (jxc _ _) qie qif (by kernel_rfl) (fun a b h=>⟨?_,h⟩);obtain⟨⟨xs,u1⟩,u2⟩:=a;cases xs with
 |nil=>exact h
 |cons x l=>
  have e:decide ((((x::l).length:Nat):Int)=0)=false:=decide_eq_false (by simp only[List.length_cons];omega);simp only[bk,ju]at h;simp only[qaa,e,cond_false];exact h
def jhv:Shp:=⟨[j7s],[]⟩
abbrev qmx:Mdl:=(ay (.cons (.d false qT1) .nil) [] [] 1 jhv (B:=ByteArray) (fun b=>((b,()),(()))) (fun a=>rx a.1.1))
theorem qmy:MdlOK Tryz.prog 75 qmx:=jwf _
def qq6:Shp:=⟨[q1r],[j72,j7q,j3o,j6m,qp4,qa0]⟩
abbrev jbj:Ctx ((Int×(List (ByteArray×Int))×(List ae)×qL2)):=⟨63,tt,false,false,[true,true,true,true],j8 [(75,qmx)],lm [],cm 63 tt [true,true,true,true] [.tmp 5] qq6 (fun x=>(x.1.1,(pe3 x),(pe5 x),(pe6 x)))⟩
theorem jbi:CtxM Tryz.prog jbj:=lw fits mixed (mC qmy m0)
abbrev qul:Mdl:=(ay (.cons (.d true ae.ty) (.cons (.ptr 0) (.cons (.ptr 1) (.cons (.rp false qT0) .nil)))) [j72,j7q,j3o, .cs 80 2 1 (.cons (.e) (.cons (.e) .nil))] [true,true,true,true] 1 qq6 (B:=(Int×(List (ByteArray×Int))×(List ae)×qL2)) (fun b=>((b.1,()),(((),()),((),()),b.2.1,((),(),()),b.2.2.1,b.2.2.2,()))) (fun a=>qf0 a.1.1 (pe3 a.1) (pe3 a)))
theorem q47:MdlOK Tryz.prog 137 qul:=nj Tryz.func137 rfl jbi (.two .z (.two (.d [0,0,2,6,15,31,63,63,127,511] [] []) (.two (.two .z (.two (.two .z (.two .z (.two (.d [0,0,2,6,0,31] [5] []) (.d [0,0,2,6,14,0,32,96,254,511,1023,2047] [8,11] [])))) .z)) (.two .z (.two .z (.two (.d [0,0,2,6,14,0,32,126,255,511,1023] [7,10] []) .z)))))) s0
def qis:Shp:=⟨[qqp],[]⟩
abbrev q00:Ctx (Bool):=⟨9,tt,false,false,[],j8 [],lm [],cm 9 tt [] [.tmp 3] qis (fun x=>x.1.1)⟩
theorem q0z:CtxM Tryz.prog q00:=lw fits mixed m0
abbrev qkn:Mdl:=(ay (.cons (.d false qT0) (.cons (.rp false qT1) .nil)) [] [] 1 qis (B:=Bool) (fun b=>((b,()),(()))) (fun a=>qe3 a.1.1 a.1.2.1))
theorem qvo:MdlOK Tryz.prog 183 qkn:=nj Tryz.func183 rfl q0z .z s0
def pj:Shp:=⟨[q1r],[]⟩
abbrev qq:Ctx (Int):=⟨19,tt,false,false,[],j8 [(183,qkn)],lm [am _ 19 [] qbo (C:=(qL1×qL1×Int)) (S:=Int) (fun x=>((x.1.1,x.1.2.1.1,x.1.2.2.1),(pe3 x.1))) qbn (CE:=Unit) (E:=Unit) (fun c e=>((()),(()))) (fun c=>()) (fun{R} c a nx dn rt=>ek c.1 c.2.1 c.2.2 a nx dn rt)],cm 19 tt [] [.tmp 4] pj (fun x=>x.1.1)⟩
theorem qo:CtxM Tryz.prog qq:=lw fits mixed (mC qvo m0)
theorem qc3:ao Tryz.prog qq 0 (lc 0 Tryz.f147 37):=lp rfl qo .z s0 (fun c a=>((c.1,(c.2.1,()),c.2.2,a,()),(()))) (fun y=>((),()))
abbrev qp:Mdl:=(ay (.cons (.d false qT1) (.cons (.fn 183 (.cons (.rp false qT1) .nil)) .nil)) [] [] 1 pj (B:=Int) (fun b=>((b,()),(()))) (fun a=>ji a.1.1 a.1.2.1.1))
theorem qbp:MdlOK Tryz.prog 147 qp:=nj Tryz.func147 rfl qo (.two .z (.two (.two .z (.s 0)) .z)) (sC qc3 s0)
def ld:Shp:=⟨[qqp],[]⟩
abbrev qal:Ctx (Bool):=⟨9,tt,false,false,[],j8 [(147,qp)],lm [],cm 9 tt [] [.tmp 4] ld (fun x=>x.1.1)⟩
theorem qak:CtxM Tryz.prog qal:=lw fits mixed (mC qbp m0)
abbrev m4:Mdl:=(ay (.cons (.d false qT1) (.cons (.fn 183 (.cons (.rp false qT1) .nil)) .nil)) [] [] 1 ld (B:=Bool) (fun b=>((b,()),(()))) (fun a=>gq a.1.1 a.1.2.1.1))
theorem xp:MdlOK Tryz.prog 92 m4:=nj Tryz.func92 rfl qak .z s0
def qoo:Shp:=⟨[qqp],[]⟩
abbrev q7r:Ctx (Bool):=⟨10,tt,false,false,[],j8 [(92,m4)],lm [],cm 10 tt [] [.tmp 4] qoo (fun x=>x.1.1)⟩
theorem q7q:CtxM Tryz.prog q7r:=lw fits mixed (mC xp m0)
abbrev qq2:Mdl:=(ay (.cons (.d false ah.ty) (.cons (.d false qT1) .nil)) [] [] 1 qoo (B:=Bool) (fun b=>((b,()),(()))) (fun a=>qdi a.1.1 a.1.2.1))
theorem q01:MdlOK Tryz.prog 138 qq2:=nj Tryz.func138 rfl q7q .z s0
def qxs:Shp:=⟨[q1r],[]⟩
abbrev jhx:Ctx (Int):=⟨11,tt,false,false,[],j8 [],lm [],cm 11 tt [] [.tmp 4] qxs (fun x=>x.1.1)⟩
theorem jhw:CtxM Tryz.prog jhx:=lw fits mixed m0
abbrev q3v:Mdl:=(ay (.cons (.d false qT0) (.cons (.d false qT0) .nil)) [] [] 1 qxs (B:=Int) (fun b=>((b,()),(()))) (fun a=>qgp a.1.1 a.1.2.1))
theorem jbl:MdlOK Tryz.prog 184 q3v:=nj Tryz.func184 rfl jhw .z s0
def qeq:Shp:=⟨[q1r],[]⟩
abbrev qfp:Ctx (Int):=⟨25,tt,false,false,[],j8 [],lm [am _ 25 [] qqj (C:=qL1) (S:=(Int×Int)) (fun x=>(x.1.1,(x.1.2.1,x.1.2.2.1))) qqi (CE:=Unit) (E:=Int) (fun c e=>((e,()),(()))) (fun c=>()) (fun{R} c a nx dn rt=>ky c a.1 a.2 nx dn rt)],cm 25 tt [] [.tmp 2] qeq (fun x=>x.1.1)⟩
theorem qfo:CtxM Tryz.prog qfp:=lw fits mixed m0
theorem qsr:ao Tryz.prog qfp 0 (lc 0 Tryz.f136 151):=lp rfl qfo .z s0 (fun c a=>((c,a.1,a.2,()),(()))) (fun y=>((),y.1.1))
abbrev ol:Mdl:=(ay (.cons (.d false qT1) .nil) [] [] 1 qeq (B:=Int) (fun b=>((b,()),(()))) (fun a=>kl a.1.1))
theorem sg:MdlOK Tryz.prog 136 ol:=nj Tryz.func136 rfl qfo (.two .z (.two .z (.two .z (.two (.two .z (.s 0)) .z)))) (sC qsr s0)
def qxm:Shp:=⟨[jxr,(1, .d true .bool)],[qgb]⟩
abbrev qq4:Ctx ((Bool×qL1)):=⟨49,tt,false,false,[],j8 [(22,bd),(184,q3v),(136,ol)],lm [am _ 49 [] ja6 (C:=(qL1×Int×ByteArray×qL1×qL1)) (S:=(Int×qL1)) (fun x=>((x.1.2.2.1,(pe3 x.1),x.2.1.1,x.2.1.2.1,x.2.1.2.2.1),((pe4 x.1),x.2.2.1))) ja5 (CE:=(ByteArray×qL1×qL1)) (E:=qL1) (fun c e=>(((),(),()),((c.1,c.2.1,c.2.2,()),e,()))) (fun c=>(c.2.2.1,(pe3 c),(pf4 c))) (fun{R} c a nx dn rt=>qdj c.1 c.2.1 c.2.2.1 (pe3 c) (pf4 c) a.1 a.2 nx dn rt),am _ 49 [] ja8 (C:=(qL1×Int)) (S:=(Int×qL1)) (fun x=>((x.1.2.1,x.1.2.2.1),((pe3 x.1),x.2.1))) ja7 (CE:=Unit) (E:=qL1) (fun c e=>(((),()),(e,()))) (fun c=>()) (fun{R} c a nx dn rt=>qdk c.1 c.2 a.1 a.2 nx dn rt)],cm 49 tt [] [.tmp 4, .tmp 5] qxm (fun x=>(x.1.2.1,x.2.1))⟩
theorem qq3:CtxM Tryz.prog qq4:=lw fits mixed (mC bc (mC jbl (mC sg m0)))
theorem je4:ao Tryz.prog qq4 1 (lc 2 Tryz.f139 151):=lp rfl qq3 .z s0 (fun c a=>(((),c.1,c.2,a.1,()),(a.2,()))) (fun y=>((),y.2.1))
theorem je3:ao Tryz.prog qq4 0 (lc 0 Tryz.f139 75):=lp rfl qq3 .z s0 (fun c a=>(((),(),c.1,c.2.1,a.1,()),((c.2.2.1,(pe3 c),(pf4 c),()),a.2,()))) (fun y=>((y.2.1.1,y.2.1.2.1,y.2.1.2.2.1),y.2.2.1))
abbrev q3t:Mdl:=(ay (.cons (.d false ah.ty) (.cons (.d false qT1) .nil)) [] [] 2 qxm (B:=(Bool×qL1)) (fun b=>(((),b.1,()),(b.2,()))) (fun a=>qmw a.1.1 a.1.2.1))
theorem ja9:MdlOK Tryz.prog 139 q3t:=nj Tryz.func139 rfl qq3 (.two .z (.two .z (.two (.two .z (.s 0)) (.two (.two .z (.s 1)) .z)))) (sC je3 (sC je4 s0))
def qui:Shp:=⟨[qqp],[]⟩
abbrev qxj:Ctx (Bool):=⟨35,tt,false,false,[],j8 [],lm [am _ 35 [] q7m (C:=(qL1×qL1×Int)) (S:=Int) (fun x=>((x.1.1,x.1.2.1,x.1.2.2.1),(pe3 x.1))) q7l (CE:=Unit) (E:=Unit) (fun c e=>((()),(()))) (fun c=>()) (fun{R} c a nx dn rt=>j9 c.1 c.2.1 c.2.2 a nx dn rt)],cm 35 tt [] [.tmp 4] qui (fun x=>x.1.1)⟩
theorem qxi:CtxM Tryz.prog qxj:=lw fits mixed m0
theorem ja4:ao Tryz.prog qxj 0 (lc 0 Tryz.f31 37):=lp rfl qxi (.two .z (.two .z (.two (.one (.two .z (.two (.d [0,0,3,7,15,31,63,63,255,511,1023,2047,4095,4095,16383,32767,4095,4095,200703,462847,1048575,2097151,4194303] [] []) .z))) .z))) s0 (fun c a=>((c.1,c.2.1,c.2.2,a,()),(()))) (fun y=>((),()))
abbrev qmv:Mdl:=(ay (.cons (.d false qT1) (.cons (.d false qT1) .nil)) [] [] 1 qui (B:=Bool) (fun b=>((b,()),(()))) (fun a=>qdv a.1.1 a.1.2.1))
theorem qqx:MdlOK Tryz.prog 31 qmv:=nj Tryz.func31 rfl qxi (.two .z (.two (.two .z (.s 0)) .z)) (sC ja4 s0)
def qao:Shp:=⟨[qqp],[]⟩
abbrev qca:Ctx (Bool):=⟨26,tt,false,false,[],j8 [],lm [am _ 26 [] ql4 (C:=(qL1×qL1×Int)) (S:=Int) (fun x=>((x.1.1,x.1.2.1,x.1.2.2.1),(pe3 x.1))) ql3 (CE:=Unit) (E:=Unit) (fun c e=>((()),(()))) (fun c=>()) (fun{R} c a nx dn rt=>fm c.1 c.2.1 c.2.2 a nx dn rt)],cm 26 tt [] [.tmp 4] qao (fun x=>x.1.1)⟩
theorem qb9:CtxM Tryz.prog qca:=lw fits mixed m0
theorem qn9:ao Tryz.prog qca 0 (lc 0 Tryz.f83 75):=lp rfl qb9 (.two .z (.two .z (.two (.one (.two .z (.two (.d [0,0,3,7,0,0,48,112,255] [] []) .z))) .z))) s0 (fun c a=>((c.1,c.2.1,c.2.2,a,()),(()))) (fun y=>((),()))
abbrev bm:Mdl:=(ay (.cons (.d false qT1) (.cons (.d false qT1) .nil)) [] [] 1 qao (B:=Bool) (fun b=>((b,()),(()))) (fun a=>m8 a.1.1 a.1.2.1))
theorem bj:MdlOK Tryz.prog 83 bm:=nj Tryz.func83 rfl qb9 (.two .z (.two .z (.two (.two .z (.s 0)) .z))) (sC qn9 s0)
def qop:Shp:=⟨[q1r],[j72,j7q,j3o,j6m,qp4,qa0]⟩
abbrev q7t:Ctx ((Int×(List (ByteArray×Int))×(List ae)×qL2)):=⟨63,tt,false,false,[true,true,true,true,false,false],j8 [(75,qmx)],lm [],cm 63 tt [true,true,true,true,false,false] [.tmp 5] qop (fun x=>(x.1.1,(pe3 x),(pe5 x),(pe6 x)))⟩
theorem q7s:CtxM Tryz.prog q7t:=lw fits mixed (mC qmy m0)
abbrev qq5:Mdl:=(ay (.cons (.d true ae.ty) (.cons (.ptr 0) (.cons (.ptr 1) (.cons (.rp false qT0) .nil)))) [j72,j7q,j3o,j6m,qp4,qa0] [true,true,true,true,false,false] 1 qop (B:=(Int×(List (ByteArray×Int))×(List ae)×qL2)) (fun b=>((b.1,()),(((),()),((),()),b.2.1,((),(),()),b.2.2.1,b.2.2.2,()))) (fun a=>qdl a.1.1 (pe3 a.1) (pe3 a) (pe5 a) (pe6 a)))
theorem q02:MdlOK Tryz.prog 137 qq5:=nj Tryz.func137 rfl q7s (.two .z (.two (.d [0,0,2,6,15,31,63,63,127,511] [] []) (.two (.two .z (.two (.two .z (.two .z (.two (.d [0,0,2,6,0,31] [5] []) (.d [0,0,2,6,14,0,32,96,254,511,1023,2047] [8,11] [])))) .z)) (.two .z (.two .z (.two (.d [0,0,2,6,14,0,32,126,255,511,1023] [7,10] []) .z)))))) s0
def qxr:Shp:=⟨[jkf,qvj],[j37,qp4,qa0]⟩
def quk:Shp:=⟨[qvj],[]⟩
abbrev qdx:Ctx (((Int×(List ae)×qL2)⊕Int)):=⟨159,tt,false,true,[],j8 [(22,bd),(137,qul),(137,qq5),(138,qq2),(139,q3t),(31,qmv),(83,bm)],lm [am _ 159 [] jbb (C:=(Int×Int×qL1×(List ah)×Int×Int×Int×Int×(List ah)×Int×Int×Int×qL1×Int×Int×Int×Int×Bool×Bool×(List (ByteArray×Int))×(List ae)×qL2)) (S:=(Int×qL1)) (fun x=>(((pe3 x.1),(pe5 x.1),(pe6 x.1),(pe7 x.1),(pe8 x.1),(pe9 x.1),(pe10 x.1),x.2.1.1,x.2.1.2.1,x.2.1.2.2.1,(pe3 x.2.1),(pe4 x).1,(pe5 x).1,(pe5 x).2.2.1,(pe3 (pe5 x)),(pe4 (pe5 x)),(pe5 (pe5 x)),(pe6 (pe5 x)),(pe7 (pe5 x)),(pe7 x),(pe9 x),(pe10 x)),((pe11 x.1),(pe8 x)))) jba (CE:=(Int×Int×(List ah)×Int×Int×Int×(List ah)×Int×Int×Int×qL1×Int×Int×Int×Int×Bool×Bool×(List (ByteArray×Int))×(List ae)×qL2)) (E:=qL1) (fun c e=>(((),(),((),(),(),()),c.1,(),c.2.1,c.2.2.1,(pe3 c),(pe4 c),()),(((pe5 c),(pe6 c),(pe7 c),(pe8 c),()),((),()),((),()),((pe9 c),()),((pe10 c),(),(pe11 c),(pe12 c),(pe13 c),(pe14 c),(pe15 c),(pe16 c),()),((),(),()),(pe17 c),e,(pe18 c),(pf19 c),()))) (fun c=>(c.1,c.2.1,(pe3 c),(pe4 c),(pe5 c),(pe7 c),(pe8 c),(pe9 c),(pe10 c),(pe11 c),(pe12 c),(pe13 c),(pe14 c),(pe15 c),(pe16 c),(pe17 c),(pe18 c),(pe19 c),(pe20 c),(pf21 c))) (fun{R} c a nx dn rt=>va c.1 c.2.1 c.2.2.1 (pe3 c) (pe4 c) (pe5 c) (pe6 c) (pe7 c) (pe8 c) (pe9 c) (pe10 c) (pe11 c) (pe12 c) (pe13 c) (pe14 c) (pe15 c) (pe16 c) (pe17 c) (pe18 c) (pe19 c) (pe20 c) (pf21 c) a.1 a.2 nx dn rt),am _ 159 [] jbd (C:=(Int×(List ah)×Int×Int×Int×(List ah)×Int×Int×Int×qL1×Int×Int×Int×Bool×(List (ByteArray×Int))×(List ae)×qL2)) (S:=(Int×Int×Bool×qL1)) (fun x=>(((pe3 x.1),(pe6 x.1),(pe7 x.1),(pe8 x.1),x.2.1.1,x.2.1.2.1,x.2.1.2.2.1,(pe3 x.2.1),(pe4 x).1,(pe5 x).1,(pe5 x).2.2.1,(pe3 (pe5 x)),(pe4 (pe5 x)),(pe6 (pe5 x)),(pe7 x),(pe9 x),(pe10 x)),((pe5 x.1),(pe5 (pe5 x)),(pe7 (pe5 x)),(pe8 x)))) jbc (CE:=(Int×(List ah)×Int×Int×Int×(List ah)×Int×Int×Int×qL1×Int×Int×Int×Bool×(List (ByteArray×Int))×(List ae)×qL2)) (E:=(Int×Bool×qL1)) (fun c e=>(((),(),((),(),(),()),c.1,(),c.2.1,c.2.2.1,(pe3 c),()),(((pe4 c),(pe5 c),(pe6 c),(pe7 c),()),((),()),((),()),((pe8 c),()),((pe9 c),(),(pe10 c),(pe11 c),(pe12 c),e.1,(pe13 c),e.2.1,()),((),(),()),(pe14 c),e.2.2,(pe15 c),(pf16 c),()))) (fun c=>(c.1,c.2.1,c.2.2.1,(pe3 c),(pe4 c),(pe5 c),(pe6 c),(pe7 c),(pe8 c),(pe9 c),(pe10 c),(pe11 c),(pe12 c),(pe13 c),(pe14 c),(pe15 c),(pf16 c))) (fun{R} c a nx dn rt=>j4 c.1 c.2.1 c.2.2.1 (pe3 c) (pe4 c) (pe5 c) (pe6 c) (pe7 c) (pe8 c) (pe9 c) (pe10 c) (pe11 c) (pe12 c) (pe13 c) (pe14 c) (pe15 c) (pf16 c) a.1 a.2.1 a.2.2.1 a.2.2.2 nx dn rt),am _ 159 [] jbf (C:=(Int×(List ah)×Int×Int×(List ah)×Int×Int×Int)) (S:=(Int×(List (ByteArray×Int))×(List ae)×qL2)) (fun x=>(((pe3 x.1),(pe4 x.1),(pe5 x.1),x.2.1.1,x.2.1.2.1,x.2.1.2.2.1,(pe3 x.2.1),(pe4 x).1),((pe6 x.1),(pe6 x),(pe7 x),(pe8 x)))) jbe (CE:=(Int×Int×(List ah)×Int×Int×Int)) (E:=((List (ByteArray×Int))×(List ae)×qL2)) (fun c e=>(((),(),((),(),(),()),c.1,()),((c.2.1,c.2.2.1,(pe3 c),(pe4 c),()),((),()),((),()),((pf5 c),()),((),(),()),e.1,e.2.1,e.2.2,()))) (fun c=>(c.1,(pe3 c),(pe4 c),(pe5 c),(pe6 c),(pf7 c))) (fun{R} c a nx dn rt=>il c.1 c.2.1 c.2.2.1 (pe3 c) (pe4 c) (pe5 c) (pe6 c) (pf7 c) a.1 a.2.1 a.2.2.1 a.2.2.2 nx dn rt),am _ 159 [] jbh (C:=(Int×(List ah)×Int×Int×Int)) (S:=(Int×(List (ByteArray×Int))×(List ae)×qL2)) (fun x=>((x.2.1.1,x.2.1.2.1,x.2.1.2.2.1,(pe3 x.2.1),(pe4 x).1),((pe3 x.1),(pe6 x),(pe7 x),(pe8 x)))) jbg (CE:=Unit) (E:=((List ae)×qL2)) (fun c e=>(((),()),(((),()),((),(),()),e.1,e.2,()))) (fun c=>()) (fun{R} c a nx dn rt=>nh c.1 c.2.1 c.2.2.1 (pe3 c) (pf4 c) a.1 a.2.1 a.2.2.1 a.2.2.2 nx dn rt)],jds 159 tt [] [.tmp 6, .tmp 7] qxr quk (fun x=>(x.1.2.1,x.2.2.1,(pe3 x))) (fun x=>x.1.1)⟩
theorem qdw:CtxM Tryz.prog qdx:=lw fits mixed (mC bc (mC q47 (mC q02 (mC q01 (mC ja9 (mC qqx (mC bj m0)))))))
theorem je5:ao Tryz.prog qdx 0 (lc 6 Tryz.f73 645518484671):=lp rfl qdw (.two .z (.two .z (.two (.one (.two .z (.two (.d [0,0,3,7,0,16,0,112,240,511] [] []) .z))) .z))) s0 (fun c a=>(((),(),((),(),(),()),c.1,(),c.2.1,c.2.2.1,(pe3 c),(pe4 c),(pe5 c),(pe6 c),a.1,()),(((pe7 c),(pe8 c),(pe9 c),(pe10 c),()),((),()),((),()),((pe11 c),()),((pe12 c),(),(pe13 c),(pe14 c),(pe15 c),(pe16 c),(pe17 c),(pe18 c),()),((),(),()),(pe19 c),a.2,(pe20 c),(pf21 c),()))) (fun y=>(((pe3 y.1),(pe5 y.1),(pe6 y.1),(pe7 y.1),(pe8 y.1),y.2.1.1,y.2.1.2.1,y.2.1.2.2.1,(pe3 y.2.1),(pe4 y).1,(pe5 y).1,(pe5 y).2.2.1,(pe3 (pe5 y)),(pe4 (pe5 y)),(pe5 (pe5 y)),(pe6 (pe5 y)),(pe7 (pe5 y)),(pe7 y),(pe9 y),(pe10 y)),(pe8 y)))
theorem je6:ao Tryz.prog qdx 1 (lc 4 Tryz.f73 1273390271):=lp rfl qdw (.two .z (.two (.one (.two .z (.two .z (.two (.two .z (.s 0)) .z)))) .z)) (sC je5 s0) (fun c a=>(((),(),((),(),(),()),c.1,(),a.1,c.2.1,c.2.2.1,(pe3 c),()),(((pe4 c),(pe5 c),(pe6 c),(pe7 c),()),((),()),((),()),((pe8 c),()),((pe9 c),(),(pe10 c),(pe11 c),(pe12 c),a.2.1,(pe13 c),a.2.2.1,()),((),(),()),(pe14 c),a.2.2.2,(pe15 c),(pf16 c),()))) (fun y=>(((pe3 y.1),(pe5 y.1),(pe6 y.1),(pe7 y.1),y.2.1.1,y.2.1.2.1,y.2.1.2.2.1,(pe3 y.2.1),(pe4 y).1,(pe5 y).1,(pe5 y).2.2.1,(pe3 (pe5 y)),(pe4 (pe5 y)),(pe6 (pe5 y)),(pe7 y),(pe9 y),(pe10 y)),((pe5 (pe5 y)),(pe7 (pe5 y)),(pe8 y))))
theorem je7:ao Tryz.prog qdx 2 (lc 2 Tryz.f73 156863):=lp rfl qdw (.two .z (.two .z (.two (.one (.two .z (.two (.two (.d [0,0,2,6,14,0,62,126,254,511,1023] [] []) .z) (.two (.d [0,0,2,6,14,0,62,126,254,511,1023,2047,2047,4095,16383] [] []) (.two .z (.two .z (.two (.two .z (.s 1)) .z))))))) .z))) (sC je6 s0) (fun c a=>(((),(),((),(),(),()),c.1,c.2.1,c.2.2.1,a.1,()),(((pe3 c),(pe4 c),(pe5 c),(pe6 c),()),((),()),((),()),((pf7 c),()),((),(),()),a.2.1,a.2.2.1,a.2.2.2,()))) (fun y=>(((pe3 y.1),y.2.1.1,y.2.1.2.1,y.2.1.2.2.1,(pe3 y.2.1),(pe4 y).1),((pe6 y),(pe7 y),(pe8 y))))
theorem je8:ao Tryz.prog qdx 3 (lc 0 Tryz.f73 1215):=lp rfl qdw (.two .z (.two (.one (.two .z (.two .z (.s 2)))) .z)) (sC je7 s0) (fun c a=>(((),(),((),(),(),()),a.1,()),((c.1,c.2.1,c.2.2.1,(pe3 c),()),((),()),((),()),((pf4 c),()),((),(),()),a.2.1,a.2.2.1,a.2.2.2,()))) (fun y=>((),((pe3 y),(pe4 y))))
abbrev q3u:Mdl:=(q8z (.cons (.d false b8.ty) (.cons (.d false qT1) (.cons (.d false qT0) .nil))) [] [] 2 qxr quk (B1:=(Int×(List ae)×qL2)) (B2:=Int) (fun b=>(((),b.1,()),(((),(),()),b.2.1,b.2.2,()))) (fun b=>((b,()),(()))) (fun a=>wu a.1.1 a.1.2.1 a.1.2.2.1))
theorem jbk:MdlOK Tryz.prog 73 q3u:=j2g Tryz.func73 rfl qdw (.two .z (.two .z (.two .z (.two .z (.two .z (.two .z (.two (.two .z (.s 3)) .z))))))) (sC je8 s0)
def qug:Shp:=⟨[jkf,qvj],[j37,qp4,qa0]⟩
def qqw:Shp:=⟨[qvj],[]⟩
abbrev qxh:Ctx (((Int×(List ae)×qL2)⊕Int)):=⟨53,tt,false,false,[],j8 [(21,kg),(73,q3u)],lm [am _ 53 [] q7k (C:=(qL2×Int×Int×qL2×Int×Int×(List ah)×Int×Int)) (S:=Int) (fun x=>((x.1.1,x.1.2.1,x.1.2.2.1,(pe4 x.1),(pe5 x.1),x.2.1.1,x.2.1.2.1,x.2.1.2.2.1,(pe3 x.2.1)),(pe6 x.1))) q7j (CE:=(qL2×Int×Int×Int×(List ah)×Int×Int)) (E:=Unit) (fun c e=>((c.1,c.2.1,c.2.2.1,(),()),(((pe3 c),(pe4 c),(pe5 c),(pf6 c),()),()))) (fun c=>(c.1,c.2.1,c.2.2.1,(pe5 c),(pe6 c),(pe7 c),(pf8 c))) (fun{R} c a nx dn rt=>yv c.1 c.2.1 c.2.2.1 (pe3 c) (pe4 c) (pe5 c) (pe6 c) (pe7 c) (pf8 c) a nx dn rt)],jds 53 tt [] [.tmp 8, .tmp 9] qug qqw (fun x=>(x.1.2.1,x.2.2.1,(pe3 x))) (fun x=>x.1.1)⟩
theorem qxg:CtxM Tryz.prog qxh:=lw fits mixed (mC j5 (mC jbk m0))
theorem ja3:ao Tryz.prog qxh 0 (lc 0 Tryz.f26 37):=lp rfl qxg .z s0 (fun c a=>((c.1,c.2.1,c.2.2.1,(),(pe3 c),(pe4 c),a,()),(((pe5 c),(pe6 c),(pe7 c),(pf8 c),()),()))) (fun y=>((y.1.1,y.1.2.1,y.1.2.2.1,y.2.1.1,y.2.1.2.1,y.2.1.2.2.1,(pe3 y.2.1)),()))
abbrev qfy:Mdl:=(q8z (.cons (.d false b8.ty) (.cons (.d false qT2) (.cons (.d false qT0) (.cons (.d false qT0) .nil)))) [] [] 2 qug qqw (B1:=(Int×(List ae)×qL2)) (B2:=Int) (fun b=>(((),b.1,()),(((),(),()),b.2.1,b.2.2,()))) (fun b=>((b,()),(()))) (fun a=>ma a.1.1 a.1.2.1 a.1.2.2.1 (pe3 a.1)))
theorem qgo:MdlOK Tryz.prog 26 qfy:=j2g Tryz.func26 rfl qxg (.two .z (.two (.two .z (.s 0)) (.two .z (.two (.d [0,0,2,6,0,31,63,63,255,511] [] []) .z)))) (sC ja3 s0)
def qgs:Shp:=⟨[j73],[]⟩
abbrev yz:Ctx (l0):=⟨57,tt,false,false,[],j8 [(22,bd)],lm [am _ 57 [] qtx (C:=(dr×qL2×Int×qL2×(List ar)×Bool×Bool×(List ar))) (S:=(Int×qL2)) (fun x=>((x.1.1,(pe3 x.1),(pe4 x.1),x.2.1.1,x.2.1.2.1,x.2.1.2.2.1,x.2.2.1.2.2.1,(pe4 x)),((pe5 x.1),(pe3 x)))) qtw (CE:=(dr×qL2×(List ar)×Bool×Bool×(List ar))) (E:=qL2) (fun c e=>((c.1,(),(),()),((c.2.1,c.2.2.1,(pe3 c),()),((),(),(pe4 c),()),e,(pf5 c),()))) (fun c=>(c.1,(pe3 c),(pe4 c),(pe5 c),(pe6 c),(pf7 c))) (fun{R} c a nx dn rt=>oh c.1 c.2.1 c.2.2.1 (pe3 c) (pe4 c) (pe5 c) (pe6 c) (pf7 c) a.1 a.2 nx dn rt),am _ 57 [] qtz (C:=(dr×(List ae)×Int×qL2×(List ar)×Bool×qL2×Bool)) (S:=(Int×(List ar))) (fun x=>((x.1.1,(pe3 x.1),(pe4 x.1),x.2.1.1,x.2.1.2.1,x.2.1.2.2.1,x.2.2.1.1,x.2.2.1.2.2.1),((pe5 x.1),(pe3 x)))) qty (CE:=(qL2×(List ar)×Bool×qL2×Bool)) (E:=(List ar)) (fun c e=>(((),(),()),((c.1,c.2.1,c.2.2.1,()),((pe3 c),(),(pf4 c),()),e,()))) (fun c=>((pe3 c),(pe4 c),(pe5 c),(pe6 c),(pf7 c))) (fun{R} c a nx dn rt=>oi c.1 c.2.1 c.2.2.1 (pe3 c) (pe4 c) (pe5 c) (pe6 c) (pf7 c) a.1 a.2 nx dn rt)],cm 57 tt [] [.cell 2 31] qgs (fun x=>x.1.1)⟩
theorem yw:CtxM Tryz.prog yz:=lw fits mixed (mC bc m0)
theorem qvq:ao Tryz.prog yz 1 (lc 2 Tryz.f28 151):=lp rfl yw (.two .z (.two .z (.two (.one (.two .z (.d [0,1,0,4,12,28,0,64,252,508,1020,0,2048,0,8192,32764,65532,131071,262143,524287] [17,19] []))) .z))) s0 (fun c a=>((c.1,(),(),c.2.1,c.2.2.1,a.1,()),(((pe3 c),(pe4 c),(pe5 c),()),((pe6 c),(),(pf7 c),()),a.2,()))) (fun y=>((y.2.1.1,y.2.1.2.1,y.2.1.2.2.1,y.2.2.1.1,y.2.2.1.2.2.1),(pe3 y)))
theorem qvp:ao Tryz.prog yz 0 (lc 0 Tryz.f28 75):=lp rfl yw (.two .z (.two .z (.two (.one (.two .z (.d [0,1,0,4,12,31,63,127] [5,7] []))) .z))) s0 (fun c a=>((c.1,(),(),c.2.1,c.2.2.1,a.1,()),(((pe3 c),(pe4 c),(pe5 c),()),((),(),(pe6 c),()),a.2,(pf7 c),()))) (fun y=>((y.1.1,y.2.1.1,y.2.1.2.1,y.2.1.2.2.1,y.2.2.1.2.2.1,(pe4 y)),(pe3 y)))
abbrev yx:Mdl:=(ay (.cons (.rp false dr.ty) .nil) [] [] 1 qgs (B:=l0) (fun b=>((b,()),(()))) (fun a=>ov a.1.1))
theorem qfj:MdlOK Tryz.prog 28 yx:=nj Tryz.func28 rfl yw (.two .z (.two .z (.two (.two .z (.s 0)) (.two (.two .z (.s 1)) .z)))) (sC qvp (sC qvq s0))
def que:Shp:=⟨[j73,qvj],[]⟩
abbrev je2:Ctx ((l0×Int)):=⟨24,tt,false,false,[],j8 [(26,qfy),(28,yx)],lm [],cm 24 tt [] [.cell 6 31, .tmp 7] que (fun x=>(x.1.1,x.1.2.1))⟩
theorem je1:CtxM Tryz.prog je2:=lw fits mixed (mC qgo (mC qfj m0))
abbrev qxf:Mdl:=(ay (.cons (.d false b8.ty) (.cons (.d false qT1) (.cons (.d false qT0) .nil))) [] [] 2 que (B:=(l0×Int)) (fun b=>((b.1,b.2,()),(()))) (fun a=>q3s a.1.1 a.1.2.1 a.1.2.2.1))
theorem q7i:MdlOK Tryz.prog 80 qxf:=nj Tryz.func80 rfl je1 .z s0
def qu1:Shp:=⟨[jxr,qvj],[qgb]⟩
abbrev jgi:Ctx ((Int×qL1)):=⟨10,tt,false,false,[],j8 [(88,qv9)],lm [],cm 10 tt [] [.tmp 2, .tmp 3] qu1 (fun x=>(x.1.2.1,x.2.1))⟩
theorem jgh:CtxM Tryz.prog jgi:=lw fits mixed (mC qzq m0)
abbrev qnw:Mdl:=(ay (.cons (.d false b8.ty) .nil) [] [] 2 qu1 (B:=(Int×qL1)) (fun b=>(((),b.1,()),(b.2,()))) (fun a=>q4c a.1.1))
theorem qr0:MdlOK Tryz.prog 143 qnw:=nj Tryz.func143 rfl jgh .z s0
def qst:Shp:=⟨[jkf],[qip,jtu]⟩
abbrev qve:Ctx ((Int×(List ah)×Int×Int×qL2×(List ar)×Bool×qL1×(List (List ar)))):=⟨51,tt,false,false,[],j8 [(143,qnw)],lm [am _ 51 [] q55 (C:=((List ar)×Int×Int×(List ah)×Int×Int×qL2×(List ar)×Bool×qL1)) (S:=(Int×(List (List ar)))) (fun x=>((x.1.2.1,x.1.2.2.1,x.2.1.1,x.2.1.2.1,x.2.1.2.2.1,(pe3 x.2.1),(pe4 x.2.1),(pe5 x.2.1),(pe6 x.2.1),(pe7 x.2.1)),((pe3 x.1),x.2.2.1))) q54 (CE:=(Int×(List ah)×Int×Int×qL2×(List ar)×Bool×qL1)) (E:=(List (List ar))) (fun c e=>(((),()),((c.1,c.2.1,c.2.2.1,(pe3 c),(pe4 c),(pe5 c),(pe6 c),(pf7 c),(),()),e,()))) (fun c=>(c.2.2.1,(pe3 c),(pe4 c),(pe5 c),(pe6 c),(pe7 c),(pe8 c),(pf9 c))) (fun{R} c a nx dn rt=>qpj c.1 c.2.1 c.2.2.1 (pe3 c) (pe4 c) (pe5 c) (pe6 c) (pe7 c) (pe8 c) (pf9 c) a.1 a.2 nx dn rt)],cm 51 tt [] [.tmp 4] qst (fun x=>(x.2.1.1,x.2.1.2.1,x.2.1.2.2.1,(pe3 x.2.1),(pe4 x.2.1),(pe5 x.2.1),(pe6 x.2.1),(pe7 x.2.1),x.2.2.1))⟩
theorem qvc:CtxM Tryz.prog qve:=lw fits mixed (mC qr0 m0)
theorem q99:ao Tryz.prog qve 0 (lc 0 Tryz.f81 151):=lp rfl qvc (.two .z (.two .z (.two (.one (.two .z (.d [0,1,3,7,0,16,0,64,192,448,0,1024,4032,8128,0,16384,65472,131071,262143] [16,18] []))) .z))) s0 (fun c a=>(((),c.1,c.2.1,a.1,()),((c.2.2.1,(pe3 c),(pe4 c),(pe5 c),(pe6 c),(pe7 c),(pe8 c),(pf9 c),(),()),a.2,()))) (fun y=>((y.2.1.1,y.2.1.2.1,y.2.1.2.2.1,(pe3 y.2.1),(pe4 y.2.1),(pe5 y.2.1),(pe6 y.2.1),(pe7 y.2.1)),y.2.2.1))
abbrev qvd:Mdl:=(ay (.cons (.d true b8.ty) (.cons (.d true l0.ty) .nil)) [] [] 1 qst (B:=(Int×(List ah)×Int×Int×qL2×(List ar)×Bool×qL1×(List (List ar)))) (fun b=>(((),()),((b.1,b.2.1,b.2.2.1,(pe3 b),(pe4 b),(pe5 b),(pe6 b),(pe7 b),(),()),(pf8 b),()))) (fun a=>qzz a.1.1 a.1.2.1))
theorem q56:MdlOK Tryz.prog 81 qvd:=nj Tryz.func81 rfl qvc (.two .z (.two .z (.two (.d [0,0,0,0,8,24,56,127,255,511] [] []) (.two (.two .z (.s 0)) .z)))) (sC q99 s0)
def qpi:Shp:=⟨[jkf,qvj],[qip,jtu]⟩
def ql7:Shp:=⟨[qvj],[]⟩
abbrev q97:Ctx (((Int×Int×(List ah)×Int×Int×qL2×(List ar)×Bool×qL1×(List (List ar)))⊕Int)):=⟨34,tt,false,false,[],j8 [(79,qvf),(80,qxf),(81,qvd)],lm [],jds 34 tt [] [.tmp 6, .tmp 7] qpi ql7 (fun x=>(x.1.2.1,x.2.1.1,x.2.1.2.1,x.2.1.2.2.1,(pe3 x.2.1),(pe4 x.2.1),(pe5 x.2.1),(pe6 x.2.1),(pe7 x.2.1),x.2.2.1)) (fun x=>x.1.1)⟩
theorem q96:CtxM Tryz.prog q97:=lw fits mixed (mC q57 (mC q7i (mC q56 m0)))
abbrev qss:Mdl:=(q8z (.cons (.d true b8.ty) (.cons (.d false .bool) (.cons (.d false qT0) .nil))) [] [] 2 qpi ql7 (B1:=(Int×Int×(List ah)×Int×Int×qL2×(List ar)×Bool×qL1×(List (List ar)))) (B2:=Int) (fun b=>(((),b.1,()),((b.2.1,b.2.2.1,(pe3 b),(pe4 b),(pe5 b),(pe6 b),(pe7 b),(pe8 b),(),()),(pf9 b),()))) (fun b=>((b,()),(()))) (fun a=>jcc a.1.1 a.1.2.1 a.1.2.2.1))
theorem q2u:MdlOK Tryz.prog 35 qss:=j2g Tryz.func35 rfl q96 .z s0
abbrev qat:Mdl:=dh Tryz.f144 5 tt false false [] [(48,bn)] [.tmp 2] (.cons (.d false qT1) .nil) [] ⟨[(0, .d true .bool)],[]⟩ .z
theorem qkb:MdlOK Tryz.prog 144 qat:=dg Tryz.func144 fits mixed (mC bp m0)
abbrev qe:Mdl:=dh Tryz.f25 19 tt false false [] [(144,qat)] [.tmp 4] (.cons (.d false qT2) (.cons (.fn 144 .nil) .nil)) [] ⟨[(0, .d true qT0)],[]⟩ (.two .z (.two (.two .z (.one (.u 100000 .z))) .z))
theorem qbd:MdlOK Tryz.prog 25 qe:=dg Tryz.func25 fits mixed (mC qkb m0)
abbrev mt:Mdl:=dh Tryz.f7 9 tt false false [] [(25,qe)] [.tmp 4] (.cons (.d false qT2) (.cons (.fn 144 .nil) .nil)) [] ⟨[(0, .d true .bool)],[]⟩ .z
theorem xj:MdlOK Tryz.prog 7 mt:=dg Tryz.func7 fits mixed (mC qbd m0)
abbrev qet:Mdl:=dh Tryz.f82 10 tt false false [] [(7,mt)] [.tmp 2] (.cons (.rp false ig.ty) .nil) [] ⟨[(0, .d true .bool)],[]⟩ .z
theorem qoc:MdlOK Tryz.prog 82 qet:=dg Tryz.func82 fits mixed (mC xj m0)
abbrev qfq:Mdl:=dh Tryz.f145 7 tt false false [] [(83,bm)] [.tmp 3] (.cons (.d false qT1) (.cons (.rp false qT1) .nil)) [] ⟨[(0, .d true .bool)],[]⟩ .z
theorem qqk:MdlOK Tryz.prog 145 qfq:=dg Tryz.func145 fits mixed (mC bj m0)
abbrev qf:Mdl:=dh Tryz.f25 19 tt false false [] [(145,qfq)] [.tmp 4] (.cons (.d false qT2) (.cons (.fn 145 (.cons (.rp false qT1) .nil)) .nil)) [] ⟨[(0, .d true qT0)],[]⟩ (.two .z (.two (.two .z (.one (.u 100000 .z))) .z))
theorem qbe:MdlOK Tryz.prog 25 qf:=dg Tryz.func25 fits mixed (mC qqk m0)
abbrev qau:Mdl:=dh Tryz.f86 12 tt false false [] [(25,qf)] [.tmp 4] (.cons (.rp false ig.ty) (.cons (.d false qT1) .nil)) [] ⟨[(0, .d true qT0)],[]⟩ .z
theorem qfr:MdlOK Tryz.prog 86 qau:=dg Tryz.func86 fits mixed (mC qbe m0)
abbrev jx:Mdl:=dh Tryz.f85 105 tt false false [] [] [.tmp 4] (.cons (.rp false ig.ty) (.cons (.d false qT0) .nil)) [] ⟨[(0, .own 0)],[qgb]⟩ (.two .z (.two .z (.two (.two .z (.one (.u 100000 .z))) (.two .z (.two .z (.two (.two .z (.one (.u 100000 (.two .z (.two .z (.two (.one (.two .z (.ad [0,0,2,0,0,16,56,120,0,256,768,2040,4095,8191] [11,13]))) .z)))))) (.two .z (.two .z (.two (.two .z (.one (.u 100000 (.two .z (.two (.one (.two .z (.one (.u 100000 .z)))) .z))))) .z)))))))))
theorem ny:MdlOK Tryz.prog 85 jx:=dg Tryz.func85 fits mixed m0
abbrev yk:Mdl:=dh Tryz.f188 17 tt false false [true,true,true] [] [.tmp 4] (.cons (.d false qT0) (.cons (.ptr 0) (.cons (.rp false qT0) .nil))) [.cs 92 1 1 (.cons (.ptr 1) .nil), .cs 138 9 1 (.cons (.d false qT0) (.cons (.d true (.slice ah.ty)) (.cons (.d false qT0) (.cons (.d false qT0) (.cons (.d true qT2) (.cons (.d true (.slice ar.ty)) (.cons (.d false .bool) (.cons (.d true qT1) (.cons (.own 2) .nil))))))))),jtu] ⟨[(0, .d true .bool)],[.cs 92 1 1 (.cons (.ptr 1) .nil), .cs 138 9 1 (.cons (.d true qT0) (.cons (.d true (.slice ah.ty)) (.cons (.d true qT0) (.cons (.d true qT0) (.cons (.d true qT2) (.cons (.d true (.slice ar.ty)) (.cons (.d true .bool) (.cons (.d true qT1) (.cons (.own 2) .nil))))))))),jtu]⟩ (.two .z (.two (.ad [0,1,3,7,15,0,63,127,0,511,1023,2047,4095] []) .z))
theorem qim:MdlOK Tryz.prog 188 yk:=dg Tryz.func188 fits mixed m0
abbrev pn:Mdl:=dh Tryz.f147 19 tt false false [true,true,true] [(188,yk)] [.tmp 4] (.cons (.d false qT1) (.cons (.fn 188 (.cons (.ptr 0) (.cons (.rp false qT0) .nil))) .nil)) [.cs 92 1 1 (.cons (.ptr 1) .nil), .cs 138 9 1 (.cons (.d false qT0) (.cons (.d true (.slice ah.ty)) (.cons (.d false qT0) (.cons (.d false qT0) (.cons (.d true qT2) (.cons (.d true (.slice ar.ty)) (.cons (.d false .bool) (.cons (.d true qT1) (.cons (.own 2) .nil))))))))),jtu] ⟨[(0, .d true qT0)],[.cs 92 1 1 (.cons (.ptr 1) .nil), .cs 138 9 1 (.cons (.d true qT0) (.cons (.d true (.slice ah.ty)) (.cons (.d true qT0) (.cons (.d true qT0) (.cons (.d true qT2) (.cons (.d true (.slice ar.ty)) (.cons (.d true .bool) (.cons (.d true qT1) (.cons (.own 2) .nil))))))))),jtu]⟩ (.two .z (.two (.two .z (.one (.u 100000 .z))) .z))
theorem qap:MdlOK Tryz.prog 147 pn:=dg Tryz.func147 fits mixed (mC qim m0)
abbrev lg:Mdl:=dh Tryz.f92 9 tt false false [true,true,true] [(147,pn)] [.tmp 4] (.cons (.d false qT1) (.cons (.fn 188 (.cons (.ptr 0) (.cons (.rp false qT0) .nil))) .nil)) [.cs 92 1 1 (.cons (.ptr 1) .nil), .cs 138 9 1 (.cons (.d false qT0) (.cons (.d true (.slice ah.ty)) (.cons (.d false qT0) (.cons (.d false qT0) (.cons (.d true qT2) (.cons (.d true (.slice ar.ty)) (.cons (.d false .bool) (.cons (.d true qT1) (.cons (.own 2) .nil))))))))),jtu] ⟨[(0, .d true .bool)],[.cs 92 1 1 (.cons (.ptr 1) .nil), .cs 138 9 1 (.cons (.d true qT0) (.cons (.d true (.slice ah.ty)) (.cons (.d true qT0) (.cons (.d true qT0) (.cons (.d true qT2) (.cons (.d true (.slice ar.ty)) (.cons (.d true .bool) (.cons (.d true qT1) (.cons (.own 2) .nil))))))))),jtu]⟩ .z
theorem vz:MdlOK Tryz.prog 92 lg:=dg Tryz.func92 fits mixed (mC qap m0)
abbrev qcd:Mdl:=dh Tryz.f146 19 tt false false [true,true] [(92,lg)] [.tmp 6] (.cons (.ptr 0) (.cons (.d false qT0) (.cons (.d false qT0) .nil))) [.cs 138 9 1 (.cons (.d false qT0) (.cons (.d true (.slice ah.ty)) (.cons (.d false qT0) (.cons (.d false qT0) (.cons (.d true qT2) (.cons (.d true (.slice ar.ty)) (.cons (.d false .bool) (.cons (.d true qT1) (.cons (.own 1) .nil))))))))),jtu] ⟨[(0, .d true .bool)],[qip,jtu]⟩ .z
theorem ql8:MdlOK Tryz.prog 146 qcd:=dg Tryz.func146 fits mixed (mC vz m0)
abbrev qfs:Mdl:=dh Tryz.f87 21 tt false false [true,true] [(146,qcd)] [.tmp 4] (.cons (.ptr 0) (.cons (.d false qT0) .nil)) [.cs 138 9 1 (.cons (.d false qT0) (.cons (.d true (.slice ah.ty)) (.cons (.d false qT0) (.cons (.d false qT0) (.cons (.d true qT2) (.cons (.d true (.slice ar.ty)) (.cons (.d false .bool) (.cons (.d true qT1) (.cons (.own 1) .nil))))))))),jtu] ⟨[(0, .d true qT0)],[qip,jtu]⟩ (.two .z (.two (.two .z (.one (.u 100000 .z))) .z))
theorem qql:MdlOK Tryz.prog 87 qfs:=dg Tryz.func87 fits mixed (mC ql8 m0)
abbrev qhr:Mdl:=dh Tryz.f36 69 tt false false [true,true] [(82,qet),(83,bm),(86,qau),(85,jx),(84,se),(87,qfs)] [.tmp 2, .tmp 3] (.cons (.ptr 0) .nil) [.cs 138 9 1 (.cons (.d false qT0) (.cons (.d true (.slice ah.ty)) (.cons (.d false qT0) (.cons (.d false qT0) (.cons (.d true qT2) (.cons (.d true (.slice ar.ty)) (.cons (.d false .bool) (.cons (.d true qT1) (.cons (.own 1) .nil))))))))),jtu] ⟨[(0, .d true qT0),(1, .d true qT0)],[qip,jtu]⟩ (.two .z (.two .z (.two (.two .z (.one (.u 100000 .z))) (.two .z (.two (.two .z (.one (.u 100000 .z))) .z)))))
theorem qsw:MdlOK Tryz.prog 36 qhr:=dg Tryz.func36 fits mixed (mC qoc (mC bj (mC qfr (mC ny (mC yg (mC qql m0))))))
def v8:Shp:=⟨[],[qgb]⟩
abbrev yj:Ctx (qL1):=⟨28,tt,false,false,[true],j8 [],lm [am _ 28 [true] qik (C:=Unit) (S:=(Int×Int×qL1)) (fun x=>((),(x.1.2.1,x.1.2.2.1,x.2.1))) qij (CE:=Unit) (E:=qL1) (fun c e=>((()),(e,()))) (fun c=>()) (fun{R} c a nx dn rt=>gz a.1 a.2.1 a.2.2 nx dn rt)],cm 28 tt [true] [] v8 (fun x=>x.2.1)⟩
theorem yh:CtxM Tryz.prog yj:=lw fits mixed m0
theorem qka:ao Tryz.prog yj 0 (lc 0 Tryz.f74 9):=lp rfl yh (.two .z (.two (.one (.d [0,0,0,0,0,0,48,112,0,0,768,1792,4083,8179,16383,32767] [13,15] [])) .z)) s0 (fun c a=>(((),a.1,a.2.1,()),(a.2.2,()))) (fun y=>((),y.2.1))
abbrev yi:Mdl:=(ay (.cons (.own 0) .nil) [qgb] [true] 0 v8 (B:=qL1) (fun b=>((()),(b,()))) (fun a=>jv a.2.1))
theorem qil:MdlOK Tryz.prog 74 yi:=nj Tryz.func74 rfl yh (.two .z (.s 0)) (sC qka s0)
def qkp:Shp:=⟨[(0, .nl false (.own 0))],[qgb]⟩
abbrev qos:Ctx (qL1):=⟨35,tt,false,false,[],j8 [(74,yi)],lm [am _ 35 [] qxu (C:=(dr×Int)) (S:=(Int×qL1)) (fun x=>((x.1.1,x.1.2.1),((pe3 x.1),x.2.1))) qxt (CE:=Unit) (E:=qL1) (fun c e=>(((),()),(e,()))) (fun c=>()) (fun{R} c a nx dn rt=>mc c.1 c.2 a.1 a.2 nx dn rt)],cm 35 tt [] [.tmp 6] qkp (fun x=>x.2.1)⟩
theorem qoq:CtxM Tryz.prog qos:=lw fits mixed (mC qil m0)
theorem q03:ao Tryz.prog qos 0 (lc 0 Tryz.f27 75):=lp rfl qoq .z s0 (fun c a=>((c.1,c.2,(),a.1,()),(a.2,()))) (fun y=>((),y.2.1))
abbrev qor:Mdl:=(ay (.cons (.rp false dr.ty) (.cons (.d false qT0) (.cons (.d false qT0) .nil))) [] [] 1 qkp (B:=qL1) (fun b=>(((),()),(b,()))) (fun a=>kb a.1.1 a.1.2.1 a.1.2.2.1))
theorem qxv:MdlOK Tryz.prog 27 qor:=nj Tryz.func27 rfl qoq (.two .z (.two .z (.two (.two .z (.s 0)) .z))) (sC q03 s0)
def qon:Shp:=⟨[qqp,(1, .d true qez.ty),jlx],[]⟩
abbrev qgn:Ctx ((Bool×qez×Int)):=⟨77,tt,false,false,[],j8 [(26,qfy),(27,qor),(28,yx)],lm [am _ 77 [] q0w (C:=(Int×qL1×Int×Int×qL1×qL1×qL2×(List ar)×qL2×qL2×(List ae)×qL2×qL1×qL1×Int×Int×Int×Int×Bool×Bool)) (S:=Int) (fun x=>((x.1.2.2.1,(pe4 x.1),x.2.1.1,x.2.1.2.1,x.2.1.2.2.1,(pe3 x.2.1),(pe4 x.2.1),(pe5 x.2.1),(pe6 x.2.1),(pe7 x.2.1),x.2.2.1.1,x.2.2.1.2.1,(pe3 x).1,(pe3 x).2.1,(pe3 x).2.2.1,(pe3 (pe3 x)),(pe4 (pe3 x)),(pe5 (pe3 x)),(pe6 (pe3 x)),(pe7 (pe3 x))),(pe5 x.1))) q0v (CE:=(Int×Int×Int×qL1×qL1×qL2×(List ar)×qL2×qL2×(List ae)×qL2×qL1×qL1×Int×Int×Int×Int×Bool×Bool)) (E:=Int) (fun c e=>(((),(),c.1,(),e,()),((c.2.1,c.2.2.1,(pe3 c),(pe4 c),(pe5 c),(pe6 c),(pe7 c),(pe8 c),()),((pe9 c),(pe10 c),()),((pe11 c),(pe12 c),(pe13 c),(pe14 c),(pe15 c),(pe16 c),(pe17 c),(pf18 c),()),()))) (fun c=>(c.1,c.2.2.1,(pe3 c),(pe4 c),(pe5 c),(pe6 c),(pe7 c),(pe8 c),(pe9 c),(pe10 c),(pe11 c),(pe12 c),(pe13 c),(pe14 c),(pe15 c),(pe16 c),(pe17 c),(pe18 c),(pf19 c))) (fun{R} c a nx dn rt=>ua c.1 c.2.1 c.2.2.1 (pe3 c) (pe4 c) (pe5 c) (pe6 c) (pe7 c) (pe8 c) (pe9 c) (pe10 c) (pe11 c) (pe12 c) (pe13 c) (pe14 c) (pe15 c) (pe16 c) (pe17 c) (pe18 c) (pf19 c) a nx dn rt),am _ 77 [] q0y (C:=((List ae)×Int×Int×Int×qL1×qL1×qL2×(List ar)×qL2×qL2×(List ae)×qL2)) (S:=Int) (fun x=>((x.1.2.2.1,(pe3 x.1),x.2.1.1,x.2.1.2.1,x.2.1.2.2.1,(pe3 x.2.1),(pe4 x.2.1),(pe5 x.2.1),(pe6 x.2.1),(pe7 x.2.1),x.2.2.1.1,x.2.2.1.2.1),(pe4 x.1))) q0x (CE:=(Int×Int×qL1×qL1×qL2×(List ar)×qL2×qL2×(List ae)×qL2)) (E:=Unit) (fun c e=>(((),(),()),((c.1,c.2.1,c.2.2.1,(pe3 c),(pe4 c),(pe5 c),(pe6 c),(pe7 c),()),((pe8 c),(pf9 c),()),()))) (fun c=>(c.2.2.1,(pe3 c),(pe4 c),(pe5 c),(pe6 c),(pe7 c),(pe8 c),(pe9 c),(pe10 c),(pf11 c))) (fun{R} c a nx dn rt=>ou c.1 c.2.1 c.2.2.1 (pe3 c) (pe4 c) (pe5 c) (pe6 c) (pe7 c) (pe8 c) (pe9 c) (pe10 c) (pf11 c) a nx dn rt)],cm 77 tt [] [.tmp 6, .cell 7 38, .tmp 8] qon (fun x=>(x.1.1,x.1.2.1,x.1.2.2.1))⟩
theorem qgl:CtxM Tryz.prog qgn:=lw fits mixed (mC qgo (mC qxv (mC qfj m0)))
theorem q4y:ao Tryz.prog qgn 0 (lc 2 Tryz.f9 293271):=lp rfl qgl (.two (.two (.d [0,1,0,7,15,0,0,96,224,511] [] []) .z) .z) s0 (fun c a=>(((),(),c.1,(),c.2.1,a,()),((c.2.2.1,(pe3 c),(pe4 c),(pe5 c),(pe6 c),(pe7 c),(pe8 c),(pe9 c),()),((pe10 c),(pe11 c),()),((pe12 c),(pe13 c),(pe14 c),(pe15 c),(pe16 c),(pe17 c),(pe18 c),(pf19 c),()),()))) (fun y=>((y.1.2.2.1,y.2.1.1,y.2.1.2.1,y.2.1.2.2.1,(pe3 y.2.1),(pe4 y.2.1),(pe5 y.2.1),(pe6 y.2.1),(pe7 y.2.1),y.2.2.1.1,y.2.2.1.2.1,(pe3 y).1,(pe3 y).2.1,(pe3 y).2.2.1,(pe3 (pe3 y)),(pe4 (pe3 y)),(pe5 (pe3 y)),(pe6 (pe3 y)),(pe7 (pe3 y))),(pe4 y.1)))
theorem q4z:ao Tryz.prog qgn 1 (lc 0 Tryz.f9 151):=lp rfl qgl (.two .z (.two .z (.two (.one (.two .z (.two .z (.two (.d [0,1,3,7,0,16,63,127,255,511] [] []) (.two .z (.two (.s 0) (.two (.d [0,0,0,4,14,0,0,64,0,510,1023,1022,4095,8191] [12] []) .z))))))) .z))) (sC q4y s0) (fun c a=>(((),(),c.1,c.2.1,a,()),((c.2.2.1,(pe3 c),(pe4 c),(pe5 c),(pe6 c),(pe7 c),(pe8 c),(pe9 c),()),((pe10 c),(pf11 c),()),()))) (fun y=>((y.2.1.1,y.2.1.2.1,y.2.1.2.2.1,(pe3 y.2.1),(pe4 y.2.1),(pe5 y.2.1),(pe6 y.2.1),(pe7 y.2.1),y.2.2.1.1,y.2.2.1.2.1),()))
abbrev qgm:Mdl:=(ay (.cons (.d false b8.ty) (.cons (.d false qT1) (.cons (.d false qT0) .nil))) [] [] 3 qon (B:=(Bool×qez×Int)) (fun b=>((b.1,b.2.1,b.2.2,()),(()))) (fun a=>qdf a.1.1 a.1.2.1 a.1.2.2.1))
theorem qkm:MdlOK Tryz.prog 9 qgm:=nj Tryz.func9 rfl qgl (.two .z (.two .z (.two .z (.two (.two .z (.s 1)) .z)))) (sC q4z s0)
abbrev qma:Mdl:=dh Tryz.f89 49 tt false false [] [] [.tmp 6] (.cons (.rp false ig.ty) (.cons (.d false qT0) (.cons (.d false qT1) .nil))) [] ⟨[(0, .nl false (.own 0))],[qgb]⟩ (.two .z (.two .z (.two (.two .z (.one (.u 100000 (.two .z (.one (.two .z (.one (.u 100000 (.two .z (.two .z (.two (.one (.two .z (.two (.ad [0,0,2,7,15,0,0,96,224,480,1023] []) .z))) .z))))))))))) .z)))
theorem qwi:MdlOK Tryz.prog 89 qma:=dg Tryz.func89 fits mixed m0
abbrev ql9:Mdl:=dh Tryz.f38 10 tt false false [] [(85,jx),(89,qma)] [.tmp 4] (.cons (.rp false ig.ty) (.cons (.d false qT0) .nil)) [] ⟨[(0, .nl false (.own 0))],[qgb]⟩ .z
theorem qwh:MdlOK Tryz.prog 38 ql9:=dg Tryz.func38 fits mixed (mC ny (mC qwi m0))
abbrev qhp:Mdl:=dh Tryz.f40 60 tt false false [] [] [.tmp 4] (.cons (.rp false ig.ty) (.cons (.d false qT0) .nil)) [] ⟨[(0, .own 0)],[qgb]⟩ (.two .z (.two .z (.two .z (.two .z (.two (.two .z (.one (.u 100000 (.two .z (.two (.one (.two (.ad [0,1,3,7,0,0,48,112,255,511,1023,0] []) (.one (.u 100000 .z)))) .z))))) .z)))))
theorem qsv:MdlOK Tryz.prog 40 qhp:=dg Tryz.func40 fits mixed m0
abbrev qhs:Mdl:=dh Tryz.f39 28 tt false false [] [(22,bd)] [.tmp 4] (.cons (.rp false ig.ty) (.cons (.d false qT1) .nil)) [] ⟨[(0, .nl false (.own 0))],[qa0]⟩ (.two .z (.two .z (.two (.two .z (.one (.u 100000 .z))) .z)))
theorem qsx:MdlOK Tryz.prog 39 qhs:=dg Tryz.func39 fits mixed (mC bc m0)
abbrev qc8:Mdl:=dh Tryz.f41 23 tt false true [] [(22,bd)] [.tmp 2] (.cons (.rp false ig.ty) .nil) [] ⟨[(0, .nl false (.own 0))],[qa0]⟩ (.two .z (.two .z (.two (.two .z (.one (.u 100000 .z))) .z)))
theorem qhq:MdlOK Tryz.prog 41 qc8:=dg Tryz.func41 fits mixed (mC bc m0)
abbrev qeu:Mdl:=dh Tryz.f91 14 tt false false [] [] [.tmp 3] (.cons (.d false ar.ty) (.cons (.rp false qT0) .nil)) [] ⟨[(0, .d true .bool)],[]⟩ .z
theorem qod:MdlOK Tryz.prog 91 qeu:=dg Tryz.func91 fits mixed m0
abbrev iq:Mdl:=dh Tryz.f90 19 tt false false [] [(91,qeu)] [.tmp 4] (.cons (.d false (.slice ar.ty)) (.cons (.fn 91 (.cons (.rp false qT0) .nil)) .nil)) [] ⟨[(0, .d true qT0)],[]⟩ (.two .z (.two (.two .z (.one (.u 100000 .z))) .z))
theorem sd:MdlOK Tryz.prog 90 iq:=dg Tryz.func90 fits mixed (mC qod m0)
abbrev qht:Mdl:=dh Tryz.f42 50 tt false false [] [(41,qc8),(86,qau),(85,jx),(90,iq)] [.cell 2 38] (.cons (.rp false ig.ty) .nil) [] ⟨[(0, .d true qez.ty)],[]⟩ (.two .z (.two (.ad [0,1,0,0,0,16,48,112,251,511,1023,2047,0,8191] [13]) (.two (.two .z (.one (.nm ⟨[(0, .rp false ig.ty),(2, .ptr 0),(3, .ptr 1),(4, .ptr 2)],[qml, .cs 38 8 1 (.cons (.d true qT0) (.cons (.d true qT0) (.cons (.d true qT1) (.cons (.d true qT1) (.cons (.d true qT2) (.cons (.own 3) (.cons (.d true qT2) (.cons (.d true qT2) .nil)))))))),jas,q4v]⟩ (.u 100000 (.two (.two (.ad [0,0,2,6,14,30,62,127] []) .z) (.two (.one (.two .z (.ad [0,1,0,4,12,28,60,0,252,508,1020,2047,4095,8191] [11,13]))) .z)))))) .z)))
theorem qsy:MdlOK Tryz.prog 42 qht:=dg Tryz.func42 fits mixed (mC qhq (mC qfr (mC ny (mC sd m0))))
abbrev qzy:Mdl:=dh Tryz.f13 87 tt false false [] [(35,qss),(36,qhr),(37,qg6),(9,qgm),(38,ql9),(40,qhp),(39,qhs),(41,qc8),(42,qht)] [.tmp 4, .cell 5 38, .tmp 6] (.cons (.d true b8.ty) (.cons (.d false qT0) .nil)) [] ⟨[(0, .d true .bool),(1, .d true qez.ty),(2, .d true qT0)],[]⟩ (.two .z (.two .z (.two .z (.two .z (.two .z (.two (.two .z (.one (.two .z (.two (.two .z (.two .z (.two .z (.ad [0,1,0,4,3,19,63,127] [5,7])))) .z)))) (.two (.ad [0,0,3,7] [2]) .z)))))))
theorem q95:MdlOK Tryz.prog 13 qzy:=dg Tryz.func13 fits mixed (mC q2u (mC qsw (mC qld (mC qkm (mC qwh (mC qsv (mC qsx (mC qhq (mC qsy m0)))))))))
abbrev qi0:Mdl:=dh Tryz.f43 60 tt false false [] [(49,de),(50,rg),(22,bd)] [.cell 2 24, .tmp 3] (.cons (.d false b8.ty) .nil) [] ⟨[(0, .d true b8.ty),(1, .d true qT0)],[]⟩ (.two .z (.two .z (.two .z (.two .z (.two (.two .z (.one (.u 100000 (.two .z (.two .z (.two (.one (.two .z (.ad [0,1,0,4,0,16,48,0,128,496,1020,2044,4095,8191,16383] [12,14]))) .z)))))) .z)))))
theorem qt1:MdlOK Tryz.prog 43 qi0:=dg Tryz.func43 fits mixed (mC cq (mC su (mC bc m0)))
abbrev qd3:Mdl:=dh Tryz.f93 8 tt false false [] [(48,bn)] [.tmp 3] (.cons (.d false qT0) (.cons (.rp false ah.ty) .nil)) [] ⟨[(0, .d true .bool)],[]⟩ .z
theorem qnk:MdlOK Tryz.prog 93 qd3:=dg Tryz.func93 fits mixed (mC bp m0)
abbrev rq:Mdl:=dh Tryz.f147 19 tt false false [] [(93,qd3)] [.tmp 4] (.cons (.d false qT1) (.cons (.fn 93 (.cons (.rp false ah.ty) .nil)) .nil)) [] ⟨[(0, .d true qT0)],[]⟩ (.two .z (.two (.two .z (.one (.u 100000 .z))) .z))
theorem qc5:MdlOK Tryz.prog 147 rq:=dg Tryz.func147 fits mixed (mC qnk m0)
abbrev oa:Mdl:=dh Tryz.f92 9 tt false false [] [(147,rq)] [.tmp 4] (.cons (.d false qT1) (.cons (.fn 93 (.cons (.rp false ah.ty) .nil)) .nil)) [] ⟨[(0, .d true .bool)],[]⟩ .z
theorem yp:MdlOK Tryz.prog 92 oa:=dg Tryz.func92 fits mixed (mC qc5 m0)
abbrev wx:Mdl:=dh Tryz.f44 38 tt false false [] [(92,oa),(83,bm)] [.tmp 2] (.cons (.d false b8.ty) .nil) [] ⟨[(0, .d true .bool)],[]⟩ (.two .z (.two (.two .z (.one (.u 100000 (.two .z (.two .z (.two (.one (.two .z (.two .z (.one (.u 100000 .z))))) .z)))))) .z))
theorem qd4:MdlOK Tryz.prog 44 wx:=dg Tryz.func44 fits mixed (mC yp (mC bj m0))
abbrev qx:Mdl:=dh Tryz.f148 33 tt false false [] [] [.tmp 2] (.cons (.d false b8.ty) .nil) [] ⟨[(0, .ptr 0)],[.cs 200 2 1 (.cons (.d true qT0) (.cons (.own 1) .nil)),qgb]⟩ (.two .z (.two (.ad [0,1,0,4,0,16,48,124,252,511,1023,2047] []) (.two (.two .z (.one (.u 100000 .z))) .z)))
theorem vk:MdlOK Tryz.prog 148 qx:=dg Tryz.func148 fits mixed m0
abbrev qel:Mdl:=dh Tryz.f189 27 tt false false [] [] [.tmp 4] (.cons (.e) (.cons (.d false qT0) .nil)) [] ⟨[(0, .own 0)],[qgb]⟩ .z
theorem qoa:MdlOK Tryz.prog 189 qel:=dg Tryz.func189 fits mixed m0
abbrev qab:Mdl:=dh Tryz.f149 36 tt false false [] [(189,qel)] [.tmp 2] (.cons (.d false qT2) .nil) [] ⟨[(0, .own 0)],[qgb]⟩ (.two .z (.two .z (.two (.two .z (.one (.u 100000 .z))) (.two .z (.two (.two .z (.one (.u 100000 .z))) .z)))))
theorem qj5:MdlOK Tryz.prog 149 qab:=dg Tryz.func149 fits mixed (mC qoa m0)
abbrev im:Mdl:=dh Tryz.f151 41 tt false false [true,true] [] [.tmp 4] (.cons (.ptr 0) (.cons (.d false qT0) .nil)) [.cs 200 2 1 (.cons (.d false qT0) (.cons (.own 1) .nil)),qgb] ⟨[(0, .d true qT0)],[.cs 200 2 1 (.cons (.d true qT0) (.cons (.own 1) .nil)),qgb]⟩ (.two .z (.two (.one (.u 100000 (.two .z (.one (.two (.ad [0,1,3,7,0,0,32,96,224,0,512,1536,3584,0,15872,32256,65504,131040,262143,524287] [19]) .z))))) .z))
theorem kc:MdlOK Tryz.prog 151 im:=dg Tryz.func151 fits mixed m0
abbrev ll:Mdl:=dh Tryz.f150 30 tt false false [true,true] [(151,im)] [] (.cons (.ptr 0) (.cons (.d false qT0) (.cons (.d false qT0) .nil))) [.cs 200 2 1 (.cons (.d false qT0) (.cons (.own 1) .nil)),qgb] ⟨[],[.cs 200 2 1 (.cons (.d true qT0) (.cons (.own 1) .nil)),qgb]⟩ (.two (.ad [0,0,3,0,0,16,48,112,0,496,1023,2047,4095] [2,10,11,12]) .z)
theorem ss:MdlOK Tryz.prog 150 ll:=dg Tryz.func150 fits mixed (mC kc m0)
abbrev qb0:Mdl:=dh Tryz.f94 55 tt false false [] [(148,qx),(149,qab),(150,ll),(151,im)] [.tmp 2] (.cons (.d false b8.ty) .nil) [] ⟨[(0, .d true .bool)],[]⟩ (.two .z (.two .z (.two .z (.two (.two .z (.one (.u 100000 (.two .z (.two .z (.two (.one (.two .z (.two .z (.one (.u 100000 .z))))) .z)))))) (.two (.two .z (.one (.u 100000 .z))) .z)))))
theorem qkz:MdlOK Tryz.prog 94 qb0:=dg Tryz.func94 fits mixed (mC vk (mC qj5 (mC ss (mC kc m0))))
def qx8:Shp:=⟨[qqp],[]⟩
abbrev jid:Ctx (Bool):=⟨12,tt,false,false,[],j8 [],lm [],cm 12 tt [] [.tmp 2] qx8 (fun x=>x.1.1)⟩
theorem jic:CtxM Tryz.prog jid:=lw fits mixed m0
abbrev qrh:Mdl:=(ay (.cons (.d false b8.ty) .nil) [] [] 1 qx8 (B:=Bool) (fun b=>((b,()),(()))) (fun a=>qna a.1.1))
theorem quq:MdlOK Tryz.prog 76 qrh:=nj Tryz.func76 rfl jic .z s0
def qup:Shp:=⟨[q1r],[]⟩
abbrev jfn:Ctx (Int):=⟨27,tt,false,false,[],j8 [(48,bn)],lm [],cm 27 tt [] [.tmp 4] qup (fun x=>x.1.1)⟩
theorem jfm:CtxM Tryz.prog jfn:=lw fits mixed (mC bp m0)
abbrev qm9:Mdl:=(ay (.cons (.d false ah.ty) (.cons (.d false qT0) .nil)) [] [] 1 qup (B:=Int) (fun b=>((b,()),(()))) (fun a=>qiv a.1.1 a.1.2.1))
theorem qrf:MdlOK Tryz.prog 77 qm9:=nj Tryz.func77 rfl jfm (.two .z (.two (.d [0,1,0,7,0,16,0,127,255,511] [] []) .z)) s0
def q8a:Shp:=⟨[q1r],[]⟩
abbrev q08:Ctx (Int):=⟨24,tt,false,false,[],j8 [],lm [am _ 24 [] jh9 (C:=(qL1×Int×Int)) (S:=(Int×Int)) (fun x=>((x.1.2.2.1,(pe3 x.1),(pe4 x.1)),(x.1.1,x.1.2.1))) jh8 (CE:=(qL1×Int×Int)) (E:=Int) (fun c e=>((e,c.1,c.2.1,c.2.2,()),(()))) (fun c=>(c.1,c.2.1,c.2.2)) (fun{R} c a nx dn rt=>qdy c.1 c.2.1 c.2.2 a.1 a.2 nx dn rt),am _ 24 [] jib (C:=(qL1×Int)) (S:=(Int×Int)) (fun x=>((x.1.2.1,x.1.2.2.1),(x.1.1,(pe3 x.1)))) jia (CE:=Unit) (E:=Int) (fun c e=>((e,()),(()))) (fun c=>()) (fun{R} c a nx dn rt=>qdz c.1 c.2 a.1 a.2 nx dn rt)],cm 24 tt [] [.tmp 2] q8a (fun x=>x.1.1)⟩
theorem q06:CtxM Tryz.prog q08:=lw fits mixed m0
theorem jlb:ao Tryz.prog q08 0 (lc 2 Tryz.f216 19659):=lp rfl q06 (.two .z (.one (.d [0,0,0,6,3,31] [] []))) s0 (fun c a=>((a.1,a.2,c.1,c.2.1,c.2.2,()),(()))) (fun y=>((y.1.2.1,y.1.2.2.1,(pe3 y.1)),y.1.1))
theorem jlc:ao Tryz.prog q08 1 (lc 0 Tryz.f216 75):=lp rfl q06 (.two .z (.two .z (.two (.one (.two .z (.two .z (.s 0)))) .z))) (sC jlb s0) (fun c a=>((a.1,c.1,c.2,a.2,()),(()))) (fun y=>((),y.1.1))
abbrev q07:Mdl:=(ay (.cons (.d false qT1) .nil) [] [] 1 q8a (B:=Int) (fun b=>((b,()),(()))) (fun a=>qrg a.1.1))
theorem q32:MdlOK Tryz.prog 216 q07:=nj Tryz.func216 rfl q06 (.two .z (.two .z (.two (.two .z (.s 1)) .z))) (sC jlc s0)
def q34:Shp:=⟨[(0, .d true (.int .u64))],[]⟩
abbrev q8c:Ctx (Int):=⟨21,tt,false,false,[],j8 [],lm [am _ 21 [] jfp (C:=(qL1×Int)) (S:=(Int×Int)) (fun x=>((x.1.2.1,x.1.2.2.1),(x.1.1,(pe3 x.1)))) jfo (CE:=Unit) (E:=Int) (fun c e=>((e,()),(()))) (fun c=>()) (fun{R} c a nx dn rt=>zc c.1 c.2 a.1 a.2 nx dn rt)],cm 21 tt [] [.tmp 2] q34 (fun x=>x.1.1)⟩
theorem q8b:CtxM Tryz.prog q8c:=lw fits mixed m0
theorem jie:ao Tryz.prog q8c 0 (lc 0 Tryz.f217 75):=lp rfl q8b .z s0 (fun c a=>((a.1,c.1,c.2,a.2,()),(()))) (fun y=>((),y.1.1))
abbrev qvt:Mdl:=(ay (.cons (.d false qT1) .nil) [] [] 1 q34 (B:=Int) (fun b=>((b,()),(()))) (fun a=>ox a.1.1))
theorem qx9:MdlOK Tryz.prog 217 qvt:=nj Tryz.func217 rfl q8b (.two .z (.two .z (.two (.two .z (.s 0)) .z))) (sC jie s0)
def qoy:Shp:=⟨[],[qtr,qa0,qa0]⟩
abbrev qgv:Ctx ((qL2×qL2)):=⟨116,tt,false,false,[true,false,false],j8 [(22,bd),(216,q07),(217,qvt)],lm [am _ 116 [true,false,false] q1f (C:=(qL1×qL1×Int×Int×qL2×qL2)) (S:=Int) (fun x=>((x.1.2.1,x.1.2.2.1,(pe3 x.1),(pe5 x.1),x.2.2.1,(pe3 x)),(pe6 x.1))) q1e (CE:=(qL1×qL1×Int×qL2×qL2)) (E:=Unit) (fun c e=>(((),c.1,c.2.1,c.2.2.1,()),(((),(),()),(pe3 c),(pf4 c),()))) (fun c=>(c.1,c.2.1,c.2.2.1,(pf5 c),(pe4 c))) (fun{R} c a nx dn rt=>uc c.1 c.2.1 c.2.2.1 (pe3 c) (pe4 c) (pf5 c) a nx dn rt),am _ 116 [true,false,false] q1h (C:=(qL1×qL1×Int×qL2×Int×qL2×qL2)) (S:=(Int×qL2×qL2)) (fun x=>((x.1.2.1,x.1.2.2.1,(pe3 x.1),(pe5 x.1),(pe6 x.1),x.2.1.1,x.2.1.2.1),((pe7 x.1),(pe3 x),(pe4 x)))) q1g (CE:=(qL1×qL1×qL2×qL2)) (E:=(qL2×qL2)) (fun c e=>(((),c.1,c.2.1,(),()),((c.2.2.1,c.2.2.2,()),((),(),()),e.1,e.2,()))) (fun c=>(c.1,c.2.1,(pe5 c),(pf6 c))) (fun{R} c a nx dn rt=>oy c.1 c.2.1 c.2.2.1 (pe3 c) (pe4 c) (pe5 c) (pf6 c) a.1 a.2.1 a.2.2 nx dn rt)],cm 116 tt [true,false,false] [] qoy (fun x=>(x.2.2.1,(pe3 x)))⟩
theorem qgu:CtxM Tryz.prog qgv:=lw fits mixed (mC bc (mC q32 (mC qx9 m0)))
theorem q5k:ao Tryz.prog qgv 1 (lc 6 Tryz.f186 303):=lp rfl qgu (.two .z (.two .z (.two (.one (.two .z (.two .z (.two (.d [0,1,0,4,12,28,0,124,252,508,1023,0,2048,0,8192,32767,8191,131071,262143,524287] [10,15,17,19] []) .z)))) .z))) s0 (fun c a=>(((),c.1,c.2.1,c.2.2.1,(),(pe3 c),(pe4 c),a.1,()),(((pe5 c),(pf6 c),()),((),(),()),a.2.1,a.2.2,()))) (fun y=>((y.1.2.1,y.1.2.2.1,y.2.1.1,y.2.1.2.1),((pe3 y),(pe4 y))))
theorem q5j:ao Tryz.prog qgv 0 (lc 4 Tryz.f186 75):=lp rfl qgu .z s0 (fun c a=>(((),c.1,c.2.1,c.2.2.1,(),(pe3 c),a,()),(((),(),()),(pe4 c),(pf5 c),()))) (fun y=>((y.1.2.1,y.1.2.2.1,(pe3 y.1),y.2.2.1,(pe3 y)),()))
abbrev qrn:Mdl:=(ay (.cons (.ptr 0) (.cons (.d true qT1) (.cons (.d true qT1) .nil))) [qtr,qa0,qa0] [true,false,false] 0 qoy (B:=(qL2×qL2)) (fun b=>((()),(((),(),()),b.1,b.2,()))) (fun a=>qdm a.1.2.1 a.1.2.2.1 a.2.2.1 (pe3 a)))
theorem q1i:MdlOK Tryz.prog 186 qrn:=nj Tryz.func186 rfl qgu (.two .z (.two .z (.two (.two .z (.s 0)) (.two .z (.two (.two .z (.s 1)) (.d [0,0,0,4,0,16,60,0,128,0,512,2044,4093,8189,16381,32767,65535,131071] [6,11,14,17] [])))))) (sC q5j (sC q5k s0))
def q8i:Shp:=⟨[jxr],[qgb]⟩
abbrev jc6:Ctx (qL1):=⟨37,tt,false,false,[],j8 [],lm [am _ 37 [] jig (C:=(Int×qL1×Int×qL1×Int)) (S:=(Int×qL1)) (fun x=>((x.1.1,x.1.2.1,x.1.2.2.1,(pe3 x.1),(pe5 x.1)),((pe6 x.1),x.2.1))) jif (CE:=Unit) (E:=qL1) (fun c e=>(((),()),(e,()))) (fun c=>()) (fun{R} c a nx dn rt=>qix c.1 c.2.1 c.2.2.1 (pe3 c) (pf4 c) a.1 a.2 nx dn rt)],cm 37 tt [] [.tmp 8] q8i (fun x=>x.2.1)⟩
theorem jc4:CtxM Tryz.prog jc6:=lw fits mixed m0
theorem jld:ao Tryz.prog jc6 0 (lc 0 Tryz.f187 75):=lp rfl jc4 (.two .z (.two .z (.two (.one (.two .z (.d [0,0,0,0,0,24,56,124,0,0,0,1536,3584,7936,16380,32767,65535] [16] []))) .z))) s0 (fun c a=>((c.1,c.2.1,c.2.2.1,(pe3 c),(),(pf4 c),a.1,()),(a.2,()))) (fun y=>((),y.2.1))
abbrev jc5:Mdl:=(ay (.cons (.d false qT0) (.cons (.d false qT1) (.cons (.d false qT0) (.cons (.d false qT1) .nil)))) [] [] 1 q8i (B:=qL1) (fun b=>(((),()),(b,()))) (fun a=>qgw a.1.1 a.1.2.1 a.1.2.2.1 (pe3 a.1)))
theorem jih:MdlOK Tryz.prog 187 jc5:=nj Tryz.func187 rfl jc4 (.two .z (.two .z (.two (.two .z (.s 0)) .z))) (sC jld s0)
def qky:Shp:=⟨[],[qtr,qa0,qa0,q0i,q0i]⟩
abbrev lu:Ctx ((qL2×qL2×qL1×qL1)):=⟨116,tt,false,false,[true,false,false,false,false],j8 [(22,bd),(216,q07),(217,qvt)],lm [am _ 116 [true,false,false,false,false] qyc (C:=(Int×Int×qL1×qL2×qL2)) (S:=(Int×qL1)) (fun x=>(((pe3 x.1),(pe4 x.1),(pe3 x),(pe4 x),(pe5 x)),((pe5 x.1),x.2.2.1))) qyb (CE:=(Int×qL1×qL2×qL2)) (E:=qL1) (fun c e=>(((),(),(),c.1,()),(((),(),()),e,c.2.1,c.2.2.1,c.2.2.2,()))) (fun c=>(c.1,c.2.2.1,(pe3 c),(pf4 c))) (fun{R} c a nx dn rt=>sm c.1 c.2.1 c.2.2.1 (pe3 c) (pf4 c) a.1 a.2 nx dn rt),am _ 116 [true,false,false,false,false] qye (C:=(qL1×Int×Int×qL2×qL2)) (S:=(Int×qL1×qL1)) (fun x=>((x.1.2.1,(pe3 x.1),(pe4 x.1),(pe3 x),(pe4 x)),((pe5 x.1),x.2.2.1,(pe5 x)))) qyd (CE:=(qL1×qL2×qL2)) (E:=(qL1×qL1)) (fun c e=>(((),c.1,(),()),(((),(),()),e.1,c.2.1,c.2.2,e.2,()))) (fun c=>(c.1,(pe3 c),(pf4 c))) (fun{R} c a nx dn rt=>sq c.1 c.2.1 c.2.2.1 (pe3 c) (pf4 c) a.1 a.2.1 a.2.2 nx dn rt),am _ 116 [true,false,false,false,false] qyg (C:=(qL1×qL1×Int×Int×qL2×qL2)) (S:=(Int×qL1×qL1)) (fun x=>((x.1.2.1,x.1.2.2.1,(pe3 x.1),(pe5 x.1),x.2.2.1,(pe3 x)),((pe6 x.1),(pe4 x),(pe5 x)))) qyf (CE:=(qL1×qL1×Int×qL2×qL2)) (E:=(qL1×qL1)) (fun c e=>(((),c.1,c.2.1,c.2.2.1,()),(((),(),()),(pe3 c),(pf4 c),e.1,e.2,()))) (fun c=>(c.1,c.2.1,c.2.2.1,(pf5 c),(pe4 c))) (fun{R} c a nx dn rt=>iu c.1 c.2.1 c.2.2.1 (pe3 c) (pe4 c) (pf5 c) a.1 a.2.1 a.2.2 nx dn rt),am _ 116 [true,false,false,false,false] qyi (C:=(qL1×qL1×Int×qL2×Int×qL2×qL2)) (S:=(Int×qL2×qL2×qL1)) (fun x=>((x.1.2.1,x.1.2.2.1,(pe3 x.1),(pe5 x.1),(pe6 x.1),x.2.1.1,x.2.1.2.1),((pe7 x.1),(pe3 x),(pe4 x),(pe5 x)))) qyh (CE:=(qL1×qL1×qL2×qL2)) (E:=(qL2×qL2×qL1)) (fun c e=>(((),c.1,c.2.1,(),()),((c.2.2.1,c.2.2.2,()),((),(),()),e.1,e.2.1,e.2.2,()))) (fun c=>(c.1,c.2.1,(pe5 c),(pf6 c))) (fun{R} c a nx dn rt=>mf c.1 c.2.1 c.2.2.1 (pe3 c) (pe4 c) (pe5 c) (pf6 c) a.1 a.2.1 a.2.2.1 a.2.2.2 nx dn rt),qd8 _ 116 [true,false,false,false,false] qyk (A:=(qL1×qL1×qL2×qL2×qL1×qL1)) (fun x=>(x.1.2.1,x.1.2.2.1,x.2.2.1,(pe3 x),(pe4 x),(pe5 x))) qyj (CE:=Unit) (E:=(qL2×qL2×qL1×qL1)) (fun c e=>((()),(((),(),()),e.1,e.2.1,e.2.2.1,e.2.2.2,()))) (fun c=>()) (fun{R} c dn rt=>ze c.1 c.2.1 c.2.2.1 (pe3 c) (pe4 c) (pf5 c) dn rt)],cm 116 tt [true,false,false,false,false] [] qky (fun x=>(x.2.2.1,(pe3 x),(pe4 x),(pe5 x)))⟩
theorem ls:CtxM Tryz.prog lu:=lw fits mixed (mC bc (mC q32 (mC qx9 m0)))
theorem q09:ao Tryz.prog lu 0 (lc 0 Tryz.f186 294):=lp rfl ls .z s0 (fun c a=>(((),(),(),c.1,c.2.1,a.1,()),(((),(),()),a.2,c.2.2.1,(pe3 c),(pf4 c),()))) (fun y=>(((pe3 y.1),(pe3 y),(pe4 y),(pe5 y)),y.2.2.1))
theorem q1a:ao Tryz.prog lu 1 (lc 2 Tryz.f186 310):=lp rfl ls .z s0 (fun c a=>(((),c.1,(),c.2.1,c.2.2.1,a.1,()),(((),(),()),a.2.1,(pe3 c),(pf4 c),a.2.2,()))) (fun y=>((y.1.2.1,(pe3 y),(pe4 y)),(y.2.2.1,(pe5 y))))
theorem q1c:ao Tryz.prog lu 3 (lc 6 Tryz.f186 303):=lp rfl ls (.two .z (.two .z (.two (.one (.two .z (.two .z (.two (.d [0,1,0,4,12,28,0,124,252,508,1023,0,2048,0,8192,32767,8191,131071,262143,524287] [10,15,17,19] []) .z)))) .z))) s0 (fun c a=>(((),c.1,c.2.1,c.2.2.1,(),(pe3 c),(pe4 c),a.1,()),(((pe5 c),(pf6 c),()),((),(),()),a.2.1,a.2.2.1,a.2.2.2,()))) (fun y=>((y.1.2.1,y.1.2.2.1,y.2.1.1,y.2.1.2.1),((pe3 y),(pe4 y),(pe5 y))))
theorem q1b:ao Tryz.prog lu 2 (lc 4 Tryz.f186 75):=lp rfl ls .z s0 (fun c a=>(((),c.1,c.2.1,c.2.2.1,(),(pe3 c),a.1,()),(((),(),()),(pe4 c),(pf5 c),a.2.1,a.2.2,()))) (fun y=>((y.1.2.1,y.1.2.2.1,(pe3 y.1),y.2.2.1,(pe3 y)),((pe4 y),(pe5 y))))
theorem q1d:ao Tryz.prog lu 4 (jc Tryz.f186 3):=jn rfl ls (.two .z (.two (.two .z (.s 2)) (.two .z (.two (.two .z (.s 3)) (.d [0,0,0,4,0,16,60,0,128,0,512,2044,4093,8189,16381,32767,65535,131071] [6,11,14,17] []))))) (sC q1b (sC q1c s0)) (fun c=>(((),c.1,c.2.1,()),(((),(),()),c.2.2.1,(pe3 c),(pe4 c),(pf5 c),()))) (fun y=>((),(y.2.2.1,(pe3 y),(pe4 y),(pe5 y))))
abbrev qov:Mdl:=(ay (.cons (.ptr 0) (.cons (.own 1) (.cons (.own 2) .nil))) [j36,qgb,qgb,qa0,qa0] [true,false,false,false,false] 0 qky (B:=(qL2×qL2×qL1×qL1)) (fun b=>((()),(((),(),()),b.1,b.2.1,b.2.2.1,b.2.2.2,()))) (fun a=>zd a.2.2.1 (pe3 a) (pe4 a) (pe5 a)))
theorem qyl:MdlOK Tryz.prog 186 qov:=nj Tryz.func186 rfl ls (.two (.two .z (.two .z (.two (.two (.two .z (.s 0)) (.two .z (.s 1))) .z))) (.s 4)) (sC q09 (sC q1a (sC q1d s0)))
def qbz:Shp:=⟨[qqp],[qtr,qa0,qa0]⟩
abbrev mh:Ctx ((Bool×qL2×qL2)):=⟨142,tt,false,false,[true,false,false],j8 [(186,qrn),(186,qov),(187,jc5)],lm [am _ 142 [true,false,false] qnc (C:=(Int×Int×qL2×qL2)) (S:=(Int×qL2×qL2)) (fun x=>((x.1.2.1,(pe3 x.1),(pe3 x),(pe4 x)),((pe4 x.1),(pe5 x),(pe6 x)))) qnb (CE:=(Int×qL2×qL2)) (E:=(qL2×qL2)) (fun c e=>(((),c.1,(),()),(((),(),()),((),(),()),c.2.1,c.2.2,e.1,e.2,()))) (fun c=>(c.1,c.2.2.1,c.2.2.2)) (fun{R} c a nx dn rt=>fw c.1 c.2.1 c.2.2.1 c.2.2.2 a.1 a.2.1 a.2.2 nx dn rt),am _ 142 [true,false,false] qne (C:=(Int×Int×Int×Int×Int×qL2×qL2)) (S:=(Int×qL2×qL2)) (fun x=>((x.1.2.1,(pe3 x.1),(pe4 x.1),(pe5 x.1),(pe6 x.1),(pe3 x),(pe4 x)),((pe7 x.1),(pe5 x),(pe6 x)))) qnd (CE:=(Int×Int×Int×qL2×qL2)) (E:=(qL2×qL2)) (fun c e=>(((),c.1,(),c.2.1,c.2.2.1,()),(((),(),()),((),(),()),(pe3 c),(pf4 c),e.1,e.2,()))) (fun c=>(c.1,c.2.2.1,(pe3 c),(pe5 c),(pf6 c))) (fun{R} c a nx dn rt=>em c.1 c.2.1 c.2.2.1 (pe3 c) (pe4 c) (pe5 c) (pf6 c) a.1 a.2.1 a.2.2 nx dn rt),am _ 142 [true,false,false] qng (C:=(Int×Int×qL2×qL2)) (S:=(Int×qL2×qL2)) (fun x=>((x.1.2.1,(pe3 x.1),(pe3 x),(pe4 x)),((pe4 x.1),(pe5 x),(pe6 x)))) qnf (CE:=(qL2×qL2)) (E:=(qL2×qL2)) (fun c e=>(((),(),()),(((),(),()),((),(),()),c.1,c.2,e.1,e.2,()))) (fun c=>(c.2.2.1,c.2.2.2)) (fun{R} c a nx dn rt=>jq c.1 c.2.1 c.2.2.1 c.2.2.2 a.1 a.2.1 a.2.2 nx dn rt)],cm 142 tt [true,false,false] [.tmp 4] qbz (fun x=>(x.1.1,x.2.2.1,(pe3 x)))⟩
theorem mg:CtxM Tryz.prog mh:=lw fits mixed (mC q1i (mC qyl (mC jih m0)))
theorem qp1:ao Tryz.prog mh 1 (lc 4 Tryz.f141 39319):=lp rfl mg (.two .z (.two .z (.two (.one (.two .z (.two (.d [0,1,3,7,0,31,63,0,255,511,0,1024,3072,7168,0,31744,64512,0,261120,523264,1023,2097151] [] []) (.two .z (.two (.d [0,0,2,0,8,24,56,0,248,504,0,0,2048,6144,14336,0,63488,129024,262142,0,524288,0,2097152,6291456,14680064,0,65011712,132120576,0,0,536870912,1610612736,3758096384,0,16642998272,33822867456,68719476734,137438953471] [37] []) .z))))) .z))) s0 (fun c a=>(((),c.1,(),c.2.1,c.2.2.1,(pe3 c),(pe4 c),a.1,()),(((),(),()),((),(),()),(pe5 c),(pf6 c),a.2.1,a.2.2,()))) (fun y=>((y.1.2.1,(pe3 y.1),(pe4 y.1),(pe3 y),(pe4 y)),((pe5 y),(pe6 y))))
theorem qp2:ao Tryz.prog mh 2 (lc 2 Tryz.f141 151):=lp rfl mg (.two .z (.two .z (.two (.one (.two .z (.two .z (.s 1)))) .z))) (sC qp1 s0) (fun c a=>(((),c.1,(),c.2.1,a.1,()),(((),(),()),((),(),()),c.2.2.1,c.2.2.2,a.2.1,a.2.2,()))) (fun y=>(((pe3 y),(pe4 y)),((pe5 y),(pe6 y))))
theorem qp0:ao Tryz.prog mh 0 (lc 0 Tryz.f141 75):=lp rfl mg (.two .z (.two .z (.two (.one (.two .z (.two .z (.two (.d [0,0,2,6,14,0,62,126,0,256,768,1792,0,7936,16128,32767] [15] []) .z)))) .z))) s0 (fun c a=>(((),c.1,(),c.2.1,a.1,()),(((),(),()),((),(),()),c.2.2.1,c.2.2.2,a.2.1,a.2.2,()))) (fun y=>((y.1.2.1,(pe3 y),(pe4 y)),((pe5 y),(pe6 y))))
abbrev qd0:Mdl:=(ay (.cons (.ptr 0) (.cons (.d false qT0) .nil)) [qtr,qa0,qa0] [true,false,false] 1 qbz (B:=(Bool×qL2×qL2)) (fun b=>((b.1,()),(((),(),()),b.2.1,b.2.2,()))) (fun a=>oj a.1.2.1 a.2.2.1 (pe3 a)))
theorem qnh:MdlOK Tryz.prog 141 qd0:=nj Tryz.func141 rfl mg (.two .z (.two .z (.two (.two .z (.s 0)) (.two (.two .z (.s 2)) .z)))) (sC qp0 (sC qp2 s0))
def qes:Shp:=⟨[],[qa0]⟩
abbrev rv:Mdl:=(ay (.cons (.own 0) (.cons (.fn 108 .nil) .nil)) [qa0] [true] 0 qes (B:=qL2) (fun b=>((()),(b,()))) (fun a=>jw a.2.1))
theorem qc7:MdlOK Tryz.prog 106 rv:=jog 108 (by decide)
def qkt:Shp:=⟨[qqp],[]⟩
abbrev q5i:Ctx (Bool):=⟨5,tt,false,false,[],j8 [],lm [],cm 5 tt [] [.tmp 2] qkt (fun x=>x.1.1)⟩
theorem q5h:CtxM Tryz.prog q5i:=lw fits mixed m0
abbrev qot:Mdl:=(ay (.cons (.d false qT0) .nil) [] [] 1 qkt (B:=Bool) (fun b=>((b,()),(()))) (fun a=>qgt a.1.1))
theorem qya:MdlOK Tryz.prog 142 qot:=nj Tryz.func142 rfl q5h .z s0
def pg:Shp:=⟨[q1r],[]⟩
abbrev qd:Ctx (Int):=⟨19,tt,false,false,[],j8 [(142,qot)],lm [am _ 19 [] qbb (C:=(qL1×Int)) (S:=Int) (fun x=>((x.1.1,x.1.2.2.1),(pe3 x.1))) qba (CE:=Unit) (E:=Unit) (fun c e=>((()),(()))) (fun c=>()) (fun{R} c a nx dn rt=>eh c.1 c.2 a nx dn rt)],cm 19 tt [] [.tmp 4] pg (fun x=>x.1.1)⟩
theorem qb:CtxM Tryz.prog qd:=lw fits mixed (mC qya m0)
theorem qc0:ao Tryz.prog qd 0 (lc 0 Tryz.f147 37):=lp rfl qb .z s0 (fun c a=>((c.1,(()),c.2,a,()),(()))) (fun y=>((),()))
abbrev qc:Mdl:=(ay (.cons (.d false qT1) (.cons (.fn 142 .nil) .nil)) [] [] 1 pg (B:=Int) (fun b=>((b,()),(()))) (fun a=>jh a.1.1))
theorem qbc:MdlOK Tryz.prog 147 qc:=nj Tryz.func147 rfl qb (.two .z (.two (.two .z (.s 0)) .z)) (sC qc0 s0)
def la:Shp:=⟨[qqp],[]⟩
abbrev qah:Ctx (Bool):=⟨9,tt,false,false,[],j8 [(147,qc)],lm [],cm 9 tt [] [.tmp 4] la (fun x=>x.1.1)⟩
theorem qag:CtxM Tryz.prog qah:=lw fits mixed (mC qbc m0)
abbrev mr:Mdl:=(ay (.cons (.d false qT1) (.cons (.fn 142 .nil) .nil)) [] [] 1 la (B:=Bool) (fun b=>((b,()),(()))) (fun a=>d9 a.1.1))
theorem xh:MdlOK Tryz.prog 92 mr:=nj Tryz.func92 rfl qag .z s0
def qrm:Shp:=⟨[(0, .d true qT2),qvj],[]⟩
abbrev ve:Ctx ((qL2×Int)):=⟨83,tt,false,false,[],j8 [(22,bd),(141,qd0),(106,rv),(92,mr)],lm [am _ 83 [] q5a (C:=(qL2×qL2×Int)) (S:=(Int×qL2×qL2)) (fun x=>((x.1.1,x.1.2.2.1,(pe3 x.1)),((pe4 x.1),x.2.2.1,(pe3 x)))) q49 (CE:=qL2) (E:=(qL2×qL2)) (fun c e=>((c,(),()),(((),(),()),e.1,e.2,()))) (fun c=>c.1) (fun{R} c a nx dn rt=>wi c.1 c.2.1 c.2.2 a.1 a.2.1 a.2.2 nx dn rt),am _ 83 [] q5c (C:=Int) (S:=(Int×qL2×qL2)) (fun x=>(x.1.2.1,(x.1.2.2.1,x.2.2.1,(pe3 x)))) q5b (CE:=Unit) (E:=(qL2×qL2)) (fun c e=>(((),()),(((),(),()),e.1,e.2,()))) (fun c=>()) (fun{R} c a nx dn rt=>wj c a.1 a.2.1 a.2.2 nx dn rt),am _ 83 [] q5e (C:=(qL2×qL2×Int)) (S:=Int) (fun x=>((x.1.1,x.1.2.1,x.1.2.2.1),(pe3 x.1))) q5d (CE:=qL2) (E:=Unit) (fun c e=>((c,()),(()))) (fun c=>c.1) (fun{R} c a nx dn rt=>wl c.1 c.2.1 c.2.2 a nx dn rt),qd8 _ 83 [] q5g (A:=(qL2×qL2)) (fun x=>(x.2.1.1,x.2.2.1)) q5f (CE:=Unit) (E:=Unit) (fun c e=>((()),(()))) (fun c=>()) (fun{R} c dn rt=>qe5 c.1 c.2 dn rt)],cm 83 tt [] [.tmp 2, .tmp 3] qrm (fun x=>(x.1.1,x.1.2.1))⟩
theorem vb:CtxM Tryz.prog ve:=lw fits mixed (mC bc (mC qnh (mC qc7 (mC xh m0))))
theorem q8f:ao Tryz.prog ve 2 (lc 4 Tryz.f78 2431):=lp rfl vb .z s0 (fun c a=>((c.1,c.2.1,c.2.2,a,()),(()))) (fun y=>(y.1.1,()))
theorem q8e:ao Tryz.prog ve 1 (lc 2 Tryz.f78 599):=lp rfl vb .z s0 (fun c a=>(((),c,a.1,()),(((),(),()),a.2.1,a.2.2,()))) (fun y=>((),(y.2.2.1,(pe3 y))))
theorem q8d:ao Tryz.prog ve 0 (lc 0 Tryz.f78 75):=lp rfl vb (.two .z (.two .z (.two (.one (.two .z (.two .z (.two .z (.d [0,0,0,4,12,28,0,64,192,508,0,1024,3072,7168,0,16384,65532,131069,262141,524285,1048575,2097151,4194303] [9,16,19,22] []))))) .z))) s0 (fun c a=>((c.1,(),c.2.1,c.2.2,a.1,()),(((),(),()),a.2.1,a.2.2,()))) (fun y=>(y.1.1,(y.2.2.1,(pe3 y))))
theorem q8g:ao Tryz.prog ve 3 (jc Tryz.f78 31):=jn rfl vb (.two .z (.two .z (.two .z (.two (.two .z (.s 2)) .z)))) (sC q8f s0) (fun c=>(((),()),((c.1,(),()),c.2,()))) (fun y=>((),()))
abbrev qjn:Mdl:=(ay (.cons (.d false qT2) .nil) [] [] 2 qrm (B:=(qL2×Int)) (fun b=>((b.1,b.2,()),(()))) (fun a=>qf3 a.1.1))
theorem qou:MdlOK Tryz.prog 78 qjn:=nj Tryz.func78 rfl vb (.two .z (.two .z (.two (.two .z (.s 0)) (.two (.two .z (.two (.two .z (.s 1)) .z)) (.s 3))))) (sC q8d (sC q8e (sC q8g s0)))
def qun:Shp:=⟨[(0, .d true qT2),qvj],[]⟩
abbrev qm8:Ctx ((qL2×Int)):=⟨43,tt,false,false,[],j8 [(49,de),(76,qrh),(77,qm9),(78,qjn)],lm [am _ 43 [] q74 (C:=(Int×Int×Int×(List ah)×Int×Int×(List ah)×Int×Int×qL2)) (S:=(Int×qL1)) (fun x=>((x.1.2.2.1,(pe4 x.1),(pe5 x.1),(pe6 x.1),(pe7 x.1),x.2.1.1,x.2.1.2.1,x.2.1.2.2.1,(pe3 x.2.1),x.2.2.1),((pe8 x.1),(pe3 x)))) q73 (CE:=(Int×Int×Int×(List ah)×Int×Int×qL2)) (E:=qL1) (fun c e=>(((),(),(),c.1,c.2.1,()),((c.2.2.1,(pe3 c),(pe4 c),(pe5 c),()),(pf6 c),e,()))) (fun c=>(c.2.1,c.2.2.1,(pe5 c),(pe6 c),(pe7 c),(pe8 c),(pf9 c))) (fun{R} c a nx dn rt=>y9 c.1 c.2.1 c.2.2.1 (pe3 c) (pe4 c) (pe5 c) (pe6 c) (pe7 c) (pe8 c) (pf9 c) a.1 a.2 nx dn rt),am _ 43 [] q76 (C:=(Int×Int×(List ah)×Int×Int)) (S:=(Int×qL2)) (fun x=>((x.1.2.2.1,x.2.1.1,x.2.1.2.1,x.2.1.2.2.1,(pe3 x.2.1)),((pe3 x.1),x.2.2.1))) q75 (CE:=Unit) (E:=qL2) (fun c e=>(((),()),(e,()))) (fun c=>()) (fun{R} c a nx dn rt=>za c.1 c.2.1 c.2.2.1 (pe3 c) (pf4 c) a.1 a.2 nx dn rt)],cm 43 tt [] [.tmp 2, .tmp 3] qun (fun x=>(x.1.1,x.1.2.1))⟩
theorem qm6:CtxM Tryz.prog qm8:=lw fits mixed (mC cq (mC quq (mC qrf (mC qou m0))))
theorem jbp:ao Tryz.prog qm8 0 (lc 2 Tryz.f33 308015):=lp rfl qm6 .z s0 (fun c a=>(((),(),c.1,(),c.2.1,c.2.2.1,(pe3 c),(pe4 c),a.1,()),(((pe5 c),(pe6 c),(pe7 c),(pe8 c),()),(pf9 c),a.2,()))) (fun y=>(((pe3 y.1),(pe4 y.1),y.2.1.1,y.2.1.2.1,y.2.1.2.2.1,(pe3 y.2.1),y.2.2.1),(pe3 y)))
theorem jbq:ao Tryz.prog qm8 1 (lc 0 Tryz.f33 303):=lp rfl qm6 (.two .z (.two .z (.two (.one (.two .z (.two .z (.two (.two .z (.s 0)) .z)))) .z))) (sC jbp s0) (fun c a=>(((),(),c.1,a.1,()),((c.2.1,c.2.2.1,(pe3 c),(pf4 c),()),a.2,()))) (fun y=>((),y.2.1))
abbrev qm7:Mdl:=(ay (.cons (.d false b8.ty) .nil) [] [] 2 qun (B:=(qL2×Int)) (fun b=>((b.1,b.2,()),(()))) (fun a=>qit a.1.1))
theorem qre:MdlOK Tryz.prog 33 qm7:=nj Tryz.func33 rfl qm6 (.two .z (.two .z (.two .z (.two .z (.two (.two .z (.s 1)) .z))))) (sC jbq s0)
abbrev qiu:Mdl:=dh Tryz.f95 43 tt false false [] [(49,de),(76,qrh),(77,qm9),(78,qjn)] [.tmp 2, .tmp 3] (.cons (.d false b8.ty) .nil) [] ⟨[(0, .d true qT2),(1, .d true qT0)],[]⟩ (.two .z (.two .z (.two .z (.two .z (.two (.two .z (.one (.u 100000 (.two .z (.two .z (.two (.one (.two .z (.two .z (.two (.two .z (.one (.u 100000 .z))) .z)))) .z)))))) .z)))))
theorem qt0:MdlOK Tryz.prog 95 qiu:=dg Tryz.func95 fits mixed (mC cq (mC quq (mC qrf (mC qou m0))))
abbrev qlc:Mdl:=dh Tryz.f96 80 tt false false [] [(49,de),(48,bn)] [.tmp 2, .tmp 3] (.cons (.d false b8.ty) .nil) [] ⟨[(0, .own 0),(1, .d true qT0)],[.arr 25 .own [3] qT1]⟩ (.two .z (.two .z (.two .z (.two (.two .z (.one (.u 100000 (.two .z (.two .z (.two (.one (.two .z (.two .z (.two .z (.one (.u 100000 .z)))))) .z)))))) .z))))
theorem qv6:MdlOK Tryz.prog 96 qlc:=dg Tryz.func96 fits mixed (mC cq (mC bp m0))
abbrev qi3:Mdl:=dh Tryz.f218 9 tt false false [] [] [.tmp 2] (.cons (.d false qT0) .nil) [] ⟨[(0, .d true .bool)],[]⟩ .z
theorem qt5:MdlOK Tryz.prog 218 qi3:=dg Tryz.func218 fits mixed m0
abbrev qt:Mdl:=dh Tryz.f147 19 tt false false [] [(218,qi3)] [.tmp 4] (.cons (.d false qT1) (.cons (.fn 218 .nil) .nil)) [] ⟨[(0, .d true qT0)],[]⟩ (.two .z (.two (.two .z (.one (.u 100000 .z))) .z))
theorem qbs:MdlOK Tryz.prog 147 qt:=dg Tryz.func147 fits mixed (mC qt5 m0)
abbrev m7:Mdl:=dh Tryz.f92 9 tt false false [] [(147,qt)] [.tmp 4] (.cons (.d false qT1) (.cons (.fn 218 .nil) .nil)) [] ⟨[(0, .d true .bool)],[]⟩ .z
theorem xt:MdlOK Tryz.prog 92 m7:=dg Tryz.func92 fits mixed (mC qbs m0)
abbrev qo4:Mdl:=dh Tryz.f191 6 tt false false [] [(92,m7)] [.tmp 2] (.cons (.d false qT1) .nil) [] ⟨[(0, .d true .bool)],[]⟩ .z
theorem qy5:MdlOK Tryz.prog 191 qo4:=dg Tryz.func191 fits mixed (mC xt m0)
abbrev qo3:Mdl:=dh Tryz.f190 16 tt false false [] [(191,qo4)] [.tmp 3] (.cons (.d false qT1) (.cons (.rp false qT2) .nil)) [] ⟨[(0, .d true .bool)],[]⟩ .z
theorem qy4:MdlOK Tryz.prog 190 qo3:=dg Tryz.func190 fits mixed (mC qy5 m0)
abbrev qr:Mdl:=dh Tryz.f25 19 tt false false [] [(190,qo3)] [.tmp 4] (.cons (.d false qT2) (.cons (.fn 190 (.cons (.rp false qT2) .nil)) .nil)) [] ⟨[(0, .d true qT0)],[]⟩ (.two .z (.two (.two .z (.one (.u 100000 .z))) .z))
theorem qbq:MdlOK Tryz.prog 25 qr:=dg Tryz.func25 fits mixed (mC qy4 m0)
abbrev m5:Mdl:=dh Tryz.f7 9 tt false false [] [(25,qr)] [.tmp 4] (.cons (.d false qT2) (.cons (.fn 190 (.cons (.rp false qT2) .nil)) .nil)) [] ⟨[(0, .d true .bool)],[]⟩ .z
theorem xq:MdlOK Tryz.prog 7 m5:=dg Tryz.func7 fits mixed (mC qbq m0)
abbrev qus:Mdl:=dh Tryz.f152 29 tt false false [] [(7,m5)] [.tmp 2] (.cons (.d false qT2) .nil) [] ⟨[(0, .d true .bool)],[]⟩ .z
theorem q5m:MdlOK Tryz.prog 152 qus:=dg Tryz.func152 fits mixed (mC xq m0)
abbrev q37:Mdl:=dh Tryz.f192 7 tt false false [] [] [.tmp 2] (.cons (.d false qT0) .nil) [] ⟨[(0, .d true qT0)],[]⟩ .z
theorem jbw:MdlOK Tryz.prog 192 q37:=dg Tryz.func192 fits mixed m0
abbrev qut:Mdl:=dh Tryz.f153 33 tt false false [] [(192,q37)] [.tmp 2] (.cons (.d false qT2) .nil) [] ⟨[(0, .d true .bool)],[]⟩ (.two .z (.two .z (.two (.two .z (.one (.u 100000 (.two .z (.two .z (.two (.one (.two .z (.two .z (.two (.two .z (.one (.u 100000 .z))) .z)))) .z)))))) .z)))
theorem q5n:MdlOK Tryz.prog 153 qut:=dg Tryz.func153 fits mixed (mC jbw m0)
abbrev zm:Mdl:=dh Tryz.f193 72 tt true false [true,true,true] [] [] (.cons (.ptr 0) (.cons (.d false qT0) (.cons (.d false qT0) .nil))) [.cs 203 4 1 (.cons (.own 1) (.cons (.own 2) (.cons (.d false qT0) (.cons (.d false qT0) .nil)))), .arr 25 .own [3] qT1,qgb] ⟨[],[.cs 203 4 1 (.cons (.own 1) (.cons (.own 2) (.cons (.d true qT0) (.cons (.d true qT0) .nil)))), .arr 25 .own [3] qT1,qgb]⟩ (.two .z (.two .z (.two (.two .z (.one (.u 100000 (.two .z (.two .z (.two (.one (.two .z (.two .z (.two .z (.two .z (.one (.u 100000 (.two .z (.two .z (.two (.one (.two .z (.ad [0,0,0,0,0,24,56,124,0,0,0,1536,3584,7936,16380,0,32768,98304,229376,524284,1048575,2097151] [21]))) .z)))))))))) .z)))))) .z)))
theorem qjr:MdlOK Tryz.prog 193 zm:=dg Tryz.func193 fits mixed m0
abbrev qru:Mdl:=dh Tryz.f154 102 tt true false [] [(22,bd),(193,zm)] [.cell 4 203] (.cons (.d false qT2) (.cons (.d false qT0) .nil)) [] ⟨[(0, .d true qde.ty)],[]⟩ (.two .z (.two .z (.two (.two .z (.one (.nm ⟨[(1, .d true qT0),(4, .ptr 0),(5, .ptr 1),(12, .d false qT2),(13, .d true qT0),(14, .d true qT0)],[.cs 203 4 1 (.cons (.d true qT2) (.cons (.d true qT1) (.cons (.d true qT0) (.cons (.d true qT0) .nil)))), .cs 203 4 1 (.cons (.own 2) (.cons (.own 3) (.cons (.d true qT0) (.cons (.d true qT0) .nil)))), .arr 25 .own [3] qT1,qgb]⟩ (.u 100000 (.two .z (.two .z (.two (.one (.two .z (.ad [0,1,0,4,12,31,63,127] [5,7]))) .z))))))) (.two (.two .z (.one (.nm ⟨[(1, .d true qT0),(4, .ptr 0),(5, .ptr 1),(8, .d true qT0)],[.cs 203 4 1 (.cons (.d true qT2) (.cons (.d true qT1) (.cons (.d true qT0) (.cons (.d true qT0) .nil)))), .cs 203 4 1 (.cons (.own 2) (.cons (.own 3) (.cons (.d true qT0) (.cons (.d true qT0) .nil)))), .arr 25 .own [3] qT1,qgb]⟩ (.u 100000 (.two .z (.two (.one (.two .z (.two .z (.two (.one (.nm ⟨[(1, .d true qT0),(4, .ptr 0),(5, .ptr 1),(8, .d true qT0),(9, .d true qT0),(10, .d true qT0)],[.cs 203 4 1 (.cons (.d true qT2) (.cons (.d true qT1) (.cons (.d true qT0) (.cons (.d true qT0) .nil)))), .cs 203 4 1 (.cons (.own 2) (.cons (.own 3) (.cons (.d true qT0) (.cons (.d true qT0) .nil)))), .arr 25 .own [3] qT1,qgb]⟩ (.u 100000 .z))) (.two .z (.two (.two .z (.two (.two (.ad [0,1,0,0,8,0,0,64,0,448,960,0,2048,0,14336,30720,65503,131039,262143,524287] [17,19]) .z) .z)) .z)))))) .z)))))) .z))))
theorem q1u:MdlOK Tryz.prog 154 qru:=dg Tryz.func154 fits mixed (mC bc (mC qjr m0))
abbrev qy3:Mdl:=dh Tryz.f97 20 tt false false [] [(152,qus),(153,qut),(154,qru)] [.tmp 2, .tmp 3] (.cons (.d false qT2) .nil) [] ⟨[(0, .d true qT0),(1, .d true qT0)],[]⟩ .z
theorem q8x:MdlOK Tryz.prog 97 qy3:=dg Tryz.func97 fits mixed (mC q5m (mC q5n (mC q1u m0)))
abbrev qb1:Mdl:=dh Tryz.f155 15 tt false false [] [] [.tmp 3] (.cons (.d false qT1) (.cons (.rp false qT0) .nil)) [] ⟨[(0, .d true .bool)],[]⟩ .z
theorem qk0:MdlOK Tryz.prog 155 qb1:=dg Tryz.func155 fits mixed m0
abbrev qg:Mdl:=dh Tryz.f25 19 tt false false [] [(155,qb1)] [.tmp 4] (.cons (.d false qT2) (.cons (.fn 155 (.cons (.rp false qT0) .nil)) .nil)) [] ⟨[(0, .d true qT0)],[]⟩ (.two .z (.two (.two .z (.one (.u 100000 .z))) .z))
theorem qbf:MdlOK Tryz.prog 25 qg:=dg Tryz.func25 fits mixed (mC qk0 m0)
abbrev mu:Mdl:=dh Tryz.f7 9 tt false false [] [(25,qg)] [.tmp 4] (.cons (.d false qT2) (.cons (.fn 155 (.cons (.rp false qT0) .nil)) .nil)) [] ⟨[(0, .d true .bool)],[]⟩ .z
theorem xk:MdlOK Tryz.prog 7 mu:=dg Tryz.func7 fits mixed (mC qbf m0)
abbrev ur:Mdl:=dh Tryz.f99 15 tt false false [] [(7,mu)] [.tmp 4] (.cons (.d false qT2) (.cons (.d false qT0) .nil)) [] ⟨[(0, .d true .bool)],[]⟩ (.two .z (.two (.two .z (.one (.u 100000 .z))) .z))
theorem qb2:MdlOK Tryz.prog 99 ur:=dg Tryz.func99 fits mixed (mC xk m0)
abbrev vg:Mdl:=dh Tryz.f98 7 tt false false [] [(99,ur)] [.tmp 2] (.cons (.rp false qT2) (.cons (.rp false b8.ty) .nil)) [] ⟨[(0, .d true .bool)],[]⟩ .z
theorem qgx:MdlOK Tryz.prog 98 vg:=dg Tryz.func98 fits mixed (mC qb2 m0)
abbrev sr:Mdl:=dh Tryz.f104 6 tt false false [] [(98,vg)] [.tmp 2] (.cons (.fn 98 (.cons (.rp false qT2) (.cons (.rp false b8.ty) .nil))) .nil) [] ⟨[(0, .d true .bool)],[]⟩ .z
theorem qd1:MdlOK Tryz.prog 104 sr:=dg Tryz.func104 fits mixed (mC qgx m0)
abbrev vi:Mdl:=dh Tryz.f100 8 tt false false [] [(99,ur)] [.tmp 2] (.cons (.rp false qT2) (.cons (.rp false b8.ty) .nil)) [] ⟨[(0, .d true .bool)],[]⟩ .z
theorem qgy:MdlOK Tryz.prog 100 vi:=dg Tryz.func100 fits mixed (mC qb2 m0)
abbrev q8:Mdl:=dh Tryz.f104 6 tt false false [] [(100,vi)] [.tmp 2] (.cons (.fn 100 (.cons (.rp false qT2) (.cons (.rp false b8.ty) .nil))) .nil) [] ⟨[(0, .d true .bool)],[]⟩ .z
theorem qcl:MdlOK Tryz.prog 104 q8:=dg Tryz.func104 fits mixed (mC qgy m0)
abbrev qd2:Mdl:=dh Tryz.f102 99 tt false false [] [(148,qx),(150,ll),(151,im)] [.tmp 2] (.cons (.d false b8.ty) .nil) [] ⟨[(0, .nl false (.own 0))],[.arr 206 .own [3,3] jve.ty]⟩ (.two .z (.two .z (.two (.two .z (.one (.u 100000 (.two .z (.two .z (.two (.one (.two .z (.two .z (.one (.u 100000 .z))))) .z)))))) (.two .z (.two .z (.two (.two .z (.one (.u 100000 (.two .z (.two .z (.two (.one (.two .z (.two .z (.two .z (.two .z (.two .z (.two (.ad [0,0,0,0,12,28,60,0,128,508,3,2047,4095] [9,12]) (.ad [0,0,0,0,12,28,60,0,0,256,896,1920,4092,3,16383,32767] [12,15])))))))) .z)))))) .z))))))
theorem qnj:MdlOK Tryz.prog 102 qd2:=dg Tryz.func102 fits mixed (mC vk (mC ss (mC kc m0)))
abbrev vj:Mdl:=dh Tryz.f101 9 tt false false [] [(102,qd2)] [.tmp 2] (.cons (.rp false qT0) (.cons (.rp false b8.ty) .nil)) [] ⟨[(0, .d true .bool)],[]⟩ (.two .z (.two (.ad [0,0,2,6,14,31,63] []) .z))
theorem qgz:MdlOK Tryz.prog 101 vj:=dg Tryz.func101 fits mixed (mC qnj m0)
abbrev q9:Mdl:=dh Tryz.f104 6 tt false false [] [(101,vj)] [.tmp 2] (.cons (.fn 101 (.cons (.rp false qT0) (.cons (.rp false b8.ty) .nil))) .nil) [] ⟨[(0, .d true .bool)],[]⟩ .z
theorem qcm:MdlOK Tryz.prog 104 q9:=dg Tryz.func104 fits mixed (mC qgz m0)
abbrev dy:Mdl:=dh Tryz.f156 19 tt false false [true,true,true,true,true] [(104,sr),(104,q8),(104,q9)] [.tmp 4] (.cons (.own 0) (.cons (.fn 104 .nil) .nil)) [.cs 26 1 3 (.cons (.fn 98 (.cons (.ptr 1) (.cons (.ptr 2) .nil))) (.cons (.fn 100 (.cons (.ptr 3) (.cons (.ptr 2) .nil))) (.cons (.fn 101 (.cons (.ptr 4) (.cons (.ptr 2) .nil))) .nil))), .cs 28 1 1 (.cons (.d true qT2) .nil), .cs 24 4 1 (.cons (.d false qT0) (.cons (.d true (.slice ah.ty)) (.cons (.d false qT0) (.cons (.d false qT0) .nil)))), .cs 28 1 1 (.cons (.d true qT2) .nil), .cs 3 1 1 (.cons (.d false qT0) .nil)] ⟨[(0, .d true qT0)],[.cs 26 1 3 (.cons (.fn 98 (.cons (.ptr 1) (.cons (.ptr 2) .nil))) (.cons (.fn 100 (.cons (.ptr 3) (.cons (.ptr 2) .nil))) (.cons (.fn 101 (.cons (.ptr 4) (.cons (.ptr 2) .nil))) .nil))), .cs 28 1 1 (.cons (.d true qT2) .nil),qkf, .cs 28 1 1 (.cons (.d true qT2) .nil),jas]⟩ (.two .z (.two (.two .z (.one (.u 4 .z))) .z))
theorem je:MdlOK Tryz.prog 156 dy:=dg Tryz.func156 fits mixed (mC qd1 (mC qcl (mC qcm m0)))
abbrev df:Mdl:=dh Tryz.f103 9 tt false false [true,true,true,true,true] [(156,dy)] [.tmp 4] (.cons (.own 0) (.cons (.fn 104 .nil) .nil)) [.cs 26 1 3 (.cons (.fn 98 (.cons (.ptr 1) (.cons (.ptr 2) .nil))) (.cons (.fn 100 (.cons (.ptr 3) (.cons (.ptr 2) .nil))) (.cons (.fn 101 (.cons (.ptr 4) (.cons (.ptr 2) .nil))) .nil))), .cs 28 1 1 (.cons (.d true qT2) .nil), .cs 24 4 1 (.cons (.d false qT0) (.cons (.d true (.slice ah.ty)) (.cons (.d false qT0) (.cons (.d false qT0) .nil)))), .cs 28 1 1 (.cons (.d true qT2) .nil), .cs 3 1 1 (.cons (.d false qT0) .nil)] ⟨[(0, .d true .bool)],[.cs 26 1 3 (.cons (.fn 98 (.cons (.ptr 1) (.cons (.ptr 2) .nil))) (.cons (.fn 100 (.cons (.ptr 3) (.cons (.ptr 2) .nil))) (.cons (.fn 101 (.cons (.ptr 4) (.cons (.ptr 2) .nil))) .nil))), .cs 28 1 1 (.cons (.d true qT2) .nil),qkf, .cs 28 1 1 (.cons (.d true qT2) .nil),jas]⟩ .z
theorem ip:MdlOK Tryz.prog 103 df:=dg Tryz.func103 fits mixed (mC je m0)
abbrev zf:Mdl:=dh Tryz.f45 61 tt false false [] [(49,de),(44,wx),(94,qb0),(33,qm7),(95,qiu),(96,qlc),(97,qy3),(103,df)] [.tmp 2, .tmp 3] (.cons (.d true b8.ty) .nil) [] ⟨[(0, .d true .bool),(1, .d true qT0)],[]⟩ .z
theorem qjo:MdlOK Tryz.prog 45 zf:=dg Tryz.func45 fits mixed (mC cq (mC qd4 (mC qkz (mC qre (mC qt0 (mC qv6 (mC q8x (mC ip m0))))))))
abbrev qvb:Mdl:=dh Tryz.f157 18 tt false false [] [] [.tmp 2] (.cons (.d false qT1) .nil) [] ⟨[(0, .d true (.int .u32))],[]⟩ (.two .z (.two .z (.two (.two .z (.one (.u 100000 .z))) .z)))
theorem q53:MdlOK Tryz.prog 157 qvb:=dg Tryz.func157 fits mixed m0
abbrev qph:Mdl:=dh Tryz.f105 106 tt false false [] [(157,qvb)] [.tmp 2] (.cons (.d false b8.ty) .nil) [] ⟨[(0, .nl false (.own 0))],[.arr 158 (.fz true) [0] (.int .u32)]⟩ (.two .z (.two .z (.two (.two .z (.one (.u 100000 (.two .z (.two .z (.two (.one (.two .z (.ad [0,0,2,6,14,31,0,0,128,447,959,2047,4095,8191] [5,11,12,13]))) .z)))))) (.two .z (.two .z (.two (.two .z (.one (.u 100000 (.two .z (.two (.one (.two (.two .z (.one (.u 100000 .z))) (.two .z (.two .z (.two (.two .z (.one (.u 100000 .z))) .z))))) .z))))) .z))))))
theorem qzx:MdlOK Tryz.prog 105 qph:=dg Tryz.func105 fits mixed (mC q53 m0)
def qer:Shp:=⟨[],[qa0]⟩
abbrev ru:Mdl:=(ay (.cons (.own 0) (.cons (.fn 107 .nil) .nil)) [qa0] [true] 0 qer (B:=qL2) (fun b=>((()),(b,()))) (fun a=>qf6 a.2.1))
theorem qc6:MdlOK Tryz.prog 106 ru:=jog 107 (by decide)
abbrev qpg:Mdl:=dh Tryz.f46 47 tt false true [] [(49,de),(105,qph),(106,ru)] [.tmp 2, .tmp 3] (.cons (.d false b8.ty) .nil) [] ⟨[(0, .nl false (.own 0)),(1, .d true qT0)],[qa0]⟩ (.two .z (.two .z (.two .z (.two (.two .z (.one (.u 100000 (.two .z (.two .z (.two (.one (.two .z (.two .z (.two (.two .z (.one (.u 100000 .z))) .z)))) .z)))))) .z))))
theorem qzw:MdlOK Tryz.prog 46 qpg:=dg Tryz.func46 fits mixed (mC cq (mC qzx (mC qc6 m0)))
abbrev qfk:Mdl:=dh Tryz.f47 9 tt false false [] [(48,bn)] [.tmp 3] (.cons (.d false qT1) (.cons (.rp false b8.ty) .nil)) [] ⟨[(0, .d true .bool)],[]⟩ .z
theorem qp3:MdlOK Tryz.prog 47 qfk:=dg Tryz.func47 fits mixed (mC bp m0)
abbrev rm:Mdl:=dh Tryz.f25 19 tt false false [] [(47,qfk)] [.tmp 4] (.cons (.d false qT2) (.cons (.fn 47 (.cons (.rp false b8.ty) .nil)) .nil)) [] ⟨[(0, .d true qT0)],[]⟩ (.two .z (.two (.two .z (.one (.u 100000 .z))) .z))
theorem qc4:MdlOK Tryz.prog 25 rm:=dg Tryz.func25 fits mixed (mC qp3 m0)
abbrev n8:Mdl:=dh Tryz.f7 9 tt false false [] [(25,rm)] [.tmp 4] (.cons (.d false qT2) (.cons (.fn 47 (.cons (.rp false b8.ty) .nil)) .nil)) [] ⟨[(0, .d true .bool)],[]⟩ .z
theorem yo:MdlOK Tryz.prog 7 n8:=dg Tryz.func7 fits mixed (mC qc4 m0)
abbrev qi1:Mdl:=dh Tryz.f14 43 tt false false [] [(43,qi0),(44,wx),(45,zf),(46,qpg),(7,n8)] [.tmp 2, .tmp 3] (.cons (.d false b8.ty) .nil) [] ⟨[(0, .d true .bool),(1, .d true qT0)],[]⟩ .z
theorem qt2:MdlOK Tryz.prog 14 qi1:=dg Tryz.func14 fits mixed (mC qt1 (mC qd4 (mC qjo (mC qzw (mC yo m0)))))
abbrev u5:Mdl:=dh Tryz.f114 8 tt false false [false] [] [.cell 4 53] (.cons (.d false qT0) (.cons (.own 0) .nil)) [.arr 53 (.fz true) [0,0,53] l7.ty] ⟨[(0, .d true l7.ty)],[q0i]⟩ .z
theorem wd:MdlOK Tryz.prog 114 u5:=dg Tryz.func114 fits mixed m0
abbrev qzu:Mdl:=dh Tryz.f166 47 tt false false [] [(109,qnu)] [.tmp 2] (.cons (.d false l7.ty) .nil) [] ⟨[(0, .d true .bool)],[]⟩ .z
theorem q9v:MdlOK Tryz.prog 166 qzu:=dg Tryz.func166 fits mixed (mC qrv m0)
abbrev qsk:Mdl:=rmN 117 Tryz.f117 48 tt false false [] [(166,qzu)] [.tmp 6, .tmp 7] (.cons (.d false l7.ty) (.cons (.d false qT0) (.cons (.d false qT0) .nil))) [] ⟨[(0, .d true qT0),(1, .d true .bool)],[]⟩ (.two .z (.two .z (.two .z (.two (.two .z (.one (.u 100000 .z))) .z))))
theorem q2o:MdlOK Tryz.prog 117 qsk:=rmR Tryz.func117 fits mixed (mC q9v m0)
abbrev qzt:Mdl:=dh Tryz.f56 11 tt false false [] [(117,qsk)] [.tmp 2] (.cons (.d false l7.ty) .nil) [] ⟨[(0, .d true .bool)],[]⟩ .z
theorem qsj:MdlOK Tryz.prog 56 qzt:=dg Tryz.func56 fits mixed (mC q2o m0)
abbrev qqt:Mdl:=dh Tryz.f204 6 tt false false [] [] [.tmp 2] (.cons (.d false qT0) .nil) [] ⟨[(0, .d true .bool)],[]⟩ .z
theorem q0t:MdlOK Tryz.prog 204 qqt:=dg Tryz.func204 fits mixed m0
abbrev qkk:Mdl:=dh Tryz.f160 20 tt false false [] [(204,qqt)] [.tmp 4] (.cons (.d false qT0) (.cons (.d false qT0) .nil)) [] ⟨[(0, .d true qT0)],[]⟩ .z
theorem qvn:MdlOK Tryz.prog 160 qkk:=dg Tryz.func160 fits mixed (mC q0t m0)
abbrev yr:Mdl:=dh Tryz.f249 8 tt false false [] [] [.tmp 4] (.cons (.d false .str) (.cons (.d false .str) .nil)) [] ⟨[(0, .d true qT0)],[]⟩ .z
theorem qji:MdlOK Tryz.prog 249 yr:=dg Tryz.func249 fits mixed m0
abbrev qmc:Mdl:=dh Tryz.f242 8 tt false false [] [(249,yr)] [.tmp 4] (.cons (.d false .str) (.cons (.d false .str) .nil)) [] ⟨[(0, .d true qT0)],[]⟩ .z
theorem qwo:MdlOK Tryz.prog 242 qmc:=dg Tryz.func242 fits mixed (mC qji m0)
abbrev cx:Mdl:=dh Tryz.f243 39 tt false false [] [] [.tmp 6] (.cons (.d false (.slice l7.ty)) (.cons (.d false (.slice l7.ty)) (.cons (.fn 233 .nil) .nil))) [] ⟨[(0, .d true qT0)],[]⟩ (.two .z (.two (.two .z (.one (.u 100000 .z))) .z))
theorem gg:MdlOK Tryz.prog 243 cx:=dg Tryz.func243 fits mixed m0
abbrev q3r:Mdl:=dh Tryz.f241 18 tt false false [] [] [.tmp 2] (.cons (.d false qT1) .nil) [] ⟨[(0, .d true qT0)],[]⟩ (.two .z (.two .z (.two (.two .z (.one (.u 100000 .z))) .z)))
theorem ja1:MdlOK Tryz.prog 241 q3r:=dg Tryz.func241 fits mixed m0
abbrev qhi:Mdl:=dh Tryz.f233 22 tt false false [] [(160,qkk),(242,qmc),(243,cx),(241,q3r)] [.tmp 4] (.cons (.d false l7.ty) (.cons (.d false l7.ty) .nil)) [] ⟨[(0, .d true qT0)],[]⟩ (.two .z (.two (.ad [0,1,0,4,15,0,32,0,128,511,0,1024,0,4096,16383,32767,65535,131071] []) .z))
theorem qlr:MdlOK Tryz.prog 233 qhi:=dg Tryz.func233 fits mixed (mC qvn (mC qwo (mC gg (mC ja1 m0))))
abbrev gk:Mdl:=dh Tryz.f247 53 tt false false [true] [(233,qhi)] [] (.cons (.own 0) (.cons (.d false qT0) (.cons (.d false qT0) (.cons (.fn 233 .nil) .nil)))) [.arr 53 (.fz true) [0,0,53] l7.ty] ⟨[],[.arr 53 (.fz true) [0,0,53] l7.ty]⟩ (.two .z (.one (.u 100000 (.two .z (.two (.one (.two .z (.one (.u 100000 (.two (.two (.ad [0,0,3,7,15,15,15,111,239,15,15,1039,3599,7695,16383,32767,65535] []) .z) (.two (.one (.ad [0,0,0,0,8,0,0,64,224,480,0,0,3072,7168,16355,32739,65535,131071] [15,17])) .z)))))) .z)))))
theorem px:MdlOK Tryz.prog 247 gk:=dg Tryz.func247 fits mixed (mC qlr m0)
abbrev i7:Mdl:=dh Tryz.f252 38 tt false false [true] [] [] (.cons (.own 0) (.cons (.d false qT0) (.cons (.d false qT0) (.cons (.d false qT0) (.cons (.fn 233 .nil) .nil))))) [.arr 53 (.fz true) [0,0,53] l7.ty] ⟨[],[.arr 53 (.fz true) [0,0,53] l7.ty]⟩ (.two .z (.one (.u 100000 (.two .z (.two (.one (.ad [0,0,0,6,0,0,0,96,0,0,0,1536,3840,7936,0,0,0,98304,245760,507904,1048335,2096911,4194303,8388607] [21,23])) .z)))))
theorem td:MdlOK Tryz.prog 252 i7:=dg Tryz.func252 fits mixed m0
abbrev km:Mdl:=dh Tryz.f250 58 tt false false [true] [(252,i7)] [] (.cons (.own 0) (.cons (.d false qT0) (.cons (.d false qT0) (.cons (.d false qT0) (.cons (.fn 233 .nil) .nil))))) [.arr 53 (.fz true) [0,0,53] l7.ty] ⟨[],[.arr 53 (.fz true) [0,0,53] l7.ty]⟩ (.two .z (.two .z (.two (.one (.u 100000 .z)) .z)))
theorem uu:MdlOK Tryz.prog 250 km:=dg Tryz.func250 fits mixed (mC td m0)
abbrev jo:Mdl:=rmN 248 Tryz.f248 220 tt false false [true] [(233,qhi),(250,km)] [] (.cons (.own 0) (.cons (.d false qT0) (.cons (.d false qT0) (.cons (.d false qT0) (.cons (.fn 233 .nil) .nil))))) [.arr 53 (.fz true) [0,0,53] l7.ty] ⟨[],[.arr 53 (.fz true) [0,0,53] l7.ty]⟩ (.two (.two .z (.two (.two .z (.two .z (.two (.one (.u 100000 (.two .z (.one (.two .z (.two (.ad [0,0,0,6,14,0,0,96,224,511,1023] []) .z)))))) (.two (.two .z (.one (.u 100000 (.two .z (.two (.one (.ad [0,0,0,0,8,0,0,64,224,480,0,0,3072,7168,16355,32739,65535,131071] [15,17])) .z))))) .z)))) .z)) (.two (.two .z (.two (.two .z (.two .z (.two (.one (.u 100000 (.two .z (.one (.two .z (.two (.ad [0,0,0,6,14,0,0,96,224,511,1023,2047] []) .z)))))) (.two (.two .z (.one (.u 100000 (.two .z (.two (.one (.ad [0,0,0,0,8,0,0,64,224,480,0,0,3072,7168,16355,32739,65535,131071] [15,17])) .z))))) .z)))) .z)) (.two .z (.two .z (.two .z (.two .z (.two .z (.two (.one (.u 100000 (.two .z (.one (.two .z (.two (.ad [0,0,0,0,12,30,62,0,0,384,896,2047,4095,8191] []) .z)))))) .z))))))))
theorem tw:MdlOK Tryz.prog 248 jo:=rmR Tryz.func248 fits mixed (mC qlr (mC uu m0))
abbrev ko:Mdl:=dh Tryz.f240 63 tt false false [true] [(247,gk),(248,jo)] [] (.cons (.own 0) (.cons (.d false qT0) (.cons (.fn 233 .nil) .nil))) [.arr 53 (.fz true) [0,0,53] l7.ty] ⟨[],[.arr 53 (.fz true) [0,0,53] l7.ty]⟩ (.two .z (.two .z (.two (.one (.u 100000 .z)) (.two .z (.one (.u 100000 (.two .z (.one (.two .z (.two (.one (.u 100000 .z)) .z))))))))))
theorem uv:MdlOK Tryz.prog 240 ko:=dg Tryz.func240 fits mixed (mC px (mC tw m0))
abbrev fo:Mdl:=dh Tryz.f232 9 tt false false [true] [(240,ko)] [] (.cons (.own 0) (.cons (.fn 233 .nil) .nil)) [.arr 53 (.fz true) [0,0,53] l7.ty] ⟨[],[.arr 53 (.fz true) [0,0,53] l7.ty]⟩ .z
theorem nv:MdlOK Tryz.prog 232 fo:=dg Tryz.func232 fits mixed (mC uv m0)
abbrev q4h:Mdl:=dh Tryz.f224 57 tt false false [] [(232,fo)] [.cell 4 53] (.cons (.d false qT0) (.cons (.d true (.slice l7.ty)) .nil)) [] ⟨[(0, .d true l7.ty)],[]⟩ (.two .z (.two .z (.two (.two .z (.one (.u 100000 .z))) .z)))
theorem jb7:MdlOK Tryz.prog 224 q4h:=dg Tryz.func224 fits mixed (mC nv m0)
abbrev qu9:Mdl:=rmN 205 Tryz.f205 70 tt false true [] [(224,q4h)] [.cell 2 53] (.cons (.d false l7.ty) .nil) [] ⟨[(0, .d true l7.ty)],[]⟩ (.two .z (.two .z (.two (.two .z (.one (.u 100000 .z))) (.two (.two .z (.one (.two .z (.two .z (.two .z (.two (.two (.ad [0,1,3,0,8,24,0,0,199,511] [8,9]) (.two (.two .z (.two (.ad [0,1,3,7,0,16,48,112,0,496,1008,2047,4095] [10,11,12]) .z)) .z)) .z)))))) .z))))
theorem q5y:MdlOK Tryz.prog 205 qu9:=rmR Tryz.func205 fits mixed (mC jb7 m0)
abbrev qj4:Mdl:=dh Tryz.f165 16 tt false false [] [(56,qzt),(205,qu9)] [.cell 2 53, .tmp 3] (.cons (.d false l7.ty) .nil) [] ⟨[(0, .d true l7.ty),(1, .d true qT0)],[]⟩ .z
theorem qpe:MdlOK Tryz.prog 165 qj4:=dg Tryz.func165 fits mixed (mC qsj (mC q5y m0))
abbrev l8:Mdl:=dh Tryz.f113 61 tt false false [true,false] [(165,qj4),(48,bn)] [.tmp 12] (.cons (.ptr 0) (.cons (.d false qT0) (.cons (.d true qT1) (.cons (.d true qT1) (.cons (.d false l7.ty) (.cons (.d false qT1) .nil)))))) [.cs 108 6 1 (.cons (.d false qT0) (.cons (.d true (.slice ah.ty)) (.cons (.d false qT0) (.cons (.d false qT0) (.cons (.own 1) (.cons (.d false .bool) .nil)))))), .arr 110 (.fz true) [3,3,0,0,53] c8.ty] ⟨[(0, .d true .bool)],[.cs 108 6 1 (.cons (.d true qT0) (.cons (.d true (.slice ah.ty)) (.cons (.d true qT0) (.cons (.d true qT0) (.cons (.own 1) (.cons (.d true .bool) .nil)))))), .arr 110 (.fz true) [3,3,0,0,53] c8.ty]⟩ (.two .z (.two .z (.two .z (.two (.ad [0,1,3,7,0,0,0,0,224,511,1023] [10]) (.two .z (.two (.two .z (.one (.u 100000 .z))) .z))))))
theorem qv:MdlOK Tryz.prog 113 l8:=dg Tryz.func113 fits mixed (mC qpe (mC bp m0))
abbrev yu:Mdl:=dh Tryz.f51 63 tt false false [true,false] [(83,bm),(114,u5),(113,l8)] [.tmp 2] (.cons (.ptr 0) .nil) [.cs 108 6 1 (.cons (.d false qT0) (.cons (.d true (.slice ah.ty)) (.cons (.d false qT0) (.cons (.d false qT0) (.cons (.own 1) (.cons (.d false .bool) .nil)))))), .arr 110 (.fz true) [3,3,0,0,53] c8.ty] ⟨[(0, .d true .bool)],[.cs 108 6 1 (.cons (.d true qT0) (.cons (.d true (.slice ah.ty)) (.cons (.d true qT0) (.cons (.d true qT0) (.cons (.own 1) (.cons (.d true .bool) .nil)))))), .arr 110 (.fz true) [3,3,0,0,53] c8.ty]⟩ (.two .z (.two (.two .z (.one (.u 100000 (.two .z (.two .z (.two (.one (.two .z (.two .z (.one (.u 100000 (.two .z (.two (.one (.two .z (.two .z (.two (.two (.ad [0,0,0,4,0,16,0,64,0,256,960,1984,0,4096,16383,32767] [11,14,15]) .z) .z)))) .z))))))) .z)))))) .z))
theorem qjk:MdlOK Tryz.prog 51 yu:=dg Tryz.func51 fits mixed (mC bj (mC wd (mC qv m0)))
abbrev l9:Mdl:=dh Tryz.f115 43 tt false false [] [(48,bn)] [.tmp 6] (.cons (.rp false uz.ty) (.cons (.d false qT0) (.cons (.d false .bool) .nil))) [] ⟨[(0, .nl false (.own 0))],[qgb]⟩ (.two .z (.two .z (.two (.two .z (.one (.u 100000 .z))) .z)))
theorem qw:MdlOK Tryz.prog 115 l9:=dg Tryz.func115 fits mixed (mC bp m0)
abbrev q6:Mdl:=dh Tryz.f55 15 tt false false [] [] [.tmp 4] (.cons (.d false qT1) (.cons (.d false qT0) .nil)) [] ⟨[(0, .d true .bool)],[]⟩ .z
theorem sj:MdlOK Tryz.prog 55 q6:=dg Tryz.func55 fits mixed m0
abbrev u9:Mdl:=dh Tryz.f52 103 tt false false [true,false] [(115,l9),(55,q6),(114,u5),(113,l8)] [.tmp 2] (.cons (.ptr 0) .nil) [.cs 108 6 1 (.cons (.d false qT0) (.cons (.d true (.slice ah.ty)) (.cons (.d false qT0) (.cons (.d false qT0) (.cons (.own 1) (.cons (.d false .bool) .nil)))))), .arr 110 (.fz true) [3,3,0,0,53] c8.ty] ⟨[(0, .d true .bool)],[.cs 108 6 1 (.cons (.d true qT0) (.cons (.d true (.slice ah.ty)) (.cons (.d true qT0) (.cons (.d true qT0) (.cons (.own 1) (.cons (.d true .bool) .nil)))))), .arr 110 (.fz true) [3,3,0,0,53] c8.ty]⟩ (.two .z (.two (.two .z (.one (.u 100000 (.two .z (.two .z (.two (.one (.two .z (.two .z (.two .z (.two (.two (.ad [0,1,3,7,15,31,63,127,255,511,1023,2047,511,4607,12799,32767,65535] []) .z) (.two (.ad [0,1,3,7,0,16,48,127,255,0,512,1536,3584,0,8192,24576,65024,130560,0,0,786943,2097151] [20,21]) (.two .z (.two (.two (.ad [0,0,2,6,0,16,0,64,0,256,0,1024,3840,7936,0,16384,49152,114688,262143,524287] [13,18,19]) .z) .z)))))))) .z)))))) .z))
theorem qgk:MdlOK Tryz.prog 52 u9:=dg Tryz.func52 fits mixed (mC qw (mC sj (mC wd (mC qv m0))))
abbrev qdu:Mdl:=dh Tryz.f53 102 tt false false [true,false] [(115,l9),(55,q6),(114,u5),(113,l8)] [.tmp 2] (.cons (.ptr 0) .nil) [.cs 108 6 1 (.cons (.d false qT0) (.cons (.d true (.slice ah.ty)) (.cons (.d false qT0) (.cons (.d false qT0) (.cons (.own 1) (.cons (.d false .bool) .nil)))))), .arr 110 (.fz true) [3,3,0,0,53] c8.ty] ⟨[(0, .d true .bool)],[.cs 108 6 1 (.cons (.d true qT0) (.cons (.d true (.slice ah.ty)) (.cons (.d true qT0) (.cons (.d true qT0) (.cons (.own 1) (.cons (.d true .bool) .nil)))))), .arr 110 (.fz true) [3,3,0,0,53] c8.ty]⟩ (.two .z (.two (.two .z (.one (.u 100000 (.two .z (.two .z (.two (.one (.two .z (.two (.two (.ad [0,1,3,7,15,31,63,127,255,511,1023,2047,4095,8191,16383,2047,34815,100351,231423,524287,1048575] []) .z) (.two (.ad [0,1,3,7,0,16,48,112,15,511] []) (.two .z (.two .z (.one (.u 100000 (.two .z (.two .z (.two (.one (.two .z (.two .z (.two (.two (.ad [0,0,0,4,0,16,0,64,0,256,960,1984,0,4096,16383,32767] [11,14,15]) .z) .z)))) .z))))))))))) .z)))))) .z))
theorem qmt:MdlOK Tryz.prog 53 qdu:=dg Tryz.func53 fits mixed (mC qw (mC sj (mC wd (mC qv m0))))
abbrev u6:Mdl:=dh Tryz.f116 122 tt false false [] [(115,l9),(55,q6),(83,bm)] [.tmp 6, .tmp 7] (.cons (.rp false uz.ty) (.cons (.d false qT0) (.cons (.d false qT0) .nil))) [] ⟨[(0, .nl false (.own 0)),(1, .d true .bool)],[qgb]⟩ (.two .z (.two (.ad [0,1,3,7,0,31,63,0,128,384,896,0,3968,8064,0,0,49279,131071] [16,17]) (.two .z (.two .z (.two (.two .z (.one (.u 100000 .z))) .z)))))
theorem qgi:MdlOK Tryz.prog 116 u6:=dg Tryz.func116 fits mixed (mC qw (mC sj (mC bj m0)))
abbrev qqu:Mdl:=dh Tryz.f114 8 tt false false [false,true] [] [.cell 4 53] (.cons (.d false qT0) (.cons (.own 0) .nil)) [.cs 53 3 3 (.cons (.d false qT0) (.cons (.d false .str) (.cons (.d true (.slice l7.ty)) (.cons (.d false qT0) (.cons (.d false .str) (.cons (.own 1) (.cons (.d false qT0) (.cons (.d false .str) (.cons (.d true (.slice l7.ty)) .nil))))))))), .arr 53 (.fz true) [0,0,53] l7.ty] ⟨[(0, .agg (.cons (.d true qT0) (.cons (.d true .str) (.cons (.own 0) .nil))))],[.cs 53 3 3 (.cons (.d true qT0) (.cons (.d true .str) (.cons (.d true (.slice l7.ty)) (.cons (.d true qT0) (.cons (.d true .str) (.cons (.own 1) (.cons (.d true qT0) (.cons (.d true .str) (.cons (.d true (.slice l7.ty)) .nil))))))))), .arr 53 (.fz true) [0,0,53] l7.ty]⟩ .z
theorem q0u:MdlOK Tryz.prog 114 qqu:=dg Tryz.func114 fits mixed m0
abbrev qbu:Mdl:=dh Tryz.f113 61 tt false false [true,false] [(165,qj4),(48,bn)] [.tmp 12] (.cons (.ptr 0) (.cons (.d false qT0) (.cons (.d true qT1) (.cons (.d true qT1) (.cons (.agg (.cons (.d false qT0) (.cons (.d false .str) (.cons (.d false (.slice l7.ty)) .nil)))) (.cons (.d false qT1) .nil)))))) [.cs 108 6 1 (.cons (.d false qT0) (.cons (.d true (.slice ah.ty)) (.cons (.d false qT0) (.cons (.d false qT0) (.cons (.own 1) (.cons (.d false .bool) .nil)))))), .arr 110 (.fz true) [3,3,0,0,53] c8.ty] ⟨[(0, .d true .bool)],[.cs 108 6 1 (.cons (.d true qT0) (.cons (.d true (.slice ah.ty)) (.cons (.d true qT0) (.cons (.d true qT0) (.cons (.own 1) (.cons (.d true .bool) .nil)))))), .arr 110 (.fz true) [3,3,0,0,53] c8.ty]⟩ (.two .z (.two .z (.two .z (.two (.ad [0,1,3,7,0,0,0,0,224,511,1023] [10]) (.two .z (.two (.two .z (.one (.u 100000 .z))) .z))))))
theorem qkl:MdlOK Tryz.prog 113 qbu:=dg Tryz.func113 fits mixed (mC qpe (mC bp m0))
abbrev u7:Mdl:=dh Tryz.f54 86 tt false false [true,false] [(116,u6),(114,qqu),(114,u5),(113,qbu)] [.tmp 2] (.cons (.ptr 0) .nil) [.cs 108 6 1 (.cons (.d false qT0) (.cons (.d true (.slice ah.ty)) (.cons (.d false qT0) (.cons (.d false qT0) (.cons (.own 1) (.cons (.d false .bool) .nil)))))), .arr 110 (.fz true) [3,3,0,0,53] c8.ty] ⟨[(0, .d true .bool)],[.cs 108 6 1 (.cons (.d true qT0) (.cons (.d true (.slice ah.ty)) (.cons (.d true qT0) (.cons (.d true qT0) (.cons (.own 1) (.cons (.d true .bool) .nil)))))), .arr 110 (.fz true) [3,3,0,0,53] c8.ty]⟩ (.two .z (.two (.two .z (.one (.u 100000 (.two .z (.two .z (.two (.one (.two .z (.two .z (.one (.u 100000 (.two .z (.two .z (.two (.one (.two .z (.two .z (.two .z (.two .z (.two (.two .z (.two (.two .z (.two .z (.one (.u 100000 (.two .z (.two .z (.two (.one (.two .z (.ad [0,1,0,4,12,28,0,124,252,508,1020,2047,4095,8191] [11,13]))) .z))))))) .z)) (.two (.ad [0,0,0,4,0,16,0,64,0,0,512,1984,4032,0,0,16384,65472,131071,262143] [12,16,17,18]) .z))))))) .z)))))))) .z)))))) .z))
theorem qgj:MdlOK Tryz.prog 54 u7:=dg Tryz.func54 fits mixed (mC qgi (mC q0u (mC wd (mC qkl m0))))
abbrev qok:Mdl:=dh Tryz.f15 135 tt false false [] [(49,de),(50,rg),(51,yu),(52,u9),(53,qdu),(54,u7),(55,q6)] [.cell 2 53, .tmp 3] (.cons (.d true b8.ty) .nil) [] ⟨[(0, .d true l7.ty),(1, .d true qT0)],[]⟩ (.two .z (.two .z (.two .z (.two (.two .z (.one (.u 100000 (.two .z (.two .z (.two (.one (.two .z (.two .z (.two .z (.ad [0,0,2,6,14,0,32,0,128,0,992,2016,4094,8191,16383,32767] [12,15]))))) .z)))))) (.two .z (.two (.two .z (.one (.u 100000 (.two .z (.one (.two .z (.two .z (.one (.u 5 .z))))))))) (.two (.one (.two .z (.two .z (.two (.ad [0,1,3,7,15,31,63,127,255,511,1023,2047,4095,8191,127,16511,65535,131071,262143,524287,1048575,2097151,4194303,8388607,16777215,33554431,67108863,1048575,135266303,536870911,1073741823,2147483647,4294967295] []) .z)))) .z)))))))
theorem qxb:MdlOK Tryz.prog 15 qok:=dg Tryz.func15 fits mixed (mC cq (mC su (mC qjk (mC qgk (mC qmt (mC qgj (mC sj m0)))))))
def jgn:Shp:=⟨[j7s,qvj],[]⟩
abbrev q4g:Mdl:=(ay (.cons (.d false l7.ty) .nil) [] [] 2 jgn (B:=(ByteArray×Int)) (fun b=>((b.1,b.2,()),(()))) (fun a=>jl2 a.1.1))
theorem jb6:MdlOK Tryz.prog 16 q4g:=ju1 qsj (by kernel_rfl)
abbrev q3p:Mdl:=dh Tryz.f213 51 tt false false [] [] [.tmp 4, .tmp 5] (.cons (.d false (.int .u64)) (.cons (.d false (.int .u64)) .nil)) [] ⟨[(0, .d true (.int .u64)),(1, .d true (.int .u64))],[]⟩ .z
theorem ja0:MdlOK Tryz.prog 213 q3p:=dg Tryz.func213 fits mixed m0
abbrev jcs:Mdl:=dh Tryz.f174 30 tt false false [] [(213,q3p)] [.tmp 4, .tmp 5] (.cons (.d false (.int .u64)) (.cons (.d false (.int .u64)) .nil)) [] ⟨[(0, .d true (.int .u64)),(1, .d true (.int .u64))],[]⟩ .z
theorem jhn:MdlOK Tryz.prog 174 jcs:=dg Tryz.func174 fits mixed (mC ja0 m0)
abbrev jm:Mdl:=dh Tryz.f123 48 tt false false [] [(174,jcs)] [.tmp 4] (.cons (.d false (.slice az.ty)) (.cons (.d false qT0) .nil)) [] ⟨[(0, .own 0)],[.arr 59 (.fz true) [0,0,0] az.ty]⟩ (.two .z (.two .z (.two .z (.two .z (.two .z (.two .z (.two (.one (.u 100000 (.two .z (.one (.ad [0,0,0,6,0,0,48,126,255,511] [7,8,9]))))) .z)))))))
theorem tv:MdlOK Tryz.prog 123 jm:=dg Tryz.func123 fits mixed (mC jhn m0)
abbrev qu8:Mdl:=dh Tryz.f61 9 tt false false [] [(123,jm)] [.tmp 2] (.cons (.d false b8.ty) .nil) [] ⟨[(0, .own 0)],[.arr 59 (.fz true) [0,0,0] az.ty]⟩ .z
theorem q5x:MdlOK Tryz.prog 61 qu8:=dg Tryz.func61 fits mixed (mC tv m0)
abbrev qlq:Mdl:=dh Tryz.f208 35 tt false false [] [] [.tmp 2] (.cons (.d false az.ty) .nil) [] ⟨[(0, .d true .bool)],[]⟩ .z
theorem qwe:MdlOK Tryz.prog 208 qlq:=dg Tryz.func208 fits mixed m0
abbrev fu:Mdl:=dh Tryz.f225 19 tt false false [] [(208,qlq)] [.tmp 4] (.cons (.d false (.slice az.ty)) (.cons (.fn 208 .nil) .nil)) [] ⟨[(0, .d true qT0)],[]⟩ (.two .z (.two (.two .z (.one (.u 100000 .z))) .z))
theorem og:MdlOK Tryz.prog 225 fu:=dg Tryz.func225 fits mixed (mC qwe m0)
abbrev fe:Mdl:=dh Tryz.f207 9 tt false false [] [(225,fu)] [.tmp 4] (.cons (.d false (.slice az.ty)) (.cons (.fn 208 .nil) .nil)) [] ⟨[(0, .d true .bool)],[]⟩ .z
theorem lq:MdlOK Tryz.prog 207 fe:=dg Tryz.func207 fits mixed (mC og m0)
abbrev qsi:Mdl:=dh Tryz.f168 16 tt false false [] [(207,fe)] [.tmp 4] (.cons (.d false b8.ty) (.cons (.d false (.slice az.ty)) .nil)) [] ⟨[(0, .d true .bool)],[]⟩ .z
theorem q2n:MdlOK Tryz.prog 168 qsi:=dg Tryz.func168 fits mixed (mC lq m0)
def q4o:Shp:=⟨[j7s],[]⟩
abbrev jac:Ctx (ByteArray):=⟨27,tt,false,false,[],j8 [],lm [am _ 27 [] jgz (C:=(qL1×Int)) (S:=(Int×qL1)) (fun x=>((x.1.2.1,x.1.2.2.1),((pe3 x.1),x.2.1))) jgy (CE:=Unit) (E:=qL1) (fun c e=>(((),()),(e,()))) (fun c=>()) (fun{R} c a nx dn rt=>qf7 c.1 c.2 a.1 a.2 nx dn rt)],cm 27 tt [] [.tmp 2] q4o (fun x=>x.1.1)⟩
theorem jaa:CtxM Tryz.prog jac:=lw fits mixed m0
theorem jjs:ao Tryz.prog jac 0 (lc 0 Tryz.f23 75):=lp rfl jaa .z s0 (fun c a=>(((),c.1,c.2,a.1,()),(a.2,()))) (fun y=>((),y.2.1))
abbrev jab:Mdl:=(ay (.cons (.d false qT1) .nil) [] [] 1 q4o (B:=ByteArray) (fun b=>((b,()),(()))) (fun a=>qc9 a.1.1))
theorem jg0:MdlOK Tryz.prog 23 jab:=nj Tryz.func23 rfl jaa (.two .z (.two .z (.two (.two .z (.s 0)) .z))) (sC jjs s0)
def qzp:Shp:=⟨[jxr,qvj],[qgb]⟩
abbrev qr4:Ctx ((Int×qL1)):=⟨66,tt,false,false,[],j8 [(71,qg7),(22,bd),(136,ol)],lm [am _ 66 [] jb1 (C:=(qL1×Int×ByteArray×qL1×qL1)) (S:=(Int×qL1)) (fun x=>((x.1.2.2.1,(pe3 x.1),x.2.1.1,x.2.1.2.1,x.2.1.2.2.1),((pe4 x.1),x.2.2.1))) jb0 (CE:=(ByteArray×qL1×qL1)) (E:=qL1) (fun c e=>(((),(),()),((c.1,c.2.1,c.2.2,()),e,()))) (fun c=>(c.2.2.1,(pe3 c),(pf4 c))) (fun{R} c a nx dn rt=>qdo c.1 c.2.1 c.2.2.1 (pe3 c) (pf4 c) a.1 a.2 nx dn rt),am _ 66 [] jb3 (C:=(qL1×Int)) (S:=(Int×qL1)) (fun x=>((x.1.2.1,x.1.2.2.1),((pe3 x.1),x.2.1))) jb2 (CE:=Unit) (E:=qL1) (fun c e=>(((),()),(e,()))) (fun c=>()) (fun{R} c a nx dn rt=>qdp c.1 c.2 a.1 a.2 nx dn rt)],cm 66 tt [] [.tmp 6, .tmp 7] qzp (fun x=>(x.1.2.1,x.2.1))⟩
theorem qr2:CtxM Tryz.prog qr4:=lw fits mixed (mC qlh (mC bc (mC sg m0)))
theorem jgm:ao Tryz.prog qr4 1 (lc 2 Tryz.f72 1215):=lp rfl qr2 .z s0 (fun c a=>(((),c.1,c.2,a.1,()),(a.2,()))) (fun y=>((),y.2.1))
theorem jgl:ao Tryz.prog qr4 0 (lc 0 Tryz.f72 607):=lp rfl qr2 .z s0 (fun c a=>(((),(),c.1,c.2.1,a.1,()),((c.2.2.1,(pe3 c),(pf4 c),()),a.2,()))) (fun y=>((y.2.1.1,y.2.1.2.1,y.2.1.2.2.1),y.2.2.1))
abbrev qr3:Mdl:=(ay (.cons (.d false b8.ty) (.cons (.d false qT1) (.cons (.d false qT0) .nil))) [] [] 2 qzp (B:=(Int×qL1)) (fun b=>(((),b.1,()),(b.2,()))) (fun a=>qct a.1.1 a.1.2.1 a.1.2.2.1))
theorem qu4:MdlOK Tryz.prog 72 qr3:=nj Tryz.func72 rfl qr2 (.two .z (.two .z (.two .z (.two .z (.two .z (.two (.two .z (.s 0)) (.two (.two .z (.s 1)) .z))))))) (sC jgl (sC jgm s0))
def qzg:Shp:=⟨[jxr,qvj],[qgb]⟩
abbrev jjd:Ctx ((Int×qL1)):=⟨18,tt,false,false,[],j8 [(70,zw),(72,qr3)],lm [],cm 18 tt [] [.tmp 6, .tmp 7] qzg (fun x=>(x.1.2.1,x.2.1))⟩
theorem jjc:CtxM Tryz.prog jjd:=lw fits mixed (mC qcu (mC qu4 m0))
abbrev qi8:Mdl:=(ay (.cons (.d false b8.ty) (.cons (.d false qT1) (.cons (.d false qT0) .nil))) [] [] 2 qzg (B:=(Int×qL1)) (fun b=>(((),b.1,()),(b.2,()))) (fun a=>qcs a.1.1 a.1.2.1 a.1.2.2.1))
theorem qjt:MdlOK Tryz.prog 24 qi8:=nj Tryz.func24 rfl jjc .z s0
def qpm:Shp:=⟨[j73,qvj],[]⟩
abbrev qhw:Ctx ((l0×Int)):=⟨126,tt,false,true,[],j8 [(21,kg),(22,bd),(23,jab),(24,qi8)],lm [am _ 126 [] q2w (C:=(Int×Int×qL1×Int×Int×(List ah)×Int×Int×qL2×(List ar)×Bool)) (S:=(Int×Bool×(List (ByteArray×Int))×qL2×(List ar))) (fun x=>((x.1.1,(pe5 x.1),(pe6 x.1),(pe7 x.1),x.2.1.1,x.2.1.2.1,x.2.1.2.2.1,(pe3 x.2.1),x.2.2.1.1,x.2.2.1.2.1,x.2.2.1.2.2.1),((pe8 x.1),(pe3 x).2.2.1,(pe4 x),(pe5 x),(pe6 x)))) q2v (CE:=(Int×Int×Int×(List ah)×Int×Int×qL2×(List ar)×Bool)) (E:=(Bool×(List (ByteArray×Int))×qL2×(List ar))) (fun c e=>((c.1,(),(),(),(),c.2.1,()),((c.2.2.1,(pe3 c),(pe4 c),(pe5 c),()),((pe6 c),(pe7 c),(pf8 c),()),((),(),e.1,()),e.2.1,e.2.2.1,e.2.2.2,()))) (fun c=>(c.1,c.2.1,(pe4 c),(pe5 c),(pe6 c),(pe7 c),(pe8 c),(pe9 c),(pf10 c))) (fun{R} c a nx dn rt=>ii c.1 c.2.1 c.2.2.1 (pe3 c) (pe4 c) (pe5 c) (pe6 c) (pe7 c) (pe8 c) (pe9 c) (pf10 c) a.1 a.2.1 a.2.2.1 (pe3 a) (pf4 a) nx dn rt),am _ 126 [] q2y (C:=(Int×Int×(List ah)×Int×Int×qL2×(List ar)×Bool)) (S:=(Int×Bool×(List (ByteArray×Int))×qL2×(List ar))) (fun x=>((x.1.1,x.2.1.1,x.2.1.2.1,x.2.1.2.2.1,(pe3 x.2.1),x.2.2.1.1,x.2.2.1.2.1,x.2.2.1.2.2.1),((pe5 x.1),(pe3 x).2.2.1,(pe4 x),(pe5 x),(pe6 x)))) q2x (CE:=(qL2×(List ar)×Bool)) (E:=(Bool×qL2×(List ar))) (fun c e=>(((),(),()),((c.1,c.2.1,c.2.2,()),((),(),e.1,()),e.2.1,e.2.2,()))) (fun c=>((pe5 c),(pe6 c),(pf7 c))) (fun{R} c a nx dn rt=>j6 c.1 c.2.1 c.2.2.1 (pe3 c) (pe4 c) (pe5 c) (pe6 c) (pf7 c) a.1 a.2.1 a.2.2.1 (pe3 a) (pf4 a) nx dn rt)],cm 126 tt [] [.cell 6 31, .tmp 7] qpm (fun x=>(x.1.1,x.1.2.1))⟩
theorem qhu:CtxM Tryz.prog qhw:=lw fits mixed (mC j5 (mC bc (mC jg0 (mC qjt m0))))
theorem q58:ao Tryz.prog qhw 0 (lc 2 Tryz.f6 78431):=lp rfl qhu (.two .z (.two .z (.two (.one (.two .z (.two (.d [0,0,2,0,14,30,0,127,255,511,511,1023,4095] [] []) .z))) .z))) s0 (fun c a=>((c.1,(),(),(),(),c.2.1,c.2.2.1,(pe3 c),a.1,()),(((pe4 c),(pe5 c),(pe6 c),(pe7 c),()),((pe8 c),(pe9 c),(pf10 c),()),((),(),a.2.1,()),a.2.2.1,(pe3 a),(pf4 a),()))) (fun y=>((y.1.1,(pe5 y.1),y.2.1.1,y.2.1.2.1,y.2.1.2.2.1,(pe3 y.2.1),y.2.2.1.1,y.2.2.1.2.1,y.2.2.1.2.2.1),((pe3 y).2.2.1,(pe4 y),(pe5 y),(pe6 y))))
theorem q59:ao Tryz.prog qhw 1 (lc 0 Tryz.f6 607):=lp rfl qhu (.two .z (.two (.one (.two (.d [0,0,2,0,14,30,63,127,255,255,511,2047] [] []) (.two .z (.s 0)))) .z)) (sC q58 s0) (fun c a=>((c.1,(),(),(),(),a.1,()),((c.2.1,c.2.2.1,(pe3 c),(pe4 c),()),((pe5 c),(pe6 c),(pf7 c),()),((),(),a.2.1,()),a.2.2.1,(pe3 a),(pf4 a),()))) (fun y=>((y.2.1.1,y.2.1.2.1,y.2.1.2.2.1),(y.2.2.1.2.2.1,(pe3 y),(pe4 y))))
abbrev qhv:Mdl:=(ay (.cons (.d false b8.ty) (.cons (.d false qT1) (.cons (.d false qT0) .nil))) [] [] 2 qpm (B:=(l0×Int)) (fun b=>((b.1,b.2,()),(()))) (fun a=>qds a.1.1 a.1.2.1 a.1.2.2.1))
theorem qmb:MdlOK Tryz.prog 6 qhv:=nj Tryz.func6 rfl qhu (.two .z (.two .z (.two .z (.two .z (.two .z (.two (.two .z (.s 1)) .z)))))) (sC q59 s0)
abbrev qvg:Mdl:=dh Tryz.f226 7 tt false false [] [(83,bm)] [.tmp 3] (.cons (.d false qT1) (.cons (.rp false qT1) .nil)) [] ⟨[(0, .d true .bool)],[]⟩ .z
theorem q6a:MdlOK Tryz.prog 226 qvg:=dg Tryz.func226 fits mixed (mC bj m0)
abbrev qu:Mdl:=dh Tryz.f25 19 tt false false [] [(226,qvg)] [.tmp 4] (.cons (.d false qT2) (.cons (.fn 226 (.cons (.rp false qT1) .nil)) .nil)) [] ⟨[(0, .d true qT0)],[]⟩ (.two .z (.two (.two .z (.one (.u 100000 .z))) .z))
theorem qbt:MdlOK Tryz.prog 25 qu:=dg Tryz.func25 fits mixed (mC q6a m0)
abbrev q4m:Mdl:=dh Tryz.f209 9 tt false false [] [(25,qu)] [.tmp 4] (.cons (.d false l0.ty) (.cons (.d false qT1) .nil)) [] ⟨[(0, .d true qT0)],[]⟩ .z
theorem jcf:MdlOK Tryz.prog 209 q4m:=dg Tryz.func209 fits mixed (mC qbt m0)
abbrev qln:Mdl:=dh Tryz.f169 139 tt false true [] [(21,kg),(6,qhv),(143,qnw),(209,q4m)] [.cell 6 177, .tmp 7] (.cons (.d false b8.ty) (.cons (.d false qT1) (.cons (.d false qT0) .nil))) [] ⟨[(0, .agg (.cons (.dm true qT0 (.slice ag.ty)) (.cons (.d true qT0) (.cons (.d true qT0) .nil)))),(1, .d true qT0)],[]⟩ (.two .z (.two .z (.two .z (.two .z (.two .z (.two .z (.two .z (.two (.ad [0,0,0,6,0,16,48,127,0,511] [9]) (.two .z (.two .z (.two .z (.two (.two .z (.one (.u 100000 (.two .z (.one (.two .z (.two .z (.one (.u 100000 .z))))))))) (.two (.two .z (.one (.u 100000 (.two .z (.two .z (.two (.one (.two .z (.two .z (.two (.ad [0,1,0,4,0,16,0,64,240,0,512,0,2048,7680,15872,32752,65535] [15,16]) .z)))) .z)))))) .z)))))))))))))
theorem qwb:MdlOK Tryz.prog 169 qln:=dg Tryz.func169 fits mixed (mC j5 (mC qmb (mC qr0 (mC jcf m0))))
abbrev qsa:Mdl:=dh Tryz.f120 26 tt false false [] [(49,de),(168,qsi),(169,qln)] [.cell 8 177, .tmp 9] (.cons (.d false b8.ty) (.cons (.d false qT1) (.cons (.d false (.slice az.ty)) (.cons (.d false qT0) .nil)))) [] ⟨[(0, .agg (.cons (.dm true qT0 (.slice ag.ty)) (.cons (.d true qT0) (.cons (.d true qT0) .nil)))),(1, .d true qT0)],[]⟩ .z
theorem q2m:MdlOK Tryz.prog 120 qsa:=dg Tryz.func120 fits mixed (mC cq (mC q2n (mC qwb m0)))
abbrev qeg:Mdl:=dh Tryz.f121 14 tt false false [] [] [.tmp 2, .tmp 3] (.cons (.agg (.cons (.dm false qT0 (.slice ag.ty)) (.cons (.d false qT0) (.cons (.d false qT0) .nil)))) .nil) [] ⟨[(0, .d true qT0),(1, .d true .bool)],[]⟩ (.two .z (.two .z (.two (.ad [0,1,0,4,12,28,60,3,255] []) .z)))
theorem qn6:MdlOK Tryz.prog 121 qeg:=dg Tryz.func121 fits mixed m0
def sy:Shp:=⟨[q1r],[]⟩
abbrev qhe:Ctx (Int):=⟨9,tt,false,false,[],j8 [],lm [],cm 9 tt [] [.tmp 3] sy (fun x=>x.1.1)⟩
theorem qhd:CtxM Tryz.prog qhe:=lw fits mixed m0
abbrev tp:Mdl:=(ay (.cons (.d false qT0) (.cons (.rp false (.slice az.ty)) .nil)) [] [] 1 sy (B:=Int) (fun b=>((b,()),(()))) (fun a=>ul a.1.1 a.1.2.1))
theorem qfd:MdlOK Tryz.prog 171 tp:=nj Tryz.func171 rfl qhd .z s0
def qfm:Shp:=⟨[qqp],[]⟩
abbrev qwd:Ctx (Bool):=⟨34,tt,false,false,[],j8 [],lm [],cm 34 tt [] [.tmp 6] qfm (fun x=>x.1.1)⟩
theorem qwc:CtxM Tryz.prog qwd:=lw fits mixed m0
abbrev xa:Mdl:=(ay (.cons (.d false af.ty) (.cons (.d false af.ty) (.cons (.d false .bool) .nil))) [] [] 1 qfm (B:=Bool) (fun b=>((b,()),(()))) (fun a=>z7 a.1.1 a.1.2.1 a.1.2.2.1))
theorem qeh:MdlOK Tryz.prog 210 xa:=nj Tryz.func210 rfl qwc .z s0
def np:Shp:=⟨[jxr],[qtu]⟩
abbrev iw:Ctx ((List af)):=⟨77,tt,false,false,[],j8 [(171,tp),(210,xa)],lm [am _ 77 [] qh3 (C:=((List az)×Bool×Int×Int×Int×(List (Int×(List ag)))×Nat×(List ag)×Int×(List (Int×(List ag)))×Int×Int)) (S:=(Bool×Int×(List af))) (fun x=>((x.1.1.1,x.1.2.1,(pe5 x.1),(pe6 x.1),(pe7 x.1),(pe8 x.1),(pe9 x.1),(pe10 x.1),(pe11 x.1),x.2.1.1,x.2.1.2.1,x.2.1.2.2.1),((pe4 x.1),(pe12 x.1),x.2.2.1))) qh2 (CE:=((List az)×Bool×Int×Int×(List (Int×(List ag)))×Nat×(List (Int×(List ag)))×Int×Int)) (E:=(Bool×(List af))) (fun c e=>(((c.1,()),c.2.1,(),(),e.1,c.2.2.1,(pe3 c),(pe4 c),(pe5 c),()),(((pe6 c),(pe7 c),(pf8 c),()),e.2,()))) (fun c=>(c.1,c.2.1,(pe3 c),(pe4 c),(pe5 c),(pe6 c),(pe9 c),(pe10 c),(pf11 c))) (fun{R} c a nx dn rt=>uh c.1 c.2.1 c.2.2.1 (pe3 c) (pe4 c) (pe5 c) (pe7 c) (pe8 c) (pe9 c) (pe10 c) (pf11 c) a.1 a.2.1 a.2.2 nx dn rt),qge _ 77 tt false [] (rc Tryz.f170 10647) qh4 (C:=((List az)×Bool×Int×Int×(List (Int×(List ag)))×(List (Int×(List ag)))×Int×Int)) (S:=(Bool×(List af))) (fun x=>((x.1.1.1,x.1.2.1,(pe5 x.1),(pe6 x.1),(pe7 x.1),x.2.1.1,x.2.1.2.1,x.2.1.2.2.1),((pe4 x.1),x.2.2.1))) (fun c a=>(((c.1,()),c.2.1,(),(),a.1,c.2.2.1,(pe3 c),(pe4 c),()),(((pe5 c),(pe6 c),(pf7 c),()),a.2,()))) (fun c=>(pe4 c)) (fun{R} c a en nx rt=>ui c.1 c.2.1 c.2.2.1 (pe3 c) (pe4 c) (pe5 c) (pe6 c) (pf7 c) a.1 a.2 en nx rt),q89 _ 77 [] qh6 (C:=((List az)×Bool×Int×(List (Int×(List ag)))×Int×Int)) (S:=(Int×(List af))) (fun x=>((x.1.1.1,x.1.2.1,(pe4 x.1),x.2.1.1,x.2.1.2.1,x.2.1.2.2.1),((pe5 x.1),x.2.2.1))) qh5 (CE:=Unit) (E:=(List af)) (fun c e=>(((),()),(e,()))) (fun c=>()) (fun{R} c a nx dn rt=>gu c.1 c.2.1 c.2.2.1 (pe3 c) (pe4 c) (pf5 c) a.1 a.2 nx dn rt)],cm 77 tt [] [.tmp 6] np (fun x=>x.2.1)⟩
theorem iv:CtxM Tryz.prog iw:=lw fits mixed (mC qfd (mC qeh m0))
theorem qjx:ao Tryz.prog iw 0 (lc 4 Tryz.f170 10168727):=lp rfl iv (.two .z (.two .z (.two (.one (.two .z (.two .z (.two .z (.two (.d [0,1,0,0,8,28,63,127,255] [8] []) (.two .z (.two (.d [0,0,0,6,14,0,63] [] []) .z))))))) .z))) s0 (fun c a=>(((c.1,()),c.2.1,(),(),a.1,c.2.2.1,(pe3 c),(pe4 c),(pe5 c),(pe6 c),(pe7 c),(pe8 c),a.2.1,()),(((pe9 c),(pe10 c),(pf11 c),()),a.2.2,()))) (fun y=>((y.1.1.1,y.1.2.1,(pe5 y.1),(pe6 y.1),(pe7 y.1),(pe8 y.1),y.2.1.1,y.2.1.2.1,y.2.1.2.2.1),((pe4 y.1),y.2.2.1)))
theorem qjy:ao Tryz.prog iw 1 ((rc Tryz.f170 10647).code):=rl qT0 (.slice ag.ty) rfl iv (.two .z (.s 0)) (sC qjx s0) 175 28 29 30 32 false rfl
theorem qjz:ao Tryz.prog iw 2 (lc 0 Tryz.f170 151):=nl rfl iv (.two .z (.two .z (.two (.one (.two .z (.two (.s 1) .z))) .z))) (sC qjy s0) (fun c a=>(((c.1,()),c.2.1,(),(),c.2.2.1,a.1,()),(((pe3 c),(pe4 c),(pf5 c),()),a.2,()))) (fun y=>((),y.2.1))
abbrev qlo:Mdl:=(ay (.cons (.agg (.cons (.dm false qT0 (.slice ag.ty)) (.cons (.d false qT0) (.cons (.d false qT0) .nil)))) (.cons (.fn 171 (.cons (.rp false (.slice az.ty)) .nil)) (.cons (.d false .bool) .nil))) [] [] 1 np (B:=(List af)) (fun b=>(((),()),(b,()))) (fun a=>js a.1.1.1 a.1.1.2.1 a.1.1.2.2.1 a.1.2.1.1 a.1.2.2.1))
theorem qh7:MdlOK Tryz.prog 170 qlo:=nj Tryz.func170 rfl iv (.two .z (.two .z (.two .z (.two (.two .z (.s 2)) .z)))) (sC qjz s0)
abbrev vo:Mdl:=(ay (.cons (.agg (.cons (.dm false qT0 (.slice ag.ty)) (.cons (.d false qT0) (.cons (.d false qT0) .nil)))) (.cons (.fn 171 (.cons (.rp false (.slice az.ty)) .nil)) (.cons (.d false .bool) .nil))) [] [] 1 np (B:=(List af)) (fun b=>(((),()),(b,()))) (fun a=>o6 a.1.1.1 a.1.1.2.1 a.1.1.2.2.1 a.1.2.1.1 a.1.2.2.1))
theorem qg9:MdlOK Tryz.prog 170 vo:=jga qh7 (fun _ b h=>qha _ _ _ _ _ b h)
def qb4:Shp:=⟨[qqp],[]⟩
abbrev tm:Ctx (Bool):=⟨51,tt,false,false,[],j8 [],lm [am _ 51 [] qn0 (C:=(Int×(List ag)×Int×(List (Int×(List ag)))×Int×Int)) (S:=(Int×(List (Int×Bool))×qL1)) (fun x=>((x.1.1,(pe4 x.1),(pe5 x.1),x.2.1.1,x.2.1.2.1,x.2.1.2.2.1),((pe6 x.1),x.2.2.1,(pe3 x)))) qnz (CE:=(Int×(List (Int×(List ag)))×Int×Int)) (E:=((List (Int×Bool))×qL1)) (fun c e=>((c.1,(),(),(),()),((c.2.1,c.2.2.1,c.2.2.2,()),e.1,e.2,()))) (fun c=>(c.1,(pe3 c),(pe4 c),(pf5 c))) (fun{R} c a nx dn rt=>zz c.1 c.2.1 c.2.2.1 (pe3 c) (pe4 c) (pf5 c) a.1 a.2.1 a.2.2 nx dn rt),am _ 51 [] qn2 (C:=(Int×(List (Int×(List ag)))×Int×Int)) (S:=((List (Int×Bool))×qL1)) (fun x=>((x.1.1,x.2.1.1,x.2.1.2.1,x.2.1.2.2.1),(x.2.2.1,(pe3 x)))) qn1 (CE:=Unit) (E:=Unit) (fun c e=>((()),(()))) (fun c=>()) (fun{R} c a nx dn rt=>z6 c.1 c.2.1 c.2.2.1 c.2.2.2 a.1 a.2 nx dn rt)],cm 51 tt [] [.tmp 6] qb4 (fun x=>x.1.1)⟩
theorem tl:CtxM Tryz.prog tm:=lw fits mixed m0
theorem qp7:ao Tryz.prog tm 0 (lc 2 Tryz.f211 9803):=lp rfl tl .z s0 (fun c a=>((c.1,(),(),(),c.2.1,c.2.2.1,a.1,()),(((pe3 c),(pe4 c),(pf5 c),()),a.2.1,a.2.2,()))) (fun y=>((y.1.1,y.2.1.1,y.2.1.2.1,y.2.1.2.2.1),(y.2.2.1,(pe3 y))))
theorem qp8:ao Tryz.prog tm 1 (lc 0 Tryz.f211 75):=lp rfl tl (.two .z (.two (.one (.two .z (.two (.d [0,1,0,4,12,31,63,0] [] []) (.s 0)))) .z)) (sC qp7 s0) (fun c a=>((c.1,(),(),(),()),((c.2.1,c.2.2.1,c.2.2.2,()),a.1,a.2,()))) (fun y=>((),()))
abbrev qed:Mdl:=(ay (.cons (.agg (.cons (.dm false qT0 (.slice ag.ty)) (.cons (.d false qT0) (.cons (.d false qT0) .nil)))) (.cons (.d false qT0) (.cons (.d false qT0) .nil))) [] [] 1 qb4 (B:=Bool) (fun b=>((b,()),(()))) (fun a=>qfl a.1.1.1 a.1.1.2.1 a.1.1.2.2.1 a.1.2.1 a.1.2.2.1))
theorem qn3:MdlOK Tryz.prog 211 qed:=nj Tryz.func211 rfl tl (.two .z (.two .z (.two (.two .z (.s 1)) .z))) (sC qp8 s0)
def tn:Shp:=⟨[qqp],[]⟩
abbrev jl:Ctx (Bool):=⟨81,tt,false,false,[],j8 [(211,qed)],lm [am _ 81 [] qqa (C:=((List az)×(List ag)×Int×(List (Int×(List ag)))×Int×Int)) (S:=(Int×(List (Int×Bool))×qL1)) (fun x=>((x.1.1,(pe4 x.1),(pe5 x.1),x.2.1.1,x.2.1.2.1,x.2.1.2.2.1),((pe6 x.1),x.2.2.1,(pe3 x)))) qp9 (CE:=((List az)×(List (Int×(List ag)))×Int×Int)) (E:=((List (Int×Bool))×qL1)) (fun c e=>((c.1,(),(),(),()),((c.2.1,c.2.2.1,c.2.2.2,()),e.1,e.2,()))) (fun c=>(c.1,(pe3 c),(pe4 c),(pf5 c))) (fun{R} c a nx dn rt=>qb5 c.1 c.2.1 c.2.2.1 (pe3 c) (pe4 c) (pf5 c) a.1 a.2.1 a.2.2 nx dn rt),am _ 81 [] qqc (C:=((List az)×(List (Int×(List ag)))×Int×Int)) (S:=((List (Int×Bool))×qL1)) (fun x=>((x.1.1,x.2.1.1,x.2.1.2.1,x.2.1.2.2.1),(x.2.2.1,(pe3 x)))) qqb (CE:=((List az)×(List (Int×(List ag)))×Int×Int)) (E:=(List (Int×Bool))) (fun c e=>((c.1,(),(),()),((c.2.1,c.2.2.1,c.2.2.2,()),e,()))) (fun c=>(c.1,c.2.1,c.2.2.1,c.2.2.2)) (fun{R} c a nx dn rt=>qb6 c.1 c.2.1 c.2.2.1 c.2.2.2 a.1 a.2 nx dn rt),am _ 81 [] qqe (C:=((List az)×Int×(List (Int×Bool))×Nat×(List ag)×Int×(List (Int×(List ag)))×Int×Int)) (S:=Int) (fun x=>((x.1.1,x.1.2.2.1,(pe3 x.1),(pe4 x.1),(pe5 x.1),(pe6 x.1),x.2.1.1,x.2.1.2.1,x.2.1.2.2.1),(pe7 x.1))) qqd (CE:=((List az)×(List (Int×Bool))×Nat×(List (Int×(List ag)))×Int×Int)) (E:=Unit) (fun c e=>((c.1,(),c.2.1,c.2.2.1,()),(((pe3 c),(pe4 c),(pf5 c),()),()))) (fun c=>(c.1,c.2.2.1,(pe3 c),(pe6 c),(pe7 c),(pf8 c))) (fun{R} c a nx dn rt=>qb7 c.1 c.2.1 c.2.2.1 (pe4 c) (pe5 c) (pe6 c) (pe7 c) (pf8 c) a nx dn rt),qge _ 81 tt false [] (rc Tryz.f172 23) qqf (C:=((List az)×(List (Int×Bool))×(List (Int×(List ag)))×Int×Int)) (S:=Unit) (fun x=>((x.1.1,x.1.2.2.1,x.2.1.1,x.2.1.2.1,x.2.1.2.2.1),())) (fun c a=>((c.1,(),c.2.1,()),((c.2.2.1,(pe3 c),(pf4 c),()),()))) (fun c=>c.2.1) (fun{R} c a en nx rt=>qb8 c.1 c.2.1 c.2.2.1 (pe3 c) (pf4 c) en nx rt)],cm 81 tt [] [.tmp 4] tn (fun x=>x.1.1)⟩
theorem jk:CtxM Tryz.prog jl:=lw fits mixed (mC qn3 m0)
theorem qsg:ao Tryz.prog jl 2 (lc 6 Tryz.f172 19863):=lp rfl jk .z s0 (fun c a=>((c.1,(),c.2.1,c.2.2.1,(pe3 c),(pe4 c),(pe5 c),a,()),(((pe6 c),(pe7 c),(pf8 c),()),()))) (fun y=>((y.1.1,y.1.2.2.1,(pe3 y.1),y.2.1.1,y.2.1.2.1,y.2.1.2.2.1),()))
theorem qse:ao Tryz.prog jl 0 (lc 2 Tryz.f172 4683):=lp rfl jk .z s0 (fun c a=>((c.1,(),(),(),c.2.1,c.2.2.1,a.1,()),(((pe3 c),(pe4 c),(pf5 c),()),a.2.1,a.2.2,()))) (fun y=>((y.1.1,y.2.1.1,y.2.1.2.1,y.2.1.2.2.1),(y.2.2.1,(pe3 y))))
theorem qsf:ao Tryz.prog jl 1 (lc 0 Tryz.f172 75):=lp rfl jk (.two .z (.two (.one (.two (.d [0,1,0,4,12,31,63,0] [] []) (.s 0))) .z)) (sC qse s0) (fun c a=>((c.1,(),(),(),()),((c.2.1,c.2.2.1,c.2.2.2,()),a.1,a.2,()))) (fun y=>((y.1.1,y.2.1.1,y.2.1.2.1,y.2.1.2.2.1),y.2.2.1))
theorem qsh:ao Tryz.prog jl 3 ((rc Tryz.f172 23).code):=rl qT0 .bool rfl jk (.two .z (.s 2)) (sC qsg s0) 248 51 52 53 55 true rfl
abbrev qt6:Mdl:=(ay (.cons (.agg (.cons (.dm false qT0 (.slice ag.ty)) (.cons (.d false qT0) (.cons (.d false qT0) .nil)))) (.cons (.d false (.slice az.ty)) .nil)) [] [] 1 tn (B:=Bool) (fun b=>((b,()),(()))) (fun a=>qy a.1.1.1 a.1.1.2.1 a.1.1.2.2.1 a.1.2.1))
theorem qqg:MdlOK Tryz.prog 172 qt6:=nj Tryz.func172 rfl jk (.two .z (.two .z (.two (.two .z (.s 1)) (.two (.s 3) .z)))) (sC qsf (sC qsh s0))
abbrev qef:Mdl:=(ay (.cons (.agg (.cons (.dm false qT0 (.slice ag.ty)) (.cons (.d false qT0) (.cons (.d false qT0) .nil)))) (.cons (.d false (.slice az.ty)) .nil)) [] [] 1 tn (B:=Bool) (fun b=>((b,()),(()))) (fun a=>ut a.1.1.1 a.1.1.2.1 a.1.1.2.2.1 a.1.2.1))
theorem qn4:MdlOK Tryz.prog 172 qef:=jga qqg (fun _ b h=>qn5 _ _ _ _ b h)
def s4:Shp:=⟨[q1r],[]⟩
abbrev qhg:Ctx (Int):=⟨9,tt,false,false,[],j8 [],lm [],cm 9 tt [] [.tmp 3] s4 (fun x=>x.1.1)⟩
theorem qhf:CtxM Tryz.prog qhg:=lw fits mixed m0
abbrev tq:Mdl:=(ay (.cons (.d false qT0) (.cons (.rp false (.slice az.ty)) .nil)) [] [] 1 s4 (B:=Int) (fun b=>((b,()),(()))) (fun a=>um a.1.1 a.1.2.1))
theorem qfe:MdlOK Tryz.prog 173 tq:=nj Tryz.func173 rfl qhf .z s0
def nq:Shp:=⟨[jxr],[qtu]⟩
abbrev iz:Ctx ((List af)):=⟨77,tt,false,false,[],j8 [(173,tq),(210,xa)],lm [am _ 77 [] qh9 (C:=((List az)×Bool×Int×Int×Int×(List (Int×(List ag)))×Nat×(List ag)×Int×(List (Int×(List ag)))×Int×Int)) (S:=(Bool×Int×(List af))) (fun x=>((x.1.1.1,x.1.2.1,(pe5 x.1),(pe6 x.1),(pe7 x.1),(pe8 x.1),(pe9 x.1),(pe10 x.1),(pe11 x.1),x.2.1.1,x.2.1.2.1,x.2.1.2.2.1),((pe4 x.1),(pe12 x.1),x.2.2.1))) qh8 (CE:=((List az)×Bool×Int×Int×(List (Int×(List ag)))×Nat×(List (Int×(List ag)))×Int×Int)) (E:=(Bool×(List af))) (fun c e=>(((c.1,()),c.2.1,(),(),e.1,c.2.2.1,(pe3 c),(pe4 c),(pe5 c),()),(((pe6 c),(pe7 c),(pf8 c),()),e.2,()))) (fun c=>(c.1,c.2.1,(pe3 c),(pe4 c),(pe5 c),(pe6 c),(pe9 c),(pe10 c),(pf11 c))) (fun{R} c a nx dn rt=>uj c.1 c.2.1 c.2.2.1 (pe3 c) (pe4 c) (pe5 c) (pe7 c) (pe8 c) (pe9 c) (pe10 c) (pf11 c) a.1 a.2.1 a.2.2 nx dn rt),qge _ 77 tt false [] (rc Tryz.f170 10647) qia (C:=((List az)×Bool×Int×Int×(List (Int×(List ag)))×(List (Int×(List ag)))×Int×Int)) (S:=(Bool×(List af))) (fun x=>((x.1.1.1,x.1.2.1,(pe5 x.1),(pe6 x.1),(pe7 x.1),x.2.1.1,x.2.1.2.1,x.2.1.2.2.1),((pe4 x.1),x.2.2.1))) (fun c a=>(((c.1,()),c.2.1,(),(),a.1,c.2.2.1,(pe3 c),(pe4 c),()),(((pe5 c),(pe6 c),(pf7 c),()),a.2,()))) (fun c=>(pe4 c)) (fun{R} c a en nx rt=>uk c.1 c.2.1 c.2.2.1 (pe3 c) (pe4 c) (pe5 c) (pe6 c) (pf7 c) a.1 a.2 en nx rt),q89 _ 77 [] qic (C:=((List az)×Bool×Int×(List (Int×(List ag)))×Int×Int)) (S:=(Int×(List af))) (fun x=>((x.1.1.1,x.1.2.1,(pe4 x.1),x.2.1.1,x.2.1.2.1,x.2.1.2.2.1),((pe5 x.1),x.2.2.1))) qib (CE:=Unit) (E:=(List af)) (fun c e=>(((),()),(e,()))) (fun c=>()) (fun{R} c a nx dn rt=>gv c.1 c.2.1 c.2.2.1 (pe3 c) (pe4 c) (pf5 c) a.1 a.2 nx dn rt)],cm 77 tt [] [.tmp 6] nq (fun x=>x.2.1)⟩
theorem iy:CtxM Tryz.prog iz:=lw fits mixed (mC qfe (mC qeh m0))
theorem qj1:ao Tryz.prog iz 0 (lc 4 Tryz.f170 10168727):=lp rfl iy (.two .z (.two .z (.two (.one (.two .z (.two .z (.two .z (.two (.d [0,1,0,0,8,28,63,127,255] [8] []) (.two .z (.two (.d [0,0,0,6,14,0,63] [] []) .z))))))) .z))) s0 (fun c a=>(((c.1,()),c.2.1,(),(),a.1,c.2.2.1,(pe3 c),(pe4 c),(pe5 c),(pe6 c),(pe7 c),(pe8 c),a.2.1,()),(((pe9 c),(pe10 c),(pf11 c),()),a.2.2,()))) (fun y=>((y.1.1.1,y.1.2.1,(pe5 y.1),(pe6 y.1),(pe7 y.1),(pe8 y.1),y.2.1.1,y.2.1.2.1,y.2.1.2.2.1),((pe4 y.1),y.2.2.1)))
theorem qj2:ao Tryz.prog iz 1 ((rc Tryz.f170 10647).code):=rl qT0 (.slice ag.ty) rfl iy (.two .z (.s 0)) (sC qj1 s0) 175 28 29 30 32 false rfl
theorem qj3:ao Tryz.prog iz 2 (lc 0 Tryz.f170 151):=nl rfl iy (.two .z (.two .z (.two (.one (.two .z (.two (.s 1) .z))) .z))) (sC qj2 s0) (fun c a=>(((c.1,()),c.2.1,(),(),c.2.2.1,a.1,()),(((pe3 c),(pe4 c),(pf5 c),()),a.2,()))) (fun y=>((),y.2.1))
abbrev qlp:Mdl:=(ay (.cons (.agg (.cons (.dm false qT0 (.slice ag.ty)) (.cons (.d false qT0) (.cons (.d false qT0) .nil)))) (.cons (.fn 173 (.cons (.rp false (.slice az.ty)) .nil)) (.cons (.d false .bool) .nil))) [] [] 1 nq (B:=(List af)) (fun b=>(((),()),(b,()))) (fun a=>jt a.1.1.1 a.1.1.2.1 a.1.1.2.2.1 a.1.2.1.1 a.1.2.2.1))
theorem qid:MdlOK Tryz.prog 170 qlp:=nj Tryz.func170 rfl iy (.two .z (.two .z (.two .z (.two (.two .z (.s 2)) .z)))) (sC qj3 s0)
abbrev vq:Mdl:=(ay (.cons (.agg (.cons (.dm false qT0 (.slice ag.ty)) (.cons (.d false qT0) (.cons (.d false qT0) .nil)))) (.cons (.fn 173 (.cons (.rp false (.slice az.ty)) .nil)) (.cons (.d false .bool) .nil))) [] [] 1 nq (B:=(List af)) (fun b=>(((),()),(b,()))) (fun a=>o7 a.1.1.1 a.1.1.2.1 a.1.1.2.2.1 a.1.2.1.1 a.1.2.2.1))
theorem qhb:MdlOK Tryz.prog 170 vq:=jga qid (fun _ b h=>qhc _ _ _ _ _ b h)
abbrev vx:Mdl:=dh Tryz.f122 25 tt false false [] [(170,vo),(170,vq),(172,qef)] [.cell 4 59] (.cons (.agg (.cons (.dm false qT0 (.slice ag.ty)) (.cons (.d false qT0) (.cons (.d false qT0) .nil)))) (.cons (.d false (.slice az.ty)) .nil)) [] ⟨[(0, .d true az.ty)],[]⟩ .z
theorem qhh:MdlOK Tryz.prog 122 vx:=dg Tryz.func122 fits mixed (mC qg9 (mC qhb (mC qn4 m0)))
abbrev qg8:Mdl:=dh Tryz.f60 37 tt false false [] [(120,qsa),(121,qeg),(122,vx)] [.cell 8 59, .tmp 9] (.cons (.d false b8.ty) (.cons (.d false qT1) (.cons (.d false (.slice az.ty)) (.cons (.d false qT0) .nil)))) [] ⟨[(0, .d true az.ty),(1, .d true qT0)],[]⟩ .z
theorem qr8:MdlOK Tryz.prog 60 qg8:=dg Tryz.func60 fits mixed (mC q2m (mC qn6 (mC qhh m0)))
abbrev qr9:Mdl:=dh Tryz.f17 20 tt false false [] [(49,de),(61,qu8),(60,qg8)] [.cell 6 59, .tmp 7] (.cons (.d false b8.ty) (.cons (.d false qT1) (.cons (.d false qT0) .nil))) [] ⟨[(0, .d true az.ty),(1, .d true qT0)],[]⟩ (.two .z (.two .z (.two (.ad [0,0,0,4,0,31,63,63,255,511] [8]) .z)))
theorem q2l:MdlOK Tryz.prog 17 qr9:=dg Tryz.func17 fits mixed (mC cq (mC q5x (mC qr8 m0)))
abbrev nc:Mdl:=dh Tryz.f66 13 tt false false [] [] [.tmp 4] (.cons (.d false b8.ty) (.cons (.d false qT0) .nil)) [] ⟨[(0, .own 0)],[qgb]⟩ .z
theorem kw:MdlOK Tryz.prog 66 nc:=dg Tryz.func66 fits mixed m0
abbrev qh1:Mdl:=dh Tryz.f214 18 tt false false [] [] [.tmp 3] (.cons (.d false qT0) (.cons (.rp false .bool) .nil)) [] ⟨[(0, .d true .bool)],[]⟩ .z
theorem qs5:MdlOK Tryz.prog 214 qh1:=dg Tryz.func214 fits mixed m0
abbrev qs:Mdl:=dh Tryz.f147 19 tt false false [] [(214,qh1)] [.tmp 4] (.cons (.d false qT1) (.cons (.fn 214 (.cons (.rp false .bool) .nil)) .nil)) [] ⟨[(0, .d true qT0)],[]⟩ (.two .z (.two (.two .z (.one (.u 100000 .z))) .z))
theorem qbr:MdlOK Tryz.prog 147 qs:=dg Tryz.func147 fits mixed (mC qs5 m0)
abbrev m6:Mdl:=dh Tryz.f92 9 tt false false [] [(147,qs)] [.tmp 4] (.cons (.d false qT1) (.cons (.fn 214 (.cons (.rp false .bool) .nil)) .nil)) [] ⟨[(0, .d true .bool)],[]⟩ .z
theorem xr:MdlOK Tryz.prog 92 m6:=dg Tryz.func92 fits mixed (mC qbr m0)
abbrev qmh:Mdl:=dh Tryz.f176 18 tt false false [] [(92,m6)] [.tmp 6] (.cons (.d false b8.ty) (.cons (.d false qT1) (.cons (.d false .bool) .nil))) [] ⟨[(0, .d true .bool)],[]⟩ .z
theorem qws:MdlOK Tryz.prog 176 qmh:=dg Tryz.func176 fits mixed (mC xr m0)
abbrev qfu:Mdl:=dh Tryz.f175 10 tt false false [] [(176,qmh)] [.tmp 4] (.cons (.d false qT1) (.cons (.rp false b8.ty) (.cons (.rp false .bool) .nil))) [] ⟨[(0, .d true .bool)],[]⟩ .z
theorem qqn:MdlOK Tryz.prog 175 qfu:=dg Tryz.func175 fits mixed (mC qws m0)
abbrev qk:Mdl:=dh Tryz.f25 19 tt false false [] [(175,qfu)] [.tmp 4] (.cons (.d false qT2) (.cons (.fn 175 (.cons (.rp false b8.ty) (.cons (.rp false .bool) .nil))) .nil)) [] ⟨[(0, .d true qT0)],[]⟩ (.two .z (.two (.two .z (.one (.u 100000 .z))) .z))
theorem qbj:MdlOK Tryz.prog 25 qk:=dg Tryz.func25 fits mixed (mC qqn m0)
abbrev my:Mdl:=dh Tryz.f7 9 tt false false [] [(25,qk)] [.tmp 4] (.cons (.d false qT2) (.cons (.fn 175 (.cons (.rp false b8.ty) (.cons (.rp false .bool) .nil))) .nil)) [] ⟨[(0, .d true .bool)],[]⟩ .z
theorem xm:MdlOK Tryz.prog 7 my:=dg Tryz.func7 fits mixed (mC qbj m0)
abbrev na:Mdl:=dh Tryz.f124 11 tt false false [] [(7,my)] [.tmp 6] (.cons (.d false b8.ty) (.cons (.d false qT2) (.cons (.d false .bool) .nil))) [] ⟨[(0, .d true .bool)],[]⟩ .z
theorem oq:MdlOK Tryz.prog 124 na:=dg Tryz.func124 fits mixed (mC xm m0)
abbrev q0e:Mdl:=dh Tryz.f177 20 tt false false [] [] [.tmp 2] (.cons (.d false qT1) .nil) [] ⟨[(0, .d true .str)],[]⟩ (.two .z (.two .z (.two (.two .z (.one (.u 100000 .z))) .z)))
theorem jav:MdlOK Tryz.prog 177 q0e:=dg Tryz.func177 fits mixed m0
abbrev qh0:Mdl:=dh Tryz.f179 9 tt false false [] [] [.tmp 3] (.cons (.d false qT0) (.cons (.rp false qT1) .nil)) [] ⟨[(0, .d true .bool)],[]⟩ .z
theorem qs4:MdlOK Tryz.prog 179 qh0:=dg Tryz.func179 fits mixed m0
abbrev qm:Mdl:=dh Tryz.f147 19 tt false false [] [(179,qh0)] [.tmp 4] (.cons (.d false qT1) (.cons (.fn 179 (.cons (.rp false qT1) .nil)) .nil)) [] ⟨[(0, .d true qT0)],[]⟩ (.two .z (.two (.two .z (.one (.u 100000 .z))) .z))
theorem qbl:MdlOK Tryz.prog 147 qm:=dg Tryz.func147 fits mixed (mC qs4 m0)
abbrev mz:Mdl:=dh Tryz.f92 9 tt false false [] [(147,qm)] [.tmp 4] (.cons (.d false qT1) (.cons (.fn 179 (.cons (.rp false qT1) .nil)) .nil)) [] ⟨[(0, .d true .bool)],[]⟩ .z
theorem xn:MdlOK Tryz.prog 92 mz:=dg Tryz.func92 fits mixed (mC qbl m0)
abbrev j7:Mdl:=dh Tryz.f127 10 tt false false [] [(92,mz)] [.tmp 4] (.cons (.d false ah.ty) (.cons (.d false qT1) .nil)) [] ⟨[(0, .d true .bool)],[]⟩ .z
theorem kq:MdlOK Tryz.prog 127 j7:=dg Tryz.func127 fits mixed (mC xn m0)
abbrev wb:Mdl:=dh Tryz.f128 55 tt false false [] [(22,bd),(136,ol)] [.tmp 4, .tmp 5] (.cons (.d false ah.ty) (.cons (.d false qT1) .nil)) [] ⟨[(0, .own 0),(1, .d true .bool)],[qgb]⟩ (.two .z (.two .z (.two (.two .z (.one (.u 100000 .z))) (.two (.two .z (.one (.u 100000 .z))) .z))))
theorem wq:MdlOK Tryz.prog 128 wb:=dg Tryz.func128 fits mixed (mC bc (mC sg m0))
abbrev wo:Mdl:=dh Tryz.f125 59 tt false false [] [(177,q0e),(127,j7),(128,wb)] [.tmp 4] (.cons (.d false b8.ty) (.cons (.d false qT2) .nil)) [] ⟨[(0, .d true .bool)],[]⟩ (.two .z (.two .z (.two (.two .z (.one (.u 100000 .z))) (.two (.two .z (.one (.u 100000 (.two .z (.two .z (.two (.one (.two .z (.two .z (.one (.u 100000 .z))))) .z)))))) .z))))
theorem qaw:MdlOK Tryz.prog 125 wo:=dg Tryz.func125 fits mixed (mC jav (mC kq (mC wq m0)))
abbrev qmg:Mdl:=dh Tryz.f178 7 tt false false [] [(83,bm)] [.tmp 3] (.cons (.d false qT1) (.cons (.rp false qT1) .nil)) [] ⟨[(0, .d true .bool)],[]⟩ .z
theorem qwr:MdlOK Tryz.prog 178 qmg:=dg Tryz.func178 fits mixed (mC bj m0)
abbrev ql:Mdl:=dh Tryz.f25 19 tt false false [] [(178,qmg)] [.tmp 4] (.cons (.d false qT2) (.cons (.fn 178 (.cons (.rp false qT1) .nil)) .nil)) [] ⟨[(0, .d true qT0)],[]⟩ (.two .z (.two (.two .z (.one (.u 100000 .z))) .z))
theorem qbk:MdlOK Tryz.prog 25 ql:=dg Tryz.func25 fits mixed (mC qwr m0)
abbrev t6:Mdl:=dh Tryz.f126 8 tt false false [] [(25,ql)] [.tmp 4] (.cons (.d false qT2) (.cons (.d false qT1) .nil)) [] ⟨[(0, .d true qT0)],[]⟩ .z
theorem ug:MdlOK Tryz.prog 126 t6:=dg Tryz.func126 fits mixed (mC qbk m0)
abbrev qs7:Mdl:=dh Tryz.f62 223 tt false false [] [(66,nc),(124,na),(83,bm),(24,qi8),(125,wo),(126,t6),(127,j7),(128,wb),(112,kh)] [.tmp 4] (.cons (.d false b8.ty) (.cons (.d false qez.ty) .nil)) [] ⟨[(0, .d true .bool)],[]⟩ (.two .z (.two .z (.two (.two (.ad [0,1,3,7,15,31,31,95,255,511,1023,2047,4095,8191,16383,32767,4095,4095,135167,462847,1048575,2097151,4194303,8388607,16777215,33554431,67108863,16777215,150994943,419430399,956301311,2147483647,4294967295,8589934591,17179869183,34359738367,68719476735,137438953471,274877906943,549755813887,1099511627775,2199023255551,4398046511103,8796093022207,17592186044415,1099511627775,36283883716607,106652627894271,281474976710655,562949953421311] []) .z) (.two (.two .z (.one (.u 100000 (.two .z (.two .z (.two (.one (.two .z (.two .z (.two (.ad [0,0,2,0,8,30,62,0,128,511,1023,2047,2047,4095,16383] []) .z)))) .z)))))) (.two .z (.two .z (.two (.two .z (.one (.u 100000 (.two .z (.two .z (.two (.one (.two .z (.two .z (.two .z (.two (.two .z (.one (.u 100000 (.two .z (.two .z (.two (.one (.two .z (.two .z (.two .z (.two .z (.ad [0,1,3,7,15,31,3,67,3,451,1023,2047,3,4099,12291,28675,3,126979,258051,524287,1048575,2097151] [])))))) .z)))))) .z))))) .z)))))) .z)))))))
theorem q3k:MdlOK Tryz.prog 62 qs7:=dg Tryz.func62 fits mixed (mC kw (mC oq (mC bj (mC qjt (mC qaw (mC ug (mC kq (mC wq (mC ri m0)))))))))
def q4e:Shp:=⟨[(0, .d true qT1),qvj,jlx],[]⟩
abbrev q9m:Ctx ((qL1×Int×Int)):=⟨48,tt,false,false,[],j8 [(70,zw),(22,bd),(72,qr3)],lm [am _ 48 [] jgk (C:=(qL1×qL1×Int×Int×(List ah)×Int×Int)) (S:=(qL1×Int)) (fun x=>((x.1.1,(pe3 x.1),(pe4 x.1),x.2.1.1,x.2.1.2.1,x.2.1.2.2.1,(pe3 x.2.1)),(x.1.2.2.1,(pe5 x.1)))) jgj (CE:=qL1) (E:=qL1) (fun c e=>((c,e,()),(()))) (fun c=>c.1) (fun{R} c a nx dn rt=>qf5 c.1 c.2.1 c.2.2.1 (pe3 c) (pe4 c) (pe5 c) (pf6 c) a.1 a.2 nx dn rt)],cm 48 tt [] [.tmp 6, .tmp 7, .tmp 8] q4e (fun x=>(x.1.1,x.1.2.1,x.1.2.2.1))⟩
theorem q9l:CtxM Tryz.prog q9m:=lw fits mixed (mC qcu (mC bc (mC qu4 m0)))
theorem jje:ao Tryz.prog q9m 0 (lc 1 Tryz.f30 151):=lp rfl q9l .z s0 (fun c a=>((c.1,(),a.1,c.2.1,c.2.2.1,a.2,()),(((pe3 c),(pe4 c),(pe5 c),(pf6 c),()),()))) (fun y=>(y.1.1,y.1.2.1))
abbrev qnx:Mdl:=(ay (.cons (.d false b8.ty) (.cons (.d false qT1) (.cons (.d false qT1) .nil))) [] [] 3 q4e (B:=(qL1×Int×Int)) (fun b=>((b.1,b.2.1,b.2.2,()),(()))) (fun a=>qle a.1.1 a.1.2.1 a.1.2.2.1))
theorem qny:MdlOK Tryz.prog 30 qnx:=nj Tryz.func30 rfl q9l (.two .z (.two .z (.two .z (.two (.two .z (.s 0)) .z)))) (sC jje s0)
abbrev qax:Mdl:=dh Tryz.f68 23 tt false false [] [(66,nc),(30,qnx)] [.tmp 4, .tmp 5] (.cons (.d false b8.ty) (.cons (.d false qT1) .nil)) [] ⟨[(0, .d true qT1),(1, .d true .bool)],[]⟩ (.two .z (.two (.ad [0,0,0,4,14,0,63,127,255,255,255,511,3071,8191] []) .z))
theorem qay:MdlOK Tryz.prog 68 qax:=dg Tryz.func68 fits mixed (mC kw (mC qny m0))
abbrev qke:Mdl:=dh Tryz.f180 35 tt false false [] [] [.tmp 4] (.cons (.d false qT1) (.cons (.d false qT1) .nil)) [] ⟨[(0, .d true .bool)],[]⟩ (.two .z (.two (.two .z (.one (.u 100000 (.two .z (.two .z (.two (.one (.two .z (.two (.ad [0,0,3,7,15,31,63,63,255,511,1023,2047,4095,4095,16383,32767,4095,4095,200703,462847,1048575,2097151,4194303] []) .z))) .z)))))) .z))
theorem qpv:MdlOK Tryz.prog 180 qke:=dg Tryz.func180 fits mixed m0
abbrev qs6:Mdl:=dh Tryz.f129 46 tt false false [] [(68,qax),(30,qnx),(180,qke),(83,bm)] [.tmp 6] (.cons (.d false b8.ty) (.cons (.d false qT1) (.cons (.d false qT1) .nil))) [] ⟨[(0, .d true .bool)],[]⟩ .z
theorem q3j:MdlOK Tryz.prog 129 qs6:=dg Tryz.func129 fits mixed (mC qay (mC qny (mC qpv (mC bj m0))))
abbrev uw:Mdl:=dh Tryz.f130 14 tt false false [] [] [.tmp 4] (.cons (.d false b8.ty) (.cons (.d false qT0) .nil)) [] ⟨[(0, .d true .bool)],[]⟩ .z
theorem qcg:MdlOK Tryz.prog 130 uw:=dg Tryz.func130 fits mixed m0
abbrev qft:Mdl:=dh Tryz.f182 7 tt false false [] [(180,qke)] [.tmp 3] (.cons (.d false qT1) (.cons (.rp false qT1) .nil)) [] ⟨[(0, .d true .bool)],[]⟩ .z
theorem qqm:MdlOK Tryz.prog 182 qft:=dg Tryz.func182 fits mixed (mC qpv m0)
abbrev qn:Mdl:=dh Tryz.f25 19 tt false false [] [(182,qft)] [.tmp 4] (.cons (.d false qT2) (.cons (.fn 182 (.cons (.rp false qT1) .nil)) .nil)) [] ⟨[(0, .d true qT0)],[]⟩ (.two .z (.two (.two .z (.one (.u 100000 .z))) .z))
theorem qbm:MdlOK Tryz.prog 25 qn:=dg Tryz.func25 fits mixed (mC qqm m0)
abbrev m3:Mdl:=dh Tryz.f7 9 tt false false [] [(25,qn)] [.tmp 4] (.cons (.d false qT2) (.cons (.fn 182 (.cons (.rp false qT1) .nil)) .nil)) [] ⟨[(0, .d true .bool)],[]⟩ .z
theorem xo:MdlOK Tryz.prog 7 m3:=dg Tryz.func7 fits mixed (mC qbm m0)
abbrev qjg:Mdl:=dh Tryz.f181 7 tt false false [] [(7,m3)] [.tmp 3] (.cons (.d false qT1) (.cons (.rp false qT2) .nil)) [] ⟨[(0, .d true .bool)],[]⟩ .z
theorem qt9:MdlOK Tryz.prog 181 qjg:=dg Tryz.func181 fits mixed (mC xo m0)
abbrev qps:Mdl:=dh Tryz.f132 53 tt false false [] [(66,nc),(181,qjg),(127,j7),(128,wb)] [.tmp 4] (.cons (.d false b8.ty) (.cons (.d false qT2) .nil)) [] ⟨[(0, .d true .bool)],[]⟩ (.two .z (.two .z (.two .z (.two (.two .z (.one (.u 100000 (.two .z (.two .z (.two (.one (.two .z (.two .z (.one (.u 100000 .z))))) .z)))))) .z))))
theorem q0c:MdlOK Tryz.prog 132 qps:=dg Tryz.func132 fits mixed (mC kw (mC qt9 (mC kq (mC wq m0))))
abbrev qpt:Mdl:=dh Tryz.f133 13 tt false false [] [(127,j7)] [.tmp 4] (.cons (.d false qT1) (.cons (.rp false b8.ty) (.cons (.rp false qez.ty) .nil))) [] ⟨[(0, .d true .bool)],[]⟩ .z
theorem q0d:MdlOK Tryz.prog 133 qpt:=dg Tryz.func133 fits mixed (mC kq m0)
abbrev p4:Mdl:=dh Tryz.f25 19 tt false false [] [(133,qpt)] [.tmp 4] (.cons (.d false qT2) (.cons (.fn 133 (.cons (.rp false b8.ty) (.cons (.rp false qez.ty) .nil))) .nil)) [] ⟨[(0, .d true qT0)],[]⟩ (.two .z (.two (.two .z (.one (.u 100000 .z))) .z))
theorem qa3:MdlOK Tryz.prog 25 p4:=dg Tryz.func25 fits mixed (mC q0d m0)
abbrev mm:Mdl:=dh Tryz.f7 9 tt false false [] [(25,p4)] [.tmp 4] (.cons (.d false qT2) (.cons (.fn 133 (.cons (.rp false b8.ty) (.cons (.rp false qez.ty) .nil))) .nil)) [] ⟨[(0, .d true .bool)],[]⟩ .z
theorem xe:MdlOK Tryz.prog 7 mm:=dg Tryz.func7 fits mixed (mC qa3 m0)
abbrev qkd:Mdl:=dh Tryz.f67 29 tt false false [] [(130,uw),(124,na),(132,qps),(7,mm)] [.tmp 4] (.cons (.d false b8.ty) (.cons (.d false qez.ty) .nil)) [] ⟨[(0, .d true .bool)],[]⟩ .z
theorem qpu:MdlOK Tryz.prog 67 qkd:=dg Tryz.func67 fits mixed (mC qcg (mC oq (mC q0c (mC xe m0))))
abbrev qmk:Mdl:=dh Tryz.f63 80 tt false false [] [(129,qs6),(67,qkd),(68,qax),(66,nc),(83,bm),(124,na),(126,t6),(125,wo)] [.tmp 4] (.cons (.d false b8.ty) (.cons (.d false qez.ty) .nil)) [] ⟨[(0, .d true .bool)],[]⟩ .z
theorem qwu:MdlOK Tryz.prog 63 qmk:=dg Tryz.func63 fits mixed (mC q3j (mC qpu (mC qay (mC kw (mC bj (mC oq (mC ug (mC qaw m0))))))))
abbrev qmj:Mdl:=dh Tryz.f64 48 tt false false [] [(68,qax),(66,nc),(83,bm),(48,bn)] [.tmp 4] (.cons (.d false b8.ty) (.cons (.d false qez.ty) .nil)) [] ⟨[(0, .d true .bool)],[]⟩ (.two .z (.two .z (.two (.two .z (.one (.u 100000 .z))) .z)))
theorem qwt:MdlOK Tryz.prog 64 qmj:=dg Tryz.func64 fits mixed (mC qay (mC kw (mC bj (mC bp m0))))
abbrev qcf:Mdl:=dh Tryz.f131 21 tt false false [] [(127,j7),(128,wb),(126,t6)] [.tmp 4] (.cons (.d false qT1) (.cons (.rp false ah.ty) (.cons (.rp false qT2) .nil))) [] ⟨[(0, .d true .bool)],[]⟩ .z
theorem qmi:MdlOK Tryz.prog 131 qcf:=dg Tryz.func131 fits mixed (mC kq (mC wq (mC ug m0)))
abbrev p3:Mdl:=dh Tryz.f25 19 tt false false [] [(131,qcf)] [.tmp 4] (.cons (.d false qT2) (.cons (.fn 131 (.cons (.rp false ah.ty) (.cons (.rp false qT2) .nil))) .nil)) [] ⟨[(0, .d true qT0)],[]⟩ (.two .z (.two (.two .z (.one (.u 100000 .z))) .z))
theorem qa2:MdlOK Tryz.prog 25 p3:=dg Tryz.func25 fits mixed (mC qmi m0)
abbrev mj:Mdl:=dh Tryz.f7 9 tt false false [] [(25,p3)] [.tmp 4] (.cons (.d false qT2) (.cons (.fn 131 (.cons (.rp false ah.ty) (.cons (.rp false qT2) .nil))) .nil)) [] ⟨[(0, .d true .bool)],[]⟩ .z
theorem xd:MdlOK Tryz.prog 7 mj:=dg Tryz.func7 fits mixed (mC qa2 m0)
abbrev qfv:Mdl:=dh Tryz.f65 95 tt false false [] [(130,uw),(124,na),(66,nc),(126,t6),(125,wo),(7,mj)] [.tmp 4] (.cons (.d false b8.ty) (.cons (.d false qez.ty) .nil)) [] ⟨[(0, .d true .bool)],[]⟩ (.two .z (.two (.two (.ad [0,0,2,7,15,31,63,63,191,511,1023,2047,4095,8191,16383,8191,8191,73727,237567,524287,1048575,2097151,4194303,8388607,16777215,33554431,67108863,134217727,268435455,536870911,536870911,1610612735,4294967295,8589934591,17179869183] []) .z) (.two .z (.two (.two .z (.one (.u 100000 (.two .z (.two .z (.two (.one (.two .z (.two .z (.ad [0,0,2,0,14,30,62,127,255] [7,8])))) .z)))))) (.two (.two (.ad [0,0,3,7,15,31,31,31,159,479,1023,2047,4095] []) .z) .z)))))
theorem qqo:MdlOK Tryz.prog 65 qfv:=dg Tryz.func65 fits mixed (mC qcg (mC oq (mC kw (mC ug (mC qaw (mC xd m0))))))
def qq1:Shp:=⟨[qqp],[]⟩
abbrev qdh:Ctx (Bool):=⟨79,tt,false,false,[],j8 [(21,kg),(75,qmx),(24,qi8)],lm [am _ 79 [] q41 (C:=(qL1×qL2×qL2×Int×Int×(List ah)×Int×Int)) (S:=(Int×(List (ByteArray×Bool)))) (fun x=>((x.1.1,x.1.2.1,(pe4 x.1),(pe5 x.1),x.2.1.1,x.2.1.2.1,x.2.1.2.2.1,(pe3 x.2.1)),((pe6 x.1),x.2.2.1))) q40 (CE:=(qL1×qL2×Int×(List ah)×Int×Int)) (E:=(List (ByteArray×Bool))) (fun c e=>((c.1,c.2.1,(),(),()),((c.2.2.1,(pe3 c),(pe4 c),(pf5 c),()),e,()))) (fun c=>(c.1,c.2.1,(pe4 c),(pe5 c),(pe6 c),(pf7 c))) (fun{R} c a nx dn rt=>we c.1 c.2.1 c.2.2.1 (pe3 c) (pe4 c) (pe5 c) (pe6 c) (pf7 c) a.1 a.2 nx dn rt),am _ 79 [] q43 (C:=(qL1×qL1×qL2×Int×Int×qL1×Int×Int×(List ah)×Int×Int×(List (ByteArray×Bool)))) (S:=Int) (fun x=>((x.1.1,(pe3 x.1),(pe4 x.1),(pe5 x.1),(pe6 x.1),(pe7 x.1),(pe8 x.1),x.2.1.1,x.2.1.2.1,x.2.1.2.2.1,(pe3 x.2.1),x.2.2.1),(pe9 x.1))) q42 (CE:=(qL1×qL2×Int×Int×Int×(List ah)×Int×Int×(List (ByteArray×Bool)))) (E:=Unit) (fun c e=>((c.1,(),(),c.2.1,c.2.2.1,(pe3 c),()),(((pe4 c),(pe5 c),(pe6 c),(pe7 c),()),(pf8 c),()))) (fun c=>(c.1,c.2.2.1,(pe3 c),(pe4 c),(pe7 c),(pe8 c),(pe9 c),(pe10 c),(pf11 c))) (fun{R} c a nx dn rt=>wg c.1 c.2.1 c.2.2.1 (pe3 c) (pe4 c) (pe5 c) (pe6 c) (pe7 c) (pe8 c) (pe9 c) (pe10 c) (pf11 c) a nx dn rt),am _ 79 [] q45 (C:=(qL1×qL2×Int×Int×(List ah)×Int×Int×(List (ByteArray×Bool)))) (S:=Int) (fun x=>((x.1.1,(pe3 x.1),(pe4 x.1),x.2.1.1,x.2.1.2.1,x.2.1.2.2.1,(pe3 x.2.1),x.2.2.1),(pe5 x.1))) q44 (CE:=(qL1×(List (ByteArray×Bool)))) (E:=Unit) (fun c e=>((c.1,(),()),(c.2,()))) (fun c=>(c.1,(pf7 c))) (fun{R} c a nx dn rt=>wh c.1 c.2.1 c.2.2.1 (pe3 c) (pe4 c) (pe5 c) (pe6 c) (pf7 c) a nx dn rt)],cm 79 tt [] [.tmp 6] qq1 (fun x=>x.1.1)⟩
theorem qdg:CtxM Tryz.prog qdh:=lw fits mixed (mC j5 (mC qmy (mC qjt m0)))
theorem q7o:ao Tryz.prog qdh 1 (lc 4 Tryz.f29 80279):=lp rfl qdg .z s0 (fun c a=>((c.1,(),(),c.2.1,c.2.2.1,(pe3 c),(pe4 c),(pe5 c),(pe6 c),a,()),(((pe7 c),(pe8 c),(pe9 c),(pe10 c),()),(pf11 c),()))) (fun y=>((y.1.1,(pe3 y.1),(pe4 y.1),(pe5 y.1),y.2.1.1,y.2.1.2.1,y.2.1.2.2.1,(pe3 y.2.1),y.2.2.1),()))
theorem q7p:ao Tryz.prog qdh 2 (lc 2 Tryz.f29 151):=lp rfl qdg (.two .z (.two .z (.two (.one (.two .z (.two .z (.two .z (.s 1))))) .z))) (sC q7o s0) (fun c a=>((c.1,(),(),c.2.1,c.2.2.1,a,()),(((pe3 c),(pe4 c),(pe5 c),(pe6 c),()),(pf7 c),()))) (fun y=>((y.1.1,y.2.1),()))
theorem q7n:ao Tryz.prog qdh 0 (lc 0 Tryz.f29 75):=lp rfl qdg .z s0 (fun c a=>((c.1,c.2.1,(),(),c.2.2.1,(pe3 c),a.1,()),(((pe4 c),(pe5 c),(pe6 c),(pf7 c),()),a.2,()))) (fun y=>((y.1.1,y.1.2.1,y.2.1.1,y.2.1.2.1,y.2.1.2.2.1,(pe3 y.2.1)),y.2.2.1))
abbrev quj:Mdl:=(ay (.cons (.d false b8.ty) (.cons (.d false qT1) (.cons (.d false qT2) .nil))) [] [] 1 qq1 (B:=Bool) (fun b=>((b,()),(()))) (fun a=>qfz a.1.1 a.1.2.1 a.1.2.2.1))
theorem q46:MdlOK Tryz.prog 29 quj:=nj Tryz.func29 rfl qdg (.two .z (.two .z (.two (.two .z (.s 0)) (.two (.two .z (.s 2)) .z)))) (sC q7n (sC q7p s0))
def qud:Shp:=⟨[qqp],[]⟩
abbrev je0:Ctx (Bool):=⟨91,tt,false,false,[],j8 [(21,kg),(29,quj),(30,qnx),(31,qmv)],lm [],cm 91 tt [] [.tmp 6] qud (fun x=>x.1.1)⟩
theorem jez:CtxM Tryz.prog je0:=lw fits mixed (mC j5 (mC q46 (mC qny (mC qqx m0))))
abbrev qmu:Mdl:=(ay (.cons (.d false b8.ty) (.cons (.d false qT1) (.cons (.d false qez.ty) .nil))) [] [] 1 qud (B:=Bool) (fun b=>((b,()),(()))) (fun a=>jz a.1.1 a.1.2.1 a.1.2.2.1))
theorem qqv:MdlOK Tryz.prog 10 qmu:=nj Tryz.func10 rfl jez (.two .z (.two .z (.two .z (.two .z (.two .z (.two .z (.two .z (.two (.d [0,1,3,7,7,31,63,127,255,255,767,2047,4095,255,255,16639,57599,123135,262143,524287,1048575] [] []) .z)))))))) s0
abbrev qs3:Mdl:=dh Tryz.f18 107 tt false false [] [(49,de),(50,rg),(62,qs7),(63,qmk),(64,qmj),(65,qfv),(66,nc),(10,qmu),(67,qkd),(68,qax)] [.tmp 4] (.cons (.d false b8.ty) (.cons (.d false qez.ty) .nil)) [] ⟨[(0, .d true .bool)],[]⟩ (.two .z (.two .z (.two .z (.two (.two .z (.one (.two .z (.two .z (.two .z (.two .z (.two .z (.two .z (.two .z (.two .z (.two .z (.two (.two (.ad [0,0,0,4,14,0,63,127] []) .z) (.two .z (.two .z (.two .z (.two (.two .z (.two (.ad [0,1,3,7,15,31,63,127,255,511,255,1279,3327,7423,16383,32767,255,65791,262143,524287,1048575] []) .z)) .z)))))))))))))))) .z))))
theorem q3i:MdlOK Tryz.prog 18 qs3:=dg Tryz.func18 fits mixed (mC cq (mC su (mC q3k (mC qwu (mC qwt (mC qqo (mC kw (mC qqv (mC qpu (mC qay m0))))))))))
abbrev q6g:Ctx Bool:=⟨86,tt,false,true,[],j8 [(13,qzy),(14,qi1),(15,qok),(16,q4g),(17,qr9),(18,qs3)],lm [],cm 86 tt [] [.tmp 0] ⟨[(0, .d true .bool)],[]⟩ (fun x=>x.1.1)⟩
abbrev qpq:Mdl:=(ay .nil [] [] 1 ⟨[(0, .d true .bool)],[]⟩ (B:=Bool) (fun b=>((b,()),(()))) (fun _=>qhy))
theorem qz6:MdlOK Tryz.prog 4 qpq:=nj (X:=q6g) Tryz.func4 rfl (lw fits mixed (mC q95 (mC qt2 (mC qxb (mC jb6 (mC q2l (mC q3i m0))))))) .z s0
def qmf:Shp:=⟨[qqp],[]⟩
abbrev q6i:Ctx (Bool):=⟨19,tt,false,false,[],j8 [],lm [],cm 19 tt [] [.tmp 2] qmf (fun x=>x.1.1)⟩
theorem q6h:CtxM Tryz.prog q6i:=lw fits mixed m0
abbrev qpr:Mdl:=(ay (.cons (.d false ah.ty) .nil) [] [] 1 qmf (B:=Bool) (fun b=>((b,()),(()))) (fun a=>qav a.1.1))
theorem qz7:MdlOK Tryz.prog 20 qpr:=nj Tryz.func20 rfl q6h .z s0
def gi:Shp:=⟨[q1r],[]⟩
abbrev ie:Ctx (Int):=⟨19,tt,false,false,[],j8 [(20,qpr)],lm [am _ 19 [] q4 (C:=((List ah)×Int)) (S:=Int) (fun x=>((x.1.1,x.1.2.2.1),(pe3 x.1))) qz (CE:=Unit) (E:=Unit) (fun c e=>((()),(()))) (fun c=>()) (fun{R} c a nx dn rt=>ce c.1 c.2 a nx dn rt)],cm 19 tt [] [.tmp 4] gi (fun x=>x.1.1)⟩
theorem ib:CtxM Tryz.prog ie:=lw fits mixed (mC qz7 m0)
theorem rj:ao Tryz.prog ie 0 (lc 0 Tryz.f69 37):=lp rfl ib .z s0 (fun c a=>((c.1,(()),c.2,a,()),(()))) (fun y=>((),()))
abbrev ic:Mdl:=(ay (.cons (.d false (.slice ah.ty)) (.cons (.fn 20 .nil) .nil)) [] [] 1 gi (B:=Int) (fun b=>((b,()),(()))) (fun a=>d6 a.1.1))
theorem q5:MdlOK Tryz.prog 69 ic:=nj Tryz.func69 rfl ib (.two .z (.two (.two .z (.s 0)) .z)) (sC rj s0)
def fk:Shp:=⟨[qqp],[]⟩
abbrev pu:Ctx (Bool):=⟨9,tt,false,false,[],j8 [(69,ic)],lm [],cm 9 tt [] [.tmp 4] fk (fun x=>x.1.1)⟩
theorem pt:CtxM Tryz.prog pu:=lw fits mixed (mC q5 m0)
abbrev fq:Mdl:=(ay (.cons (.d false (.slice ah.ty)) (.cons (.fn 20 .nil) .nil)) [] [] 1 fk (B:=Bool) (fun b=>((b,()),(()))) (fun a=>cd a.1.1))
theorem od:MdlOK Tryz.prog 19 fq:=nj Tryz.func19 rfl pt .z s0
def qs2:Shp:=⟨[qqp],[]⟩
abbrev jcj:Ctx (Bool):=⟨18,tt,false,false,[],j8 [(19,fq)],lm [],cm 18 tt [] [.tmp 2] qs2 (fun x=>x.1.1)⟩
theorem jci:CtxM Tryz.prog jcj:=lw fits mixed (mC od m0)
abbrev qvh:Mdl:=(ay (.cons (.d false b8.ty) .nil) [] [] 1 qs2 (B:=Bool) (fun b=>((b,()),(()))) (fun a=>qf8 a.1.1))
theorem q6j:MdlOK Tryz.prog 5 qvh:=nj Tryz.func5 rfl jci .z s0
def qjf:Shp:=⟨[qqp],[]⟩
abbrev q3e:Ctx (Bool):=⟨9,tt,false,false,[],j8 [],lm [],cm 9 tt [] [.tmp 3] qjf (fun x=>x.1.1)⟩
theorem q3d:CtxM Tryz.prog q3e:=lw fits mixed m0
abbrev qme:Mdl:=(ay (.cons (.d false qT1) (.cons (.rp false b8.ty) .nil)) [] [] 1 qjf (B:=Bool) (fun b=>((b,()),(()))) (fun a=>qfg a.1.1 a.1.2.1))
theorem qwp:MdlOK Tryz.prog 8 qme:=nj Tryz.func8 rfl q3d .z s0
def ro:Shp:=⟨[q1r],[]⟩
abbrev s8:Ctx (Int):=⟨19,tt,false,false,[],j8 [(8,qme)],lm [am _ 19 [] qen (C:=(qL2×b8×Int)) (S:=Int) (fun x=>((x.1.1,x.1.2.1.1,x.1.2.2.1),(pe3 x.1))) qem (CE:=Unit) (E:=Unit) (fun c e=>((()),(()))) (fun c=>()) (fun{R} c a nx dn rt=>fa c.1 c.2.1 c.2.2 a nx dn rt)],cm 19 tt [] [.tmp 4] ro (fun x=>x.1.1)⟩
theorem s6:CtxM Tryz.prog s8:=lw fits mixed (mC qwp m0)
theorem qff:ao Tryz.prog s8 0 (lc 0 Tryz.f25 37):=lp rfl s6 .z s0 (fun c a=>((c.1,(c.2.1,()),c.2.2,a,()),(()))) (fun y=>((),()))
abbrev s7:Mdl:=(ay (.cons (.d false qT2) (.cons (.fn 8 (.cons (.rp false b8.ty) .nil)) .nil)) [] [] 1 ro (B:=Int) (fun b=>((b,()),(()))) (fun a=>kj a.1.1 a.1.2.1.1))
theorem qeo:MdlOK Tryz.prog 25 s7:=nj Tryz.func25 rfl s6 (.two .z (.two (.two .z (.s 0)) .z)) (sC qff s0)
def n9:Shp:=⟨[qqp],[]⟩
abbrev qcx:Ctx (Bool):=⟨9,tt,false,false,[],j8 [(25,s7)],lm [],cm 9 tt [] [.tmp 4] n9 (fun x=>x.1.1)⟩
theorem qcw:CtxM Tryz.prog qcx:=lw fits mixed (mC qeo m0)
abbrev o8:Mdl:=(ay (.cons (.d false qT2) (.cons (.fn 8 (.cons (.rp false b8.ty) .nil)) .nil)) [] [] 1 n9 (B:=Bool) (fun b=>((b,()),(()))) (fun a=>db a.1.1 a.1.2.1.1))
theorem qam:MdlOK Tryz.prog 7 o8:=nj Tryz.func7 rfl qcw .z s0
def quc:Shp:=⟨[q1r,qvj],[]⟩
abbrev qxe:Ctx ((Int×Int)):=⟨49,tt,false,false,[],j8 [(26,qfy)],lm [am _ 49 [] q7g (C:=(Int×qL2×Int)) (S:=(Int×Int)) (fun x=>((x.1.1,x.1.2.2.1,(pe3 x.1)),(x.1.2.1,(pe4 x.1)))) q7f (CE:=Unit) (E:=Int) (fun c e=>((e,()),(()))) (fun c=>()) (fun{R} c a nx dn rt=>th c.1 c.2.1 c.2.2 a.1 a.2 nx dn rt)],cm 49 tt [] [.tmp 8, .tmp 9] quc (fun x=>(x.1.1,x.1.2.1))⟩
theorem qxc:CtxM Tryz.prog qxe:=lw fits mixed (mC qgo m0)
theorem ja2:ao Tryz.prog qxe 0 (lc 0 Tryz.f11 303):=lp rfl qxc .z s0 (fun c a=>((c.1,a.1,c.2.1,c.2.2,a.2,()),(()))) (fun y=>((),y.1.1))
abbrev qxd:Mdl:=(ay (.cons (.d false b8.ty) (.cons (.d false qT1) (.cons (.d false qT0) (.cons (.d false qT0) .nil)))) [] [] 2 quc (B:=(Int×Int)) (fun b=>((b.1,b.2,()),(()))) (fun a=>xy a.1.1 a.1.2.1 a.1.2.2.1 (pe3 a.1)))
theorem q7h:MdlOK Tryz.prog 11 qxd:=nj Tryz.func11 rfl qxc (.two .z (.two .z (.two .z (.two .z (.two (.two .z (.s 0)) .z))))) (sC ja2 s0)
def qri:Shp:=⟨[qqp],[]⟩
abbrev jbs:Ctx (Bool):=⟨15,tt,false,false,[],j8 [(21,kg)],lm [],cm 15 tt [] [.tmp 4] qri (fun x=>x.1.1)⟩
theorem jbr:CtxM Tryz.prog jbs:=lw fits mixed (mC j5 m0)
abbrev qur:Mdl:=(ay (.cons (.d false b8.ty) (.cons (.d false qT1) .nil)) [] [] 1 qri (B:=Bool) (fun b=>((b,()),(()))) (fun a=>qf2 a.1.1 a.1.2.1))
theorem q48:MdlOK Tryz.prog 32 qur:=nj Tryz.func32 rfl jbr .z s0
def q78:Shp:=⟨[q1r],[]⟩
abbrev jc3:Ctx (Int):=⟨25,tt,false,false,[],j8 [],lm [am _ 25 [] jh6 (C:=(qL1×qL1×Int)) (S:=(Int×Int)) (fun x=>((x.1.1,x.1.2.1,(pe3 x.1)),(x.1.2.2.1,(pe4 x.1)))) jh5 (CE:=Unit) (E:=Int) (fun c e=>((e,()),(()))) (fun c=>()) (fun{R} c a nx dn rt=>qiw c.1 c.2.1 c.2.2 a.1 a.2 nx dn rt)],cm 25 tt [] [.tmp 4] q78 (fun x=>x.1.1)⟩
theorem jc1:CtxM Tryz.prog jc3:=lw fits mixed m0
theorem jla:ao Tryz.prog jc3 0 (lc 0 Tryz.f34 75):=lp rfl jc1 (.two .z (.two .z (.two (.one (.two .z (.d [0,0,0,6,14,0,0,96,224,510,1023,2047] [] []))) .z))) s0 (fun c a=>((c.1,c.2.1,a.1,c.2.2,a.2,()),(()))) (fun y=>((),y.1.1))
abbrev jc2:Mdl:=(ay (.cons (.d false qT1) (.cons (.d false qT1) .nil)) [] [] 1 q78 (B:=Int) (fun b=>((b,()),(()))) (fun a=>qx7 a.1.1 a.1.2.1))
theorem jh7:MdlOK Tryz.prog 34 jc2:=nj Tryz.func34 rfl jc1 (.two .z (.two .z (.two (.two .z (.s 0)) .z))) (sC jla s0)
def qx6:Shp:=⟨[q1r,qvj],[]⟩
abbrev q31:Ctx ((Int×Int)):=⟨65,tt,false,false,[],j8 [(32,qur),(33,qm7),(34,jc2)],lm [am _ 65 [] jbn (C:=(qL1×Int×qL2×Int)) (S:=(Int×Int)) (fun x=>((x.1.1,x.1.2.1,(pe3 x.1),(pe4 x.1)),(x.1.2.2.1,(pe5 x.1)))) jbm (CE:=Unit) (E:=Int) (fun c e=>((e,()),(()))) (fun c=>()) (fun{R} c a nx dn rt=>ni c.1 c.2.1 c.2.2.1 c.2.2.2 a.1 a.2 nx dn rt)],cm 65 tt [] [.tmp 6, .tmp 7] qx6 (fun x=>(x.1.1,x.1.2.1))⟩
theorem q3z:CtxM Tryz.prog q31:=lw fits mixed (mC q48 (mC qre (mC jh7 m0)))
theorem jfl:ao Tryz.prog q31 0 (lc 0 Tryz.f12 1215):=lp rfl q3z (.two .z (.two .z (.two (.one (.two .z (.two .z (.two (.d [0,0,3,0,0,24,56,127,255] [] []) .z)))) .z))) s0 (fun c a=>((c.1,c.2.1,a.1,c.2.2.1,c.2.2.2,a.2,()),(()))) (fun y=>((),y.1.1))
abbrev q30:Mdl:=(ay (.cons (.d false b8.ty) (.cons (.d false qT1) (.cons (.d false qT0) .nil))) [] [] 2 qx6 (B:=(Int×Int)) (fun b=>((b.1,b.2,()),(()))) (fun a=>qck a.1.1 a.1.2.1 a.1.2.2.1))
theorem jbo:MdlOK Tryz.prog 12 q30:=nj Tryz.func12 rfl q3z (.two .z (.two .z (.two .z (.two .z (.two .z (.two .z (.two (.two .z (.s 0)) .z))))))) (sC jfl s0)
def qpp:Shp:=⟨[qqp],[]⟩
abbrev pq:Ctx (Bool):=⟨147,tt,false,false,[],j8 [(4,qpq),(5,qvh),(6,qhv),(7,o8),(9,qgm),(10,qmu),(11,qxd),(12,q30)],lm [am _ 147 [] q24 (C:=(qL1×Bool×Int×Int×Int×Int×Int×qL2×Int×Int×(List ah)×Int×Int×qL2×(List ar)×Bool)) (S:=(Int×Int)) (fun x=>((x.1.1,(pe3 x.1),(pe4 x.1),(pe5 x.1),(pe6 x.1),(pe8 x.1),(pe9 x.1),(pe10 x.1),(pe11 x.1),x.2.1.1,x.2.1.2.1,x.2.1.2.2.1,(pe3 x.2.1),x.2.2.1.1,x.2.2.1.2.1,x.2.2.1.2.2.1),((pe7 x.1),(pe12 x.1)))) q23 (CE:=(qL1×Bool×Int×Int×Int×Int×Int×Int×(List ah)×Int×Int×qL2×(List ar)×Bool)) (E:=Int) (fun c e=>((c.1,(),(),c.2.1,c.2.2.1,(pe3 c),(pe4 c),e,(pe5 c),(pe6 c),()),(((pe7 c),(pe8 c),(pe9 c),(pe10 c),()),((pe11 c),(pe12 c),(pf13 c),()),()))) (fun c=>(c.1,c.2.1,c.2.2.1,(pe3 c),(pe4 c),(pe5 c),(pe6 c),(pe9 c),(pe10 c),(pe11 c),(pe12 c),(pe13 c),(pe14 c),(pf15 c))) (fun{R} c a nx dn rt=>uf c.1 c.2.1 c.2.2.1 (pe3 c) (pe4 c) (pe5 c) (pe6 c) (pe7 c) (pe8 c) (pe9 c) (pe10 c) (pe11 c) (pe12 c) (pe13 c) (pe14 c) (pf15 c) a.1 a.2 nx dn rt),qd8 _ 147 [] q28 (A:=(qL1×Bool×Int×Int×Int×Int×Bool×Int×(List ah)×Int×Int×qL2×(List ar)×Bool)) (fun x=>(x.1.1,(pe3 x.1),(pe4 x.1),(pe5 x.1),(pe6 x.1),(pe7 x.1),(pe8 x.1),x.2.1.1,x.2.1.2.1,x.2.1.2.2.1,(pe3 x.2.1),x.2.2.1.1,x.2.2.1.2.1,x.2.2.1.2.2.1)) q27 (CE:=(qL1×Bool×Int×Int×Int×Int×Int×(List ah)×Int×Int×qL2×(List ar)×Bool)) (E:=Unit) (fun c e=>((c.1,(),(),c.2.1,c.2.2.1,(pe3 c),(pe4 c),(pe5 c),()),(((pe6 c),(pe7 c),(pe8 c),(pe9 c),()),((pe10 c),(pe11 c),(pf12 c),()),()))) (fun c=>(c.1,c.2.1,c.2.2.1,(pe3 c),(pe4 c),(pe5 c),(pe7 c),(pe8 c),(pe9 c),(pe10 c),(pe11 c),(pe12 c),(pf13 c))) (fun{R} c dn rt=>qmd c.1 c.2.1 c.2.2.1 (pe3 c) (pe4 c) (pe5 c) (pe6 c) (pe7 c) (pe8 c) (pe9 c) (pe10 c) (pe11 c) (pe12 c) (pf13 c) dn rt),qd8 _ 147 [] q3a (A:=(qL1×Bool×Int×Int×Int×Int×Int×(List ah)×Int×Int×qL2×(List ar)×Bool)) (fun x=>(x.1.1,(pe3 x.1),(pe4 x.1),(pe5 x.1),(pe6 x.1),(pe7 x.1),x.2.1.1,x.2.1.2.1,x.2.1.2.2.1,(pe3 x.2.1),x.2.2.1.1,x.2.2.1.2.1,x.2.2.1.2.2.1)) q29 (CE:=(qL1×Bool×Int×Int×Int×(List ah)×Int×Int×qL2×(List ar)×Bool)) (E:=Unit) (fun c e=>((c.1,(),(),c.2.1,c.2.2.1,(pe3 c),()),(((pe4 c),(pe5 c),(pe6 c),(pe7 c),()),((pe8 c),(pe9 c),(pf10 c),()),()))) (fun c=>(c.1,c.2.1,(pe4 c),(pe5 c),(pe6 c),(pe7 c),(pe8 c),(pe9 c),(pe10 c),(pe11 c),(pf12 c))) (fun{R} c dn rt=>qda c.1 c.2.1 c.2.2.1 (pe3 c) (pe4 c) (pe5 c) (pe6 c) (pe7 c) (pe8 c) (pe9 c) (pe10 c) (pe11 c) (pf12 c) dn rt),am _ 147 [] q26 (C:=(qL1×Bool×Int×Int×(List ah)×Int×Int×qL2×(List ar)×Bool)) (S:=Int) (fun x=>((x.1.1,(pe3 x.1),(pe4 x.1),x.2.1.1,x.2.1.2.1,x.2.1.2.2.1,(pe3 x.2.1),x.2.2.1.1,x.2.2.1.2.1,x.2.2.1.2.2.1),(pe5 x.1))) q25 (CE:=Unit) (E:=Unit) (fun c e=>((()),(()))) (fun c=>()) (fun{R} c a nx dn rt=>ij c.1 c.2.1 c.2.2.1 (pe3 c) (pe4 c) (pe5 c) (pe6 c) (pe7 c) (pe8 c) (pf9 c) a nx dn rt),qd8 _ 147 [] q3c (A:=(qL1×Bool×Int×(List ah)×Int×Int×qL2×(List ar)×Bool)) (fun x=>(x.1.1,(pe3 x.1),x.2.1.1,x.2.1.2.1,x.2.1.2.2.1,(pe3 x.2.1),x.2.2.1.1,x.2.2.1.2.1,x.2.2.1.2.2.1)) q3b (CE:=Unit) (E:=Unit) (fun c e=>((()),(()))) (fun c=>()) (fun{R} c dn rt=>qdb c.1 c.2.1 c.2.2.1 (pe3 c) (pe4 c) (pe5 c) (pe6 c) (pe7 c) (pf8 c) dn rt)],cm 147 tt [] [.tmp 4] qpp (fun x=>x.1.1)⟩
theorem pp:CtxM Tryz.prog pq:=lw fits mixed (mC qz6 (mC q6j (mC qmb (mC qam (mC qkm (mC qqv (mC q7h (mC jbo m0))))))))
theorem q6c:ao Tryz.prog pq 1 (jc Tryz.f3 14575103):=jn rfl pp .z s0 (fun c=>((c.1,(),(),c.2.1,c.2.2.1,(pe3 c),(pe4 c),(pe5 c),(pe6 c),()),(((pe7 c),(pe8 c),(pe9 c),(pe10 c),()),((pe11 c),(pe12 c),(pf13 c),()),()))) (fun y=>((y.1.1,(pe3 y.1),(pe4 y.1),(pe5 y.1),(pe6 y.1),(pe7 y.1),y.2.1.1,y.2.1.2.1,y.2.1.2.2.1,(pe3 y.2.1),y.2.2.1.1,y.2.2.1.2.1,y.2.2.1.2.2.1),()))
theorem q6b:ao Tryz.prog pq 0 (lc 2 Tryz.f3 19817983):=lp rfl pp .z s0 (fun c a=>((c.1,(),(),c.2.1,c.2.2.1,(pe3 c),(pe4 c),a.1,(pe5 c),(pe6 c),(pe7 c),(pe8 c),a.2,()),(((pe9 c),(pe10 c),(pe11 c),(pe12 c),()),((pe13 c),(pe14 c),(pf15 c),()),()))) (fun y=>((y.1.1,(pe3 y.1),(pe4 y.1),(pe5 y.1),(pe6 y.1),(pe8 y.1),(pe9 y.1),y.2.1.1,y.2.1.2.1,y.2.1.2.2.1,(pe3 y.2.1),y.2.2.1.1,y.2.2.1.2.1,y.2.2.1.2.2.1),(pe7 y.1)))
theorem q6d:ao Tryz.prog pq 2 (jc Tryz.f3 8283647):=jn rfl pp .z s0 (fun c=>((c.1,(),(),c.2.1,c.2.2.1,(pe3 c),(pe4 c),(pe5 c),()),(((pe6 c),(pe7 c),(pe8 c),(pe9 c),()),((pe10 c),(pe11 c),(pf12 c),()),()))) (fun y=>((y.1.1,(pe3 y.1),(pe4 y.1),(pe5 y.1),y.2.1.1,y.2.1.2.1,y.2.1.2.2.1,(pe3 y.2.1),y.2.2.1.1,y.2.2.1.2.1,y.2.2.1.2.2.1),()))
theorem q6e:ao Tryz.prog pq 3 (lc 0 Tryz.f3 9727):=lp rfl pp (.two .z (.two .z (.two (.one (.two .z (.two .z (.two .z (.two (.two .z (.s 0)) (.two (.two .z (.s 1)) (.s 2))))))) .z))) (sC q6b (sC q6c (sC q6d s0))) (fun c a=>((c.1,(),(),c.2.1,c.2.2.1,a,()),(((pe3 c),(pe4 c),(pe5 c),(pe6 c),()),((pe7 c),(pe8 c),(pf9 c),()),()))) (fun y=>((),()))
theorem q6f:ao Tryz.prog pq 4 (jc Tryz.f3 1023):=jn rfl pp (.two (.two .z (.s 3)) .z) (sC q6e s0) (fun c=>((c.1,(),(),c.2.1,()),((c.2.2.1,(pe3 c),(pe4 c),(pe5 c),()),((pe6 c),(pe7 c),(pf8 c),()),()))) (fun y=>((),()))
abbrev jap:Mdl:=(ay (.cons (.d true b8.ty) (.cons (.d true qT1) .nil)) [] [] 1 qpp (B:=Bool) (fun b=>((b,()),(()))) (fun a=>qkc a.1.1 a.1.2.1))
theorem q3f:MdlOK Tryz.prog 3 jap:=nj Tryz.func3 rfl pp (.two .z (.two .z (.two .z (.two .z (.two .z (.two .z (.two .z (.two .z (.two .z (.s 4)))))))))) (sC q6f s0)
end
end Go.Proofs.YtemahcdcacmgdaaGreatDoor
