/-
  The functions compute what their models say. Made by program (mg3.py) out of the translation.
-/
import Derived.Test.YtokeielgplbdeaaZ4Md
import Derived.Test.YtokeielgplbdeaaZ4Tt
set_option linter.all false
set_option maxRecDepth 100000
namespace Go.Proofs.Ytokeielgplbdeaa
open Go.K Go.M
abbrev pe3{A0 A1 A2 A3 A4:Type}(x:A0×A1×A2×A3×A4):A3:=x.2.2.2.1
abbrev pe4{A0 A1 A2 A3 A4 A5:Type}(x:A0×A1×A2×A3×A4×A5):A4:=x.2.2.2.2.1
abbrev pe5{A0 A1 A2 A3 A4 A5 A6:Type}(x:A0×A1×A2×A3×A4×A5×A6):A5:=x.2.2.2.2.2.1
abbrev pe6{A0 A1 A2 A3 A4 A5 A6 A7:Type}(x:A0×A1×A2×A3×A4×A5×A6×A7):A6:=x.2.2.2.2.2.2.1
abbrev pe7{A0 A1 A2 A3 A4 A5 A6 A7 A8:Type}(x:A0×A1×A2×A3×A4×A5×A6×A7×A8):A7:=x.2.2.2.2.2.2.2.1
abbrev pe8{A0 A1 A2 A3 A4 A5 A6 A7 A8 A9:Type}(x:A0×A1×A2×A3×A4×A5×A6×A7×A8×A9):A8:=x.2.2.2.2.2.2.2.2.1
abbrev pe9{A0 A1 A2 A3 A4 A5 A6 A7 A8 A9 A10:Type}(x:A0×A1×A2×A3×A4×A5×A6×A7×A8×A9×A10):A9:=x.2.2.2.2.2.2.2.2.2.1
abbrev pe10{A0 A1 A2 A3 A4 A5 A6 A7 A8 A9 A10 A11:Type}(x:A0×A1×A2×A3×A4×A5×A6×A7×A8×A9×A10×A11):A10:=x.2.2.2.2.2.2.2.2.2.2.1
abbrev pe11{A0 A1 A2 A3 A4 A5 A6 A7 A8 A9 A10 A11 A12:Type}(x:A0×A1×A2×A3×A4×A5×A6×A7×A8×A9×A10×A11×A12):A11:=x.2.2.2.2.2.2.2.2.2.2.2.1
abbrev pe12{A0 A1 A2 A3 A4 A5 A6 A7 A8 A9 A10 A11 A12 A13:Type}(x:A0×A1×A2×A3×A4×A5×A6×A7×A8×A9×A10×A11×A12×A13):A12:=x.2.2.2.2.2.2.2.2.2.2.2.2.1
abbrev pe13{A0 A1 A2 A3 A4 A5 A6 A7 A8 A9 A10 A11 A12 A13 A14:Type}(x:A0×A1×A2×A3×A4×A5×A6×A7×A8×A9×A10×A11×A12×A13×A14):A13:=x.2.2.2.2.2.2.2.2.2.2.2.2.2.1
abbrev pe14{A0 A1 A2 A3 A4 A5 A6 A7 A8 A9 A10 A11 A12 A13 A14 A15:Type}(x:A0×A1×A2×A3×A4×A5×A6×A7×A8×A9×A10×A11×A12×A13×A14×A15):A14:=x.2.2.2.2.2.2.2.2.2.2.2.2.2.2.1
abbrev pe15{A0 A1 A2 A3 A4 A5 A6 A7 A8 A9 A10 A11 A12 A13 A14 A15 A16:Type}(x:A0×A1×A2×A3×A4×A5×A6×A7×A8×A9×A10×A11×A12×A13×A14×A15×A16):A15:=x.2.2.2.2.2.2.2.2.2.2.2.2.2.2.2.1
abbrev pe16{A0 A1 A2 A3 A4 A5 A6 A7 A8 A9 A10 A11 A12 A13 A14 A15 A16 A17:Type}(x:A0×A1×A2×A3×A4×A5×A6×A7×A8×A9×A10×A11×A12×A13×A14×A15×A16×A17):A16:=x.2.2.2.2.2.2.2.2.2.2.2.2.2.2.2.2.1
abbrev pe17{A0 A1 A2 A3 A4 A5 A6 A7 A8 A9 A10 A11 A12 A13 A14 A15 A16 A17 A18:Type}(x:A0×A1×A2×A3×A4×A5×A6×A7×A8×A9×A10×A11×A12×A13×A14×A15×A16×A17×A18):A17:=x.2.2.2.2.2.2.2.2.2.2.2.2.2.2.2.2.2.1
abbrev pe18{A0 A1 A2 A3 A4 A5 A6 A7 A8 A9 A10 A11 A12 A13 A14 A15 A16 A17 A18 A19:Type}(x:A0×A1×A2×A3×A4×A5×A6×A7×A8×A9×A10×A11×A12×A13×A14×A15×A16×A17×A18×A19):A18:=x.2.2.2.2.2.2.2.2.2.2.2.2.2.2.2.2.2.2.1
abbrev pe19{A0 A1 A2 A3 A4 A5 A6 A7 A8 A9 A10 A11 A12 A13 A14 A15 A16 A17 A18 A19 A20:Type}(x:A0×A1×A2×A3×A4×A5×A6×A7×A8×A9×A10×A11×A12×A13×A14×A15×A16×A17×A18×A19×A20):A19:=x.2.2.2.2.2.2.2.2.2.2.2.2.2.2.2.2.2.2.2.1
abbrev pe20{A0 A1 A2 A3 A4 A5 A6 A7 A8 A9 A10 A11 A12 A13 A14 A15 A16 A17 A18 A19 A20 A21:Type}(x:A0×A1×A2×A3×A4×A5×A6×A7×A8×A9×A10×A11×A12×A13×A14×A15×A16×A17×A18×A19×A20×A21):A20:=x.2.2.2.2.2.2.2.2.2.2.2.2.2.2.2.2.2.2.2.2.1
abbrev pe21{A0 A1 A2 A3 A4 A5 A6 A7 A8 A9 A10 A11 A12 A13 A14 A15 A16 A17 A18 A19 A20 A21 A22:Type}(x:A0×A1×A2×A3×A4×A5×A6×A7×A8×A9×A10×A11×A12×A13×A14×A15×A16×A17×A18×A19×A20×A21×A22):A21:=x.2.2.2.2.2.2.2.2.2.2.2.2.2.2.2.2.2.2.2.2.2.1
abbrev pf4{A0 A1 A2 A3 A4:Type}(x:A0×A1×A2×A3×A4):A4:=x.2.2.2.2
abbrev pf5{A0 A1 A2 A3 A4 A5:Type}(x:A0×A1×A2×A3×A4×A5):A5:=x.2.2.2.2.2
abbrev pf6{A0 A1 A2 A3 A4 A5 A6:Type}(x:A0×A1×A2×A3×A4×A5×A6):A6:=x.2.2.2.2.2.2
abbrev pf7{A0 A1 A2 A3 A4 A5 A6 A7:Type}(x:A0×A1×A2×A3×A4×A5×A6×A7):A7:=x.2.2.2.2.2.2.2
abbrev pf8{A0 A1 A2 A3 A4 A5 A6 A7 A8:Type}(x:A0×A1×A2×A3×A4×A5×A6×A7×A8):A8:=x.2.2.2.2.2.2.2.2
abbrev pf10{A0 A1 A2 A3 A4 A5 A6 A7 A8 A9 A10:Type}(x:A0×A1×A2×A3×A4×A5×A6×A7×A8×A9×A10):A10:=x.2.2.2.2.2.2.2.2.2.2
abbrev pf11{A0 A1 A2 A3 A4 A5 A6 A7 A8 A9 A10 A11:Type}(x:A0×A1×A2×A3×A4×A5×A6×A7×A8×A9×A10×A11):A11:=x.2.2.2.2.2.2.2.2.2.2.2
abbrev pf12{A0 A1 A2 A3 A4 A5 A6 A7 A8 A9 A10 A11 A12:Type}(x:A0×A1×A2×A3×A4×A5×A6×A7×A8×A9×A10×A11×A12):A12:=x.2.2.2.2.2.2.2.2.2.2.2.2
abbrev pf16{A0 A1 A2 A3 A4 A5 A6 A7 A8 A9 A10 A11 A12 A13 A14 A15 A16:Type}(x:A0×A1×A2×A3×A4×A5×A6×A7×A8×A9×A10×A11×A12×A13×A14×A15×A16):A16:=x.2.2.2.2.2.2.2.2.2.2.2.2.2.2.2.2
abbrev pf19{A0 A1 A2 A3 A4 A5 A6 A7 A8 A9 A10 A11 A12 A13 A14 A15 A16 A17 A18 A19:Type}(x:A0×A1×A2×A3×A4×A5×A6×A7×A8×A9×A10×A11×A12×A13×A14×A15×A16×A17×A18×A19):A19:=x.2.2.2.2.2.2.2.2.2.2.2.2.2.2.2.2.2.2.2
abbrev pf22{A0 A1 A2 A3 A4 A5 A6 A7 A8 A9 A10 A11 A12 A13 A14 A15 A16 A17 A18 A19 A20 A21 A22:Type}(x:A0×A1×A2×A3×A4×A5×A6×A7×A8×A9×A10×A11×A12×A13×A14×A15×A16×A17×A18×A19×A20×A21×A22):A22:=x.2.2.2.2.2.2.2.2.2.2.2.2.2.2.2.2.2.2.2.2.2.2
noncomputable section
def qin:Shp:=⟨[qj6],[]⟩
abbrev qv8:Ctx (Bool):=⟨17,tt,false,false,[],pt [],qu [],fc 17 tt [] [.tmp 2] qin (fun x=>x.1.1)⟩
theorem qv7:CtxM Try.prog qv8:=q6 fits ck m0
abbrev qec:Mdl:=(bp (.cons (.d false (.int .u8)) .nil) [] [] 1 qin (B:=Bool) (fun b=>((b,()),(()))) (fun a=>wy a.1.1))
theorem qgn:MdlOK Try.prog 96 qec:=qy Try.func96 rfl qv7 .z s0
def qn6:Shp:=⟨[qj6],[]⟩
abbrev q0r:Ctx (Bool):=⟨25,tt,false,false,[],pt [(96,qec)],qu [],fc 25 tt [] [.tmp 2] qn6 (fun x=>x.1.1)⟩
theorem q0q:CtxM Try.prog q0r:=q6 fits ck (mC qgn m0)
abbrev qq8:Mdl:=(bp (.cons (.d false (.int .u8)) .nil) [] [] 1 qn6 (B:=Bool) (fun b=>((b,()),(()))) (fun a=>qhy a.1.1))
theorem qv9:MdlOK Try.prog 97 qq8:=qy Try.func97 rfl q0q .z s0
def qim:Shp:=⟨[qj6],[]⟩
abbrev qld:Ctx (Bool):=⟨29,tt,false,false,[],pt [(96,qec),(97,qq8)],qu [bg _ 29 [] qq6 (C:=(ByteArray×Int)) (S:=Int) (fun x=>((x.1.1,x.1.2.1),x.1.2.2.1)) qq5 (CE:=Unit) (E:=Unit) (fun c e=>((()),(()))) (fun c=>()) (fun{R} c a nx dn rt=>pb c.1 c.2 a nx dn rt)],fc 29 tt [] [.tmp 2] qim (fun x=>x.1.1)⟩
theorem qlb:CtxM Try.prog qld:=q6 fits ck (mC qgn (mC qv9 m0))
theorem qss:bc Try.prog qld 0 (lc 0 Try.f77 75):=lp rfl qlb .z s0 (fun c a=>((c.1,c.2,a,()),(()))) (fun y=>((),()))
abbrev qlc:Mdl:=(bp (.cons (.d false .str) .nil) [] [] 1 qim (B:=Bool) (fun b=>((b,()),(()))) (fun a=>qad a.1.1))
theorem qq7:MdlOK Try.prog 77 qlc:=qy Try.func77 rfl qlb (.two .z (.two .z (.two (.two .z (.s 0)) .z))) (sC qss s0)
def qgx:Shp:=⟨[qj6],[]⟩
abbrev qiw:Ctx (Bool):=⟨36,tt,false,false,[],pt [],qu [bg _ 36 [] qoy (C:=(qL1×qL1×Int×Int×(List ai)×Int×Int)) (S:=Int) (fun x=>((x.1.1,x.1.2.2.1,(pe3 x.1),x.2.1.1,x.2.1.2.1,x.2.1.2.2.1,(pe3 x.2.1)),(pe4 x.1))) qox (CE:=Unit) (E:=Unit) (fun c e=>((()),(()))) (fun c=>()) (fun{R} c a nx dn rt=>kq c.1 c.2.1 c.2.2.1 (pe3 c) (pe4 c) (pe5 c) (pf6 c) a nx dn rt)],fc 36 tt [] [.tmp 4] qgx (fun x=>x.1.1)⟩
theorem qiu:CtxM Try.prog qiw:=q6 fits ck m0
theorem qrp:bc Try.prog qiw 0 (lc 0 Try.f78 37):=lp rfl qiu .z s0 (fun c a=>((c.1,(),c.2.1,c.2.2.1,a,()),(((pe3 c),(pe4 c),(pe5 c),(pf6 c),()),()))) (fun y=>((),()))
abbrev qiv:Mdl:=(bp (.cons (.d false c8.ty) (.cons (.d false qT1) .nil)) [] [] 1 qgx (B:=Bool) (fun b=>((b,()),(()))) (fun a=>jt a.1.1 a.1.2.1))
theorem qoz:MdlOK Try.prog 78 qiv:=qy Try.func78 rfl qiu (.two .z (.two (.two .z (.s 0)) .z)) (sC qrp s0)
def qit:Shp:=⟨[qj6],[]⟩
abbrev qlm:Ctx (Bool):=⟨62,tt,false,false,[],pt [(77,qlc),(78,qiv)],qu [bg _ 62 [] qrj (C:=((List ai)×Int×Int×(List ai)×Int×Int)) (S:=Int) (fun x=>((x.1.2.1,x.1.2.2.1,x.2.1.1,x.2.1.2.1,x.2.1.2.2.1,(pe3 x.2.1)),(pe3 x.1))) qri (CE:=(Int×(List ai)×Int×Int)) (E:=Unit) (fun c e=>(((),()),((c.1,c.2.1,c.2.2.1,c.2.2.2,()),()))) (fun c=>(c.2.2.1,(pe3 c),(pe4 c),(pf5 c))) (fun{R} c a nx dn rt=>s8 c.1 c.2.1 c.2.2.1 (pe3 c) (pe4 c) (pf5 c) a nx dn rt)],fc 62 tt [] [.tmp 2] qit (fun x=>x.1.1)⟩
theorem qll:CtxM Try.prog qlm:=q6 fits ck (mC qq7 (mC qoz m0))
theorem qst:bc Try.prog qlm 0 (lc 0 Try.f50 75):=lp rfl qll .z s0 (fun c a=>(((),c.1,c.2.1,a,()),((c.2.2.1,(pe3 c),(pe4 c),(pf5 c),()),()))) (fun y=>((y.2.1.1,y.2.1.2.1,y.2.1.2.2.1,(pe3 y.2.1)),()))
abbrev px:Mdl:=(bp (.cons (.d false c8.ty) .nil) [] [] 1 qit (B:=Bool) (fun b=>((b,()),(()))) (fun a=>mz a.1.1))
theorem pc:MdlOK Try.prog 50 px:=qy Try.func50 rfl qll (.two .z (.two .z (.two (.two .z (.s 0)) .z))) (sC qst s0)
def qal:Shp:=⟨[qj6],[]⟩
abbrev qne:Ctx (Bool):=⟨35,tt,false,false,[],pt [],qu [],fc 35 tt [] [.tmp 2] qal (fun x=>x.1.1)⟩
theorem qnd:CtxM Try.prog qne:=q6 fits ck m0
abbrev qc9:Mdl:=(bp (.cons (.d false af.ty) .nil) [] [] 1 qal (B:=Bool) (fun b=>((b,()),(()))) (fun a=>qw a.1.1))
theorem qjz:MdlOK Try.prog 87 qc9:=qy Try.func87 rfl qnd .z s0
def gf:Shp:=⟨[qpq],[]⟩
abbrev gu:Ctx (Int):=⟨19,tt,false,false,[],pt [(87,qc9)],qu [bg _ 19 [] mm (C:=((List af)×Int)) (S:=Int) (fun x=>((x.1.1,x.1.2.2.1),(pe3 x.1))) mj (CE:=Unit) (E:=Unit) (fun c e=>((()),(()))) (fun c=>()) (fun{R} c a nx dn rt=>bx c.1 c.2 a nx dn rt)],fc 19 tt [] [.tmp 4] gf (fun x=>x.1.1)⟩
theorem gp:CtxM Try.prog gu:=q6 fits ck (mC qjz m0)
theorem my:bc Try.prog gu 0 (lc 0 Try.f101 37):=lp rfl gp .z s0 (fun c a=>((c.1,(()),c.2,a,()),(()))) (fun y=>((),()))
abbrev gq:Mdl:=(bp (.cons (.d false (.slice af.ty)) (.cons (.fn 87 .nil) .nil)) [] [] 1 gf (B:=Int) (fun b=>((b,()),(()))) (fun a=>dl a.1.1))
theorem mn:MdlOK Try.prog 101 gq:=qy Try.func101 rfl gp (.two .z (.two (.two .z (.s 0)) .z)) (sC my s0)
def fh:Shp:=⟨[qj6],[]⟩
abbrev ly:Ctx (Bool):=⟨9,tt,false,false,[],pt [(101,gq)],qu [],fc 9 tt [] [.tmp 4] fh (fun x=>x.1.1)⟩
theorem lx:CtxM Try.prog ly:=q6 fits ck (mC mn m0)
abbrev fm:Mdl:=(bp (.cons (.d false (.slice af.ty)) (.cons (.fn 87 .nil) .nil)) [] [] 1 fh (B:=Bool) (fun b=>((b,()),(()))) (fun a=>da a.1.1))
theorem la:MdlOK Try.prog 86 fm:=qy Try.func86 rfl lx .z s0
def qfm:Shp:=⟨[qj6],[]⟩
abbrev qrx:Ctx (Bool):=⟨16,tt,false,false,[],pt [(86,fm)],qu [],fc 16 tt [] [.tmp 4] qfm (fun x=>x.1.1)⟩
theorem qrw:CtxM Try.prog qrx:=q6 fits ck (mC la m0)
abbrev qg9:Mdl:=(bp (.cons (.d false c8.ty) (.cons (.d false (.slice af.ty)) .nil)) [] [] 1 qfm (B:=Bool) (fun b=>((b,()),(()))) (fun a=>wa a.1.1 a.1.2.1))
theorem qnf:MdlOK Try.prog 62 qg9:=qy Try.func62 rfl qrw .z s0
def qag:Shp:=⟨[qj6],[]⟩
abbrev qm6:Ctx (Bool):=⟨9,tt,false,false,[],pt [],qu [],fc 9 tt [] [.tmp 2] qag (fun x=>x.1.1)⟩
theorem qm5:CtxM Try.prog qm6:=q6 fits ck m0
abbrev qck:Mdl:=(bp (.cons (.d false qT0) .nil) [] [] 1 qag (B:=Bool) (fun b=>((b,()),(()))) (fun a=>xw a.1.1))
theorem qjl:MdlOK Try.prog 83 qck:=qy Try.func83 rfl qm5 .z s0
def m9:Shp:=⟨[qpq],[]⟩
abbrev n9:Ctx (Int):=⟨19,tt,false,false,[],pt [(83,qck)],qu [bg _ 19 [] vn (C:=(qL1×Int)) (S:=Int) (fun x=>((x.1.1,x.1.2.2.1),(pe3 x.1))) vm (CE:=Unit) (E:=Unit) (fun c e=>((()),(()))) (fun c=>()) (fun{R} c a nx dn rt=>em c.1 c.2 a nx dn rt)],fc 19 tt [] [.tmp 4] m9 (fun x=>x.1.1)⟩
theorem n7:CtxM Try.prog n9:=q6 fits ck (mC qjl m0)
theorem xj:bc Try.prog n9 0 (lc 0 Try.f60 37):=lp rfl n7 .z s0 (fun c a=>((c.1,(()),c.2,a,()),(()))) (fun y=>((),()))
abbrev n8:Mdl:=(bp (.cons (.d false qT1) (.cons (.fn 83 .nil) .nil)) [] [] 1 m9 (B:=Int) (fun b=>((b,()),(()))) (fun a=>j3 a.1.1))
theorem vo:MdlOK Try.prog 60 n8:=qy Try.func60 rfl n7 (.two .z (.two (.two .z (.s 0)) .z)) (sC xj s0)
def ld:Shp:=⟨[qj6],[]⟩
abbrev t9:Ctx (Bool):=⟨9,tt,false,false,[],pt [(60,n8)],qu [],fc 9 tt [] [.tmp 4] ld (fun x=>x.1.1)⟩
theorem t8:CtxM Try.prog t9:=q6 fits ck (mC vo m0)
abbrev lu:Mdl:=(bp (.cons (.d false qT1) (.cons (.fn 83 .nil) .nil)) [] [] 1 ld (B:=Bool) (fun b=>((b,()),(()))) (fun a=>eh a.1.1))
theorem ss:MdlOK Try.prog 23 lu:=qy Try.func23 rfl t8 .z s0
def qfh:Shp:=⟨[qj6],[]⟩
abbrev qrn:Ctx (Bool):=⟨19,tt,false,false,[],pt [(50,px),(23,lu)],qu [],fc 19 tt [] [.tmp 4] qfh (fun x=>x.1.1)⟩
theorem qrm:CtxM Try.prog qrn:=q6 fits ck (mC pc (mC ss m0))
abbrev ze:Mdl:=(bp (.cons (.d false c8.ty) (.cons (.d false qT1) .nil)) [] [] 1 qfh (B:=Bool) (fun b=>((b,()),(()))) (fun a=>oh a.1.1 a.1.2.1))
theorem qcl:MdlOK Try.prog 57 ze:=qy Try.func57 rfl qrm .z s0
def qaf:Shp:=⟨[qj6],[]⟩
abbrev qm4:Ctx (Bool):=⟨9,tt,false,false,[],pt [],qu [],fc 9 tt [] [.tmp 3] qaf (fun x=>x.1.1)⟩
theorem qm3:CtxM Try.prog qm4:=q6 fits ck m0
abbrev qci:Mdl:=(bp (.cons (.d false qT0) (.cons (.rp false qT1) .nil)) [] [] 1 qaf (B:=Bool) (fun b=>((b,()),(()))) (fun a=>xu a.1.1 a.1.2.1))
theorem qjj:MdlOK Try.prog 84 qci:=qy Try.func84 rfl qm3 .z s0
def nc:Shp:=⟨[qpq],[]⟩
abbrev od:Ctx (Int):=⟨19,tt,false,false,[],pt [(84,qci)],qu [bg _ 19 [] vq (C:=(qL1×qL1×Int)) (S:=Int) (fun x=>((x.1.1,x.1.2.1.1,x.1.2.2.1),(pe3 x.1))) vp (CE:=Unit) (E:=Unit) (fun c e=>((()),(()))) (fun c=>()) (fun{R} c a nx dn rt=>eo c.1 c.2.1 c.2.2 a nx dn rt)],fc 19 tt [] [.tmp 4] nc (fun x=>x.1.1)⟩
theorem oa:CtxM Try.prog od:=q6 fits ck (mC qjj m0)
theorem xk:bc Try.prog od 0 (lc 0 Try.f60 37):=lp rfl oa .z s0 (fun c a=>((c.1,(c.2.1,()),c.2.2,a,()),(()))) (fun y=>((),()))
abbrev oc:Mdl:=(bp (.cons (.d false qT1) (.cons (.fn 84 (.cons (.rp false qT1) .nil)) .nil)) [] [] 1 nc (B:=Int) (fun b=>((b,()),(()))) (fun a=>j4 a.1.1 a.1.2.1.1))
theorem vx:MdlOK Try.prog 60 oc:=qy Try.func60 rfl oa (.two .z (.two (.two .z (.s 0)) .z)) (sC xk s0)
def lf:Shp:=⟨[qj6],[]⟩
abbrev ub:Ctx (Bool):=⟨9,tt,false,false,[],pt [(60,oc)],qu [],fc 9 tt [] [.tmp 4] lf (fun x=>x.1.1)⟩
theorem ua:CtxM Try.prog ub:=q6 fits ck (mC vx m0)
abbrev lw:Mdl:=(bp (.cons (.d false qT1) (.cons (.fn 84 (.cons (.rp false qT1) .nil)) .nil)) [] [] 1 lf (B:=Bool) (fun b=>((b,()),(()))) (fun a=>ir a.1.1 a.1.2.1.1))
theorem su:MdlOK Try.prog 23 lw:=qy Try.func23 rfl ua .z s0
def qfg:Shp:=⟨[qj6],[]⟩
abbrev qrl:Ctx (Bool):=⟨10,tt,false,false,[],pt [(23,lw)],qu [],fc 10 tt [] [.tmp 4] qfg (fun x=>x.1.1)⟩
theorem qrk:CtxM Try.prog qrl:=q6 fits ck (mC su m0)
abbrev zd:Mdl:=(bp (.cons (.d false ai.ty) (.cons (.d false qT1) .nil)) [] [] 1 qfg (B:=Bool) (fun b=>((b,()),(()))) (fun a=>qe a.1.1 a.1.2.1))
theorem qcj:MdlOK Try.prog 58 zd:=qy Try.func58 rfl qrk .z s0
def qff:Shp:=⟨[jbz,qmc],[qgi]⟩
abbrev qgr:Ctx ((Int×qL1)):=⟨30,tt,false,false,[],pt [(57,ze),(58,zd)],qu [bg _ 30 [] qm2 (C:=(qL1×(List ai)×Int)) (S:=(Int×qL1)) (fun x=>((x.1.1,x.1.2.2.1,(pe3 x.1)),((pe4 x.1),x.2.1))) qm1 (CE:=Unit) (E:=qL1) (fun c e=>(((),()),(e,()))) (fun c=>()) (fun{R} c a nx dn rt=>me c.1 c.2.1 c.2.2 a.1 a.2 nx dn rt)],fc 30 tt [] [.tmp 4, .tmp 5] qff (fun x=>(x.1.2.1,x.2.1))⟩
theorem qgq:CtxM Try.prog qgr:=q6 fits ck (mC qcl (mC qcj m0))
theorem qow:bc Try.prog qgr 0 (lc 0 Try.f21 151):=lp rfl qgq .z s0 (fun c a=>((c.1,(),c.2.1,c.2.2,a.1,()),(a.2,()))) (fun y=>((),y.2.1))
abbrev s7:Mdl:=(bp (.cons (.d false c8.ty) (.cons (.d false qT1) .nil)) [] [] 2 qff (B:=(Int×qL1)) (fun b=>(((),b.1,()),(b.2,()))) (fun a=>li a.1.1 a.1.2.1))
theorem u5:MdlOK Try.prog 21 s7:=qy Try.func21 rfl qgq (.two .z (.two .z (.two .z (.two (.two .z (.s 0)) .z)))) (sC qow s0)
def qq:Shp:=⟨[q5w],[qgi]⟩
abbrev qdh:Ctx (qL1):=⟨8,tt,false,false,[],pt [],qu [],fc 8 tt [] [.tmp 2] qq (fun x=>x.2.1)⟩
theorem qdf:CtxM Try.prog qdh:=q6 fits ck m0
abbrev qdg:Mdl:=(bp (.cons (.nl false (.d false qT1)) .nil) [] [] 1 qq (B:=qL1) (fun b=>(((),()),(b,()))) (fun a=>tn a.1.1))
theorem zx:MdlOK Try.prog 36 qdg:=qy Try.func36 rfl qdf .z s0
def ln:Shp:=⟨[q5w],[qgi]⟩
abbrev qdk:Ctx (qL1):=⟨8,tt,false,false,[],pt [],qu [],fc 8 tt [] [.tmp 2] ln (fun x=>x.2.1)⟩
theorem qdi:CtxM Try.prog qdk:=q6 fits ck m0
abbrev qdj:Mdl:=(bp (.cons (.nl true (.d false qT1)) .nil) [] [] 1 ln (B:=qL1) (fun b=>(((),()),(b,()))) (fun a=>j1 a.1.1))
theorem zy:MdlOK Try.prog 36 qdj:=qy Try.func36 rfl qdi .z s0
abbrev ot:Mdl:=(bp (.cons (.d false qT1) .nil) [] [] 1 ln (fun(b:qL1)=>(((),()),(b,()))) (fun(a:((qL1×Unit)×(Unit)))=>f6 a.1.1))
theorem sm:MdlOK Try.prog 36 ot:=by
 refine q42 (jbn _ _) zx zy (by kernel_rfl) (fun a b h=>⟨?_,h⟩);obtain⟨⟨xs,u1⟩,u2⟩:=a;cases xs with
 |nil=>exact h
 |cons x l=>
  have e:decide ((((x::l).length:Nat):Int)=0)=false:=decide_eq_false (by simp only[List.length_cons];omega);simp only[f6,j1]at h;simp only[tn,e,cond_false];exact h
def qoj:Shp:=⟨[(0, .d true .str)],[]⟩
abbrev qr9:Ctx (ByteArray):=⟨27,tt,false,false,[],pt [],qu [bg _ 27 [] qwz (C:=(qL1×Int)) (S:=(Int×qL1)) (fun x=>((x.1.2.1,x.1.2.2.1),((pe3 x.1),x.2.1))) qwy (CE:=Unit) (E:=qL1) (fun c e=>(((),()),(e,()))) (fun c=>()) (fun{R} c a nx dn rt=>yt c.1 c.2 a.1 a.2 nx dn rt)],fc 27 tt [] [.tmp 2] qoj (fun x=>x.1.1)⟩
theorem qr7:CtxM Try.prog qr9:=q6 fits ck m0
theorem qza:bc Try.prog qr9 0 (lc 0 Try.f98 75):=lp rfl qr7 .z s0 (fun c a=>(((),c.1,c.2,a.1,()),(a.2,()))) (fun y=>((),y.2.1))
abbrev qr8:Mdl:=(bp (.cons (.d false qT1) .nil) [] [] 1 qoj (B:=ByteArray) (fun b=>((b,()),(()))) (fun a=>vy a.1.1))
theorem qw0:MdlOK Try.prog 98 qr8:=qy Try.func98 rfl qr7 (.two .z (.two .z (.two (.two .z (.s 0)) .z))) (sC qza s0)
def xm:Shp:=⟨[qpq],[]⟩
abbrev yg:Ctx (Int):=⟨25,tt,false,false,[],pt [],qu [bg _ 25 [] qf8 (C:=qL1) (S:=(Int×Int)) (fun x=>(x.1.1,(x.1.2.1,x.1.2.2.1))) qf7 (CE:=Unit) (E:=Int) (fun c e=>((e,()),(()))) (fun c=>()) (fun{R} c a nx dn rt=>kg c a.1 a.2 nx dn rt)],fc 25 tt [] [.tmp 2] xm (fun x=>x.1.1)⟩
theorem ye:CtxM Try.prog yg:=q6 fits ck m0
theorem qhm:bc Try.prog yg 0 (lc 0 Try.f85 151):=lp rfl ye .z s0 (fun c a=>((c,a.1,a.2,()),(()))) (fun y=>((),y.1.1))
abbrev yf:Mdl:=(bp (.cons (.d false qT1) .nil) [] [] 1 xm (B:=Int) (fun b=>((b,()),(()))) (fun a=>nt a.1.1))
theorem qf9:MdlOK Try.prog 85 yf:=qy Try.func85 rfl ye (.two .z (.two .z (.two .z (.two (.two .z (.s 0)) .z)))) (sC qhm s0)
def qlp:Shp:=⟨[q5w,qmc],[qgi]⟩
abbrev qgv:Ctx ((Int×qL1)):=⟨66,tt,false,false,[],pt [(58,zd),(36,ot),(85,yf)],qu [bg _ 66 [] qsv (C:=(qL1×Int×ByteArray×qL1×qL1)) (S:=(Int×qL1)) (fun x=>((x.1.2.2.1,(pe3 x.1),x.2.1.1,x.2.1.2.1,x.2.1.2.2.1),((pe4 x.1),x.2.2.1))) qsu (CE:=(ByteArray×qL1×qL1)) (E:=qL1) (fun c e=>(((),(),()),((c.1,c.2.1,c.2.2,()),e,()))) (fun c=>(c.2.2.1,(pe3 c),(pf4 c))) (fun{R} c a nx dn rt=>v8 c.1 c.2.1 c.2.2.1 (pe3 c) (pf4 c) a.1 a.2 nx dn rt),bg _ 66 [] qsx (C:=(qL1×Int)) (S:=(Int×qL1)) (fun x=>((x.1.2.1,x.1.2.2.1),((pe3 x.1),x.2.1))) qsw (CE:=Unit) (E:=qL1) (fun c e=>(((),()),(e,()))) (fun c=>()) (fun{R} c a nx dn rt=>v9 c.1 c.2 a.1 a.2 nx dn rt)],fc 66 tt [] [.tmp 6, .tmp 7] qlp (fun x=>(x.1.2.1,x.2.1))⟩
theorem qgu:CtxM Try.prog qgv:=q6 fits ck (mC qcj (mC sm (mC qf9 m0)))
theorem qwh:bc Try.prog qgv 1 (lc 2 Try.f59 1215):=lp rfl qgu .z s0 (fun c a=>(((),c.1,c.2,a.1,()),(a.2,()))) (fun y=>((),y.2.1))
theorem qwg:bc Try.prog qgv 0 (lc 0 Try.f59 607):=lp rfl qgu .z s0 (fun c a=>(((),(),c.1,c.2.1,a.1,()),((c.2.2.1,(pe3 c),(pf4 c),()),a.2,()))) (fun y=>((y.2.1.1,y.2.1.2.1,y.2.1.2.2.1),y.2.2.1))
abbrev qn9:Mdl:=(bp (.cons (.d false c8.ty) (.cons (.d false qT1) (.cons (.d false qT0) .nil))) [] [] 2 qlp (B:=(Int×qL1)) (fun b=>(((),b.1,()),(b.2,()))) (fun a=>qjk a.1.1 a.1.2.1 a.1.2.2.1))
theorem qsy:MdlOK Try.prog 59 qn9:=qy Try.func59 rfl qgu (.two .z (.two .z (.two .z (.two .z (.two .z (.two (.two .z (.s 0)) (.two (.two .z (.s 1)) .z))))))) (sC qwg (sC qwh s0))
def qlk:Shp:=⟨[q5w,qmc],[qgi]⟩
abbrev qyv:Ctx ((Int×qL1)):=⟨18,tt,false,false,[],pt [(57,ze),(59,qn9)],qu [],fc 18 tt [] [.tmp 6, .tmp 7] qlk (fun x=>(x.1.2.1,x.2.1))⟩
theorem qyu:CtxM Try.prog qyv:=q6 fits ck (mC qcl (mC qsy m0))
abbrev qgt:Mdl:=(bp (.cons (.d false c8.ty) (.cons (.d false qT1) (.cons (.d false qT0) .nil))) [] [] 2 qlk (B:=(Int×qL1)) (fun b=>(((),b.1,()),(b.2,()))) (fun a=>zc a.1.1 a.1.2.1 a.1.2.2.1))
theorem qir:MdlOK Try.prog 22 qgt:=qy Try.func22 rfl qyu .z s0
def qfu:Shp:=⟨[(0, .d true j9.ty),qmc],[]⟩
abbrev zt:Ctx ((j9×Int)):=⟨126,tt,false,true,[],pt [(21,s7),(36,ot),(98,qr8),(22,qgt)],qu [bg _ 126 [] qnm (C:=(Int×Int×qL1×Int×Int×(List ai)×Int×Int×qL2×(List aq)×Bool)) (S:=(Int×Bool×(List (ByteArray×Int))×qL2×(List aq))) (fun x=>((x.1.1,(pe5 x.1),(pe6 x.1),(pe7 x.1),x.2.1.1,x.2.1.2.1,x.2.1.2.2.1,(pe3 x.2.1),x.2.2.1.1,x.2.2.1.2.1,x.2.2.1.2.2.1),((pe8 x.1),(pe3 x).2.2.1,(pe4 x),(pe5 x),(pe6 x)))) qnl (CE:=(Int×Int×Int×(List ai)×Int×Int×qL2×(List aq)×Bool)) (E:=(Bool×(List (ByteArray×Int))×qL2×(List aq))) (fun c e=>((c.1,(),(),(),(),c.2.1,()),((c.2.2.1,(pe3 c),(pe4 c),(pe5 c),()),((pe6 c),(pe7 c),(pf8 c),()),((),(),e.1,()),e.2.1,e.2.2.1,e.2.2.2,()))) (fun c=>(c.1,c.2.1,(pe4 c),(pe5 c),(pe6 c),(pe7 c),(pe8 c),(pe9 c),(pf10 c))) (fun{R} c a nx dn rt=>iu c.1 c.2.1 c.2.2.1 (pe3 c) (pe4 c) (pe5 c) (pe6 c) (pe7 c) (pe8 c) (pe9 c) (pf10 c) a.1 a.2.1 a.2.2.1 (pe3 a) (pf4 a) nx dn rt),bg _ 126 [] qno (C:=(Int×Int×(List ai)×Int×Int×qL2×(List aq)×Bool)) (S:=(Int×Bool×(List (ByteArray×Int))×qL2×(List aq))) (fun x=>((x.1.1,x.2.1.1,x.2.1.2.1,x.2.1.2.2.1,(pe3 x.2.1),x.2.2.1.1,x.2.2.1.2.1,x.2.2.1.2.2.1),((pe5 x.1),(pe3 x).2.2.1,(pe4 x),(pe5 x),(pe6 x)))) qnn (CE:=(qL2×(List aq)×Bool)) (E:=(Bool×qL2×(List aq))) (fun c e=>(((),(),()),((c.1,c.2.1,c.2.2,()),((),(),e.1,()),e.2.1,e.2.2,()))) (fun c=>((pe5 c),(pe6 c),(pf7 c))) (fun{R} c a nx dn rt=>j8 c.1 c.2.1 c.2.2.1 (pe3 c) (pe4 c) (pe5 c) (pe6 c) (pf7 c) a.1 a.2.1 a.2.2.1 (pe3 a) (pf4 a) nx dn rt)],fc 126 tt [] [.cell 6 87, .tmp 7] qfu (fun x=>(x.1.1,x.1.2.1))⟩
theorem zr:CtxM Try.prog zt:=q6 fits ck (mC u5 (mC sm (mC qw0 (mC qir m0))))
theorem qo6:bc Try.prog zt 0 (lc 2 Try.f79 78431):=lp rfl zr (.two .z (.two .z (.two (.one (.two .z (.two (.d [0,0,2,0,14,30,0,127,255,511,511,1023,4095] [] []) .z))) .z))) s0 (fun c a=>((c.1,(),(),(),(),c.2.1,c.2.2.1,(pe3 c),a.1,()),(((pe4 c),(pe5 c),(pe6 c),(pe7 c),()),((pe8 c),(pe9 c),(pf10 c),()),((),(),a.2.1,()),a.2.2.1,(pe3 a),(pf4 a),()))) (fun y=>((y.1.1,(pe5 y.1),y.2.1.1,y.2.1.2.1,y.2.1.2.2.1,(pe3 y.2.1),y.2.2.1.1,y.2.2.1.2.1,y.2.2.1.2.2.1),((pe3 y).2.2.1,(pe4 y),(pe5 y),(pe6 y))))
theorem qo7:bc Try.prog zt 1 (lc 0 Try.f79 607):=lp rfl zr (.two .z (.two (.one (.two (.d [0,0,2,0,14,30,63,127,255,255,511,2047] [] []) (.two .z (.s 0)))) .z)) (sC qo6 s0) (fun c a=>((c.1,(),(),(),(),a.1,()),((c.2.1,c.2.2.1,(pe3 c),(pe4 c),()),((pe5 c),(pe6 c),(pf7 c),()),((),(),a.2.1,()),a.2.2.1,(pe3 a),(pf4 a),()))) (fun y=>((y.2.1.1,y.2.1.2.1,y.2.1.2.2.1),(y.2.2.1.2.2.1,(pe3 y),(pe4 y))))
abbrev qhn:Mdl:=(bp (.cons (.d false c8.ty) (.cons (.d false qT1) (.cons (.d false qT0) .nil))) [] [] 2 qfu (B:=(j9×Int)) (fun b=>((b.1,b.2,()),(()))) (fun a=>wg a.1.1 a.1.2.1 a.1.2.2.1))
theorem qnp:MdlOK Try.prog 79 qhn:=qy Try.func79 rfl zr (.two .z (.two .z (.two .z (.two .z (.two .z (.two (.two .z (.s 1)) .z)))))) (sC qo7 s0)
def qoa:Shp:=⟨[q5w,qmc],[qgi]⟩
abbrev q03:Ctx ((Int×qL1)):=⟨17,tt,false,false,[],pt [(50,px)],qu [],fc 17 tt [] [.tmp 4, .tmp 5] qoa (fun x=>(x.1.2.1,x.2.1))⟩
theorem q02:CtxM Try.prog q03:=q6 fits ck (mC pc m0)
abbrev qro:Mdl:=(bp (.cons (.d false c8.ty) (.cons (.d false qT0) .nil)) [] [] 2 qoa (B:=(Int×qL1)) (fun b=>(((),b.1,()),(b.2,()))) (fun a=>qm7 a.1.1 a.1.2.1))
theorem qwi:MdlOK Try.prog 56 qro:=qy Try.func56 rfl q02 .z s0
def qiq:Shp:=⟨[q5w,qmc],[qgi]⟩
abbrev qwf:Ctx ((Int×qL1)):=⟨10,tt,false,false,[],pt [(56,qro)],qu [],fc 10 tt [] [.tmp 2, .tmp 3] qiq (fun x=>(x.1.2.1,x.2.1))⟩
theorem qwe:CtxM Try.prog qwf:=q6 fits ck (mC qwi m0)
abbrev qed:Mdl:=(bp (.cons (.d false c8.ty) .nil) [] [] 2 qiq (B:=(Int×qL1)) (fun b=>(((),b.1,()),(b.2,()))) (fun a=>w9 a.1.1))
theorem qgs:MdlOK Try.prog 19 qed:=qy Try.func19 rfl qwe .z s0
def tq:Shp:=⟨[qj6],[]⟩
abbrev uq:Ctx (Bool):=⟨26,tt,false,false,[],pt [],qu [bg _ 26 [] qdm (C:=(qL1×qL1×Int)) (S:=Int) (fun x=>((x.1.1,x.1.2.1,x.1.2.2.1),(pe3 x.1))) qdl (CE:=Unit) (E:=Unit) (fun c e=>((()),(()))) (fun c=>()) (fun{R} c a nx dn rt=>f9 c.1 c.2.1 c.2.2 a nx dn rt)],fc 26 tt [] [.tmp 4] tq (fun x=>x.1.1)⟩
theorem uo:CtxM Try.prog uq:=q6 fits ck m0
theorem qeu:bc Try.prog uq 0 (lc 0 Try.f17 75):=lp rfl uo (.two .z (.two .z (.two (.one (.two .z (.two (.d [0,0,3,7,0,0,48,112,255] [] []) .z))) .z))) s0 (fun c a=>((c.1,c.2.1,c.2.2,a,()),(()))) (fun y=>((),()))
abbrev kf:Mdl:=(bp (.cons (.d false qT1) (.cons (.d false qT1) .nil)) [] [] 1 tq (B:=Bool) (fun b=>((b,()),(()))) (fun a=>ct a.1.1 a.1.2.1))
theorem mi:MdlOK Try.prog 17 kf:=qy Try.func17 rfl uo (.two .z (.two .z (.two (.two .z (.s 0)) .z))) (sC qeu s0)
def qho:Shp:=⟨[qj6],[]⟩
abbrev qs7:Ctx (Bool):=⟨7,tt,false,false,[],pt [(17,kf)],qu [],fc 7 tt [] [.tmp 3] qho (fun x=>x.1.1)⟩
theorem qs6:CtxM Try.prog qs7:=q6 fits ck (mC mi m0)
abbrev qi5:Mdl:=(bp (.cons (.d false qT1) (.cons (.rp false qT1) .nil)) [] [] 1 qho (B:=Bool) (fun b=>((b,()),(()))) (fun a=>yr a.1.1 a.1.2.1))
theorem qo8:MdlOK Try.prog 100 qi5:=qy Try.func100 rfl qs6 .z s0
def mr:Shp:=⟨[qpq],[]⟩
abbrev m5:Ctx (Int):=⟨19,tt,false,false,[],pt [(100,qi5)],qu [bg _ 19 [] ud (C:=(qL2×qL1×Int)) (S:=Int) (fun x=>((x.1.1,x.1.2.1.1,x.1.2.2.1),(pe3 x.1))) uc (CE:=Unit) (E:=Unit) (fun c e=>((()),(()))) (fun c=>()) (fun{R} c a nx dn rt=>d9 c.1 c.2.1 c.2.2 a nx dn rt)],fc 19 tt [] [.tmp 4] mr (fun x=>x.1.1)⟩
theorem m3:CtxM Try.prog m5:=q6 fits ck (mC qo8 m0)
theorem vg:bc Try.prog m5 0 (lc 0 Try.f99 37):=lp rfl m3 .z s0 (fun c a=>((c.1,(c.2.1,()),c.2.2,a,()),(()))) (fun y=>((),()))
abbrev m4:Mdl:=(bp (.cons (.d false qT2) (.cons (.fn 100 (.cons (.rp false qT1) .nil)) .nil)) [] [] 1 mr (B:=Int) (fun b=>((b,()),(()))) (fun a=>jj a.1.1 a.1.2.1.1))
theorem ue:MdlOK Try.prog 99 m4:=qy Try.func99 rfl m3 (.two .z (.two (.two .z (.s 0)) .z)) (sC vg s0)
def ql1:Shp:=⟨[qpq],[]⟩
abbrev qy9:Ctx (Int):=⟨9,tt,false,false,[],pt [(99,m4)],qu [],fc 9 tt [] [.tmp 4] ql1 (fun x=>x.1.1)⟩
theorem qy8:CtxM Try.prog qy9:=q6 fits ck (mC ue m0)
abbrev qoh:Mdl:=(bp (.cons (.d false j9.ty) (.cons (.d false qT1) .nil)) [] [] 1 ql1 (B:=Int) (fun b=>((b,()),(()))) (fun a=>qew a.1.1 a.1.2.1))
theorem qs8:MdlOK Try.prog 80 qoh:=qy Try.func80 rfl qy8 .z s0
def qak:Shp:=⟨[qpc,qmc],[]⟩
abbrev p1:Ctx (((List (Int×(List ab)))×Int×Int×Int)):=⟨139,tt,false,false,[],pt [(21,s7),(79,qhn),(19,qed),(80,qoh)],qu [bg _ 139 [] qjs (C:=((List aq)×Int×(List (Int×(List ab)))×Int×Int×qL2×(List aq)×Bool×Int×Int×(List (Int×(List ab))))) (S:=(Bool×Int×(List Bool))) (fun x=>(((pe5 x.1),(pe6 x.1),x.2.1.1,x.2.1.2.1,x.2.1.2.2.1,x.2.2.1.1,x.2.2.1.2.1,x.2.2.1.2.2.1,(pe3 x).2.1,(pe3 x).2.2.1,(pe5 x)),((pe4 x.1),(pe7 x.1),(pe4 x)))) qjr (CE:=((List (Int×(List ab)))×Int×Int×qL2×(List aq)×Bool×Int×Int×(List (Int×(List ab))))) (E:=(Bool×(List Bool))) (fun c e=>(((),(),(),(),e.1,()),((c.1,c.2.1,c.2.2.1,()),((pe3 c),(pe4 c),(pe5 c),()),((),(pe6 c),(pe7 c),()),e.2,(pf8 c),()))) (fun c=>(c.2.2.1,(pe3 c),(pe4 c),(pe5 c),(pe6 c),(pe7 c),(pe8 c),(pe9 c),(pf10 c))) (fun{R} c a nx dn rt=>im c.1 c.2.1 c.2.2.1 (pe3 c) (pe4 c) (pe5 c) (pe6 c) (pe7 c) (pe8 c) (pe9 c) (pf10 c) a.1 a.2.1 a.2.2 nx dn rt),bg _ 139 [] qju (C:=((List (Int×(List ab)))×Int×Int×qL2×(List aq)×Bool×Int×Int×(List (Int×(List ab))))) (S:=(Bool×(List Bool))) (fun x=>((x.2.1.1,x.2.1.2.1,x.2.1.2.2.1,x.2.2.1.1,x.2.2.1.2.1,x.2.2.1.2.2.1,(pe3 x).2.1,(pe3 x).2.2.1,(pe5 x)),((pe4 x.1),(pe4 x)))) qjt (CE:=((List (Int×(List ab)))×Int×Int×qL2×(List aq)×Bool×Int×Int×(List (Int×(List ab))))) (E:=(List Bool)) (fun c e=>(((),(),(),(),()),((c.1,c.2.1,c.2.2.1,()),((pe3 c),(pe4 c),(pe5 c),()),((),(pe6 c),(pe7 c),()),e,(pf8 c),()))) (fun c=>(c.1,c.2.1,c.2.2.1,(pe3 c),(pe4 c),(pe5 c),(pe6 c),(pe7 c),(pf8 c))) (fun{R} c a nx dn rt=>io c.1 c.2.1 c.2.2.1 (pe3 c) (pe4 c) (pe5 c) (pe6 c) (pe7 c) (pf8 c) a.1 a.2 nx dn rt),bg _ 139 [] qjw (C:=((List Bool)×(List aq)×Int×(List (Int×(List ab)))×Int×Int×Int×Int)) (S:=(Int×(List (Int×(List ab))))) (fun x=>((x.1.2.2.1,(pe3 x.1),(pe4 x.1),x.2.1.1,x.2.1.2.1,x.2.1.2.2.1,x.2.2.1.2.1,x.2.2.1.2.2.1),((pe5 x.1),(pe3 x)))) qjv (CE:=((List (Int×(List ab)))×Int×Int×Int×Int)) (E:=(List (Int×(List ab)))) (fun c e=>(((),(),()),((c.1,c.2.1,c.2.2.1,()),((),(pe3 c),(pf4 c),()),e,()))) (fun c=>((pe3 c),(pe4 c),(pe5 c),(pe6 c),(pf7 c))) (fun{R} c a nx dn rt=>fp c.1 c.2.1 c.2.2.1 (pe3 c) (pe4 c) (pe5 c) (pe6 c) (pf7 c) a.1 a.2 nx dn rt)],fc 139 tt [] [.cell 6 77, .tmp 7] qak (fun x=>(x.1.1.1,x.1.1.2.1,x.1.1.2.2.1,x.1.2.1))⟩
theorem pz:CtxM Try.prog p1:=q6 fits ck (mC u5 (mC qnp (mC qgs (mC qs8 m0))))
theorem qls:bc Try.prog p1 0 (lc 2 Try.f51 2529279):=lp rfl pz .z s0 (fun c a=>(((),(),(),(),a.1,c.1,c.2.1,a.2.1,()),((c.2.2.1,(pe3 c),(pe4 c),()),((pe5 c),(pe6 c),(pe7 c),()),((),(pe8 c),(pe9 c),()),a.2.2,(pf10 c),()))) (fun y=>((y.2.1.1,y.2.1.2.1,y.2.1.2.2.1,y.2.2.1.1,y.2.2.1.2.1,y.2.2.1.2.2.1,(pe3 y).2.1,(pe3 y).2.2.1,(pe5 y)),((pe4 y.1),(pe4 y))))
theorem qlu:bc Try.prog p1 2 (lc 4 Try.f51 77823):=lp rfl pz (.two .z (.two .z (.two (.one (.two .z (.two .z (.two (.d [0,1,0,4,0,16,0,64,240,0,512,0,2048,7680,15872,32752,65535] [15,16] []) .z)))) .z))) s0 (fun c a=>(((),(),c.1,c.2.1,c.2.2.1,a.1,()),(((pe3 c),(pe4 c),(pe5 c),()),((),(pe6 c),(pf7 c),()),a.2,()))) (fun y=>((y.2.1.1,y.2.1.2.1,y.2.1.2.2.1,y.2.2.1.2.1,y.2.2.1.2.2.1),(pe3 y)))
theorem qlt:bc Try.prog p1 1 (lc 0 Try.f51 38911):=lp rfl pz (.two .z (.one (.two .z (.two .z (.s 0))))) (sC qls s0) (fun c a=>(((),(),(),(),a.1,()),((c.1,c.2.1,c.2.2.1,()),((pe3 c),(pe4 c),(pe5 c),()),((),(pe6 c),(pe7 c),()),a.2,(pf8 c),()))) (fun y=>((y.2.1.1,y.2.1.2.1,y.2.1.2.2.1,y.2.2.1.1,y.2.2.1.2.1,y.2.2.1.2.2.1,(pe3 y).2.1,(pe3 y).2.2.1,(pe5 y)),(pe4 y)))
abbrev p0:Mdl:=(bp (.cons (.d false c8.ty) (.cons (.d false qT1) (.cons (.d false qT0) .nil))) [] [] 2 qak (B:=((List (Int×(List ab)))×Int×Int×Int)) (fun b=>(((b.1,b.2.1,b.2.2.1,()),b.2.2.2,()),(()))) (fun a=>ao a.1.1 a.1.2.1 a.1.2.2.1))
theorem q8:MdlOK Try.prog 51 p0:=qy Try.func51 rfl pz (.two .z (.two .z (.two .z (.two .z (.two .z (.two .z (.two .z (.two (.d [0,0,0,6,0,16,48,127,0,511] [9] []) (.two .z (.two .z (.two .z (.two (.two .z (.s 1)) (.two (.two .z (.s 2)) .z))))))))))))) (sC qlt (sC qlu s0))
def qfl:Shp:=⟨[qpc,qmc],[]⟩
abbrev qrv:Ctx (((List (Int×(List ab)))×Int×Int×Int)):=⟨26,tt,false,false,[],pt [(50,px),(62,qg9),(51,p0)],qu [],fc 26 tt [] [.cell 8 77, .tmp 9] qfl (fun x=>(x.1.1.1,x.1.1.2.1,x.1.1.2.2.1,x.1.2.1))⟩
theorem qru:CtxM Try.prog qrv:=q6 fits ck (mC pc (mC qnf (mC q8 m0)))
abbrev tc:Mdl:=(bp (.cons (.d false c8.ty) (.cons (.d false qT1) (.cons (.d false (.slice af.ty)) (.cons (.d false qT0) .nil)))) [] [] 2 qfl (B:=((List (Int×(List ab)))×Int×Int×Int)) (fun b=>(((b.1,b.2.1,b.2.2.1,()),b.2.2.2,()),(()))) (fun a=>bk a.1.1 a.1.2.1 a.1.2.2.1 (pe3 a.1)))
theorem u6:MdlOK Try.prog 41 tc:=qy Try.func41 rfl qru .z s0
def ul:Shp:=⟨[qpq,(1, .d true .bool)],[]⟩
abbrev qg8:Ctx ((Int×Bool)):=⟨14,tt,false,false,[],pt [],qu [],fc 14 tt [] [.tmp 2, .tmp 3] ul (fun x=>(x.1.1,x.1.2.1))⟩
theorem qg7:CtxM Try.prog qg8:=q6 fits ck m0
abbrev fx:Mdl:=(bp (.cons (.agg (.cons (.dm false qT0 (.slice ab.ty)) (.cons (.d false qT0) (.cons (.d false qT0) .nil)))) .nil) [] [] 2 ul (B:=(Int×Bool)) (fun b=>((b.1,b.2,()),(()))) (fun a=>ax a.1.1.1 a.1.1.2.1 a.1.1.2.2.1))
theorem gm:MdlOK Try.prog 42 fx:=qy Try.func42 rfl qg7 (.two .z (.two .z (.two (.d [0,1,0,4,12,28,60,3,255] [] []) .z))) s0
def ov:Shp:=⟨[qpq],[]⟩
abbrev zh:Ctx (Int):=⟨9,tt,false,false,[],pt [],qu [],fc 9 tt [] [.tmp 3] ov (fun x=>x.1.1)⟩
theorem zg:CtxM Try.prog zh:=q6 fits ck m0
abbrev pg:Mdl:=(bp (.cons (.d false qT0) (.cons (.rp false (.slice af.ty)) .nil)) [] [] 1 ov (B:=Int) (fun b=>((b,()),(()))) (fun a=>ey a.1.1 a.1.2.1))
theorem xy:MdlOK Try.prog 81 pg:=qy Try.func81 rfl zg .z s0
def yc:Shp:=⟨[qj6],[]⟩
abbrev qjy:Ctx (Bool):=⟨34,tt,false,false,[],pt [],qu [],fc 34 tt [] [.tmp 6] yc (fun x=>x.1.1)⟩
theorem qjx:CtxM Try.prog qjy:=q6 fits ck m0
abbrev nm:Mdl:=(bp (.cons (.d false ae.ty) (.cons (.d false ae.ty) (.cons (.d false .bool) .nil))) [] [] 1 yc (B:=Bool) (fun b=>((b,()),(()))) (fun a=>je a.1.1 a.1.2.1 a.1.2.2.1))
theorem pj:MdlOK Try.prog 92 nm:=qy Try.func92 rfl qjx .z s0
def rx:Shp:=⟨[q5w],[qie]⟩
abbrev jx:Ctx ((List ae)):=⟨77,tt,false,false,[],pt [(81,pg),(92,nm)],qu [bg _ 77 [] qbd (C:=((List af)×Bool×Int×Int×Int×(List (Int×(List ab)))×Nat×(List ab)×Int×(List (Int×(List ab)))×Int×Int)) (S:=(Bool×Int×(List ae))) (fun x=>((x.1.1.1,x.1.2.1,(pe5 x.1),(pe6 x.1),(pe7 x.1),(pe8 x.1),(pe9 x.1),(pe10 x.1),(pe11 x.1),x.2.1.1,x.2.1.2.1,x.2.1.2.2.1),((pe4 x.1),(pe12 x.1),x.2.2.1))) qbc (CE:=((List af)×Bool×Int×Int×(List (Int×(List ab)))×Nat×(List (Int×(List ab)))×Int×Int)) (E:=(Bool×(List ae))) (fun c e=>(((c.1,()),c.2.1,(),(),e.1,c.2.2.1,(pe3 c),(pe4 c),(pe5 c),()),(((pe6 c),(pe7 c),(pf8 c),()),e.2,()))) (fun c=>(c.1,c.2.1,(pe3 c),(pe4 c),(pe5 c),(pe6 c),(pe9 c),(pe10 c),(pf11 c))) (fun{R} c a nx dn rt=>qi c.1 c.2.1 c.2.2.1 (pe3 c) (pe4 c) (pe5 c) (pe7 c) (pe8 c) (pe9 c) (pe10 c) (pf11 c) a.1 a.2.1 a.2.2 nx dn rt),u7 _ 77 tt false [] (rc Try.f71 10647) qbe (C:=((List af)×Bool×Int×Int×(List (Int×(List ab)))×(List (Int×(List ab)))×Int×Int)) (S:=(Bool×(List ae))) (fun x=>((x.1.1.1,x.1.2.1,(pe5 x.1),(pe6 x.1),(pe7 x.1),x.2.1.1,x.2.1.2.1,x.2.1.2.2.1),((pe4 x.1),x.2.2.1))) (fun c a=>(((c.1,()),c.2.1,(),(),a.1,c.2.2.1,(pe3 c),(pe4 c),()),(((pe5 c),(pe6 c),(pf7 c),()),a.2,()))) (fun c=>(pe4 c)) (fun{R} c a en nx rt=>qj c.1 c.2.1 c.2.2.1 (pe3 c) (pe4 c) (pe5 c) (pe6 c) (pf7 c) a.1 a.2 en nx rt),qmv _ 77 [] qbg (C:=((List af)×Bool×Int×(List (Int×(List ab)))×Int×Int)) (S:=(Int×(List ae))) (fun x=>((x.1.1.1,x.1.2.1,(pe4 x.1),x.2.1.1,x.2.1.2.1,x.2.1.2.2.1),((pe5 x.1),x.2.2.1))) qbf (CE:=Unit) (E:=(List ae)) (fun c e=>(((),()),(e,()))) (fun c=>()) (fun{R} c a nx dn rt=>qk c.1 c.2.1 c.2.2.1 (pe3 c) (pe4 c) (pf5 c) a.1 a.2 nx dn rt)],fc 77 tt [] [.tmp 6] rx (fun x=>x.2.1)⟩
theorem jw:CtxM Try.prog jx:=q6 fits ck (mC xy (mC pj m0))
theorem qcu:bc Try.prog jx 0 (lc 4 Try.f71 10168727):=lp rfl jw (.two .z (.two .z (.two (.one (.two .z (.two .z (.two .z (.two (.d [0,1,0,0,8,28,63,127,255] [8] []) (.two .z (.two (.d [0,0,0,6,14,0,63] [] []) .z))))))) .z))) s0 (fun c a=>(((c.1,()),c.2.1,(),(),a.1,c.2.2.1,(pe3 c),(pe4 c),(pe5 c),(pe6 c),(pe7 c),(pe8 c),a.2.1,()),(((pe9 c),(pe10 c),(pf11 c),()),a.2.2,()))) (fun y=>((y.1.1.1,y.1.2.1,(pe5 y.1),(pe6 y.1),(pe7 y.1),(pe8 y.1),y.2.1.1,y.2.1.2.1,y.2.1.2.2.1),((pe4 y.1),y.2.2.1)))
theorem qcv:bc Try.prog jx 1 ((rc Try.f71 10647).code):=rl qT0 (.slice ab.ty) rfl jw (.two .z (.s 0)) (sC qcu s0) 75 28 29 30 32 false rfl
theorem qcw:bc Try.prog jx 2 (lc 0 Try.f71 151):=nl rfl jw (.two .z (.two .z (.two (.one (.two .z (.two (.s 1) .z))) .z))) (sC qcv s0) (fun c a=>(((c.1,()),c.2.1,(),(),c.2.2.1,a.1,()),(((pe3 c),(pe4 c),(pf5 c),()),a.2,()))) (fun y=>((),y.2.1))
abbrev te:Mdl:=(bp (.cons (.agg (.cons (.dm false qT0 (.slice ab.ty)) (.cons (.d false qT0) (.cons (.d false qT0) .nil)))) (.cons (.fn 81 (.cons (.rp false (.slice af.ty)) .nil)) (.cons (.d false .bool) .nil))) [] [] 1 rx (B:=(List ae)) (fun b=>(((),()),(b,()))) (fun a=>oj a.1.1.1 a.1.1.2.1 a.1.1.2.2.1 a.1.2.1.1 a.1.2.2.1))
theorem qbh:MdlOK Try.prog 71 te:=qy Try.func71 rfl jw (.two .z (.two .z (.two .z (.two (.two .z (.s 2)) .z)))) (sC qcw s0)
def uj:Shp:=⟨[qj6],[]⟩
abbrev pe:Ctx (Bool):=⟨51,tt,false,false,[],pt [],qu [bg _ 51 [] qeg (C:=(Int×(List ab)×Int×(List (Int×(List ab)))×Int×Int)) (S:=(Int×(List (Int×Bool))×qL1)) (fun x=>((x.1.1,(pe4 x.1),(pe5 x.1),x.2.1.1,x.2.1.2.1,x.2.1.2.2.1),((pe6 x.1),x.2.2.1,(pe3 x)))) qef (CE:=(Int×(List (Int×(List ab)))×Int×Int)) (E:=((List (Int×Bool))×qL1)) (fun c e=>((c.1,(),(),(),()),((c.2.1,c.2.2.1,c.2.2.2,()),e.1,e.2,()))) (fun c=>(c.1,(pe3 c),(pe4 c),(pf5 c))) (fun{R} c a nx dn rt=>gk c.1 c.2.1 c.2.2.1 (pe3 c) (pe4 c) (pf5 c) a.1 a.2.1 a.2.2 nx dn rt),bg _ 51 [] qei (C:=(Int×(List (Int×(List ab)))×Int×Int)) (S:=((List (Int×Bool))×qL1)) (fun x=>((x.1.1,x.2.1.1,x.2.1.2.1,x.2.1.2.2.1),(x.2.2.1,(pe3 x)))) qeh (CE:=Unit) (E:=Unit) (fun c e=>((()),(()))) (fun c=>()) (fun{R} c a nx dn rt=>di c.1 c.2.1 c.2.2.1 c.2.2.2 a.1 a.2 nx dn rt)],fc 51 tt [] [.tmp 6] uj (fun x=>x.1.1)⟩
theorem pd:CtxM Try.prog pe:=q6 fits ck m0
theorem qfy:bc Try.prog pe 0 (lc 2 Try.f75 9803):=lp rfl pd .z s0 (fun c a=>((c.1,(),(),(),c.2.1,c.2.2.1,a.1,()),(((pe3 c),(pe4 c),(pf5 c),()),a.2.1,a.2.2,()))) (fun y=>((y.1.1,y.2.1.1,y.2.1.2.1,y.2.1.2.2.1),(y.2.2.1,(pe3 y))))
theorem qfz:bc Try.prog pe 1 (lc 0 Try.f75 75):=lp rfl pd (.two .z (.two (.one (.two .z (.two (.d [0,1,0,4,12,31,63,0] [] []) (.s 0)))) .z)) (sC qfy s0) (fun c a=>((c.1,(),(),(),()),((c.2.1,c.2.2.1,c.2.2.2,()),a.1,a.2,()))) (fun y=>((),()))
abbrev xd:Mdl:=(bp (.cons (.agg (.cons (.dm false qT0 (.slice ab.ty)) (.cons (.d false qT0) (.cons (.d false qT0) .nil)))) (.cons (.d false qT0) (.cons (.d false qT0) .nil))) [] [] 1 uj (B:=Bool) (fun b=>((b,()),(()))) (fun a=>l0 a.1.1.1 a.1.1.2.1 a.1.1.2.2.1 a.1.2.1 a.1.2.2.1))
theorem qej:MdlOK Try.prog 75 xd:=qy Try.func75 rfl pd (.two .z (.two .z (.two (.two .z (.s 1)) .z))) (sC qfz s0)
def xe:Shp:=⟨[qj6],[]⟩
abbrev jo:Ctx (Bool):=⟨81,tt,false,false,[],pt [(75,xd)],qu [bg _ 81 [] qf1 (C:=((List af)×(List ab)×Int×(List (Int×(List ab)))×Int×Int)) (S:=(Int×(List (Int×Bool))×qL1)) (fun x=>((x.1.1,(pe4 x.1),(pe5 x.1),x.2.1.1,x.2.1.2.1,x.2.1.2.2.1),((pe6 x.1),x.2.2.1,(pe3 x)))) qf0 (CE:=((List af)×(List (Int×(List ab)))×Int×Int)) (E:=((List (Int×Bool))×qL1)) (fun c e=>((c.1,(),(),(),()),((c.2.1,c.2.2.1,c.2.2.2,()),e.1,e.2,()))) (fun c=>(c.1,(pe3 c),(pe4 c),(pf5 c))) (fun{R} c a nx dn rt=>bz c.1 c.2.1 c.2.2.1 (pe3 c) (pe4 c) (pf5 c) a.1 a.2.1 a.2.2 nx dn rt),bg _ 81 [] qf3 (C:=((List af)×(List (Int×(List ab)))×Int×Int)) (S:=((List (Int×Bool))×qL1)) (fun x=>((x.1.1,x.2.1.1,x.2.1.2.1,x.2.1.2.2.1),(x.2.2.1,(pe3 x)))) qf2 (CE:=((List af)×(List (Int×(List ab)))×Int×Int)) (E:=(List (Int×Bool))) (fun c e=>((c.1,(),(),()),((c.2.1,c.2.2.1,c.2.2.2,()),e,()))) (fun c=>(c.1,c.2.1,c.2.2.1,c.2.2.2)) (fun{R} c a nx dn rt=>b7 c.1 c.2.1 c.2.2.1 c.2.2.2 a.1 a.2 nx dn rt),bg _ 81 [] qf5 (C:=((List af)×Int×(List (Int×Bool))×Nat×(List ab)×Int×(List (Int×(List ab)))×Int×Int)) (S:=Int) (fun x=>((x.1.1,x.1.2.2.1,(pe3 x.1),(pe4 x.1),(pe5 x.1),(pe6 x.1),x.2.1.1,x.2.1.2.1,x.2.1.2.2.1),(pe7 x.1))) qf4 (CE:=((List af)×(List (Int×Bool))×Nat×(List (Int×(List ab)))×Int×Int)) (E:=Unit) (fun c e=>((c.1,(),c.2.1,c.2.2.1,()),(((pe3 c),(pe4 c),(pf5 c),()),()))) (fun c=>(c.1,c.2.2.1,(pe3 c),(pe6 c),(pe7 c),(pf8 c))) (fun{R} c a nx dn rt=>a9 c.1 c.2.1 c.2.2.1 (pe4 c) (pe5 c) (pe6 c) (pe7 c) (pf8 c) a nx dn rt),u7 _ 81 tt false [] (rc Try.f47 23) qf6 (C:=((List af)×(List (Int×Bool))×(List (Int×(List ab)))×Int×Int)) (S:=Unit) (fun x=>((x.1.1,x.1.2.2.1,x.2.1.1,x.2.1.2.1,x.2.1.2.2.1),())) (fun c a=>((c.1,(),c.2.1,()),((c.2.2.1,(pe3 c),(pf4 c),()),()))) (fun c=>c.2.1) (fun{R} c a en nx rt=>ie c.1 c.2.1 c.2.2.1 (pe3 c) (pf4 c) en nx rt)],fc 81 tt [] [.tmp 4] xe (fun x=>x.1.1)⟩
theorem jm:CtxM Try.prog jo:=q6 fits ck (mC qej m0)
theorem qg5:bc Try.prog jo 2 (lc 6 Try.f47 19863):=lp rfl jm .z s0 (fun c a=>((c.1,(),c.2.1,c.2.2.1,(pe3 c),(pe4 c),(pe5 c),a,()),(((pe6 c),(pe7 c),(pf8 c),()),()))) (fun y=>((y.1.1,y.1.2.2.1,(pe3 y.1),y.2.1.1,y.2.1.2.1,y.2.1.2.2.1),()))
theorem qg3:bc Try.prog jo 0 (lc 2 Try.f47 4683):=lp rfl jm .z s0 (fun c a=>((c.1,(),(),(),c.2.1,c.2.2.1,a.1,()),(((pe3 c),(pe4 c),(pf5 c),()),a.2.1,a.2.2,()))) (fun y=>((y.1.1,y.2.1.1,y.2.1.2.1,y.2.1.2.2.1),(y.2.2.1,(pe3 y))))
theorem qg4:bc Try.prog jo 1 (lc 0 Try.f47 75):=lp rfl jm (.two .z (.two (.one (.two (.d [0,1,0,4,12,31,63,0] [] []) (.s 0))) .z)) (sC qg3 s0) (fun c a=>((c.1,(),(),(),()),((c.2.1,c.2.2.1,c.2.2.2,()),a.1,a.2,()))) (fun y=>((y.1.1,y.2.1.1,y.2.1.2.1,y.2.1.2.2.1),y.2.2.1))
theorem qg6:bc Try.prog jo 3 ((rc Try.f47 23).code):=rl qT0 .bool rfl jm (.two .z (.s 2)) (sC qg5 s0) 128 51 52 53 55 true rfl
abbrev qa:Mdl:=(bp (.cons (.agg (.cons (.dm false qT0 (.slice ab.ty)) (.cons (.d false qT0) (.cons (.d false qT0) .nil)))) (.cons (.d false (.slice af.ty)) .nil)) [] [] 1 xe (B:=Bool) (fun b=>((b,()),(()))) (fun a=>cx a.1.1.1 a.1.1.2.1 a.1.1.2.2.1 a.1.2.1))
theorem uk:MdlOK Try.prog 47 qa:=qy Try.func47 rfl jm (.two .z (.two .z (.two (.two .z (.s 1)) (.two (.s 3) .z)))) (sC qg4 (sC qg6 s0))
def ow:Shp:=⟨[qpq],[]⟩
abbrev zj:Ctx (Int):=⟨9,tt,false,false,[],pt [],qu [],fc 9 tt [] [.tmp 3] ow (fun x=>x.1.1)⟩
theorem zi:CtxM Try.prog zj:=q6 fits ck m0
abbrev ph:Mdl:=(bp (.cons (.d false qT0) (.cons (.rp false (.slice af.ty)) .nil)) [] [] 1 ow (B:=Int) (fun b=>((b,()),(()))) (fun a=>ez a.1.1 a.1.2.1))
theorem xz:MdlOK Try.prog 82 ph:=qy Try.func82 rfl zi .z s0
def ry:Shp:=⟨[q5w],[qie]⟩
abbrev jz:Ctx ((List ae)):=⟨77,tt,false,false,[],pt [(82,ph),(92,nm)],qu [bg _ 77 [] qbj (C:=((List af)×Bool×Int×Int×Int×(List (Int×(List ab)))×Nat×(List ab)×Int×(List (Int×(List ab)))×Int×Int)) (S:=(Bool×Int×(List ae))) (fun x=>((x.1.1.1,x.1.2.1,(pe5 x.1),(pe6 x.1),(pe7 x.1),(pe8 x.1),(pe9 x.1),(pe10 x.1),(pe11 x.1),x.2.1.1,x.2.1.2.1,x.2.1.2.2.1),((pe4 x.1),(pe12 x.1),x.2.2.1))) qbi (CE:=((List af)×Bool×Int×Int×(List (Int×(List ab)))×Nat×(List (Int×(List ab)))×Int×Int)) (E:=(Bool×(List ae))) (fun c e=>(((c.1,()),c.2.1,(),(),e.1,c.2.2.1,(pe3 c),(pe4 c),(pe5 c),()),(((pe6 c),(pe7 c),(pf8 c),()),e.2,()))) (fun c=>(c.1,c.2.1,(pe3 c),(pe4 c),(pe5 c),(pe6 c),(pe9 c),(pe10 c),(pf11 c))) (fun{R} c a nx dn rt=>ql c.1 c.2.1 c.2.2.1 (pe3 c) (pe4 c) (pe5 c) (pe7 c) (pe8 c) (pe9 c) (pe10 c) (pf11 c) a.1 a.2.1 a.2.2 nx dn rt),u7 _ 77 tt false [] (rc Try.f71 10647) qbk (C:=((List af)×Bool×Int×Int×(List (Int×(List ab)))×(List (Int×(List ab)))×Int×Int)) (S:=(Bool×(List ae))) (fun x=>((x.1.1.1,x.1.2.1,(pe5 x.1),(pe6 x.1),(pe7 x.1),x.2.1.1,x.2.1.2.1,x.2.1.2.2.1),((pe4 x.1),x.2.2.1))) (fun c a=>(((c.1,()),c.2.1,(),(),a.1,c.2.2.1,(pe3 c),(pe4 c),()),(((pe5 c),(pe6 c),(pf7 c),()),a.2,()))) (fun c=>(pe4 c)) (fun{R} c a en nx rt=>qm c.1 c.2.1 c.2.2.1 (pe3 c) (pe4 c) (pe5 c) (pe6 c) (pf7 c) a.1 a.2 en nx rt),qmv _ 77 [] qbm (C:=((List af)×Bool×Int×(List (Int×(List ab)))×Int×Int)) (S:=(Int×(List ae))) (fun x=>((x.1.1.1,x.1.2.1,(pe4 x.1),x.2.1.1,x.2.1.2.1,x.2.1.2.2.1),((pe5 x.1),x.2.2.1))) qbl (CE:=Unit) (E:=(List ae)) (fun c e=>(((),()),(e,()))) (fun c=>()) (fun{R} c a nx dn rt=>qn c.1 c.2.1 c.2.2.1 (pe3 c) (pe4 c) (pf5 c) a.1 a.2 nx dn rt)],fc 77 tt [] [.tmp 6] ry (fun x=>x.2.1)⟩
theorem jy:CtxM Try.prog jz:=q6 fits ck (mC xz (mC pj m0))
theorem qcz:bc Try.prog jz 0 (lc 4 Try.f71 10168727):=lp rfl jy (.two .z (.two .z (.two (.one (.two .z (.two .z (.two .z (.two (.d [0,1,0,0,8,28,63,127,255] [8] []) (.two .z (.two (.d [0,0,0,6,14,0,63] [] []) .z))))))) .z))) s0 (fun c a=>(((c.1,()),c.2.1,(),(),a.1,c.2.2.1,(pe3 c),(pe4 c),(pe5 c),(pe6 c),(pe7 c),(pe8 c),a.2.1,()),(((pe9 c),(pe10 c),(pf11 c),()),a.2.2,()))) (fun y=>((y.1.1.1,y.1.2.1,(pe5 y.1),(pe6 y.1),(pe7 y.1),(pe8 y.1),y.2.1.1,y.2.1.2.1,y.2.1.2.2.1),((pe4 y.1),y.2.2.1)))
theorem qc0:bc Try.prog jz 1 ((rc Try.f71 10647).code):=rl qT0 (.slice ab.ty) rfl jy (.two .z (.s 0)) (sC qcz s0) 75 28 29 30 32 false rfl
theorem qc1:bc Try.prog jz 2 (lc 0 Try.f71 151):=nl rfl jy (.two .z (.two .z (.two (.one (.two .z (.two (.s 1) .z))) .z))) (sC qc0 s0) (fun c a=>(((c.1,()),c.2.1,(),(),c.2.2.1,a.1,()),(((pe3 c),(pe4 c),(pf5 c),()),a.2,()))) (fun y=>((),y.2.1))
abbrev tf:Mdl:=(bp (.cons (.agg (.cons (.dm false qT0 (.slice ab.ty)) (.cons (.d false qT0) (.cons (.d false qT0) .nil)))) (.cons (.fn 82 (.cons (.rp false (.slice af.ty)) .nil)) (.cons (.d false .bool) .nil))) [] [] 1 ry (B:=(List ae)) (fun b=>(((),()),(b,()))) (fun a=>ol a.1.1.1 a.1.1.2.1 a.1.1.2.2.1 a.1.2.1.1 a.1.2.2.1))
theorem qbn:MdlOK Try.prog 71 tf:=qy Try.func71 rfl jy (.two .z (.two .z (.two .z (.two (.two .z (.s 2)) .z)))) (sC qc1 s0)
def p6:Shp:=⟨[jb3],[]⟩
abbrev qbp:Ctx (af):=⟨25,tt,false,false,[],pt [(71,te),(71,tf),(47,qa)],qu [],fc 25 tt [] [.cell 4 40] p6 (fun x=>x.1.1)⟩
theorem qbo:CtxM Try.prog qbp:=q6 fits ck (mC qbh (mC qbn (mC uk m0)))
abbrev lj:Mdl:=(bp (.cons (.agg (.cons (.dm false qT0 (.slice ab.ty)) (.cons (.d false qT0) (.cons (.d false qT0) .nil)))) (.cons (.d false (.slice af.ty)) .nil)) [] [] 1 p6 (B:=af) (fun b=>((b,()),(()))) (fun a=>fy a.1.1.1 a.1.1.2.1 a.1.1.2.2.1 a.1.2.1))
theorem pi:MdlOK Try.prog 55 lj:=qy Try.func55 rfl qbo .z s0
def ya:Shp:=⟨[jb3,qmc],[]⟩
abbrev qjn:Ctx ((af×Int)):=⟨37,tt,false,false,[],pt [(41,tc),(42,fx),(55,lj)],qu [],fc 37 tt [] [.cell 8 40, .tmp 9] ya (fun x=>(x.1.1,x.1.2.1))⟩
theorem qjm:CtxM Try.prog qjn:=q6 fits ck (mC u6 (mC gm (mC pi m0)))
abbrev zf:Mdl:=(bp (.cons (.agg (.cons (.d false qT0) (.cons (.d false (.slice ai.ty)) (.cons (.d false qT0) (.cons (.d false qT0) .nil))))) (.cons (.d false qT1) (.cons (.d false (.slice af.ty)) (.cons (.d false qT0) .nil)))) [] [] 2 ya (B:=(af×Int)) (fun b=>((b.1,b.2,()),(()))) (fun a=>s9 a.1.1.1 a.1.1.2.1 a.1.1.2.2.1 (pe3 a.1.1) a.1.2.1 a.1.2.2.1 (pe3 a.1)))
theorem qg2:MdlOK Try.prog 18 zf:=qy Try.func18 rfl qjm .z s0
def yb:Shp:=⟨[qpq],[]⟩
abbrev qjp:Ctx (Int):=⟨9,tt,false,false,[],pt [],qu [],fc 9 tt [] [.tmp 3] yb (fun x=>x.1.1)⟩
theorem qjo:CtxM Try.prog qjp:=q6 fits ck m0
abbrev q7:Mdl:=(bp (.cons (.d false qT0) (.cons (.rp false (.slice af.ty)) .nil)) [] [] 1 yb (B:=Int) (fun b=>((b,()),(()))) (fun a=>jb a.1.1 a.1.2.1))
theorem xc:MdlOK Try.prog 48 q7:=qy Try.func48 rfl qjo .z s0
def rv:Shp:=⟨[q5w],[qie]⟩
abbrev jv:Ctx ((List ae)):=⟨77,tt,false,false,[],pt [(48,q7),(92,nm)],qu [bg _ 77 [] qa7 (C:=((List af)×Bool×Int×Int×Int×(List (Int×(List ab)))×Nat×(List ab)×Int×(List (Int×(List ab)))×Int×Int)) (S:=(Bool×Int×(List ae))) (fun x=>((x.1.1.1,x.1.2.1,(pe5 x.1),(pe6 x.1),(pe7 x.1),(pe8 x.1),(pe9 x.1),(pe10 x.1),(pe11 x.1),x.2.1.1,x.2.1.2.1,x.2.1.2.2.1),((pe4 x.1),(pe12 x.1),x.2.2.1))) qa6 (CE:=((List af)×Bool×Int×Int×(List (Int×(List ab)))×Nat×(List (Int×(List ab)))×Int×Int)) (E:=(Bool×(List ae))) (fun c e=>(((c.1,()),c.2.1,(),(),e.1,c.2.2.1,(pe3 c),(pe4 c),(pe5 c),()),(((pe6 c),(pe7 c),(pf8 c),()),e.2,()))) (fun c=>(c.1,c.2.1,(pe3 c),(pe4 c),(pe5 c),(pe6 c),(pe9 c),(pe10 c),(pf11 c))) (fun{R} c a nx dn rt=>qf c.1 c.2.1 c.2.2.1 (pe3 c) (pe4 c) (pe5 c) (pe7 c) (pe8 c) (pe9 c) (pe10 c) (pf11 c) a.1 a.2.1 a.2.2 nx dn rt),u7 _ 77 tt false [] (rc Try.f71 10647) qa8 (C:=((List af)×Bool×Int×Int×(List (Int×(List ab)))×(List (Int×(List ab)))×Int×Int)) (S:=(Bool×(List ae))) (fun x=>((x.1.1.1,x.1.2.1,(pe5 x.1),(pe6 x.1),(pe7 x.1),x.2.1.1,x.2.1.2.1,x.2.1.2.2.1),((pe4 x.1),x.2.2.1))) (fun c a=>(((c.1,()),c.2.1,(),(),a.1,c.2.2.1,(pe3 c),(pe4 c),()),(((pe5 c),(pe6 c),(pf7 c),()),a.2,()))) (fun c=>(pe4 c)) (fun{R} c a en nx rt=>qg c.1 c.2.1 c.2.2.1 (pe3 c) (pe4 c) (pe5 c) (pe6 c) (pf7 c) a.1 a.2 en nx rt),qmv _ 77 [] qba (C:=((List af)×Bool×Int×(List (Int×(List ab)))×Int×Int)) (S:=(Int×(List ae))) (fun x=>((x.1.1.1,x.1.2.1,(pe4 x.1),x.2.1.1,x.2.1.2.1,x.2.1.2.2.1),((pe5 x.1),x.2.2.1))) qa9 (CE:=Unit) (E:=(List ae)) (fun c e=>(((),()),(e,()))) (fun c=>()) (fun{R} c a nx dn rt=>qh c.1 c.2.1 c.2.2.1 (pe3 c) (pe4 c) (pf5 c) a.1 a.2 nx dn rt)],fc 77 tt [] [.tmp 6] rv (fun x=>x.2.1)⟩
theorem ju:CtxM Try.prog jv:=q6 fits ck (mC xc (mC pj m0))
theorem qcp:bc Try.prog jv 0 (lc 4 Try.f71 10168727):=lp rfl ju (.two .z (.two .z (.two (.one (.two .z (.two .z (.two .z (.two (.d [0,1,0,0,8,28,63,127,255] [8] []) (.two .z (.two (.d [0,0,0,6,14,0,63] [] []) .z))))))) .z))) s0 (fun c a=>(((c.1,()),c.2.1,(),(),a.1,c.2.2.1,(pe3 c),(pe4 c),(pe5 c),(pe6 c),(pe7 c),(pe8 c),a.2.1,()),(((pe9 c),(pe10 c),(pf11 c),()),a.2.2,()))) (fun y=>((y.1.1.1,y.1.2.1,(pe5 y.1),(pe6 y.1),(pe7 y.1),(pe8 y.1),y.2.1.1,y.2.1.2.1,y.2.1.2.2.1),((pe4 y.1),y.2.2.1)))
theorem qcq:bc Try.prog jv 1 ((rc Try.f71 10647).code):=rl qT0 (.slice ab.ty) rfl ju (.two .z (.s 0)) (sC qcp s0) 75 28 29 30 32 false rfl
theorem qcr:bc Try.prog jv 2 (lc 0 Try.f71 151):=nl rfl ju (.two .z (.two .z (.two (.one (.two .z (.two (.s 1) .z))) .z))) (sC qcq s0) (fun c a=>(((c.1,()),c.2.1,(),(),c.2.2.1,a.1,()),(((pe3 c),(pe4 c),(pf5 c),()),a.2,()))) (fun y=>((),y.2.1))
abbrev td:Mdl:=(bp (.cons (.agg (.cons (.dm false qT0 (.slice ab.ty)) (.cons (.d false qT0) (.cons (.d false qT0) .nil)))) (.cons (.fn 48 (.cons (.rp false (.slice af.ty)) .nil)) (.cons (.d false .bool) .nil))) [] [] 1 rv (B:=(List ae)) (fun b=>(((),()),(b,()))) (fun a=>uh a.1.1.1 a.1.1.2.1 a.1.1.2.2.1 a.1.2.1.1 a.1.2.2.1))
theorem qbb:MdlOK Try.prog 71 td:=qy Try.func71 rfl ju (.two .z (.two .z (.two .z (.two (.two .z (.s 2)) .z)))) (sC qcr s0)
def th:Shp:=⟨[q5w],[qgi]⟩
abbrev oq:Ctx (qL1):=⟨93,tt,false,false,[],pt [(71,td),(48,q7)],qu [bg _ 93 [] qc3 (C:=((List af)×(List ae)×Int×(List ab)×Int×(List (Int×(List ab)))×Int×Int×qL1)) (S:=(Int×Int×Int)) (fun x=>((x.1.1.1,x.1.2.2.1,(pe4 x.1),(pe6 x.1),(pe7 x.1),x.2.1.1,x.2.1.2.1,x.2.1.2.2.1,x.2.2.1),((pe8 x.1),(pe3 x).1,(pe3 x).2.1))) qc2 (CE:=((List af)×(List ae)×(List (Int×(List ab)))×Int×Int×qL1)) (E:=(Int×Int)) (fun c e=>(((c.1,()),(),c.2.1,(),(),()),((c.2.2.1,(pe3 c),(pe4 c),()),(pf5 c),(e.1,e.2,()),()))) (fun c=>(c.1,c.2.1,(pe5 c),(pe6 c),(pe7 c),(pf8 c))) (fun{R} c a nx dn rt=>rz c.1 c.2.1 c.2.2.1 (pe3 c) (pe4 c) (pe5 c) (pe6 c) (pe7 c) (pf8 c) a.1 a.2.1 a.2.2 nx dn rt),bg _ 93 [] qc5 (C:=((List af)×(List ae)×(List (Int×(List ab)))×Int×Int)) (S:=(Int×qL1)) (fun x=>((x.1.1.1,x.1.2.2.1,x.2.1.1,x.2.1.2.1,x.2.1.2.2.1),((pe4 x.1),x.2.2.1))) qc4 (CE:=Unit) (E:=qL1) (fun c e=>(((),()),(e,()))) (fun c=>()) (fun{R} c a nx dn rt=>sc c.1 c.2.1 c.2.2.1 (pe3 c) (pf4 c) a.1 a.2 nx dn rt)],fc 93 tt [] [.tmp 6] th (fun x=>x.2.1)⟩
theorem om:CtxM Try.prog oq:=q6 fits ck (mC qbb (mC xc m0))
theorem qem:bc Try.prog oq 0 (lc 2 Try.f43 19095):=lp rfl om (.two .z (.two .z (.two (.one (.two .z (.two .z (.two (.d [0,1,3,7,15,7,7,71,231,511,7,7,3079,7175,15367,32767,65535,131071,262143,524287,1048575,262143,262143,6553599,14942207,31719423,67108863,134217727,268435455,536870911,1073741823,2147483647,4294967295,8589934591,17179869183,8589934591,42949672959,137438953471,274877906943,549755813887] [] []) .z)))) .z))) s0 (fun c a=>(((c.1,()),(),c.2.1,(),c.2.2.1,(),(pe3 c),(pe4 c),a.1,()),(((pe5 c),(pe6 c),(pe7 c),()),(pf8 c),(a.2.1,a.2.2,()),()))) (fun y=>((y.1.1.1,y.1.2.2.1,y.2.1.1,y.2.1.2.1,y.2.1.2.2.1,y.2.2.1),((pe3 y).1,(pe3 y).2.1)))
theorem qen:bc Try.prog oq 1 (lc 0 Try.f43 151):=lp rfl om (.two .z (.one (.two .z (.two (.two .z (.s 0)) .z)))) (sC qem s0) (fun c a=>(((c.1,()),(),c.2.1,(),a.1,()),((c.2.2.1,(pe3 c),(pf4 c),()),a.2,()))) (fun y=>((),y.2.1))
abbrev um:Mdl:=(bp (.cons (.agg (.cons (.dm false qT0 (.slice ab.ty)) (.cons (.d false qT0) (.cons (.d false qT0) .nil)))) (.cons (.fn 48 (.cons (.rp false (.slice af.ty)) .nil)) (.cons (.d false .bool) .nil))) [] [] 1 th (B:=qL1) (fun b=>(((),()),(b,()))) (fun a=>k7 a.1.1.1 a.1.1.2.1 a.1.1.2.2.1 a.1.2.1.1 a.1.2.2.1))
theorem qc6:MdlOK Try.prog 43 um:=qy Try.func43 rfl om (.two .z (.two .z (.two .z (.two (.two .z (.s 1)) .z)))) (sC qen s0)
def qah:Shp:=⟨[q5w,qmc],[qgi]⟩
abbrev qnc:Ctx ((Int×qL1)):=⟨38,tt,false,false,[],pt [(41,tc),(42,fx),(47,qa),(43,um)],qu [],fc 38 tt [] [.tmp 8, .tmp 9] qah (fun x=>(x.1.2.1,x.2.1))⟩
theorem qnb:CtxM Try.prog qnc:=q6 fits ck (mC u6 (mC gm (mC uk (mC qc6 m0))))
abbrev qcm:Mdl:=(bp (.cons (.agg (.cons (.d false qT0) (.cons (.d false (.slice ai.ty)) (.cons (.d false qT0) (.cons (.d false qT0) .nil))))) (.cons (.d false qT1) (.cons (.d false (.slice af.ty)) (.cons (.d false qT0) .nil)))) [] [] 2 qah (B:=(Int×qL1)) (fun b=>(((),b.1,()),(b.2,()))) (fun a=>xx a.1.1.1 a.1.1.2.1 a.1.1.2.2.1 (pe3 a.1.1) a.1.2.1 a.1.2.2.1 (pe3 a.1)))
theorem qjq:MdlOK Try.prog 13 qcm:=qy Try.func13 rfl qnb .z s0
def se:Shp:=⟨[qj6],[]⟩
abbrev nk:Ctx (Bool):=⟨54,tt,false,false,[],pt [],qu [bg _ 54 [] qbr (C:=(Int×(List ab)×Int×(List (Int×(List ab)))×Int×Int)) (S:=(Int×(List (Int×Bool))×qL1)) (fun x=>((x.1.1,(pe4 x.1),(pe5 x.1),x.2.1.1,x.2.1.2.1,x.2.1.2.2.1),((pe6 x.1),x.2.2.1,(pe3 x)))) qbq (CE:=(Int×(List (Int×(List ab)))×Int×Int)) (E:=((List (Int×Bool))×qL1)) (fun c e=>((c.1,(),(),(),()),((c.2.1,c.2.2.1,c.2.2.2,()),e.1,e.2,()))) (fun c=>(c.1,(pe3 c),(pe4 c),(pf5 c))) (fun{R} c a nx dn rt=>dr c.1 c.2.1 c.2.2.1 (pe3 c) (pe4 c) (pf5 c) a.1 a.2.1 a.2.2 nx dn rt),bg _ 54 [] qbt (C:=(Int×(List (Int×(List ab)))×Int×Int)) (S:=((List (Int×Bool))×qL1)) (fun x=>((x.1.1,x.2.1.1,x.2.1.2.1,x.2.1.2.2.1),(x.2.2.1,(pe3 x)))) qbs (CE:=Unit) (E:=Unit) (fun c e=>((()),(()))) (fun c=>()) (fun{R} c a nx dn rt=>cz c.1 c.2.1 c.2.2.1 c.2.2.2 a.1 a.2 nx dn rt)],fc 54 tt [] [.tmp 4] se (fun x=>x.1.1)⟩
theorem ni:CtxM Try.prog nk:=q6 fits ck m0
theorem qc7:bc Try.prog nk 0 (lc 2 Try.f52 9803):=lp rfl ni .z s0 (fun c a=>((c.1,(),(),(),c.2.1,c.2.2.1,a.1,()),(((pe3 c),(pe4 c),(pf5 c),()),a.2.1,a.2.2,()))) (fun y=>((y.1.1,y.2.1.1,y.2.1.2.1,y.2.1.2.2.1),(y.2.2.1,(pe3 y))))
theorem qc8:bc Try.prog nk 1 (lc 0 Try.f52 75):=lp rfl ni (.two .z (.two (.one (.two (.two (.d [0,1,3,0,8,31] [] []) .z) (.two (.d [0,1,0,4,12,31,63,0] [] []) (.s 0)))) .z)) (sC qc7 s0) (fun c a=>((c.1,(),(),(),()),((c.2.1,c.2.2.1,c.2.2.2,()),a.1,a.2,()))) (fun y=>((),()))
abbrev nj:Mdl:=(bp (.cons (.agg (.cons (.dm false qT0 (.slice ab.ty)) (.cons (.d false qT0) (.cons (.d false qT0) .nil)))) (.cons (.d false qT0) .nil)) [] [] 1 se (B:=Bool) (fun b=>((b,()),(()))) (fun a=>ig a.1.1.1 a.1.1.2.1 a.1.1.2.2.1 a.1.2.1))
theorem qo:MdlOK Try.prog 52 nj:=qy Try.func52 rfl ni (.two .z (.two .z (.two (.two .z (.s 1)) .z))) (sC qc8 s0)
def qg1:Shp:=⟨[jbz,qmc],[qgi]⟩
abbrev qiz:Ctx ((Int×qL1)):=⟨50,tt,false,false,[],pt [(50,px),(51,p0),(42,fx),(52,nj)],qu [bg _ 50 [] qo2 (C:=(Int×(List (Int×(List ab)))×Int×Int)) (S:=(Int×qL1)) (fun x=>((x.1.2.2.1,x.2.1.1,x.2.1.2.1,x.2.1.2.2.1),((pe3 x.1),x.2.2.1))) qo1 (CE:=Unit) (E:=qL1) (fun c e=>(((),()),(e,()))) (fun c=>()) (fun{R} c a nx dn rt=>qfk c.1 c.2.1 c.2.2.1 c.2.2.2 a.1 a.2 nx dn rt)],fc 50 tt [] [.tmp 6, .tmp 7] qg1 (fun x=>(x.1.2.1,x.2.1))⟩
theorem qix:CtxM Try.prog qiz:=q6 fits ck (mC pc (mC q8 (mC gm (mC qo m0))))
theorem qrt:bc Try.prog qiz 0 (lc 0 Try.f15 1215):=lp rfl qix .z s0 (fun c a=>(((),(),c.1,a.1,()),((c.2.1,c.2.2.1,c.2.2.2,()),a.2,()))) (fun y=>((),y.2.1))
abbrev qiy:Mdl:=(bp (.cons (.agg (.cons (.d false qT0) (.cons (.d false (.slice ai.ty)) (.cons (.d false qT0) (.cons (.d false qT0) .nil))))) (.cons (.d false qT1) (.cons (.d false qT0) .nil))) [] [] 2 qg1 (B:=(Int×qL1)) (fun b=>(((),b.1,()),(b.2,()))) (fun a=>qee a.1.1.1 a.1.1.2.1 a.1.1.2.2.1 (pe3 a.1.1) a.1.2.1 a.1.2.2.1))
theorem qo3:MdlOK Try.prog 15 qiy:=qy Try.func15 rfl qix (.two .z (.two .z (.two .z (.two .z (.two .z (.two .z (.two (.two .z (.s 0)) .z))))))) (sC qrt s0)
def qih:Shp:=⟨[qj6],[]⟩
abbrev qvu:Ctx (Bool):=⟨71,tt,false,false,[],pt [(18,zf),(13,qcm),(15,qiy),(17,kf)],qu [],fc 71 tt [] [.tmp 0] qih (fun x=>x.1.1)⟩
theorem qvt:CtxM Try.prog qvu:=q6 fits ck (mC qg2 (mC qjq (mC qo3 (mC mi m0))))
abbrev qk0:Mdl:=(bp .nil [] [] 1 qih (B:=Bool) (fun b=>((b,()),(()))) (fun a=>z7))
theorem qqp:MdlOK Try.prog 9 qk0:=qy Try.func9 rfl qvt .z s0
def qii:Shp:=⟨[qj6],[]⟩
abbrev qvw:Ctx (Bool):=⟨19,tt,false,false,[],pt [],qu [],fc 19 tt [] [.tmp 2] qii (fun x=>x.1.1)⟩
theorem qvv:CtxM Try.prog qvw:=q6 fits ck m0
abbrev qk1:Mdl:=(bp (.cons (.d false ai.ty) .nil) [] [] 1 qii (B:=Bool) (fun b=>((b,()),(()))) (fun a=>z8 a.1.1))
theorem qqr:MdlOK Try.prog 40 qk1:=qy Try.func40 rfl qvv .z s0
def ia:Shp:=⟨[qpq],[]⟩
abbrev il:Ctx (Int):=⟨19,tt,false,false,[],pt [(40,qk1)],qu [bg _ 19 [] nr (C:=((List ai)×Int)) (S:=Int) (fun x=>((x.1.1,x.1.2.2.1),(pe3 x.1))) nq (CE:=Unit) (E:=Unit) (fun c e=>((()),(()))) (fun c=>()) (fun{R} c a nx dn rt=>ci c.1 c.2 a nx dn rt)],fc 19 tt [] [.tmp 4] ia (fun x=>x.1.1)⟩
theorem ii:CtxM Try.prog il:=q6 fits ck (mC qqr m0)
theorem nz:bc Try.prog il 0 (lc 0 Try.f70 37):=lp rfl ii .z s0 (fun c a=>((c.1,(()),c.2,a,()),(()))) (fun y=>((),()))
abbrev ij:Mdl:=(bp (.cons (.d false (.slice ai.ty)) (.cons (.fn 40 .nil) .nil)) [] [] 1 ia (B:=Int) (fun b=>((b,()),(()))) (fun a=>dy a.1.1))
theorem ns:MdlOK Try.prog 70 ij:=qy Try.func70 rfl ii (.two .z (.two (.two .z (.s 0)) .z)) (sC nz s0)
def f7:Shp:=⟨[qj6],[]⟩
abbrev mw:Ctx (Bool):=⟨9,tt,false,false,[],pt [(70,ij)],qu [],fc 9 tt [] [.tmp 4] f7 (fun x=>x.1.1)⟩
theorem mt:CtxM Try.prog mw:=q6 fits ck (mC ns m0)
abbrev gc:Mdl:=(bp (.cons (.d false (.slice ai.ty)) (.cons (.fn 40 .nil) .nil)) [] [] 1 f7 (B:=Bool) (fun b=>((b,()),(()))) (fun a=>ch a.1.1))
theorem lz:MdlOK Try.prog 39 gc:=qy Try.func39 rfl mt .z s0
def qn4:Shp:=⟨[qj6],[]⟩
abbrev q0l:Ctx (Bool):=⟨32,tt,false,false,[],pt [(39,gc)],qu [],fc 32 tt [] [.tmp 6] qn4 (fun x=>x.1.1)⟩
theorem q0k:CtxM Try.prog q0l:=q6 fits ck (mC lz m0)
abbrev qqq:Mdl:=(bp (.cons (.d false c8.ty) (.cons (.d false qT1) (.cons (.d false (.slice af.ty)) .nil))) [] [] 1 qn4 (B:=Bool) (fun b=>((b,()),(()))) (fun a=>qhx a.1.1 a.1.2.1 a.1.2.2.1))
theorem qvx:MdlOK Try.prog 10 qqq:=qy Try.func10 rfl q0k .z s0
def qfj:Shp:=⟨[jbz,qmc],[qgi]⟩
abbrev qg0:Ctx ((Int×qL1)):=⟨50,tt,false,false,[],pt [(50,px),(51,p0),(42,fx),(52,nj)],qu [bg _ 50 [] qm9 (C:=(Int×(List (Int×(List ab)))×Int×Int)) (S:=(Int×qL1)) (fun x=>((x.1.2.2.1,x.2.1.1,x.2.1.2.1,x.2.1.2.2.1),((pe3 x.1),x.2.2.1))) qm8 (CE:=Unit) (E:=qL1) (fun c e=>(((),()),(e,()))) (fun c=>()) (fun{R} c a nx dn rt=>mf c.1 c.2.1 c.2.2.1 c.2.2.2 a.1 a.2 nx dn rt)],fc 50 tt [] [.tmp 6, .tmp 7] qfj (fun x=>(x.1.2.1,x.2.1))⟩
theorem qgy:CtxM Try.prog qg0:=q6 fits ck (mC pc (mC q8 (mC gm (mC qo m0))))
theorem qo0:bc Try.prog qg0 0 (lc 0 Try.f15 1215):=lp rfl qgy .z s0 (fun c a=>(((),(),c.1,a.1,()),((c.2.1,c.2.2.1,c.2.2.2,()),a.2,()))) (fun y=>((),y.2.1))
abbrev qgz:Mdl:=(bp (.cons (.d false c8.ty) (.cons (.d false qT1) (.cons (.d false qT0) .nil))) [] [] 2 qfj (B:=(Int×qL1)) (fun b=>(((),b.1,()),(b.2,()))) (fun a=>ea a.1.1 a.1.2.1 a.1.2.2.1))
theorem qna:MdlOK Try.prog 15 qgz:=qy Try.func15 rfl qgy (.two .z (.two .z (.two .z (.two .z (.two .z (.two .z (.two (.two .z (.s 0)) .z))))))) (sC qo0 s0)
def xa:Shp:=⟨[jb3,qmc],[]⟩
abbrev qic:Ctx ((af×Int)):=⟨37,tt,false,false,[],pt [(41,tc),(42,fx),(55,lj)],qu [],fc 37 tt [] [.cell 8 40, .tmp 9] xa (fun x=>(x.1.1,x.1.2.1))⟩
theorem qib:CtxM Try.prog qic:=q6 fits ck (mC u6 (mC gm (mC pi m0)))
abbrev x9:Mdl:=(bp (.cons (.d false c8.ty) (.cons (.d false qT1) (.cons (.d false (.slice af.ty)) (.cons (.d false qT0) .nil)))) [] [] 2 xa (B:=(af×Int)) (fun b=>((b.1,b.2,()),(()))) (fun a=>b8 a.1.1 a.1.2.1 a.1.2.2.1 (pe3 a.1)))
theorem qfx:MdlOK Try.prog 18 x9:=qy Try.func18 rfl qib .z s0
def qik:Shp:=⟨[qpq,qmc,qph,(3, .d true .bool)],[]⟩
abbrev qk4:Ctx ((Int×Int×Bool×Bool)):=⟨50,tt,false,false,[],pt [],qu [bg _ 50 [] qqt (C:=((List af)×qL1×Int)) (S:=(Int×Int×Bool×Int)) (fun x=>((x.1.1,(pe4 x.1),(pe5 x.1)),(x.1.2.1,x.1.2.2.1,(pe3 x.1),(pe6 x.1)))) qqs (CE:=Unit) (E:=(Int×Int×Bool)) (fun c e=>((e.1,e.2.1,e.2.2,()),(()))) (fun c=>()) (fun{R} c a nx dn rt=>o9 c.1 c.2.1 c.2.2 a.1 a.2.1 a.2.2.1 a.2.2.2 nx dn rt)],fc 50 tt [] [.tmp 4, .tmp 5, .tmp 6, .tmp 7] qik (fun x=>(x.1.1,x.1.2.1,x.1.2.2.1,(pe3 x.1)))⟩
theorem qk2:CtxM Try.prog qk4:=q6 fits ck m0
theorem qsq:bc Try.prog qk4 0 (lc 0 Try.f20 37):=lp rfl qk2 .z s0 (fun c a=>((c.1,a.1,a.2.1,a.2.2.1,c.2.1,c.2.2,a.2.2.2,()),(()))) (fun y=>((),(y.1.1,y.1.2.1,y.1.2.2.1)))
abbrev qk3:Mdl:=(bp (.cons (.d false qT1) (.cons (.d false (.slice af.ty)) .nil)) [] [] 4 qik (B:=(Int×Int×Bool×Bool)) (fun b=>((b.1,b.2.1,b.2.2.1,b.2.2.2,()),(()))) (fun a=>z9 a.1.1 a.1.2.1))
theorem qqu:MdlOK Try.prog 20 qk3:=qy Try.func20 rfl qk2 (.two .z (.two (.two .z (.s 0)) .z)) (sC qsq s0)
def tv:Shp:=⟨[qpq],[]⟩
abbrev ut:Ctx (Int):=⟨19,tt,false,false,[],pt [],qu [bg _ 19 [] qdo (C:=(qL1×Int×Int)) (S:=Int) (fun x=>((x.1.1,x.1.2.1,x.1.2.2.1),(pe3 x.1))) qdn (CE:=Unit) (E:=Unit) (fun c e=>((()),(()))) (fun c=>()) (fun{R} c a nx dn rt=>jh c.1 c.2.1 c.2.2 a nx dn rt)],fc 19 tt [] [.tmp 4] tv (fun x=>x.1.1)⟩
theorem ur:CtxM Try.prog ut:=q6 fits ck m0
theorem qev:bc Try.prog ut 0 (lc 0 Try.f61 37):=lp rfl ur .z s0 (fun c a=>((c.1,c.2.1,c.2.2,a,()),(()))) (fun y=>((),()))
abbrev us:Mdl:=(bp (.cons (.d false qT1) (.cons (.d false qT0) .nil)) [] [] 1 tv (B:=Int) (fun b=>((b,()),(()))) (fun a=>pn a.1.1 a.1.2.1))
theorem qdp:MdlOK Try.prog 61 us:=qy Try.func61 rfl ur (.two .z (.two (.two .z (.s 0)) .z)) (sC qev s0)
def p7:Shp:=⟨[qj6],[]⟩
abbrev qby:Ctx (Bool):=⟨9,tt,false,false,[],pt [(61,us)],qu [],fc 9 tt [] [.tmp 4] p7 (fun x=>x.1.1)⟩
theorem qbx:CtxM Try.prog qby:=q6 fits ck (mC qdp m0)
abbrev qr:Mdl:=(bp (.cons (.d false qT1) (.cons (.d false qT0) .nil)) [] [] 1 p7 (B:=Bool) (fun b=>((b,()),(()))) (fun a=>f8 a.1.1 a.1.2.1))
theorem zq:MdlOK Try.prog 25 qr:=qy Try.func25 rfl qbx .z s0
def p5:Shp:=⟨[qj6],[]⟩
abbrev qa4:Ctx (Bool):=⟨14,tt,false,false,[],pt [(25,qr)],qu [],fc 14 tt [] [.tmp 4] p5 (fun x=>x.1.1)⟩
theorem qa3:CtxM Try.prog qa4:=q6 fits ck (mC zq m0)
abbrev qd:Mdl:=(bp (.cons (.d false qT0) (.cons (.rp false qT0) (.cons (.rp false qT1) .nil))) [] [] 1 p5 (B:=Bool) (fun b=>((b,()),(()))) (fun a=>i9 a.1.1 a.1.2.1 a.1.2.2.1))
theorem y5:MdlOK Try.prog 24 qd:=qy Try.func24 rfl qa3 .z s0
def m7:Shp:=⟨[qpq],[]⟩
abbrev n6:Ctx (Int):=⟨19,tt,false,false,[],pt [(24,qd)],qu [bg _ 19 [] vj (C:=(qL1×Int×qL1×Int)) (S:=Int) (fun x=>((x.1.1,x.1.2.1.1,x.1.2.1.2.1,x.1.2.2.1),(pe3 x.1))) vi (CE:=Unit) (E:=Unit) (fun c e=>((()),(()))) (fun c=>()) (fun{R} c a nx dn rt=>ek c.1 c.2.1 c.2.2.1 c.2.2.2 a nx dn rt)],fc 19 tt [] [.tmp 4] m7 (fun x=>x.1.1)⟩
theorem n4:CtxM Try.prog n6:=q6 fits ck (mC y5 m0)
theorem xh:bc Try.prog n6 0 (lc 0 Try.f60 37):=lp rfl n4 .z s0 (fun c a=>((c.1,(c.2.1,c.2.2.1,()),c.2.2.2,a,()),(()))) (fun y=>((),()))
abbrev n5:Mdl:=(bp (.cons (.d false qT1) (.cons (.fn 24 (.cons (.rp false qT0) (.cons (.rp false qT1) .nil))) .nil)) [] [] 1 m7 (B:=Int) (fun b=>((b,()),(()))) (fun a=>j2 a.1.1 a.1.2.1.1 a.1.2.1.2.1))
theorem vk:MdlOK Try.prog 60 n5:=qy Try.func60 rfl n4 (.two .z (.two (.two .z (.s 0)) .z)) (sC xh s0)
def lb:Shp:=⟨[qj6],[]⟩
abbrev t7:Ctx (Bool):=⟨9,tt,false,false,[],pt [(60,n5)],qu [],fc 9 tt [] [.tmp 4] lb (fun x=>x.1.1)⟩
theorem t6:CtxM Try.prog t7:=q6 fits ck (mC vk m0)
abbrev ls:Mdl:=(bp (.cons (.d false qT1) (.cons (.fn 24 (.cons (.rp false qT0) (.cons (.rp false qT1) .nil))) .nil)) [] [] 1 lb (B:=Bool) (fun b=>((b,()),(()))) (fun a=>ed a.1.1 a.1.2.1.1 a.1.2.1.2.1))
theorem sr:MdlOK Try.prog 23 ls:=qy Try.func23 rfl t6 .z s0
def rm:Shp:=⟨[qj6],[]⟩
abbrev jr:Ctx (Bool):=⟨236,tt,false,false,[],pt [(9,qk0),(10,qqq),(18,x9),(19,qed),(15,qgz),(17,kf),(20,qk3),(21,s7),(22,qgt),(23,ls)],qu [qgj _ 236 [] qa0 (A:=((List af)×Int×qL1×qL1×qL1×qL1×Int×Int×Int×(List ai)×Int×Int×Int×Int×Bool×Int×Int×Bool×qL1×Int×Int×Int×Bool)) (fun x=>(x.1.1,x.1.2.1,(pe4 x.1),(pe6 x.1),(pe9 x.1),(pe11 x.1),(pe12 x.1),(pe13 x.1),x.2.1.1,x.2.1.2.1,x.2.1.2.2.1,(pe3 x.2.1),x.2.2.1.1,x.2.2.1.2.1,x.2.2.1.2.2.1,(pe3 x).1,(pe3 x).2.1,(pe3 x).2.2.1,(pe4 x),(pe5 x).1,(pe6 x).1,(pe6 x).2.1,(pe6 x).2.2.1)) qaz (CE:=((List af)×Int×qL1×qL1×qL1×Int×Int×Int×(List ai)×Int×Int×Int×Int×Bool×Int×Int×Bool)) (E:=(qL1×qL1)) (fun c e=>((c.1,c.2.1,(),(),c.2.2.1,(pe3 c),(),(),(),(pe4 c),(pe5 c),(pe6 c),()),(((pe7 c),(pe8 c),(pe9 c),(pe10 c),()),((pe11 c),(pe12 c),(pe13 c),()),((pe14 c),(pe15 c),(pf16 c),()),e.1,e.2,()))) (fun c=>(c.1,c.2.1,c.2.2.1,(pe4 c),(pe5 c),(pe6 c),(pe7 c),(pe8 c),(pe9 c),(pe10 c),(pe11 c),(pe12 c),(pe13 c),(pe14 c),(pe20 c),(pe21 c),(pf22 c))) (fun{R} c dn rt=>lh c.1 c.2.1 c.2.2.1 (pe3 c) (pe4 c) (pe5 c) (pe6 c) (pe7 c) (pe8 c) (pe9 c) (pe10 c) (pe11 c) (pe12 c) (pe13 c) (pe14 c) (pe15 c) (pe16 c) (pe17 c) (pe18 c) (pe19 c) (pe20 c) (pe21 c) (pf22 c) dn rt),qgj _ 236 [] qa2 (A:=((List af)×Int×qL1×qL1×qL1×Int×qL1×Int×Int×Int×(List ai)×Int×Int×Int×Int×Bool×Int×Int×Bool×qL1)) (fun x=>(x.1.1,x.1.2.1,(pe4 x.1),(pe5 x.1),(pe7 x.1),(pe9 x.1),(pe10 x.1),(pe11 x.1),(pe12 x.1),x.2.1.1,x.2.1.2.1,x.2.1.2.2.1,(pe3 x.2.1),x.2.2.1.1,x.2.2.1.2.1,x.2.2.1.2.2.1,(pe3 x).1,(pe3 x).2.1,(pe3 x).2.2.1,(pe4 x))) qa1 (CE:=((List af)×Int×qL1×qL1×Int×Int×Int×(List ai)×Int×Int×Int×Int×Bool)) (E:=(qL1×Int×Int×Bool×qL1×qL1)) (fun c e=>((c.1,c.2.1,(),(),c.2.2.1,e.1,(),(),(),(pe3 c),(pe4 c),(pe5 c),()),(((pe6 c),(pe7 c),(pe8 c),(pe9 c),()),((pe10 c),(pe11 c),(pf12 c),()),(e.2.1,e.2.2.1,(pe3 e),()),(pe4 e),(pf5 e),()))) (fun c=>(c.1,c.2.1,c.2.2.1,(pe6 c),(pe7 c),(pe8 c),(pe9 c),(pe10 c),(pe11 c),(pe12 c),(pe13 c),(pe14 c),(pe15 c))) (fun{R} c dn rt=>dq c.1 c.2.1 c.2.2.1 (pe3 c) (pe4 c) (pe5 c) (pe6 c) (pe7 c) (pe8 c) (pe9 c) (pe10 c) (pe11 c) (pe12 c) (pe13 c) (pe14 c) (pe15 c) (pe16 c) (pe17 c) (pe18 c) (pf19 c) dn rt),bg _ 236 [] qay (C:=((List af)×Int×qL1×qL1×Int×Int×(List ai)×Int×Int×Int×Int×Bool)) (S:=(qL1×qL1×Int×Int×Int×Bool×qL1)) (fun x=>((x.1.1,x.1.2.1,(pe4 x.1),(pe9 x.1),(pe10 x.1),x.2.1.1,x.2.1.2.1,x.2.1.2.2.1,(pe3 x.2.1),x.2.2.1.1,x.2.2.1.2.1,x.2.2.1.2.2.1),((pe5 x.1),(pe7 x.1),(pe11 x.1),(pe3 x).1,(pe3 x).2.1,(pe3 x).2.2.1,(pe4 x)))) qax (CE:=Unit) (E:=Unit) (fun c e=>((()),(()))) (fun c=>()) (fun{R} c a nx dn rt=>bj c.1 c.2.1 c.2.2.1 (pe3 c) (pe4 c) (pe5 c) (pe6 c) (pe7 c) (pe8 c) (pe9 c) (pe10 c) (pf11 c) a.1 a.2.1 a.2.2.1 (pe3 a) (pe4 a) (pe5 a) (pf6 a) nx dn rt)],fc 236 tt [] [.tmp 10] rm (fun x=>x.1.1)⟩
theorem jq:CtxM Try.prog jr:=q6 fits ck (mC qqp (mC qvx (mC qfx (mC qgs (mC qna (mC mi (mC qqu (mC u5 (mC qir (mC sr m0))))))))))
theorem qb9:bc Try.prog jr 0 (jc Try.f4 1073321983):=jn rfl jq (.two .z (.two .z (.d [0,0,0,0,0,16,56,121,251,511,1023] [6,8,10] []))) s0 (fun c=>((c.1,c.2.1,(),(),c.2.2.1,(),(pe3 c),(),(),(pe4 c),(),(pe5 c),(pe6 c),(pe7 c),()),(((pe8 c),(pe9 c),(pe10 c),(pe11 c),()),((pe12 c),(pe13 c),(pe14 c),()),((pe15 c),(pe16 c),(pe17 c),()),(pe18 c),((pe19 c),()),((pe20 c),(pe21 c),(pf22 c),()),()))) (fun y=>((y.1.1,y.1.2.1,(pe4 y.1),(pe5 y.1),(pe9 y.1),(pe10 y.1),(pe11 y.1),y.2.1.1,y.2.1.2.1,y.2.1.2.2.1,(pe3 y.2.1),y.2.2.1.1,y.2.2.1.2.1,y.2.2.1.2.2.1,(pe3 y).1,(pe3 y).2.1,(pe3 y).2.2.1),((pe4 y),(pe5 y))))
theorem qca:bc Try.prog jr 1 (jc Try.f4 3774463):=jn rfl jq (.two .z (.two .z (.two .z (.two .z (.two .z (.two .z (.two .z (.two (.two (.d [0,1,0,0,12,28,60,127,0,256,1023,2047,4095,8191,16383,32767,65535,131071,262143,524287,524287,2097151,4194303,8388607,16777215,33554431,67108863,134217727,67108863,67108863,872415231,1946157055,4093640703,8589934591,67108863,17246978047,68719476735,137438953471,274877906943,549755813887] [] []) .z) (.s 0))))))))) (sC qb9 s0) (fun c=>((c.1,c.2.1,(),(),c.2.2.1,(pe3 c),(),(pe4 c),(),(pe5 c),(pe6 c),(pe7 c),(pe8 c),()),(((pe9 c),(pe10 c),(pe11 c),(pe12 c),()),((pe13 c),(pe14 c),(pe15 c),()),((pe16 c),(pe17 c),(pe18 c),()),(pf19 c),()))) (fun y=>((y.1.1,y.1.2.1,(pe4 y.1),(pe9 y.1),(pe10 y.1),(pe11 y.1),y.2.1.1,y.2.1.2.1,y.2.1.2.2.1,(pe3 y.2.1),y.2.2.1.1,y.2.2.1.2.1,y.2.2.1.2.2.1),((pe5 y.1),(pe3 y).1,(pe3 y).2.1,(pe3 y).2.2.1,(pe4 y),(pe5 y))))
theorem qcb:bc Try.prog jr 2 (lc 0 Try.f4 38911):=lp rfl jq (.two .z (.two .z (.two (.one (.two .z (.two .z (.s 1)))) .z))) (sC qca s0) (fun c a=>((c.1,c.2.1,(),(),c.2.2.1,a.1,(),a.2.1,(),(pe3 c),(pe4 c),a.2.2.1,()),(((pe5 c),(pe6 c),(pe7 c),(pe8 c),()),((pe9 c),(pe10 c),(pf11 c),()),((pe3 a),(pe4 a),(pe5 a),()),(pf6 a),()))) (fun y=>((),()))
abbrev qd9:Mdl:=(bp (.cons (.d true c8.ty) (.cons (.d true qT1) (.cons (.d true (.slice af.ty)) (.cons (.d true qT0) (.cons (.d true (.slice (.int .u8))) .nil))))) [] [] 1 rm (B:=Bool) (fun b=>((b,()),(()))) (fun a=>oi a.1.1 a.1.2.1 a.1.2.2.1 (pe3 a.1) (pe4 a.1)))
theorem qa5:MdlOK Try.prog 4 qd9:=qy Try.func4 rfl jq (.two .z (.two .z (.two .z (.two .z (.two .z (.two .z (.two .z (.two (.d [0,0,0,5,15] [4] []) (.two .z (.two .z (.two .z (.two (.two .z (.s 2)) .z)))))))))))) (sC qcb s0)
end
end Go.Proofs.Ytokeielgplbdeaa
