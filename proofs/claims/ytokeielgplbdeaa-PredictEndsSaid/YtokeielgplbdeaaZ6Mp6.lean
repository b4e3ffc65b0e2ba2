/-
  The functions compute what their models say. Made by program (mg3.py) out of the translation.
-/
import Derived.Test.YtokeielgplbdeaaZ6Md
import Derived.Test.YtokeielgplbdeaaZ6Tt
set_option linter.all false
set_option maxRecDepth 100000
namespace Go.Proofs.Ytokeielgplbdeaa
open Go.K Go.M
abbrev pe3{A0 A1 A2 A3 A4:Type}(x:A0×A1×A2×A3×A4):A3:=x.2.2.2.1
abbrev pe4{A0 A1 A2 A3 A4 A5:Type}(x:A0×A1×A2×A3×A4×A5):A4:=x.2.2.2.2.1
abbrev pe5{A0 A1 A2 A3 A4 A5 A6:Type}(x:A0×A1×A2×A3×A4×A5×A6):A5:=x.2.2.2.2.2.1
abbrev pe6{A0 A1 A2 A3 A4 A5 A6 A7:Type}(x:A0×A1×A2×A3×A4×A5×A6×A7):A6:=x.2.2.2.2.2.2.1
abbrev pe7{A0 A1 A2 A3 A4 A5 A6 A7 A8:Type}(x:A0×A1×A2×A3×A4×A5×A6×A7×A8):A7:=x.2.2.2.2.2.2.2.1
abbrev pe8{A0 A1 A2 A3 A4 A5 A6 A7 A8 A9:Type}(x:A0×A1×A2×A3×A4×A5×A6×A7×A8×A9):A8:=x.2.2.2.2.2.2.2.2.1
abbrev pe9{A0 A1 A2 A3 A4 A5 A6 A7 A8 A9 A10:Type}(x:A0×A1×A2×A3×A4×A5×A6×A7×A8×A9×A10):A9:=x.2.2.2.2.2.2.2.2.2.1
abbrev pe10{A0 A1 A2 A3 A4 A5 A6 A7 A8 A9 A10 A11:Type}(x:A0×A1×A2×A3×A4×A5×A6×A7×A8×A9×A10×A11):A10:=x.2.2.2.2.2.2.2.2.2.2.1
abbrev pe11{A0 A1 A2 A3 A4 A5 A6 A7 A8 A9 A10 A11 A12:Type}(x:A0×A1×A2×A3×A4×A5×A6×A7×A8×A9×A10×A11×A12):A11:=x.2.2.2.2.2.2.2.2.2.2.2.1
abbrev pe12{A0 A1 A2 A3 A4 A5 A6 A7 A8 A9 A10 A11 A12 A13:Type}(x:A0×A1×A2×A3×A4×A5×A6×A7×A8×A9×A10×A11×A12×A13):A12:=x.2.2.2.2.2.2.2.2.2.2.2.2.1
abbrev pe13{A0 A1 A2 A3 A4 A5 A6 A7 A8 A9 A10 A11 A12 A13 A14:Type}(x:A0×A1×A2×A3×A4×A5×A6×A7×A8×A9×A10×A11×A12×A13×A14):A13:=x.2.2.2.2.2.2.2.2.2.2.2.2.2.1
abbrev pf4{A0 A1 A2 A3 A4:Type}(x:A0×A1×A2×A3×A4):A4:=x.2.2.2.2
abbrev pf5{A0 A1 A2 A3 A4 A5:Type}(x:A0×A1×A2×A3×A4×A5):A5:=x.2.2.2.2.2
abbrev pf6{A0 A1 A2 A3 A4 A5 A6:Type}(x:A0×A1×A2×A3×A4×A5×A6):A6:=x.2.2.2.2.2.2
abbrev pf7{A0 A1 A2 A3 A4 A5 A6 A7:Type}(x:A0×A1×A2×A3×A4×A5×A6×A7):A7:=x.2.2.2.2.2.2.2
abbrev pf8{A0 A1 A2 A3 A4 A5 A6 A7 A8:Type}(x:A0×A1×A2×A3×A4×A5×A6×A7×A8):A8:=x.2.2.2.2.2.2.2.2
abbrev pf10{A0 A1 A2 A3 A4 A5 A6 A7 A8 A9 A10:Type}(x:A0×A1×A2×A3×A4×A5×A6×A7×A8×A9×A10):A10:=x.2.2.2.2.2.2.2.2.2.2
abbrev pf11{A0 A1 A2 A3 A4 A5 A6 A7 A8 A9 A10 A11:Type}(x:A0×A1×A2×A3×A4×A5×A6×A7×A8×A9×A10×A11):A11:=x.2.2.2.2.2.2.2.2.2.2.2
abbrev pf13{A0 A1 A2 A3 A4 A5 A6 A7 A8 A9 A10 A11 A12 A13:Type}(x:A0×A1×A2×A3×A4×A5×A6×A7×A8×A9×A10×A11×A12×A13):A13:=x.2.2.2.2.2.2.2.2.2.2.2.2.2
abbrev pf14{A0 A1 A2 A3 A4 A5 A6 A7 A8 A9 A10 A11 A12 A13 A14:Type}(x:A0×A1×A2×A3×A4×A5×A6×A7×A8×A9×A10×A11×A12×A13×A14):A14:=x.2.2.2.2.2.2.2.2.2.2.2.2.2.2
noncomputable section
def qi3:Shp:=⟨[qiu],[]⟩
abbrev qwx:Ctx (Bool):=⟨17,tt,false,false,[],ov [],p4 [],ec 17 tt [] [.tmp 2] qi3 (fun x=>x.1.1)⟩
theorem qww:CtxM Try.prog qwx:=p8 fits ce m0
abbrev qeh:Mdl:=(bj (.cons (.d false (.int .u8)) .nil) [] [] 1 qi3 (B:=Bool) (fun b=>((b,()),(()))) (fun a=>w9 a.1.1))
theorem qgw:MdlOK Try.prog 96 qeh:=p7 Try.func96 rfl qww .z s0
def qoo:Shp:=⟨[qiu],[]⟩
abbrev q1n:Ctx (Bool):=⟨25,tt,false,false,[],ov [(96,qeh)],p4 [],ec 25 tt [] [.tmp 2] qoo (fun x=>x.1.1)⟩
theorem q1m:CtxM Try.prog q1n:=p8 fits ce (mC qgw m0)
abbrev qrv:Mdl:=(bj (.cons (.d false (.int .u8)) .nil) [] [] 1 qoo (B:=Bool) (fun b=>((b,()),(()))) (fun a=>qh8 a.1.1))
theorem qwy:MdlOK Try.prog 97 qrv:=p7 Try.func97 rfl q1m .z s0
def qi2:Shp:=⟨[qiu],[]⟩
abbrev qly:Ctx (Bool):=⟨29,tt,false,false,[],ov [(96,qeh),(97,qrv)],p4 [bg _ 29 [] qrt (C:=(ByteArray×Int)) (S:=Int) (fun x=>((x.1.1,x.1.2.1),x.1.2.2.1)) qrs (CE:=Unit) (E:=Unit) (fun c e=>((()),(()))) (fun c=>()) (fun{R} c a nx dn rt=>o5 c.1 c.2 a nx dn rt)],ec 29 tt [] [.tmp 2] qi2 (fun x=>x.1.1)⟩
theorem qlw:CtxM Try.prog qly:=p8 fits ce (mC qgw (mC qwy m0))
theorem qti:ba Try.prog qly 0 (lc 0 Try.f77 75):=lp rfl qlw .z s0 (fun c a=>((c.1,c.2,a,()),(()))) (fun y=>((),()))
abbrev qlx:Mdl:=(bj (.cons (.d false .str) .nil) [] [] 1 qi2 (B:=Bool) (fun b=>((b,()),(()))) (fun a=>qab a.1.1))
theorem qru:MdlOK Try.prog 77 qlx:=p7 Try.func77 rfl qlw (.two .z (.two .z (.two (.two .z (.s 0)) .z))) (sC qti s0)
def qg4:Shp:=⟨[qiu],[]⟩
abbrev qjc:Ctx (Bool):=⟨36,tt,false,false,[],ov [],p4 [bg _ 36 [] qpj (C:=(qL1×qL1×Int×Int×(List ai)×Int×Int)) (S:=Int) (fun x=>((x.1.1,x.1.2.2.1,(pe3 x.1),x.2.1.1,x.2.1.2.1,x.2.1.2.2.1,(pe3 x.2.1)),(pe4 x.1))) qpi (CE:=Unit) (E:=Unit) (fun c e=>((()),(()))) (fun c=>()) (fun{R} c a nx dn rt=>ko c.1 c.2.1 c.2.2.1 (pe3 c) (pe4 c) (pe5 c) (pf6 c) a nx dn rt)],ec 36 tt [] [.tmp 4] qg4 (fun x=>x.1.1)⟩
theorem qja:CtxM Try.prog qjc:=p8 fits ce m0
theorem qsf:ba Try.prog qjc 0 (lc 0 Try.f78 37):=lp rfl qja .z s0 (fun c a=>((c.1,(),c.2.1,c.2.2.1,a,()),(((pe3 c),(pe4 c),(pe5 c),(pf6 c),()),()))) (fun y=>((),()))
abbrev qjb:Mdl:=(bj (.cons (.d false c9.ty) (.cons (.d false qT1) .nil)) [] [] 1 qg4 (B:=Bool) (fun b=>((b,()),(()))) (fun a=>jp a.1.1 a.1.2.1))
theorem qpk:MdlOK Try.prog 78 qjb:=p7 Try.func78 rfl qja (.two .z (.two (.two .z (.s 0)) .z)) (sC qsf s0)
def qi8:Shp:=⟨[qiu],[]⟩
abbrev ql8:Ctx (Bool):=⟨62,tt,false,false,[],ov [(77,qlx),(78,qjb)],p4 [bg _ 62 [] qr9 (C:=((List ai)×Int×Int×(List ai)×Int×Int)) (S:=Int) (fun x=>((x.1.2.1,x.1.2.2.1,x.2.1.1,x.2.1.2.1,x.2.1.2.2.1,(pe3 x.2.1)),(pe3 x.1))) qr8 (CE:=(Int×(List ai)×Int×Int)) (E:=Unit) (fun c e=>(((),()),((c.1,c.2.1,c.2.2.1,c.2.2.2,()),()))) (fun c=>(c.2.2.1,(pe3 c),(pe4 c),(pf5 c))) (fun{R} c a nx dn rt=>tf c.1 c.2.1 c.2.2.1 (pe3 c) (pe4 c) (pf5 c) a nx dn rt)],ec 62 tt [] [.tmp 2] qi8 (fun x=>x.1.1)⟩
theorem ql7:CtxM Try.prog ql8:=p8 fits ce (mC qru (mC qpk m0))
theorem qtk:ba Try.prog ql8 0 (lc 0 Try.f50 75):=lp rfl ql7 .z s0 (fun c a=>(((),c.1,c.2.1,a,()),((c.2.2.1,(pe3 c),(pe4 c),(pf5 c),()),()))) (fun y=>((y.2.1.1,y.2.1.2.1,y.2.1.2.2.1,(pe3 y.2.1)),()))
abbrev po:Mdl:=(bj (.cons (.d false c9.ty) .nil) [] [] 1 qi8 (B:=Bool) (fun b=>((b,()),(()))) (fun a=>m3 a.1.1))
theorem o6:MdlOK Try.prog 50 po:=p7 Try.func50 rfl ql7 (.two .z (.two .z (.two (.two .z (.s 0)) .z))) (sC qtk s0)
def qam:Shp:=⟨[qiu],[]⟩
abbrev qny:Ctx (Bool):=⟨35,tt,false,false,[],ov [],p4 [],ec 35 tt [] [.tmp 2] qam (fun x=>x.1.1)⟩
theorem qnx:CtxM Try.prog qny:=p8 fits ce m0
abbrev qde:Mdl:=(bj (.cons (.d false af.ty) .nil) [] [] 1 qam (B:=Bool) (fun b=>((b,()),(()))) (fun a=>qw a.1.1))
theorem qkk:MdlOK Try.prog 87 qde:=p7 Try.func87 rfl qnx .z s0
def gb:Shp:=⟨[qv0],[]⟩
abbrev gn:Ctx (Int):=⟨19,tt,false,false,[],ov [(87,qde)],p4 [bg _ 19 [] mq (C:=((List af)×Int)) (S:=Int) (fun x=>((x.1.1,x.1.2.2.1),(pe3 x.1))) mn (CE:=Unit) (E:=Unit) (fun c e=>((()),(()))) (fun c=>()) (fun{R} c a nx dn rt=>bw c.1 c.2 a nx dn rt)],ec 19 tt [] [.tmp 4] gb (fun x=>x.1.1)⟩
theorem gk:CtxM Try.prog gn:=p8 fits ce (mC qkk m0)
theorem mz:ba Try.prog gn 0 (lc 0 Try.f101 37):=lp rfl gk .z s0 (fun c a=>((c.1,(()),c.2,a,()),(()))) (fun y=>((),()))
abbrev gm:Mdl:=(bj (.cons (.d false (.slice af.ty)) (.cons (.fn 87 .nil) .nil)) [] [] 1 gb (B:=Int) (fun b=>((b,()),(()))) (fun a=>dp a.1.1))
theorem mr:MdlOK Try.prog 101 gm:=p7 Try.func101 rfl gk (.two .z (.two (.two .z (.s 0)) .z)) (sC mz s0)
def fc:Shp:=⟨[qiu],[]⟩
abbrev lu:Ctx (Bool):=⟨9,tt,false,false,[],ov [(101,gm)],p4 [],ec 9 tt [] [.tmp 4] fc (fun x=>x.1.1)⟩
theorem ls:CtxM Try.prog lu:=p8 fits ce (mC mr m0)
abbrev fj:Mdl:=(bj (.cons (.d false (.slice af.ty)) (.cons (.fn 87 .nil) .nil)) [] [] 1 fc (B:=Bool) (fun b=>((b,()),(()))) (fun a=>c7 a.1.1))
theorem la:MdlOK Try.prog 86 fj:=p7 Try.func86 rfl ls .z s0
def qfq:Shp:=⟨[qiu],[]⟩
abbrev qsn:Ctx (Bool):=⟨16,tt,false,false,[],ov [(86,fj)],p4 [],ec 16 tt [] [.tmp 4] qfq (fun x=>x.1.1)⟩
theorem qsm:CtxM Try.prog qsn:=p8 fits ce (mC la m0)
abbrev qhg:Mdl:=(bj (.cons (.d false c9.ty) (.cons (.d false (.slice af.ty)) .nil)) [] [] 1 qfq (B:=Bool) (fun b=>((b,()),(()))) (fun a=>wb a.1.1 a.1.2.1))
theorem qnz:MdlOK Try.prog 62 qhg:=p7 Try.func62 rfl qsm .z s0
def qae:Shp:=⟨[qiu],[]⟩
abbrev qno:Ctx (Bool):=⟨9,tt,false,false,[],ov [],p4 [],ec 9 tt [] [.tmp 2] qae (fun x=>x.1.1)⟩
theorem qnn:CtxM Try.prog qno:=p8 fits ce m0
abbrev qcg:Mdl:=(bj (.cons (.d false qT0) .nil) [] [] 1 qae (B:=Bool) (fun b=>((b,()),(()))) (fun a=>xy a.1.1))
theorem qj3:MdlOK Try.prog 83 qcg:=p7 Try.func83 rfl qnn .z s0
def m8:Shp:=⟨[qv0],[]⟩
abbrev n4:Ctx (Int):=⟨19,tt,false,false,[],ov [(83,qcg)],p4 [bg _ 19 [] vo (C:=(qL1×Int)) (S:=Int) (fun x=>((x.1.1,x.1.2.2.1),(pe3 x.1))) vn (CE:=Unit) (E:=Unit) (fun c e=>((()),(()))) (fun c=>()) (fun{R} c a nx dn rt=>eh c.1 c.2 a nx dn rt)],ec 19 tt [] [.tmp 4] m8 (fun x=>x.1.1)⟩
theorem ny:CtxM Try.prog n4:=p8 fits ce (mC qj3 m0)
theorem xl:ba Try.prog n4 0 (lc 0 Try.f60 37):=lp rfl ny .z s0 (fun c a=>((c.1,(()),c.2,a,()),(()))) (fun y=>((),()))
abbrev nz:Mdl:=(bj (.cons (.d false qT1) (.cons (.fn 83 .nil) .nil)) [] [] 1 m8 (B:=Int) (fun b=>((b,()),(()))) (fun a=>jz a.1.1))
theorem vp:MdlOK Try.prog 60 nz:=p7 Try.func60 rfl ny (.two .z (.two (.two .z (.s 0)) .z)) (sC xl s0)
def lb:Shp:=⟨[qiu],[]⟩
abbrev ud:Ctx (Bool):=⟨9,tt,false,false,[],ov [(60,nz)],p4 [],ec 9 tt [] [.tmp 4] lb (fun x=>x.1.1)⟩
theorem uc:CtxM Try.prog ud:=p8 fits ce (mC vp m0)
abbrev lm:Mdl:=(bj (.cons (.d false qT1) (.cons (.fn 83 .nil) .nil)) [] [] 1 lb (B:=Bool) (fun b=>((b,()),(()))) (fun a=>ed a.1.1))
theorem sy:MdlOK Try.prog 23 lm:=p7 Try.func23 rfl uc .z s0
def qfl:Shp:=⟨[qiu],[]⟩
abbrev qsd:Ctx (Bool):=⟨19,tt,false,false,[],ov [(50,po),(23,lm)],p4 [],ec 19 tt [] [.tmp 4] qfl (fun x=>x.1.1)⟩
theorem qsc:CtxM Try.prog qsd:=p8 fits ce (mC o6 (mC sy m0))
abbrev th:Mdl:=(bj (.cons (.d false c9.ty) (.cons (.d false qT1) .nil)) [] [] 1 qfl (B:=Bool) (fun b=>((b,()),(()))) (fun a=>iy a.1.1 a.1.2.1))
theorem ve:MdlOK Try.prog 57 th:=p7 Try.func57 rfl qsc .z s0
def qad:Shp:=⟨[qiu],[]⟩
abbrev qnm:Ctx (Bool):=⟨9,tt,false,false,[],ov [],p4 [],ec 9 tt [] [.tmp 3] qad (fun x=>x.1.1)⟩
theorem qnl:CtxM Try.prog qnm:=p8 fits ce m0
abbrev qce:Mdl:=(bj (.cons (.d false qT0) (.cons (.rp false qT1) .nil)) [] [] 1 qad (B:=Bool) (fun b=>((b,()),(()))) (fun a=>xx a.1.1 a.1.2.1))
theorem qj2:MdlOK Try.prog 84 qce:=p7 Try.func84 rfl qnl .z s0
def na:Shp:=⟨[qv0],[]⟩
abbrev n7:Ctx (Int):=⟨19,tt,false,false,[],ov [(84,qce)],p4 [bg _ 19 [] vx (C:=(qL1×qL1×Int)) (S:=Int) (fun x=>((x.1.1,x.1.2.1.1,x.1.2.2.1),(pe3 x.1))) vq (CE:=Unit) (E:=Unit) (fun c e=>((()),(()))) (fun c=>()) (fun{R} c a nx dn rt=>ek c.1 c.2.1 c.2.2 a nx dn rt)],ec 19 tt [] [.tmp 4] na (fun x=>x.1.1)⟩
theorem n5:CtxM Try.prog n7:=p8 fits ce (mC qj2 m0)
theorem xm:ba Try.prog n7 0 (lc 0 Try.f60 37):=lp rfl n5 .z s0 (fun c a=>((c.1,(c.2.1,()),c.2.2,a,()),(()))) (fun y=>((),()))
abbrev n6:Mdl:=(bj (.cons (.d false qT1) (.cons (.fn 84 (.cons (.rp false qT1) .nil)) .nil)) [] [] 1 na (B:=Int) (fun b=>((b,()),(()))) (fun a=>j1 a.1.1 a.1.2.1.1))
theorem vy:MdlOK Try.prog 60 n6:=p7 Try.func60 rfl n5 (.two .z (.two (.two .z (.s 0)) .z)) (sC xm s0)
def ld:Shp:=⟨[qiu],[]⟩
abbrev uf:Ctx (Bool):=⟨9,tt,false,false,[],ov [(60,n6)],p4 [],ec 9 tt [] [.tmp 4] ld (fun x=>x.1.1)⟩
theorem ue:CtxM Try.prog uf:=p8 fits ce (mC vy m0)
abbrev ln:Mdl:=(bj (.cons (.d false qT1) (.cons (.fn 84 (.cons (.rp false qT1) .nil)) .nil)) [] [] 1 ld (B:=Bool) (fun b=>((b,()),(()))) (fun a=>ip a.1.1 a.1.2.1.1))
theorem s5:MdlOK Try.prog 23 ln:=p7 Try.func23 rfl ue .z s0
def qfk:Shp:=⟨[qiu],[]⟩
abbrev qsb:Ctx (Bool):=⟨10,tt,false,false,[],ov [(23,ln)],p4 [],ec 10 tt [] [.tmp 4] qfk (fun x=>x.1.1)⟩
theorem qsa:CtxM Try.prog qsb:=p8 fits ce (mC s5 m0)
abbrev ze:Mdl:=(bj (.cons (.d false ai.ty) (.cons (.d false qT1) .nil)) [] [] 1 qfk (B:=Bool) (fun b=>((b,()),(()))) (fun a=>qa a.1.1 a.1.2.1))
theorem qcf:MdlOK Try.prog 58 ze:=p7 Try.func58 rfl qsa .z s0
def qfj:Shp:=⟨[ja3,qk7],[qdy]⟩
abbrev qgy:Ctx ((Int×qL1)):=⟨30,tt,false,false,[],ov [(57,th),(58,ze)],p4 [bg _ 30 [] qnk (C:=(qL1×(List ai)×Int)) (S:=(Int×qL1)) (fun x=>((x.1.1,x.1.2.2.1,(pe3 x.1)),((pe4 x.1),x.2.1))) qnj (CE:=Unit) (E:=qL1) (fun c e=>(((),()),(e,()))) (fun c=>()) (fun{R} c a nx dn rt=>mc c.1 c.2.1 c.2.2 a.1 a.2 nx dn rt)],ec 30 tt [] [.tmp 4, .tmp 5] qfj (fun x=>(x.1.2.1,x.2.1))⟩
theorem qgx:CtxM Try.prog qgy:=p8 fits ce (mC ve (mC qcf m0))
theorem qph:ba Try.prog qgy 0 (lc 0 Try.f21 151):=lp rfl qgx .z s0 (fun c a=>((c.1,(),c.2.1,c.2.2,a.1,()),(a.2,()))) (fun y=>((),y.2.1))
abbrev zc:Mdl:=(bj (.cons (.d false c9.ty) (.cons (.d false qT1) .nil)) [] [] 2 qfj (B:=(Int×qL1)) (fun b=>(((),b.1,()),(b.2,()))) (fun a=>oa a.1.1 a.1.2.1))
theorem qcd:MdlOK Try.prog 21 zc:=p7 Try.func21 rfl qgx (.two .z (.two .z (.two .z (.two (.two .z (.s 0)) .z)))) (sC qph s0)
def qp:Shp:=⟨[q1u],[qdy]⟩
abbrev qdm:Ctx (qL1):=⟨8,tt,false,false,[],ov [],p4 [],ec 8 tt [] [.tmp 2] qp (fun x=>x.2.1)⟩
theorem qdk:CtxM Try.prog qdm:=p8 fits ce m0
abbrev qdl:Mdl:=(bj (.cons (.nl false (.d false qT1)) .nil) [] [] 1 qp (B:=qL1) (fun b=>(((),()),(b,()))) (fun a=>tz a.1.1))
theorem zy:MdlOK Try.prog 36 qdl:=p7 Try.func36 rfl qdk .z s0
def lj:Shp:=⟨[q1u],[qdy]⟩
abbrev qdp:Ctx (qL1):=⟨8,tt,false,false,[],ov [],p4 [],ec 8 tt [] [.tmp 2] lj (fun x=>x.2.1)⟩
theorem qdn:CtxM Try.prog qdp:=p8 fits ce m0
abbrev qdo:Mdl:=(bj (.cons (.nl true (.d false qT1)) .nil) [] [] 1 lj (B:=qL1) (fun b=>(((),()),(b,()))) (fun a=>jy a.1.1))
theorem zz:MdlOK Try.prog 36 qdo:=p7 Try.func36 rfl qdn .z s0
abbrev kd:Mdl:=(bj (.cons (.d false qT1) .nil) [] [] 1 lj (fun(b:qL1)=>(((),()),(b,()))) (fun(a:((qL1×Unit)×(Unit)))=>ea a.1.1))
theorem mj:MdlOK Try.prog 36 kd:=by
 refine q5w (jcf _ _) zy zz (by kernel_rfl) (fun a b h=>⟨?_,h⟩);obtain⟨⟨xs,u1⟩,u2⟩:=a;cases xs with
 |nil=>exact h
 |cons x l=>
  have e:decide ((((x::l).length:Nat):Int)=0)=false:=decide_eq_false (by simp only[List.length_cons];omega);simp only[ea,jy]at h;simp only[tz,e,cond_false];exact h
def qo3:Shp:=⟨[(0, .d true .str)],[]⟩
abbrev qsz:Ctx (ByteArray):=⟨27,tt,false,false,[],ov [],p4 [bg _ 27 [] qxt (C:=(qL1×Int)) (S:=(Int×qL1)) (fun x=>((x.1.2.1,x.1.2.2.1),((pe3 x.1),x.2.1))) qxs (CE:=Unit) (E:=qL1) (fun c e=>(((),()),(e,()))) (fun c=>()) (fun{R} c a nx dn rt=>yv c.1 c.2 a.1 a.2 nx dn rt)],ec 27 tt [] [.tmp 2] qo3 (fun x=>x.1.1)⟩
theorem qsx:CtxM Try.prog qsz:=p8 fits ce m0
theorem qz3:ba Try.prog qsz 0 (lc 0 Try.f98 75):=lp rfl qsx .z s0 (fun c a=>(((),c.1,c.2,a.1,()),(a.2,()))) (fun y=>((),y.2.1))
abbrev qsy:Mdl:=(bj (.cons (.d false qT1) .nil) [] [] 1 qo3 (B:=ByteArray) (fun b=>((b,()),(()))) (fun a=>vz a.1.1))
theorem qxu:MdlOK Try.prog 98 qsy:=p7 Try.func98 rfl qsx (.two .z (.two .z (.two (.two .z (.s 0)) .z))) (sC qz3 s0)
def xo:Shp:=⟨[qv0],[]⟩
abbrev yi:Ctx (Int):=⟨25,tt,false,false,[],ov [],p4 [bg _ 25 [] qgd (C:=qL1) (S:=(Int×Int)) (fun x=>(x.1.1,(x.1.2.1,x.1.2.2.1))) qgc (CE:=Unit) (E:=Int) (fun c e=>((e,()),(()))) (fun c=>()) (fun{R} c a nx dn rt=>kg c a.1 a.2 nx dn rt)],ec 25 tt [] [.tmp 2] xo (fun x=>x.1.1)⟩
theorem yg:CtxM Try.prog yi:=p8 fits ce m0
theorem qhu:ba Try.prog yi 0 (lc 0 Try.f85 151):=lp rfl yg .z s0 (fun c a=>((c,a.1,a.2,()),(()))) (fun y=>((),y.1.1))
abbrev yh:Mdl:=(bj (.cons (.d false qT1) .nil) [] [] 1 xo (B:=Int) (fun b=>((b,()),(()))) (fun a=>nr a.1.1))
theorem qge:MdlOK Try.prog 85 yh:=p7 Try.func85 rfl yg (.two .z (.two .z (.two .z (.two (.two .z (.s 0)) .z)))) (sC qhu s0)
def qmb:Shp:=⟨[q1u,qk7],[qdy]⟩
abbrev qg2:Ctx ((Int×qL1)):=⟨66,tt,false,false,[],ov [(58,ze),(36,kd),(85,yh)],p4 [bg _ 66 [] qtm (C:=(qL1×Int×ByteArray×qL1×qL1)) (S:=(Int×qL1)) (fun x=>((x.1.2.2.1,(pe3 x.1),x.2.1.1,x.2.1.2.1,x.2.1.2.2.1),((pe4 x.1),x.2.2.1))) qtl (CE:=(ByteArray×qL1×qL1)) (E:=qL1) (fun c e=>(((),(),()),((c.1,c.2.1,c.2.2,()),e,()))) (fun c=>(c.2.2.1,(pe3 c),(pf4 c))) (fun{R} c a nx dn rt=>v9 c.1 c.2.1 c.2.2.1 (pe3 c) (pf4 c) a.1 a.2 nx dn rt),bg _ 66 [] qto (C:=(qL1×Int)) (S:=(Int×qL1)) (fun x=>((x.1.2.1,x.1.2.2.1),((pe3 x.1),x.2.1))) qtn (CE:=Unit) (E:=qL1) (fun c e=>(((),()),(e,()))) (fun c=>()) (fun{R} c a nx dn rt=>wa c.1 c.2 a.1 a.2 nx dn rt)],ec 66 tt [] [.tmp 6, .tmp 7] qmb (fun x=>(x.1.2.1,x.2.1))⟩
theorem qg0:CtxM Try.prog qg2:=p8 fits ce (mC qcf (mC mj (mC qge m0)))
theorem qxa:ba Try.prog qg2 1 (lc 2 Try.f59 1215):=lp rfl qg0 .z s0 (fun c a=>(((),c.1,c.2,a.1,()),(a.2,()))) (fun y=>((),y.2.1))
theorem qw9:ba Try.prog qg2 0 (lc 0 Try.f59 607):=lp rfl qg0 .z s0 (fun c a=>(((),(),c.1,c.2.1,a.1,()),((c.2.2.1,(pe3 c),(pf4 c),()),a.2,()))) (fun y=>((y.2.1.1,y.2.1.2.1,y.2.1.2.2.1),y.2.2.1))
abbrev qg1:Mdl:=(bj (.cons (.d false c9.ty) (.cons (.d false qT1) (.cons (.d false qT0) .nil))) [] [] 2 qmb (B:=(Int×qL1)) (fun b=>(((),b.1,()),(b.2,()))) (fun a=>q8 a.1.1 a.1.2.1 a.1.2.2.1))
theorem qi9:MdlOK Try.prog 59 qg1:=p7 Try.func59 rfl qg0 (.two .z (.two .z (.two .z (.two .z (.two .z (.two (.two .z (.s 0)) (.two (.two .z (.s 1)) .z))))))) (sC qw9 (sC qxa s0))
def ql6:Shp:=⟨[q1u,qk7],[qdy]⟩
abbrev qzo:Ctx ((Int×qL1)):=⟨18,tt,false,false,[],ov [(57,th),(59,qg1)],p4 [],ec 18 tt [] [.tmp 6, .tmp 7] ql6 (fun x=>(x.1.2.1,x.2.1))⟩
theorem qzn:CtxM Try.prog qzo:=p8 fits ce (mC ve (mC qi9 m0))
abbrev qor:Mdl:=(bj (.cons (.d false c9.ty) (.cons (.d false qT1) (.cons (.d false qT0) .nil))) [] [] 2 ql6 (B:=(Int×qL1)) (fun b=>(((),b.1,()),(b.2,()))) (fun a=>zd a.1.1 a.1.2.1 a.1.2.2.1))
theorem qtj:MdlOK Try.prog 22 qor:=p7 Try.func22 rfl qzn .z s0
def qfz:Shp:=⟨[(0, .d true j6.ty),qk7],[]⟩
abbrev zt:Ctx ((j6×Int)):=⟨126,tt,false,true,[],ov [(21,zc),(36,kd),(98,qsy),(22,qor)],p4 [bg _ 126 [] qn6 (C:=(Int×Int×qL1×Int×Int×(List ai)×Int×Int×qL2×(List ao)×Bool)) (S:=(Int×Bool×(List (ByteArray×Int))×qL2×(List ao))) (fun x=>((x.1.1,(pe5 x.1),(pe6 x.1),(pe7 x.1),x.2.1.1,x.2.1.2.1,x.2.1.2.2.1,(pe3 x.2.1),x.2.2.1.1,x.2.2.1.2.1,x.2.2.1.2.2.1),((pe8 x.1),(pe3 x).2.2.1,(pe4 x),(pe5 x),(pe6 x)))) qn5 (CE:=(Int×Int×Int×(List ai)×Int×Int×qL2×(List ao)×Bool)) (E:=(Bool×(List (ByteArray×Int))×qL2×(List ao))) (fun c e=>((c.1,(),(),(),(),c.2.1,()),((c.2.2.1,(pe3 c),(pe4 c),(pe5 c),()),((pe6 c),(pe7 c),(pf8 c),()),((),(),e.1,()),e.2.1,e.2.2.1,e.2.2.2,()))) (fun c=>(c.1,c.2.1,(pe4 c),(pe5 c),(pe6 c),(pe7 c),(pe8 c),(pe9 c),(pf10 c))) (fun{R} c a nx dn rt=>iq c.1 c.2.1 c.2.2.1 (pe3 c) (pe4 c) (pe5 c) (pe6 c) (pe7 c) (pe8 c) (pe9 c) (pf10 c) a.1 a.2.1 a.2.2.1 (pe3 a) (pf4 a) nx dn rt),bg _ 126 [] qn8 (C:=(Int×Int×(List ai)×Int×Int×qL2×(List ao)×Bool)) (S:=(Int×Bool×(List (ByteArray×Int))×qL2×(List ao))) (fun x=>((x.1.1,x.2.1.1,x.2.1.2.1,x.2.1.2.2.1,(pe3 x.2.1),x.2.2.1.1,x.2.2.1.2.1,x.2.2.1.2.2.1),((pe5 x.1),(pe3 x).2.2.1,(pe4 x),(pe5 x),(pe6 x)))) qn7 (CE:=(qL2×(List ao)×Bool)) (E:=(Bool×qL2×(List ao))) (fun c e=>(((),(),()),((c.1,c.2.1,c.2.2,()),((),(),e.1,()),e.2.1,e.2.2,()))) (fun c=>((pe5 c),(pe6 c),(pf7 c))) (fun{R} c a nx dn rt=>j5 c.1 c.2.1 c.2.2.1 (pe3 c) (pe4 c) (pe5 c) (pe6 c) (pf7 c) a.1 a.2.1 a.2.2.1 (pe3 a) (pf4 a) nx dn rt)],ec 126 tt [] [.cell 6 87, .tmp 7] qfz (fun x=>(x.1.1,x.1.2.1))⟩
theorem zr:CtxM Try.prog zt:=p8 fits ce (mC qcd (mC mj (mC qxu (mC qtj m0))))
theorem qps:ba Try.prog zt 0 (lc 2 Try.f79 78431):=lp rfl zr (.two .z (.two .z (.two (.one (.two .z (.two (.d [0,0,2,0,14,30,0,127,255,511,511,1023,4095] [] []) .z))) .z))) s0 (fun c a=>((c.1,(),(),(),(),c.2.1,c.2.2.1,(pe3 c),a.1,()),(((pe4 c),(pe5 c),(pe6 c),(pe7 c),()),((pe8 c),(pe9 c),(pf10 c),()),((),(),a.2.1,()),a.2.2.1,(pe3 a),(pf4 a),()))) (fun y=>((y.1.1,(pe5 y.1),y.2.1.1,y.2.1.2.1,y.2.1.2.2.1,(pe3 y.2.1),y.2.2.1.1,y.2.2.1.2.1,y.2.2.1.2.2.1),((pe3 y).2.2.1,(pe4 y),(pe5 y),(pe6 y))))
theorem qpt:ba Try.prog zt 1 (lc 0 Try.f79 607):=lp rfl zr (.two .z (.two (.one (.two (.d [0,0,2,0,14,30,63,127,255,255,511,2047] [] []) (.two .z (.s 0)))) .z)) (sC qps s0) (fun c a=>((c.1,(),(),(),(),a.1,()),((c.2.1,c.2.2.1,(pe3 c),(pe4 c),()),((pe5 c),(pe6 c),(pf7 c),()),((),(),a.2.1,()),a.2.2.1,(pe3 a),(pf4 a),()))) (fun y=>((y.2.1.1,y.2.1.2.1,y.2.1.2.2.1),(y.2.2.1.2.2.1,(pe3 y),(pe4 y))))
abbrev qhv:Mdl:=(bj (.cons (.d false c9.ty) (.cons (.d false qT1) (.cons (.d false qT0) .nil))) [] [] 2 qfz (B:=(j6×Int)) (fun b=>((b.1,b.2,()),(()))) (fun a=>wh a.1.1 a.1.2.1 a.1.2.2.1))
theorem qn9:MdlOK Try.prog 79 qhv:=p7 Try.func79 rfl zr (.two .z (.two .z (.two .z (.two .z (.two .z (.two (.two .z (.s 1)) .z)))))) (sC qpt s0)
def qou:Shp:=⟨[q1u,qk7],[qdy]⟩
abbrev q1z:Ctx ((Int×qL1)):=⟨17,tt,false,false,[],ov [(50,po)],p4 [],ec 17 tt [] [.tmp 4, .tmp 5] qou (fun x=>(x.1.2.1,x.2.1))⟩
theorem q1y:CtxM Try.prog q1z:=p8 fits ce (mC o6 m0)
abbrev qse:Mdl:=(bj (.cons (.d false c9.ty) (.cons (.d false qT0) .nil)) [] [] 2 qou (B:=(Int×qL1)) (fun b=>(((),b.1,()),(b.2,()))) (fun a=>qnp a.1.1 a.1.2.1))
theorem qxb:MdlOK Try.prog 56 qse:=p7 Try.func56 rfl q1y .z s0
def qi6:Shp:=⟨[q1u,qk7],[qdy]⟩
abbrev qw5:Ctx ((Int×qL1)):=⟨10,tt,false,false,[],ov [(56,qse)],p4 [],ec 10 tt [] [.tmp 2, .tmp 3] qi6 (fun x=>(x.1.2.1,x.2.1))⟩
theorem qw4:CtxM Try.prog qw5:=p8 fits ce (mC qxb m0)
abbrev qei:Mdl:=(bj (.cons (.d false c9.ty) .nil) [] [] 2 qi6 (B:=(Int×qL1)) (fun b=>(((),b.1,()),(b.2,()))) (fun a=>xc a.1.1))
theorem qgz:MdlOK Try.prog 19 qei:=p7 Try.func19 rfl qw4 .z s0
def t4:Shp:=⟨[qiu],[]⟩
abbrev uu:Ctx (Bool):=⟨26,tt,false,false,[],ov [],p4 [bg _ 26 [] qdr (C:=(qL1×qL1×Int)) (S:=Int) (fun x=>((x.1.1,x.1.2.1,x.1.2.2.1),(pe3 x.1))) qdq (CE:=Unit) (E:=Unit) (fun c e=>((()),(()))) (fun c=>()) (fun{R} c a nx dn rt=>fy c.1 c.2.1 c.2.2 a nx dn rt)],ec 26 tt [] [.tmp 4] t4 (fun x=>x.1.1)⟩
theorem ut:CtxM Try.prog uu:=p8 fits ce m0
theorem qe3:ba Try.prog uu 0 (lc 0 Try.f17 75):=lp rfl ut (.two .z (.two .z (.two (.one (.two .z (.two (.d [0,0,3,7,0,0,48,112,255] [] []) .z))) .z))) s0 (fun c a=>((c.1,c.2.1,c.2.2,a,()),(()))) (fun y=>((),()))
abbrev kf:Mdl:=(bj (.cons (.d false qT1) (.cons (.d false qT1) .nil)) [] [] 1 t4 (B:=Bool) (fun b=>((b,()),(()))) (fun a=>bv a.1.1 a.1.2.1))
theorem mm:MdlOK Try.prog 17 kf:=p7 Try.func17 rfl ut (.two .z (.two .z (.two (.two .z (.s 0)) .z))) (sC qe3 s0)
def qhw:Shp:=⟨[qiu],[]⟩
abbrev qtx:Ctx (Bool):=⟨7,tt,false,false,[],ov [(17,kf)],p4 [],ec 7 tt [] [.tmp 3] qhw (fun x=>x.1.1)⟩
theorem qtw:CtxM Try.prog qtx:=p8 fits ce (mC mm m0)
abbrev qjn:Mdl:=(bj (.cons (.d false qT1) (.cons (.rp false qT1) .nil)) [] [] 1 qhw (B:=Bool) (fun b=>((b,()),(()))) (fun a=>yu a.1.1 a.1.2.1))
theorem qpu:MdlOK Try.prog 100 qjn:=p7 Try.func100 rfl qtw .z s0
def mu:Shp:=⟨[qv0],[]⟩
abbrev m6:Ctx (Int):=⟨19,tt,false,false,[],ov [(100,qjn)],p4 [bg _ 19 [] uh (C:=(qL2×qL1×Int)) (S:=Int) (fun x=>((x.1.1,x.1.2.1.1,x.1.2.2.1),(pe3 x.1))) ug (CE:=Unit) (E:=Unit) (fun c e=>((()),(()))) (fun c=>()) (fun{R} c a nx dn rt=>d9 c.1 c.2.1 c.2.2 a nx dn rt)],ec 19 tt [] [.tmp 4] mu (fun x=>x.1.1)⟩
theorem m4:CtxM Try.prog m6:=p8 fits ce (mC qpu m0)
theorem vm:ba Try.prog m6 0 (lc 0 Try.f99 37):=lp rfl m4 .z s0 (fun c a=>((c.1,(c.2.1,()),c.2.2,a,()),(()))) (fun y=>((),()))
abbrev m5:Mdl:=(bj (.cons (.d false qT2) (.cons (.fn 100 (.cons (.rp false qT1) .nil)) .nil)) [] [] 1 mu (B:=Int) (fun b=>((b,()),(()))) (fun a=>ji a.1.1 a.1.2.1.1))
theorem ui:MdlOK Try.prog 99 m5:=p7 Try.func99 rfl m4 (.two .z (.two (.two .z (.s 0)) .z)) (sC vm s0)
def qmp:Shp:=⟨[qv0],[]⟩
abbrev qz2:Ctx (Int):=⟨9,tt,false,false,[],ov [(99,m5)],p4 [],ec 9 tt [] [.tmp 4] qmp (fun x=>x.1.1)⟩
theorem qz1:CtxM Try.prog qz2:=p8 fits ce (mC ui m0)
abbrev qo1:Mdl:=(bj (.cons (.d false j6.ty) (.cons (.d false qT1) .nil)) [] [] 1 qmp (B:=Int) (fun b=>((b,()),(()))) (fun a=>qe5 a.1.1 a.1.2.1))
theorem qty:MdlOK Try.prog 80 qo1:=p7 Try.func80 rfl qz1 .z s0
def qal:Shp:=⟨[qs9,qk7],[]⟩
abbrev pr:Ctx (((List (Int×(List ab)))×Int×Int×Int)):=⟨139,tt,false,false,[],ov [(21,zc),(79,qhv),(19,qei),(80,qo1)],p4 [bg _ 139 [] qkd (C:=((List ao)×Int×(List (Int×(List ab)))×Int×Int×qL2×(List ao)×Bool×Int×Int×(List (Int×(List ab))))) (S:=(Bool×Int×(List Bool))) (fun x=>(((pe5 x.1),(pe6 x.1),x.2.1.1,x.2.1.2.1,x.2.1.2.2.1,x.2.2.1.1,x.2.2.1.2.1,x.2.2.1.2.2.1,(pe3 x).2.1,(pe3 x).2.2.1,(pe5 x)),((pe4 x.1),(pe7 x.1),(pe4 x)))) qkc (CE:=((List (Int×(List ab)))×Int×Int×qL2×(List ao)×Bool×Int×Int×(List (Int×(List ab))))) (E:=(Bool×(List Bool))) (fun c e=>(((),(),(),(),e.1,()),((c.1,c.2.1,c.2.2.1,()),((pe3 c),(pe4 c),(pe5 c),()),((),(pe6 c),(pe7 c),()),e.2,(pf8 c),()))) (fun c=>(c.2.2.1,(pe3 c),(pe4 c),(pe5 c),(pe6 c),(pe7 c),(pe8 c),(pe9 c),(pf10 c))) (fun{R} c a nx dn rt=>ij c.1 c.2.1 c.2.2.1 (pe3 c) (pe4 c) (pe5 c) (pe6 c) (pe7 c) (pe8 c) (pe9 c) (pf10 c) a.1 a.2.1 a.2.2 nx dn rt),bg _ 139 [] qkf (C:=((List (Int×(List ab)))×Int×Int×qL2×(List ao)×Bool×Int×Int×(List (Int×(List ab))))) (S:=(Bool×(List Bool))) (fun x=>((x.2.1.1,x.2.1.2.1,x.2.1.2.2.1,x.2.2.1.1,x.2.2.1.2.1,x.2.2.1.2.2.1,(pe3 x).2.1,(pe3 x).2.2.1,(pe5 x)),((pe4 x.1),(pe4 x)))) qke (CE:=((List (Int×(List ab)))×Int×Int×qL2×(List ao)×Bool×Int×Int×(List (Int×(List ab))))) (E:=(List Bool)) (fun c e=>(((),(),(),(),()),((c.1,c.2.1,c.2.2.1,()),((pe3 c),(pe4 c),(pe5 c),()),((),(pe6 c),(pe7 c),()),e,(pf8 c),()))) (fun c=>(c.1,c.2.1,c.2.2.1,(pe3 c),(pe4 c),(pe5 c),(pe6 c),(pe7 c),(pf8 c))) (fun{R} c a nx dn rt=>il c.1 c.2.1 c.2.2.1 (pe3 c) (pe4 c) (pe5 c) (pe6 c) (pe7 c) (pf8 c) a.1 a.2 nx dn rt),bg _ 139 [] qkh (C:=((List Bool)×(List ao)×Int×(List (Int×(List ab)))×Int×Int×Int×Int)) (S:=(Int×(List (Int×(List ab))))) (fun x=>((x.1.2.2.1,(pe3 x.1),(pe4 x.1),x.2.1.1,x.2.1.2.1,x.2.1.2.2.1,x.2.2.1.2.1,x.2.2.1.2.2.1),((pe5 x.1),(pe3 x)))) qkg (CE:=((List (Int×(List ab)))×Int×Int×Int×Int)) (E:=(List (Int×(List ab)))) (fun c e=>(((),(),()),((c.1,c.2.1,c.2.2.1,()),((),(pe3 c),(pf4 c),()),e,()))) (fun c=>((pe3 c),(pe4 c),(pe5 c),(pe6 c),(pf7 c))) (fun{R} c a nx dn rt=>fm c.1 c.2.1 c.2.2.1 (pe3 c) (pe4 c) (pe5 c) (pe6 c) (pf7 c) a.1 a.2 nx dn rt)],ec 139 tt [] [.cell 6 77, .tmp 7] qal (fun x=>(x.1.1.1,x.1.1.2.1,x.1.1.2.2.1,x.1.2.1))⟩
theorem pp:CtxM Try.prog pr:=p8 fits ce (mC qcd (mC qn9 (mC qgz (mC qty m0))))
theorem qmg:ba Try.prog pr 0 (lc 2 Try.f51 2529279):=lp rfl pp .z s0 (fun c a=>(((),(),(),(),a.1,c.1,c.2.1,a.2.1,()),((c.2.2.1,(pe3 c),(pe4 c),()),((pe5 c),(pe6 c),(pe7 c),()),((),(pe8 c),(pe9 c),()),a.2.2,(pf10 c),()))) (fun y=>((y.2.1.1,y.2.1.2.1,y.2.1.2.2.1,y.2.2.1.1,y.2.2.1.2.1,y.2.2.1.2.2.1,(pe3 y).2.1,(pe3 y).2.2.1,(pe5 y)),((pe4 y.1),(pe4 y))))
theorem qmi:ba Try.prog pr 2 (lc 4 Try.f51 77823):=lp rfl pp (.two .z (.two .z (.two (.one (.two .z (.two .z (.two (.d [0,1,0,4,0,16,0,64,240,0,512,0,2048,7680,15872,32752,65535] [15,16] []) .z)))) .z))) s0 (fun c a=>(((),(),c.1,c.2.1,c.2.2.1,a.1,()),(((pe3 c),(pe4 c),(pe5 c),()),((),(pe6 c),(pf7 c),()),a.2,()))) (fun y=>((y.2.1.1,y.2.1.2.1,y.2.1.2.2.1,y.2.2.1.2.1,y.2.2.1.2.2.1),(pe3 y)))
theorem qmh:ba Try.prog pr 1 (lc 0 Try.f51 38911):=lp rfl pp (.two .z (.one (.two .z (.two .z (.s 0))))) (sC qmg s0) (fun c a=>(((),(),(),(),a.1,()),((c.1,c.2.1,c.2.2.1,()),((pe3 c),(pe4 c),(pe5 c),()),((),(pe6 c),(pe7 c),()),a.2,(pf8 c),()))) (fun y=>((y.2.1.1,y.2.1.2.1,y.2.1.2.2.1,y.2.2.1.1,y.2.2.1.2.1,y.2.2.1.2.2.1,(pe3 y).2.1,(pe3 y).2.2.1,(pe5 y)),(pe4 y)))
abbrev pq:Mdl:=(bj (.cons (.d false c9.ty) (.cons (.d false qT1) (.cons (.d false qT0) .nil))) [] [] 2 qal (B:=((List (Int×(List ab)))×Int×Int×Int)) (fun b=>(((b.1,b.2.1,b.2.2.1,()),b.2.2.2,()),(()))) (fun a=>aw a.1.1 a.1.2.1 a.1.2.2.1))
theorem rf:MdlOK Try.prog 51 pq:=p7 Try.func51 rfl pp (.two .z (.two .z (.two .z (.two .z (.two .z (.two .z (.two .z (.two (.d [0,0,0,6,0,16,48,127,0,511] [9] []) (.two .z (.two .z (.two .z (.two (.two .z (.s 1)) (.two (.two .z (.s 2)) .z))))))))))))) (sC qmh (sC qmi s0))
def qfp:Shp:=⟨[qs9,qk7],[]⟩
abbrev qsl:Ctx (((List (Int×(List ab)))×Int×Int×Int)):=⟨26,tt,false,false,[],ov [(50,po),(62,qhg),(51,pq)],p4 [],ec 26 tt [] [.cell 8 77, .tmp 9] qfp (fun x=>(x.1.1.1,x.1.1.2.1,x.1.1.2.2.1,x.1.2.1))⟩
theorem qsk:CtxM Try.prog qsl:=p8 fits ce (mC o6 (mC qnz (mC rf m0)))
abbrev mf:Mdl:=(bj (.cons (.d false c9.ty) (.cons (.d false qT1) (.cons (.d false (.slice af.ty)) (.cons (.d false qT0) .nil)))) [] [] 2 qfp (B:=((List (Int×(List ab)))×Int×Int×Int)) (fun b=>(((b.1,b.2.1,b.2.2.1,()),b.2.2.2,()),(()))) (fun a=>bc a.1.1 a.1.2.1 a.1.2.2.1 (pe3 a.1)))
theorem mg:MdlOK Try.prog 41 mf:=p7 Try.func41 rfl qsk .z s0
def ur:Shp:=⟨[qv0,(1, .d true .bool)],[]⟩
abbrev qhf:Ctx ((Int×Bool)):=⟨14,tt,false,false,[],ov [],p4 [],ec 14 tt [] [.tmp 2, .tmp 3] ur (fun x=>(x.1.1,x.1.2.1))⟩
theorem qhe:CtxM Try.prog qhf:=p8 fits ce m0
abbrev dg:Mdl:=(bj (.cons (.agg (.cons (.dm false qT0 (.slice ab.ty)) (.cons (.d false qT0) (.cons (.d false qT0) .nil)))) .nil) [] [] 2 ur (B:=(Int×Bool)) (fun b=>((b.1,b.2,()),(()))) (fun a=>aq a.1.1.1 a.1.1.2.1 a.1.1.2.2.1))
theorem dj:MdlOK Try.prog 42 dg:=p7 Try.func42 rfl qhe (.two .z (.two .z (.two (.d [0,1,0,4,12,28,60,3,255] [] []) .z))) s0
def oq:Shp:=⟨[qv0],[]⟩
abbrev zi:Ctx (Int):=⟨9,tt,false,false,[],ov [],p4 [],ec 9 tt [] [.tmp 3] oq (fun x=>x.1.1)⟩
theorem zh:CtxM Try.prog zi:=p8 fits ce m0
abbrev pb:Mdl:=(bj (.cons (.d false qT0) (.cons (.rp false (.slice af.ty)) .nil)) [] [] 1 oq (B:=Int) (fun b=>((b,()),(()))) (fun a=>eo a.1.1 a.1.2.1))
theorem x0:MdlOK Try.prog 81 pb:=p7 Try.func81 rfl zh .z s0
def ye:Shp:=⟨[qiu],[]⟩
abbrev qkj:Ctx (Bool):=⟨34,tt,false,false,[],ov [],p4 [],ec 34 tt [] [.tmp 6] ye (fun x=>x.1.1)⟩
theorem qki:CtxM Try.prog qkj:=p8 fits ce m0
abbrev j9:Mdl:=(bj (.cons (.d false ae.ty) (.cons (.d false ae.ty) (.cons (.d false .bool) .nil))) [] [] 1 ye (B:=Bool) (fun b=>((b,()),(()))) (fun a=>gh a.1.1 a.1.2.1 a.1.2.2.1))
theorem k8:MdlOK Try.prog 92 j9:=p7 Try.func92 rfl qki .z s0
def sc:Shp:=⟨[q1u],[qdw]⟩
abbrev jv:Ctx ((List ae)):=⟨77,tt,false,false,[],ov [(81,pb),(92,j9)],p4 [bg _ 77 [] qbb (C:=((List af)×Bool×Int×Int×Int×(List (Int×(List ab)))×Nat×(List ab)×Int×(List (Int×(List ab)))×Int×Int)) (S:=(Bool×Int×(List ae))) (fun x=>((x.1.1.1,x.1.2.1,(pe5 x.1),(pe6 x.1),(pe7 x.1),(pe8 x.1),(pe9 x.1),(pe10 x.1),(pe11 x.1),x.2.1.1,x.2.1.2.1,x.2.1.2.2.1),((pe4 x.1),(pe12 x.1),x.2.2.1))) qba (CE:=((List af)×Bool×Int×Int×(List (Int×(List ab)))×Nat×(List (Int×(List ab)))×Int×Int)) (E:=(Bool×(List ae))) (fun c e=>(((c.1,()),c.2.1,(),(),e.1,c.2.2.1,(pe3 c),(pe4 c),(pe5 c),()),(((pe6 c),(pe7 c),(pf8 c),()),e.2,()))) (fun c=>(c.1,c.2.1,(pe3 c),(pe4 c),(pe5 c),(pe6 c),(pe9 c),(pe10 c),(pf11 c))) (fun{R} c a nx dn rt=>qh c.1 c.2.1 c.2.2.1 (pe3 c) (pe4 c) (pe5 c) (pe7 c) (pe8 c) (pe9 c) (pe10 c) (pf11 c) a.1 a.2.1 a.2.2 nx dn rt),sr _ 77 tt false [] (rc Try.f71 10647) qbc (C:=((List af)×Bool×Int×Int×(List (Int×(List ab)))×(List (Int×(List ab)))×Int×Int)) (S:=(Bool×(List ae))) (fun x=>((x.1.1.1,x.1.2.1,(pe5 x.1),(pe6 x.1),(pe7 x.1),x.2.1.1,x.2.1.2.1,x.2.1.2.2.1),((pe4 x.1),x.2.2.1))) (fun c a=>(((c.1,()),c.2.1,(),(),a.1,c.2.2.1,(pe3 c),(pe4 c),()),(((pe5 c),(pe6 c),(pf7 c),()),a.2,()))) (fun c=>(pe4 c)) (fun{R} c a en nx rt=>qi c.1 c.2.1 c.2.2.1 (pe3 c) (pe4 c) (pe5 c) (pe6 c) (pf7 c) a.1 a.2 en nx rt),qj1 _ 77 [] qbe (C:=((List af)×Bool×Int×(List (Int×(List ab)))×Int×Int)) (S:=(Int×(List ae))) (fun x=>((x.1.1.1,x.1.2.1,(pe4 x.1),x.2.1.1,x.2.1.2.1,x.2.1.2.2.1),((pe5 x.1),x.2.2.1))) qbd (CE:=Unit) (E:=(List ae)) (fun c e=>(((),()),(e,()))) (fun c=>()) (fun{R} c a nx dn rt=>qj c.1 c.2.1 c.2.2.1 (pe3 c) (pe4 c) (pf5 c) a.1 a.2 nx dn rt)],ec 77 tt [] [.tmp 6] sc (fun x=>x.2.1)⟩
theorem ju:CtxM Try.prog jv:=p8 fits ce (mC x0 (mC k8 m0))
theorem qcv:ba Try.prog jv 0 (lc 4 Try.f71 10168727):=lp rfl ju (.two .z (.two .z (.two (.one (.two .z (.two .z (.two .z (.two (.d [0,1,0,0,8,28,63,127,255] [8] []) (.two .z (.two (.d [0,0,0,6,14,0,63] [] []) .z))))))) .z))) s0 (fun c a=>(((c.1,()),c.2.1,(),(),a.1,c.2.2.1,(pe3 c),(pe4 c),(pe5 c),(pe6 c),(pe7 c),(pe8 c),a.2.1,()),(((pe9 c),(pe10 c),(pf11 c),()),a.2.2,()))) (fun y=>((y.1.1.1,y.1.2.1,(pe5 y.1),(pe6 y.1),(pe7 y.1),(pe8 y.1),y.2.1.1,y.2.1.2.1,y.2.1.2.2.1),((pe4 y.1),y.2.2.1)))
theorem qcw:ba Try.prog jv 1 ((rc Try.f71 10647).code):=rl qT0 (.slice ab.ty) rfl ju (.two .z (.s 0)) (sC qcv s0) 75 28 29 30 32 false rfl
theorem qcx:ba Try.prog jv 2 (lc 0 Try.f71 151):=nl rfl ju (.two .z (.two .z (.two (.one (.two .z (.two (.s 1) .z))) .z))) (sC qcw s0) (fun c a=>(((c.1,()),c.2.1,(),(),c.2.2.1,a.1,()),(((pe3 c),(pe4 c),(pf5 c),()),a.2,()))) (fun y=>((),y.2.1))
abbrev tm:Mdl:=(bj (.cons (.agg (.cons (.dm false qT0 (.slice ab.ty)) (.cons (.d false qT0) (.cons (.d false qT0) .nil)))) (.cons (.fn 81 (.cons (.rp false (.slice af.ty)) .nil)) (.cons (.d false .bool) .nil))) [] [] 1 sc (B:=(List ae)) (fun b=>(((),()),(b,()))) (fun a=>oc a.1.1.1 a.1.1.2.1 a.1.1.2.2.1 a.1.2.1.1 a.1.2.2.1))
theorem qbf:MdlOK Try.prog 71 tm:=p7 Try.func71 rfl ju (.two .z (.two .z (.two .z (.two (.two .z (.s 2)) .z)))) (sC qcx s0)
def uq:Shp:=⟨[qiu],[]⟩
abbrev o8:Ctx (Bool):=⟨51,tt,false,false,[],ov [],p4 [bg _ 51 [] qel (C:=(Int×(List ab)×Int×(List (Int×(List ab)))×Int×Int)) (S:=(Int×(List (Int×Bool))×qL1)) (fun x=>((x.1.1,(pe4 x.1),(pe5 x.1),x.2.1.1,x.2.1.2.1,x.2.1.2.2.1),((pe6 x.1),x.2.2.1,(pe3 x)))) qek (CE:=(Int×(List (Int×(List ab)))×Int×Int)) (E:=((List (Int×Bool))×qL1)) (fun c e=>((c.1,(),(),(),()),((c.2.1,c.2.2.1,c.2.2.2,()),e.1,e.2,()))) (fun c=>(c.1,(pe3 c),(pe4 c),(pf5 c))) (fun{R} c a nx dn rt=>gg c.1 c.2.1 c.2.2.1 (pe3 c) (pe4 c) (pf5 c) a.1 a.2.1 a.2.2 nx dn rt),bg _ 51 [] qen (C:=(Int×(List (Int×(List ab)))×Int×Int)) (S:=((List (Int×Bool))×qL1)) (fun x=>((x.1.1,x.2.1.1,x.2.1.2.1,x.2.1.2.2.1),(x.2.2.1,(pe3 x)))) qem (CE:=Unit) (E:=Unit) (fun c e=>((()),(()))) (fun c=>()) (fun{R} c a nx dn rt=>di c.1 c.2.1 c.2.2.1 c.2.2.2 a.1 a.2 nx dn rt)],ec 51 tt [] [.tmp 6] uq (fun x=>x.1.1)⟩
theorem o7:CtxM Try.prog o8:=p8 fits ce m0
theorem qf3:ba Try.prog o8 0 (lc 2 Try.f75 9803):=lp rfl o7 .z s0 (fun c a=>((c.1,(),(),(),c.2.1,c.2.2.1,a.1,()),(((pe3 c),(pe4 c),(pf5 c),()),a.2.1,a.2.2,()))) (fun y=>((y.1.1,y.2.1.1,y.2.1.2.1,y.2.1.2.2.1),(y.2.2.1,(pe3 y))))
theorem qf4:ba Try.prog o8 1 (lc 0 Try.f75 75):=lp rfl o7 (.two .z (.two (.one (.two .z (.two (.d [0,1,0,4,12,31,63,0] [] []) (.s 0)))) .z)) (sC qf3 s0) (fun c a=>((c.1,(),(),(),()),((c.2.1,c.2.2.1,c.2.2.2,()),a.1,a.2,()))) (fun y=>((),()))
abbrev xg:Mdl:=(bj (.cons (.agg (.cons (.dm false qT0 (.slice ab.ty)) (.cons (.d false qT0) (.cons (.d false qT0) .nil)))) (.cons (.d false qT0) (.cons (.d false qT0) .nil))) [] [] 1 uq (B:=Bool) (fun b=>((b,()),(()))) (fun a=>lx a.1.1.1 a.1.1.2.1 a.1.1.2.2.1 a.1.2.1 a.1.2.2.1))
theorem qeo:MdlOK Try.prog 75 xg:=p7 Try.func75 rfl o7 (.two .z (.two .z (.two (.two .z (.s 1)) .z))) (sC qf4 s0)
def xh:Shp:=⟨[qiu],[]⟩
abbrev jl:Ctx (Bool):=⟨81,tt,false,false,[],ov [(75,xg)],p4 [bg _ 81 [] qf6 (C:=((List af)×(List ab)×Int×(List (Int×(List ab)))×Int×Int)) (S:=(Int×(List (Int×Bool))×qL1)) (fun x=>((x.1.1,(pe4 x.1),(pe5 x.1),x.2.1.1,x.2.1.2.1,x.2.1.2.2.1),((pe6 x.1),x.2.2.1,(pe3 x)))) qf5 (CE:=((List af)×(List (Int×(List ab)))×Int×Int)) (E:=((List (Int×Bool))×qL1)) (fun c e=>((c.1,(),(),(),()),((c.2.1,c.2.2.1,c.2.2.2,()),e.1,e.2,()))) (fun c=>(c.1,(pe3 c),(pe4 c),(pf5 c))) (fun{R} c a nx dn rt=>bx c.1 c.2.1 c.2.2.1 (pe3 c) (pe4 c) (pf5 c) a.1 a.2.1 a.2.2 nx dn rt),bg _ 81 [] qf8 (C:=((List af)×(List (Int×(List ab)))×Int×Int)) (S:=((List (Int×Bool))×qL1)) (fun x=>((x.1.1,x.2.1.1,x.2.1.2.1,x.2.1.2.2.1),(x.2.2.1,(pe3 x)))) qf7 (CE:=((List af)×(List (Int×(List ab)))×Int×Int)) (E:=(List (Int×Bool))) (fun c e=>((c.1,(),(),()),((c.2.1,c.2.2.1,c.2.2.2,()),e,()))) (fun c=>(c.1,c.2.1,c.2.2.1,c.2.2.2)) (fun{R} c a nx dn rt=>bz c.1 c.2.1 c.2.2.1 c.2.2.2 a.1 a.2 nx dn rt),bg _ 81 [] qga (C:=((List af)×Int×(List (Int×Bool))×Nat×(List ab)×Int×(List (Int×(List ab)))×Int×Int)) (S:=Int) (fun x=>((x.1.1,x.1.2.2.1,(pe3 x.1),(pe4 x.1),(pe5 x.1),(pe6 x.1),x.2.1.1,x.2.1.2.1,x.2.1.2.2.1),(pe7 x.1))) qf9 (CE:=((List af)×(List (Int×Bool))×Nat×(List (Int×(List ab)))×Int×Int)) (E:=Unit) (fun c e=>((c.1,(),c.2.1,c.2.2.1,()),(((pe3 c),(pe4 c),(pf5 c),()),()))) (fun c=>(c.1,c.2.2.1,(pe3 c),(pe6 c),(pe7 c),(pf8 c))) (fun{R} c a nx dn rt=>a9 c.1 c.2.1 c.2.2.1 (pe4 c) (pe5 c) (pe6 c) (pe7 c) (pf8 c) a nx dn rt),sr _ 81 tt false [] (rc Try.f47 23) qgb (C:=((List af)×(List (Int×Bool))×(List (Int×(List ab)))×Int×Int)) (S:=Unit) (fun x=>((x.1.1,x.1.2.2.1,x.2.1.1,x.2.1.2.1,x.2.1.2.2.1),())) (fun c a=>((c.1,(),c.2.1,()),((c.2.2.1,(pe3 c),(pf4 c),()),()))) (fun c=>c.2.1) (fun{R} c a en nx rt=>ia c.1 c.2.1 c.2.2.1 (pe3 c) (pf4 c) en nx rt)],ec 81 tt [] [.tmp 4] xh (fun x=>x.1.1)⟩
theorem jk:CtxM Try.prog jl:=p8 fits ce (mC qeo m0)
theorem qhc:ba Try.prog jl 2 (lc 6 Try.f47 19863):=lp rfl jk .z s0 (fun c a=>((c.1,(),c.2.1,c.2.2.1,(pe3 c),(pe4 c),(pe5 c),a,()),(((pe6 c),(pe7 c),(pf8 c),()),()))) (fun y=>((y.1.1,y.1.2.2.1,(pe3 y.1),y.2.1.1,y.2.1.2.1,y.2.1.2.2.1),()))
theorem qha:ba Try.prog jl 0 (lc 2 Try.f47 4683):=lp rfl jk .z s0 (fun c a=>((c.1,(),(),(),c.2.1,c.2.2.1,a.1,()),(((pe3 c),(pe4 c),(pf5 c),()),a.2.1,a.2.2,()))) (fun y=>((y.1.1,y.2.1.1,y.2.1.2.1,y.2.1.2.2.1),(y.2.2.1,(pe3 y))))
theorem qhb:ba Try.prog jl 1 (lc 0 Try.f47 75):=lp rfl jk (.two .z (.two (.one (.two (.d [0,1,0,4,12,31,63,0] [] []) (.s 0))) .z)) (sC qha s0) (fun c a=>((c.1,(),(),(),()),((c.2.1,c.2.2.1,c.2.2.2,()),a.1,a.2,()))) (fun y=>((y.1.1,y.2.1.1,y.2.1.2.1,y.2.1.2.2.1),y.2.2.1))
theorem qhd:ba Try.prog jl 3 ((rc Try.f47 23).code):=rl qT0 .bool rfl jk (.two .z (.s 2)) (sC qhc s0) 128 51 52 53 55 true rfl
abbrev ly:Mdl:=(bj (.cons (.agg (.cons (.dm false qT0 (.slice ab.ty)) (.cons (.d false qT0) (.cons (.d false qT0) .nil)))) (.cons (.d false (.slice af.ty)) .nil)) [] [] 1 xh (B:=Bool) (fun b=>((b,()),(()))) (fun a=>cr a.1.1.1 a.1.1.2.1 a.1.1.2.2.1 a.1.2.1))
theorem oe:MdlOK Try.prog 47 ly:=p7 Try.func47 rfl jk (.two .z (.two .z (.two (.two .z (.s 1)) (.two (.s 3) .z)))) (sC qhb (sC qhd s0))
def ot:Shp:=⟨[qv0],[]⟩
abbrev zk:Ctx (Int):=⟨9,tt,false,false,[],ov [],p4 [],ec 9 tt [] [.tmp 3] ot (fun x=>x.1.1)⟩
theorem zj:CtxM Try.prog zk:=p8 fits ce m0
abbrev pc:Mdl:=(bj (.cons (.d false qT0) (.cons (.rp false (.slice af.ty)) .nil)) [] [] 1 ot (B:=Int) (fun b=>((b,()),(()))) (fun a=>eu a.1.1 a.1.2.1))
theorem x3:MdlOK Try.prog 82 pc:=p7 Try.func82 rfl zj .z s0
def sd:Shp:=⟨[q1u],[qdw]⟩
abbrev jx:Ctx ((List ae)):=⟨77,tt,false,false,[],ov [(82,pc),(92,j9)],p4 [bg _ 77 [] qbh (C:=((List af)×Bool×Int×Int×Int×(List (Int×(List ab)))×Nat×(List ab)×Int×(List (Int×(List ab)))×Int×Int)) (S:=(Bool×Int×(List ae))) (fun x=>((x.1.1.1,x.1.2.1,(pe5 x.1),(pe6 x.1),(pe7 x.1),(pe8 x.1),(pe9 x.1),(pe10 x.1),(pe11 x.1),x.2.1.1,x.2.1.2.1,x.2.1.2.2.1),((pe4 x.1),(pe12 x.1),x.2.2.1))) qbg (CE:=((List af)×Bool×Int×Int×(List (Int×(List ab)))×Nat×(List (Int×(List ab)))×Int×Int)) (E:=(Bool×(List ae))) (fun c e=>(((c.1,()),c.2.1,(),(),e.1,c.2.2.1,(pe3 c),(pe4 c),(pe5 c),()),(((pe6 c),(pe7 c),(pf8 c),()),e.2,()))) (fun c=>(c.1,c.2.1,(pe3 c),(pe4 c),(pe5 c),(pe6 c),(pe9 c),(pe10 c),(pf11 c))) (fun{R} c a nx dn rt=>qk c.1 c.2.1 c.2.2.1 (pe3 c) (pe4 c) (pe5 c) (pe7 c) (pe8 c) (pe9 c) (pe10 c) (pf11 c) a.1 a.2.1 a.2.2 nx dn rt),sr _ 77 tt false [] (rc Try.f71 10647) qbi (C:=((List af)×Bool×Int×Int×(List (Int×(List ab)))×(List (Int×(List ab)))×Int×Int)) (S:=(Bool×(List ae))) (fun x=>((x.1.1.1,x.1.2.1,(pe5 x.1),(pe6 x.1),(pe7 x.1),x.2.1.1,x.2.1.2.1,x.2.1.2.2.1),((pe4 x.1),x.2.2.1))) (fun c a=>(((c.1,()),c.2.1,(),(),a.1,c.2.2.1,(pe3 c),(pe4 c),()),(((pe5 c),(pe6 c),(pf7 c),()),a.2,()))) (fun c=>(pe4 c)) (fun{R} c a en nx rt=>ql c.1 c.2.1 c.2.2.1 (pe3 c) (pe4 c) (pe5 c) (pe6 c) (pf7 c) a.1 a.2 en nx rt),qj1 _ 77 [] qbk (C:=((List af)×Bool×Int×(List (Int×(List ab)))×Int×Int)) (S:=(Int×(List ae))) (fun x=>((x.1.1.1,x.1.2.1,(pe4 x.1),x.2.1.1,x.2.1.2.1,x.2.1.2.2.1),((pe5 x.1),x.2.2.1))) qbj (CE:=Unit) (E:=(List ae)) (fun c e=>(((),()),(e,()))) (fun c=>()) (fun{R} c a nx dn rt=>qm c.1 c.2.1 c.2.2.1 (pe3 c) (pe4 c) (pf5 c) a.1 a.2 nx dn rt)],ec 77 tt [] [.tmp 6] sd (fun x=>x.2.1)⟩
theorem jw:CtxM Try.prog jx:=p8 fits ce (mC x3 (mC k8 m0))
theorem qc0:ba Try.prog jx 0 (lc 4 Try.f71 10168727):=lp rfl jw (.two .z (.two .z (.two (.one (.two .z (.two .z (.two .z (.two (.d [0,1,0,0,8,28,63,127,255] [8] []) (.two .z (.two (.d [0,0,0,6,14,0,63] [] []) .z))))))) .z))) s0 (fun c a=>(((c.1,()),c.2.1,(),(),a.1,c.2.2.1,(pe3 c),(pe4 c),(pe5 c),(pe6 c),(pe7 c),(pe8 c),a.2.1,()),(((pe9 c),(pe10 c),(pf11 c),()),a.2.2,()))) (fun y=>((y.1.1.1,y.1.2.1,(pe5 y.1),(pe6 y.1),(pe7 y.1),(pe8 y.1),y.2.1.1,y.2.1.2.1,y.2.1.2.2.1),((pe4 y.1),y.2.2.1)))
theorem qc1:ba Try.prog jx 1 ((rc Try.f71 10647).code):=rl qT0 (.slice ab.ty) rfl jw (.two .z (.s 0)) (sC qc0 s0) 75 28 29 30 32 false rfl
theorem qc2:ba Try.prog jx 2 (lc 0 Try.f71 151):=nl rfl jw (.two .z (.two .z (.two (.one (.two .z (.two (.s 1) .z))) .z))) (sC qc1 s0) (fun c a=>(((c.1,()),c.2.1,(),(),c.2.2.1,a.1,()),(((pe3 c),(pe4 c),(pf5 c),()),a.2,()))) (fun y=>((),y.2.1))
abbrev tn:Mdl:=(bj (.cons (.agg (.cons (.dm false qT0 (.slice ab.ty)) (.cons (.d false qT0) (.cons (.d false qT0) .nil)))) (.cons (.fn 82 (.cons (.rp false (.slice af.ty)) .nil)) (.cons (.d false .bool) .nil))) [] [] 1 sd (B:=(List ae)) (fun b=>(((),()),(b,()))) (fun a=>od a.1.1.1 a.1.1.2.1 a.1.1.2.2.1 a.1.2.1.1 a.1.2.2.1))
theorem qbl:MdlOK Try.prog 71 tn:=p7 Try.func71 rfl jw (.two .z (.two .z (.two .z (.two (.two .z (.s 2)) .z)))) (sC qc2 s0)
def p0:Shp:=⟨[jck],[]⟩
abbrev qbn:Ctx (af):=⟨25,tt,false,false,[],ov [(71,tm),(71,tn),(47,ly)],p4 [],ec 25 tt [] [.cell 4 40] p0 (fun x=>x.1.1)⟩
theorem qbm:CtxM Try.prog qbn:=p8 fits ce (mC qbf (mC qbl (mC oe m0)))
abbrev lg:Mdl:=(bj (.cons (.agg (.cons (.dm false qT0 (.slice ab.ty)) (.cons (.d false qT0) (.cons (.d false qT0) .nil)))) (.cons (.d false (.slice af.ty)) .nil)) [] [] 1 p0 (B:=af) (fun b=>((b,()),(()))) (fun a=>fv a.1.1.1 a.1.1.2.1 a.1.1.2.2.1 a.1.2.1))
theorem pd:MdlOK Try.prog 55 lg:=p7 Try.func55 rfl qbm .z s0
def yc:Shp:=⟨[jck,qk7],[]⟩
abbrev qj8:Ctx ((af×Int)):=⟨37,tt,false,false,[],ov [(41,mf),(42,dg),(55,lg)],p4 [],ec 37 tt [] [.cell 8 40, .tmp 9] yc (fun x=>(x.1.1,x.1.2.1))⟩
theorem qj7:CtxM Try.prog qj8:=p8 fits ce (mC mg (mC dj (mC pd m0)))
abbrev zf:Mdl:=(bj (.cons (.agg (.cons (.d false qT0) (.cons (.d false (.slice ai.ty)) (.cons (.d false qT0) (.cons (.d false qT0) .nil))))) (.cons (.d false qT1) (.cons (.d false (.slice af.ty)) (.cons (.d false qT0) .nil)))) [] [] 2 yc (B:=(af×Int)) (fun b=>((b.1,b.2,()),(()))) (fun a=>tj a.1.1.1 a.1.1.2.1 a.1.1.2.2.1 (pe3 a.1.1) a.1.2.1 a.1.2.2.1 (pe3 a.1)))
theorem qg9:MdlOK Try.prog 18 zf:=p7 Try.func18 rfl qj7 .z s0
def yd:Shp:=⟨[qv0],[]⟩
abbrev qka:Ctx (Int):=⟨9,tt,false,false,[],ov [],p4 [],ec 9 tt [] [.tmp 3] yd (fun x=>x.1.1)⟩
theorem qj9:CtxM Try.prog qka:=p8 fits ce m0
abbrev rb:Mdl:=(bj (.cons (.d false qT0) (.cons (.rp false (.slice af.ty)) .nil)) [] [] 1 yd (B:=Int) (fun b=>((b,()),(()))) (fun a=>jb a.1.1 a.1.2.1))
theorem xf:MdlOK Try.prog 48 rb:=p7 Try.func48 rfl qj9 .z s0
def rz:Shp:=⟨[q1u],[qdw]⟩
abbrev jt:Ctx ((List ae)):=⟨77,tt,false,false,[],ov [(48,rb),(92,j9)],p4 [bg _ 77 [] qa5 (C:=((List af)×Bool×Int×Int×Int×(List (Int×(List ab)))×Nat×(List ab)×Int×(List (Int×(List ab)))×Int×Int)) (S:=(Bool×Int×(List ae))) (fun x=>((x.1.1.1,x.1.2.1,(pe5 x.1),(pe6 x.1),(pe7 x.1),(pe8 x.1),(pe9 x.1),(pe10 x.1),(pe11 x.1),x.2.1.1,x.2.1.2.1,x.2.1.2.2.1),((pe4 x.1),(pe12 x.1),x.2.2.1))) qa4 (CE:=((List af)×Bool×Int×Int×(List (Int×(List ab)))×Nat×(List (Int×(List ab)))×Int×Int)) (E:=(Bool×(List ae))) (fun c e=>(((c.1,()),c.2.1,(),(),e.1,c.2.2.1,(pe3 c),(pe4 c),(pe5 c),()),(((pe6 c),(pe7 c),(pf8 c),()),e.2,()))) (fun c=>(c.1,c.2.1,(pe3 c),(pe4 c),(pe5 c),(pe6 c),(pe9 c),(pe10 c),(pf11 c))) (fun{R} c a nx dn rt=>qe c.1 c.2.1 c.2.2.1 (pe3 c) (pe4 c) (pe5 c) (pe7 c) (pe8 c) (pe9 c) (pe10 c) (pf11 c) a.1 a.2.1 a.2.2 nx dn rt),sr _ 77 tt false [] (rc Try.f71 10647) qa6 (C:=((List af)×Bool×Int×Int×(List (Int×(List ab)))×(List (Int×(List ab)))×Int×Int)) (S:=(Bool×(List ae))) (fun x=>((x.1.1.1,x.1.2.1,(pe5 x.1),(pe6 x.1),(pe7 x.1),x.2.1.1,x.2.1.2.1,x.2.1.2.2.1),((pe4 x.1),x.2.2.1))) (fun c a=>(((c.1,()),c.2.1,(),(),a.1,c.2.2.1,(pe3 c),(pe4 c),()),(((pe5 c),(pe6 c),(pf7 c),()),a.2,()))) (fun c=>(pe4 c)) (fun{R} c a en nx rt=>qf c.1 c.2.1 c.2.2.1 (pe3 c) (pe4 c) (pe5 c) (pe6 c) (pf7 c) a.1 a.2 en nx rt),qj1 _ 77 [] qa8 (C:=((List af)×Bool×Int×(List (Int×(List ab)))×Int×Int)) (S:=(Int×(List ae))) (fun x=>((x.1.1.1,x.1.2.1,(pe4 x.1),x.2.1.1,x.2.1.2.1,x.2.1.2.2.1),((pe5 x.1),x.2.2.1))) qa7 (CE:=Unit) (E:=(List ae)) (fun c e=>(((),()),(e,()))) (fun c=>()) (fun{R} c a nx dn rt=>qg c.1 c.2.1 c.2.2.1 (pe3 c) (pe4 c) (pf5 c) a.1 a.2 nx dn rt)],ec 77 tt [] [.tmp 6] rz (fun x=>x.2.1)⟩
theorem js:CtxM Try.prog jt:=p8 fits ce (mC xf (mC k8 m0))
theorem qcq:ba Try.prog jt 0 (lc 4 Try.f71 10168727):=lp rfl js (.two .z (.two .z (.two (.one (.two .z (.two .z (.two .z (.two (.d [0,1,0,0,8,28,63,127,255] [8] []) (.two .z (.two (.d [0,0,0,6,14,0,63] [] []) .z))))))) .z))) s0 (fun c a=>(((c.1,()),c.2.1,(),(),a.1,c.2.2.1,(pe3 c),(pe4 c),(pe5 c),(pe6 c),(pe7 c),(pe8 c),a.2.1,()),(((pe9 c),(pe10 c),(pf11 c),()),a.2.2,()))) (fun y=>((y.1.1.1,y.1.2.1,(pe5 y.1),(pe6 y.1),(pe7 y.1),(pe8 y.1),y.2.1.1,y.2.1.2.1,y.2.1.2.2.1),((pe4 y.1),y.2.2.1)))
theorem qcr:ba Try.prog jt 1 ((rc Try.f71 10647).code):=rl qT0 (.slice ab.ty) rfl js (.two .z (.s 0)) (sC qcq s0) 75 28 29 30 32 false rfl
theorem qcs:ba Try.prog jt 2 (lc 0 Try.f71 151):=nl rfl js (.two .z (.two .z (.two (.one (.two .z (.two (.s 1) .z))) .z))) (sC qcr s0) (fun c a=>(((c.1,()),c.2.1,(),(),c.2.2.1,a.1,()),(((pe3 c),(pe4 c),(pf5 c),()),a.2,()))) (fun y=>((),y.2.1))
abbrev tl:Mdl:=(bj (.cons (.agg (.cons (.dm false qT0 (.slice ab.ty)) (.cons (.d false qT0) (.cons (.d false qT0) .nil)))) (.cons (.fn 48 (.cons (.rp false (.slice af.ty)) .nil)) (.cons (.d false .bool) .nil))) [] [] 1 rz (B:=(List ae)) (fun b=>(((),()),(b,()))) (fun a=>um a.1.1.1 a.1.1.2.1 a.1.1.2.2.1 a.1.2.1.1 a.1.2.2.1))
theorem qa9:MdlOK Try.prog 71 tl:=p7 Try.func71 rfl js (.two .z (.two .z (.two .z (.two (.two .z (.s 2)) .z)))) (sC qcs s0)
def tq:Shp:=⟨[q1u],[qdy]⟩
abbrev ol:Ctx (qL1):=⟨93,tt,false,false,[],ov [(71,tl),(48,rb)],p4 [bg _ 93 [] qc9 (C:=((List af)×(List ae)×Int×(List ab)×Int×(List (Int×(List ab)))×Int×Int×qL1)) (S:=(Int×Int×Int)) (fun x=>((x.1.1.1,x.1.2.2.1,(pe4 x.1),(pe6 x.1),(pe7 x.1),x.2.1.1,x.2.1.2.1,x.2.1.2.2.1,x.2.2.1),((pe8 x.1),(pe3 x).1,(pe3 x).2.1))) qc8 (CE:=((List af)×(List ae)×(List (Int×(List ab)))×Int×Int×qL1)) (E:=(Int×Int)) (fun c e=>(((c.1,()),(),c.2.1,(),(),()),((c.2.2.1,(pe3 c),(pe4 c),()),(pf5 c),(e.1,e.2,()),()))) (fun c=>(c.1,c.2.1,(pe5 c),(pe6 c),(pe7 c),(pf8 c))) (fun{R} c a nx dn rt=>sj c.1 c.2.1 c.2.2.1 (pe3 c) (pe4 c) (pe5 c) (pe6 c) (pe7 c) (pf8 c) a.1 a.2.1 a.2.2 nx dn rt),bg _ 93 [] qdb (C:=((List af)×(List ae)×(List (Int×(List ab)))×Int×Int)) (S:=(Int×qL1)) (fun x=>((x.1.1.1,x.1.2.2.1,x.2.1.1,x.2.1.2.1,x.2.1.2.2.1),((pe4 x.1),x.2.2.1))) qda (CE:=Unit) (E:=qL1) (fun c e=>(((),()),(e,()))) (fun c=>()) (fun{R} c a nx dn rt=>sk c.1 c.2.1 c.2.2.1 (pe3 c) (pf4 c) a.1 a.2 nx dn rt)],ec 93 tt [] [.tmp 6] tq (fun x=>x.2.1)⟩
theorem oi:CtxM Try.prog ol:=p8 fits ce (mC qa9 (mC xf m0))
theorem qev:ba Try.prog ol 0 (lc 2 Try.f43 19095):=lp rfl oi (.two .z (.two .z (.two (.one (.two .z (.two .z (.two (.d [0,1,3,7,15,7,7,71,231,511,7,7,3079,7175,15367,32767,65535,131071,262143,524287,1048575,262143,262143,6553599,14942207,31719423,67108863,134217727,268435455,536870911,1073741823,2147483647,4294967295,8589934591,17179869183,8589934591,42949672959,137438953471,274877906943,549755813887] [] []) .z)))) .z))) s0 (fun c a=>(((c.1,()),(),c.2.1,(),c.2.2.1,(),(pe3 c),(pe4 c),a.1,()),(((pe5 c),(pe6 c),(pe7 c),()),(pf8 c),(a.2.1,a.2.2,()),()))) (fun y=>((y.1.1.1,y.1.2.2.1,y.2.1.1,y.2.1.2.1,y.2.1.2.2.1,y.2.2.1),((pe3 y).1,(pe3 y).2.1)))
theorem qew:ba Try.prog ol 1 (lc 0 Try.f43 151):=lp rfl oi (.two .z (.one (.two .z (.two (.two .z (.s 0)) .z)))) (sC qev s0) (fun c a=>(((c.1,()),(),c.2.1,(),a.1,()),((c.2.2.1,(pe3 c),(pf4 c),()),a.2,()))) (fun y=>((),y.2.1))
abbrev oj:Mdl:=(bj (.cons (.agg (.cons (.dm false qT0 (.slice ab.ty)) (.cons (.d false qT0) (.cons (.d false qT0) .nil)))) (.cons (.fn 48 (.cons (.rp false (.slice af.ty)) .nil)) (.cons (.d false .bool) .nil))) [] [] 1 tq (B:=qL1) (fun b=>(((),()),(b,()))) (fun a=>k7 a.1.1.1 a.1.1.2.1 a.1.1.2.2.1 a.1.2.1.1 a.1.2.2.1))
theorem sm:MdlOK Try.prog 43 oj:=p7 Try.func43 rfl oi (.two .z (.two .z (.two .z (.two (.two .z (.s 1)) .z)))) (sC qew s0)
def qah:Shp:=⟨[q1u,qk7],[qdy]⟩
abbrev qnw:Ctx ((Int×qL1)):=⟨38,tt,false,false,[],ov [(41,mf),(42,dg),(47,ly),(43,oj)],p4 [],ec 38 tt [] [.tmp 8, .tmp 9] qah (fun x=>(x.1.2.1,x.2.1))⟩
theorem qnv:CtxM Try.prog qnw:=p8 fits ce (mC mg (mC dj (mC oe (mC sm m0))))
abbrev qci:Mdl:=(bj (.cons (.agg (.cons (.d false qT0) (.cons (.d false (.slice ai.ty)) (.cons (.d false qT0) (.cons (.d false qT0) .nil))))) (.cons (.d false qT1) (.cons (.d false (.slice af.ty)) (.cons (.d false qT0) .nil)))) [] [] 2 qah (B:=(Int×qL1)) (fun b=>(((),b.1,()),(b.2,()))) (fun a=>xz a.1.1.1 a.1.1.2.1 a.1.1.2.2.1 (pe3 a.1.1) a.1.2.1 a.1.2.2.1 (pe3 a.1)))
theorem qkb:MdlOK Try.prog 13 qci:=p7 Try.func13 rfl qnv .z s0
def sq:Shp:=⟨[qiu],[]⟩
abbrev nj:Ctx (Bool):=⟨54,tt,false,false,[],ov [],p4 [bg _ 54 [] qbp (C:=(Int×(List ab)×Int×(List (Int×(List ab)))×Int×Int)) (S:=(Int×(List (Int×Bool))×qL1)) (fun x=>((x.1.1,(pe4 x.1),(pe5 x.1),x.2.1.1,x.2.1.2.1,x.2.1.2.2.1),((pe6 x.1),x.2.2.1,(pe3 x)))) qbo (CE:=(Int×(List (Int×(List ab)))×Int×Int)) (E:=((List (Int×Bool))×qL1)) (fun c e=>((c.1,(),(),(),()),((c.2.1,c.2.2.1,c.2.2.2,()),e.1,e.2,()))) (fun c=>(c.1,(pe3 c),(pe4 c),(pf5 c))) (fun{R} c a nx dn rt=>dr c.1 c.2.1 c.2.2.1 (pe3 c) (pe4 c) (pf5 c) a.1 a.2.1 a.2.2 nx dn rt),bg _ 54 [] qbr (C:=(Int×(List (Int×(List ab)))×Int×Int)) (S:=((List (Int×Bool))×qL1)) (fun x=>((x.1.1,x.2.1.1,x.2.1.2.1,x.2.1.2.2.1),(x.2.2.1,(pe3 x)))) qbq (CE:=Unit) (E:=Unit) (fun c e=>((()),(()))) (fun c=>()) (fun{R} c a nx dn rt=>ct c.1 c.2.1 c.2.2.1 c.2.2.2 a.1 a.2 nx dn rt)],ec 54 tt [] [.tmp 4] sq (fun x=>x.1.1)⟩
theorem nh:CtxM Try.prog nj:=p8 fits ce m0
theorem qdc:ba Try.prog nj 0 (lc 2 Try.f52 9803):=lp rfl nh .z s0 (fun c a=>((c.1,(),(),(),c.2.1,c.2.2.1,a.1,()),(((pe3 c),(pe4 c),(pf5 c),()),a.2.1,a.2.2,()))) (fun y=>((y.1.1,y.2.1.1,y.2.1.2.1,y.2.1.2.2.1),(y.2.2.1,(pe3 y))))
theorem qdd:ba Try.prog nj 1 (lc 0 Try.f52 75):=lp rfl nh (.two .z (.two (.one (.two (.two (.d [0,1,3,0,8,31] [] []) .z) (.two (.d [0,1,0,4,12,31,63,0] [] []) (.s 0)))) .z)) (sC qdc s0) (fun c a=>((c.1,(),(),(),()),((c.2.1,c.2.2.1,c.2.2.2,()),a.1,a.2,()))) (fun y=>((),()))
abbrev ni:Mdl:=(bj (.cons (.agg (.cons (.dm false qT0 (.slice ab.ty)) (.cons (.d false qT0) (.cons (.d false qT0) .nil)))) (.cons (.d false qT0) .nil)) [] [] 1 sq (B:=Bool) (fun b=>((b,()),(()))) (fun a=>ib a.1.1.1 a.1.1.2.1 a.1.1.2.2.1 a.1.2.1))
theorem qn:MdlOK Try.prog 52 ni:=p7 Try.func52 rfl nh (.two .z (.two .z (.two (.two .z (.s 1)) .z))) (sC qdd s0)
def qg8:Shp:=⟨[ja3,qk7],[qdy]⟩
abbrev qjf:Ctx ((Int×qL1)):=⟨50,tt,false,false,[],ov [(50,po),(51,pq),(42,dg),(52,ni)],p4 [bg _ 50 [] qpn (C:=(Int×(List (Int×(List ab)))×Int×Int)) (S:=(Int×qL1)) (fun x=>((x.1.2.2.1,x.2.1.1,x.2.1.2.1,x.2.1.2.2.1),((pe3 x.1),x.2.2.1))) qpm (CE:=Unit) (E:=qL1) (fun c e=>(((),()),(e,()))) (fun c=>()) (fun{R} c a nx dn rt=>qfo c.1 c.2.1 c.2.2.1 c.2.2.2 a.1 a.2 nx dn rt)],ec 50 tt [] [.tmp 6, .tmp 7] qg8 (fun x=>(x.1.2.1,x.2.1))⟩
theorem qjd:CtxM Try.prog qjf:=p8 fits ce (mC o6 (mC rf (mC dj (mC qn m0))))
theorem qsj:ba Try.prog qjf 0 (lc 0 Try.f15 1215):=lp rfl qjd .z s0 (fun c a=>(((),(),c.1,a.1,()),((c.2.1,c.2.2.1,c.2.2.2,()),a.2,()))) (fun y=>((),y.2.1))
abbrev qje:Mdl:=(bj (.cons (.agg (.cons (.d false qT0) (.cons (.d false (.slice ai.ty)) (.cons (.d false qT0) (.cons (.d false qT0) .nil))))) (.cons (.d false qT1) (.cons (.d false qT0) .nil))) [] [] 2 qg8 (B:=(Int×qL1)) (fun b=>(((),b.1,()),(b.2,()))) (fun a=>qej a.1.1.1 a.1.1.2.1 a.1.1.2.2.1 (pe3 a.1.1) a.1.2.1 a.1.2.2.1))
theorem qpo:MdlOK Try.prog 15 qje:=p7 Try.func15 rfl qjd (.two .z (.two .z (.two .z (.two .z (.two .z (.two .z (.two (.two .z (.s 0)) .z))))))) (sC qsj s0)
def qix:Shp:=⟨[qiu],[]⟩
abbrev qwh:Ctx (Bool):=⟨71,tt,false,false,[],ov [(18,zf),(13,qci),(15,qje),(17,kf)],p4 [],ec 71 tt [] [.tmp 0] qix (fun x=>x.1.1)⟩
theorem qwg:CtxM Try.prog qwh:=p8 fits ce (mC qg9 (mC qkb (mC qpo (mC mm m0))))
abbrev qll:Mdl:=(bj .nil [] [] 1 qix (B:=Bool) (fun b=>((b,()),(()))) (fun a=>wy))
theorem qrc:MdlOK Try.prog 9 qll:=p7 Try.func9 rfl qwg .z s0
def qiy:Shp:=⟨[qiu],[]⟩
abbrev qwj:Ctx (Bool):=⟨19,tt,false,false,[],ov [],p4 [],ec 19 tt [] [.tmp 2] qiy (fun x=>x.1.1)⟩
theorem qwi:CtxM Try.prog qwj:=p8 fits ce m0
abbrev qlm:Mdl:=(bj (.cons (.d false ai.ty) .nil) [] [] 1 qiy (B:=Bool) (fun b=>((b,()),(()))) (fun a=>z8 a.1.1))
theorem qre:MdlOK Try.prog 40 qlm:=p7 Try.func40 rfl qwi .z s0
def gz:Shp:=⟨[qv0],[]⟩
abbrev ig:Ctx (Int):=⟨19,tt,false,false,[],ov [(40,qlm)],p4 [bg _ 19 [] np (C:=((List ai)×Int)) (S:=Int) (fun x=>((x.1.1,x.1.2.2.1),(pe3 x.1))) nm (CE:=Unit) (E:=Unit) (fun c e=>((()),(()))) (fun c=>()) (fun{R} c a nx dn rt=>ch c.1 c.2 a nx dn rt)],ec 19 tt [] [.tmp 4] gz (fun x=>x.1.1)⟩
theorem ic:CtxM Try.prog ig:=p8 fits ce (mC qre m0)
theorem nw:ba Try.prog ig 0 (lc 0 Try.f70 37):=lp rfl ic .z s0 (fun c a=>((c.1,(()),c.2,a,()),(()))) (fun y=>((),()))
abbrev ie:Mdl:=(bj (.cons (.d false (.slice ai.ty)) (.cons (.fn 40 .nil) .nil)) [] [] 1 gz (B:=Int) (fun b=>((b,()),(()))) (fun a=>dy a.1.1))
theorem nq:MdlOK Try.prog 70 ie:=p7 Try.func70 rfl ic (.two .z (.two (.two .z (.s 0)) .z)) (sC nw s0)
def fx:Shp:=⟨[qiu],[]⟩
abbrev my:Ctx (Bool):=⟨9,tt,false,false,[],ov [(70,ie)],p4 [],ec 9 tt [] [.tmp 4] fx (fun x=>x.1.1)⟩
theorem mw:CtxM Try.prog my:=p8 fits ce (mC nq m0)
abbrev f8:Mdl:=(bj (.cons (.d false (.slice ai.ty)) (.cons (.fn 40 .nil) .nil)) [] [] 1 fx (B:=Bool) (fun b=>((b,()),(()))) (fun a=>cf a.1.1))
theorem lw:MdlOK Try.prog 39 f8:=p7 Try.func39 rfl mw .z s0
def qol:Shp:=⟨[qiu],[]⟩
abbrev q1h:Ctx (Bool):=⟨32,tt,false,false,[],ov [(39,f8)],p4 [],ec 32 tt [] [.tmp 6] qol (fun x=>x.1.1)⟩
theorem q1g:CtxM Try.prog q1h:=p8 fits ce (mC lw m0)
abbrev qrd:Mdl:=(bj (.cons (.d false c9.ty) (.cons (.d false qT1) (.cons (.d false (.slice af.ty)) .nil))) [] [] 1 qol (B:=Bool) (fun b=>((b,()),(()))) (fun a=>qb7 a.1.1 a.1.2.1 a.1.2.2.1))
theorem qwk:MdlOK Try.prog 10 qrd:=p7 Try.func10 rfl q1g .z s0
def ya:Shp:=⟨[qv0],[]⟩
abbrev qj5:Ctx (Int):=⟨9,tt,false,false,[],ov [],p4 [],ec 9 tt [] [.tmp 3] ya (fun x=>x.1.1)⟩
theorem qj4:CtxM Try.prog qj5:=p8 fits ce m0
abbrev q9:Mdl:=(bj (.cons (.d false qT0) (.cons (.rp false (.slice af.ty)) .nil)) [] [] 1 ya (B:=Int) (fun b=>((b,()),(()))) (fun a=>ja a.1.1 a.1.2.1))
theorem xd:MdlOK Try.prog 44 q9:=p7 Try.func44 rfl qj4 .z s0
def ry:Shp:=⟨[q1u],[qdw]⟩
abbrev jr:Ctx ((List ae)):=⟨77,tt,false,false,[],ov [(44,q9),(92,j9)],p4 [bg _ 77 [] qaz (C:=((List af)×Bool×Int×Int×Int×(List (Int×(List ab)))×Nat×(List ab)×Int×(List (Int×(List ab)))×Int×Int)) (S:=(Bool×Int×(List ae))) (fun x=>((x.1.1.1,x.1.2.1,(pe5 x.1),(pe6 x.1),(pe7 x.1),(pe8 x.1),(pe9 x.1),(pe10 x.1),(pe11 x.1),x.2.1.1,x.2.1.2.1,x.2.1.2.2.1),((pe4 x.1),(pe12 x.1),x.2.2.1))) qay (CE:=((List af)×Bool×Int×Int×(List (Int×(List ab)))×Nat×(List (Int×(List ab)))×Int×Int)) (E:=(Bool×(List ae))) (fun c e=>(((c.1,()),c.2.1,(),(),e.1,c.2.2.1,(pe3 c),(pe4 c),(pe5 c),()),(((pe6 c),(pe7 c),(pf8 c),()),e.2,()))) (fun c=>(c.1,c.2.1,(pe3 c),(pe4 c),(pe5 c),(pe6 c),(pe9 c),(pe10 c),(pf11 c))) (fun{R} c a nx dn rt=>qb c.1 c.2.1 c.2.2.1 (pe3 c) (pe4 c) (pe5 c) (pe7 c) (pe8 c) (pe9 c) (pe10 c) (pf11 c) a.1 a.2.1 a.2.2 nx dn rt),sr _ 77 tt false [] (rc Try.f71 10647) qa0 (C:=((List af)×Bool×Int×Int×(List (Int×(List ab)))×(List (Int×(List ab)))×Int×Int)) (S:=(Bool×(List ae))) (fun x=>((x.1.1.1,x.1.2.1,(pe5 x.1),(pe6 x.1),(pe7 x.1),x.2.1.1,x.2.1.2.1,x.2.1.2.2.1),((pe4 x.1),x.2.2.1))) (fun c a=>(((c.1,()),c.2.1,(),(),a.1,c.2.2.1,(pe3 c),(pe4 c),()),(((pe5 c),(pe6 c),(pf7 c),()),a.2,()))) (fun c=>(pe4 c)) (fun{R} c a en nx rt=>qc c.1 c.2.1 c.2.2.1 (pe3 c) (pe4 c) (pe5 c) (pe6 c) (pf7 c) a.1 a.2 en nx rt),qj1 _ 77 [] qa2 (C:=((List af)×Bool×Int×(List (Int×(List ab)))×Int×Int)) (S:=(Int×(List ae))) (fun x=>((x.1.1.1,x.1.2.1,(pe4 x.1),x.2.1.1,x.2.1.2.1,x.2.1.2.2.1),((pe5 x.1),x.2.2.1))) qa1 (CE:=Unit) (E:=(List ae)) (fun c e=>(((),()),(e,()))) (fun c=>()) (fun{R} c a nx dn rt=>qd c.1 c.2.1 c.2.2.1 (pe3 c) (pe4 c) (pf5 c) a.1 a.2 nx dn rt)],ec 77 tt [] [.tmp 6] ry (fun x=>x.2.1)⟩
theorem jq:CtxM Try.prog jr:=p8 fits ce (mC xd (mC k8 m0))
theorem qcl:ba Try.prog jr 0 (lc 4 Try.f71 10168727):=lp rfl jq (.two .z (.two .z (.two (.one (.two .z (.two .z (.two .z (.two (.d [0,1,0,0,8,28,63,127,255] [8] []) (.two .z (.two (.d [0,0,0,6,14,0,63] [] []) .z))))))) .z))) s0 (fun c a=>(((c.1,()),c.2.1,(),(),a.1,c.2.2.1,(pe3 c),(pe4 c),(pe5 c),(pe6 c),(pe7 c),(pe8 c),a.2.1,()),(((pe9 c),(pe10 c),(pf11 c),()),a.2.2,()))) (fun y=>((y.1.1.1,y.1.2.1,(pe5 y.1),(pe6 y.1),(pe7 y.1),(pe8 y.1),y.2.1.1,y.2.1.2.1,y.2.1.2.2.1),((pe4 y.1),y.2.2.1)))
theorem qcm:ba Try.prog jr 1 ((rc Try.f71 10647).code):=rl qT0 (.slice ab.ty) rfl jq (.two .z (.s 0)) (sC qcl s0) 75 28 29 30 32 false rfl
theorem qcn:ba Try.prog jr 2 (lc 0 Try.f71 151):=nl rfl jq (.two .z (.two .z (.two (.one (.two .z (.two (.s 1) .z))) .z))) (sC qcm s0) (fun c a=>(((c.1,()),c.2.1,(),(),c.2.2.1,a.1,()),(((pe3 c),(pe4 c),(pf5 c),()),a.2,()))) (fun y=>((),y.2.1))
abbrev tk:Mdl:=(bj (.cons (.agg (.cons (.dm false qT0 (.slice ab.ty)) (.cons (.d false qT0) (.cons (.d false qT0) .nil)))) (.cons (.fn 44 (.cons (.rp false (.slice af.ty)) .nil)) (.cons (.d false .bool) .nil))) [] [] 1 ry (B:=(List ae)) (fun b=>(((),()),(b,()))) (fun a=>ul a.1.1.1 a.1.1.2.1 a.1.1.2.2.1 a.1.2.1.1 a.1.2.2.1))
theorem qa3:MdlOK Try.prog 71 tk:=p7 Try.func71 rfl jq (.two .z (.two .z (.two .z (.two (.two .z (.s 2)) .z)))) (sC qcn s0)
def tp:Shp:=⟨[q1u],[qdy]⟩
abbrev oh:Ctx (qL1):=⟨93,tt,false,false,[],ov [(71,tk),(44,q9)],p4 [bg _ 93 [] qc4 (C:=((List af)×(List ae)×Int×(List ab)×Int×(List (Int×(List ab)))×Int×Int×qL1)) (S:=(Int×Int×Int)) (fun x=>((x.1.1.1,x.1.2.2.1,(pe4 x.1),(pe6 x.1),(pe7 x.1),x.2.1.1,x.2.1.2.1,x.2.1.2.2.1,x.2.2.1),((pe8 x.1),(pe3 x).1,(pe3 x).2.1))) qc3 (CE:=((List af)×(List ae)×(List (Int×(List ab)))×Int×Int×qL1)) (E:=(Int×Int)) (fun c e=>(((c.1,()),(),c.2.1,(),(),()),((c.2.2.1,(pe3 c),(pe4 c),()),(pf5 c),(e.1,e.2,()),()))) (fun c=>(c.1,c.2.1,(pe5 c),(pe6 c),(pe7 c),(pf8 c))) (fun{R} c a nx dn rt=>se c.1 c.2.1 c.2.2.1 (pe3 c) (pe4 c) (pe5 c) (pe6 c) (pe7 c) (pf8 c) a.1 a.2.1 a.2.2 nx dn rt),bg _ 93 [] qc6 (C:=((List af)×(List ae)×(List (Int×(List ab)))×Int×Int)) (S:=(Int×qL1)) (fun x=>((x.1.1.1,x.1.2.2.1,x.2.1.1,x.2.1.2.1,x.2.1.2.2.1),((pe4 x.1),x.2.2.1))) qc5 (CE:=Unit) (E:=qL1) (fun c e=>(((),()),(e,()))) (fun c=>()) (fun{R} c a nx dn rt=>si c.1 c.2.1 c.2.2.1 (pe3 c) (pf4 c) a.1 a.2 nx dn rt)],ec 93 tt [] [.tmp 6] tp (fun x=>x.2.1)⟩
theorem og:CtxM Try.prog oh:=p8 fits ce (mC qa3 (mC xd m0))
theorem qer:ba Try.prog oh 0 (lc 2 Try.f43 19095):=lp rfl og (.two .z (.two .z (.two (.one (.two .z (.two .z (.two (.d [0,1,3,7,15,7,7,71,231,511,7,7,3079,7175,15367,32767,65535,131071,262143,524287,1048575,262143,262143,6553599,14942207,31719423,67108863,134217727,268435455,536870911,1073741823,2147483647,4294967295,8589934591,17179869183,8589934591,42949672959,137438953471,274877906943,549755813887] [] []) .z)))) .z))) s0 (fun c a=>(((c.1,()),(),c.2.1,(),c.2.2.1,(),(pe3 c),(pe4 c),a.1,()),(((pe5 c),(pe6 c),(pe7 c),()),(pf8 c),(a.2.1,a.2.2,()),()))) (fun y=>((y.1.1.1,y.1.2.2.1,y.2.1.1,y.2.1.2.1,y.2.1.2.2.1,y.2.2.1),((pe3 y).1,(pe3 y).2.1)))
theorem qes:ba Try.prog oh 1 (lc 0 Try.f43 151):=lp rfl og (.two .z (.one (.two .z (.two (.two .z (.s 0)) .z)))) (sC qer s0) (fun c a=>(((c.1,()),(),c.2.1,(),a.1,()),((c.2.2.1,(pe3 c),(pf4 c),()),a.2,()))) (fun y=>((),y.2.1))
abbrev us:Mdl:=(bj (.cons (.agg (.cons (.dm false qT0 (.slice ab.ty)) (.cons (.d false qT0) (.cons (.d false qT0) .nil)))) (.cons (.fn 44 (.cons (.rp false (.slice af.ty)) .nil)) (.cons (.d false .bool) .nil))) [] [] 1 tp (B:=qL1) (fun b=>(((),()),(b,()))) (fun a=>pe a.1.1.1 a.1.1.2.1 a.1.1.2.2.1 a.1.2.1.1 a.1.2.2.1))
theorem qc7:MdlOK Try.prog 43 us:=p7 Try.func43 rfl og (.two .z (.two .z (.two .z (.two (.two .z (.s 1)) .z)))) (sC qes s0)
def qaf:Shp:=⟨[q1u,qk7],[qdy]⟩
abbrev qnr:Ctx ((Int×qL1)):=⟨35,tt,false,false,[],ov [(41,mf),(42,dg),(43,us)],p4 [],ec 35 tt [] [.tmp 8, .tmp 9] qaf (fun x=>(x.1.2.1,x.2.1))⟩
theorem qnq:CtxM Try.prog qnr:=p8 fits ce (mC mg (mC dj (mC qc7 m0)))
abbrev qch:Mdl:=(bj (.cons (.d false c9.ty) (.cons (.d false qT1) (.cons (.d false (.slice af.ty)) (.cons (.d false qT0) .nil)))) [] [] 2 qaf (B:=(Int×qL1)) (fun b=>(((),b.1,()),(b.2,()))) (fun a=>ff a.1.1 a.1.2.1 a.1.2.2.1 (pe3 a.1)))
theorem qj6:MdlOK Try.prog 11 qch:=p7 Try.func11 rfl qnq .z s0
def zg:Shp:=⟨[q1u,qk7],[qdy]⟩
abbrev qmf:Ctx ((Int×qL1)):=⟨38,tt,false,false,[],ov [(41,mf),(42,dg),(47,ly),(43,oj)],p4 [],ec 38 tt [] [.tmp 8, .tmp 9] zg (fun x=>(x.1.2.1,x.2.1))⟩
theorem qme:CtxM Try.prog qmf:=p8 fits ce (mC mg (mC dj (mC oe (mC sm m0))))
abbrev qag:Mdl:=(bj (.cons (.d false c9.ty) (.cons (.d false qT1) (.cons (.d false (.slice af.ty)) (.cons (.d false qT0) .nil)))) [] [] 2 zg (B:=(Int×qL1)) (fun b=>(((),b.1,()),(b.2,()))) (fun a=>c6 a.1.1 a.1.2.1 a.1.2.2.1 (pe3 a.1)))
theorem qis:MdlOK Try.prog 13 qag:=p7 Try.func13 rfl qme .z s0
def qfn:Shp:=⟨[ja3,qk7],[qdy]⟩
abbrev qg7:Ctx ((Int×qL1)):=⟨50,tt,false,false,[],ov [(50,po),(51,pq),(42,dg),(52,ni)],p4 [bg _ 50 [] qnt (C:=(Int×(List (Int×(List ab)))×Int×Int)) (S:=(Int×qL1)) (fun x=>((x.1.2.2.1,x.2.1.1,x.2.1.2.1,x.2.1.2.2.1),((pe3 x.1),x.2.2.1))) qns (CE:=Unit) (E:=qL1) (fun c e=>(((),()),(e,()))) (fun c=>()) (fun{R} c a nx dn rt=>me c.1 c.2.1 c.2.2.1 c.2.2.2 a.1 a.2 nx dn rt)],ec 50 tt [] [.tmp 6, .tmp 7] qfn (fun x=>(x.1.2.1,x.2.1))⟩
theorem qg5:CtxM Try.prog qg7:=p8 fits ce (mC o6 (mC rf (mC dj (mC qn m0))))
theorem qpl:ba Try.prog qg7 0 (lc 0 Try.f15 1215):=lp rfl qg5 .z s0 (fun c a=>(((),(),c.1,a.1,()),((c.2.1,c.2.2.1,c.2.2.2,()),a.2,()))) (fun y=>((),y.2.1))
abbrev qg6:Mdl:=(bj (.cons (.d false c9.ty) (.cons (.d false qT1) (.cons (.d false qT0) .nil))) [] [] 2 qfn (B:=(Int×qL1)) (fun b=>(((),b.1,()),(b.2,()))) (fun a=>ge a.1.1 a.1.2.1 a.1.2.2.1))
theorem qnu:MdlOK Try.prog 15 qg6:=p7 Try.func15 rfl qg5 (.two .z (.two .z (.two .z (.two .z (.two .z (.two .z (.two (.two .z (.s 0)) .z))))))) (sC qpl s0)
def xe:Shp:=⟨[jck,qk7],[]⟩
abbrev qir:Ctx ((af×Int)):=⟨37,tt,false,false,[],ov [(41,mf),(42,dg),(55,lg)],p4 [],ec 37 tt [] [.cell 8 40, .tmp 9] xe (fun x=>(x.1.1,x.1.2.1))⟩
theorem qiq:CtxM Try.prog qir:=p8 fits ce (mC mg (mC dj (mC pd m0)))
abbrev yb:Mdl:=(bj (.cons (.d false c9.ty) (.cons (.d false qT1) (.cons (.d false (.slice af.ty)) (.cons (.d false qT0) .nil)))) [] [] 2 xe (B:=(af×Int)) (fun b=>((b.1,b.2,()),(()))) (fun a=>dh a.1.1 a.1.2.1 a.1.2.2.1 (pe3 a.1)))
theorem qf2:MdlOK Try.prog 18 yb:=p7 Try.func18 rfl qiq .z s0
def qi0:Shp:=⟨[qv0,qk7,qm0,(3, .d true .bool)],[]⟩
abbrev qlp:Ctx ((Int×Int×Bool×Bool)):=⟨50,tt,false,false,[],ov [],p4 [bg _ 50 [] qrg (C:=((List af)×qL1×Int)) (S:=(Int×Int×Bool×Int)) (fun x=>((x.1.1,(pe4 x.1),(pe5 x.1)),(x.1.2.1,x.1.2.2.1,(pe3 x.1),(pe6 x.1)))) qrf (CE:=Unit) (E:=(Int×Int×Bool)) (fun c e=>((e.1,e.2.1,e.2.2,()),(()))) (fun c=>()) (fun{R} c a nx dn rt=>o4 c.1 c.2.1 c.2.2 a.1 a.2.1 a.2.2.1 a.2.2.2 nx dn rt)],ec 50 tt [] [.tmp 4, .tmp 5, .tmp 6, .tmp 7] qi0 (fun x=>(x.1.1,x.1.2.1,x.1.2.2.1,(pe3 x.1)))⟩
theorem qln:CtxM Try.prog qlp:=p8 fits ce m0
theorem qtg:ba Try.prog qlp 0 (lc 0 Try.f20 37):=lp rfl qln .z s0 (fun c a=>((c.1,a.1,a.2.1,a.2.2.1,c.2.1,c.2.2,a.2.2.2,()),(()))) (fun y=>((),(y.1.1,y.1.2.1,y.1.2.2.1)))
abbrev qlo:Mdl:=(bj (.cons (.d false qT1) (.cons (.d false (.slice af.ty)) .nil)) [] [] 4 qi0 (B:=(Int×Int×Bool×Bool)) (fun b=>((b.1,b.2.1,b.2.2.1,b.2.2.2,()),(()))) (fun a=>rq a.1.1 a.1.2.1))
theorem qrh:MdlOK Try.prog 20 qlo:=p7 Try.func20 rfl qln (.two .z (.two (.two .z (.s 0)) .z)) (sC qtg s0)
def t6:Shp:=⟨[qv0],[]⟩
abbrev uy:Ctx (Int):=⟨19,tt,false,false,[],ov [],p4 [bg _ 19 [] qdt (C:=(qL1×Int×Int)) (S:=Int) (fun x=>((x.1.1,x.1.2.1,x.1.2.2.1),(pe3 x.1))) qds (CE:=Unit) (E:=Unit) (fun c e=>((()),(()))) (fun c=>()) (fun{R} c a nx dn rt=>jg c.1 c.2.1 c.2.2 a nx dn rt)],ec 19 tt [] [.tmp 4] t6 (fun x=>x.1.1)⟩
theorem uv:CtxM Try.prog uy:=p8 fits ce m0
theorem qe4:ba Try.prog uy 0 (lc 0 Try.f61 37):=lp rfl uv .z s0 (fun c a=>((c.1,c.2.1,c.2.2,a,()),(()))) (fun y=>((),()))
abbrev uw:Mdl:=(bj (.cons (.d false qT1) (.cons (.d false qT0) .nil)) [] [] 1 t6 (B:=Int) (fun b=>((b,()),(()))) (fun a=>pf a.1.1 a.1.2.1))
theorem qdu:MdlOK Try.prog 61 uw:=p7 Try.func61 rfl uv (.two .z (.two (.two .z (.s 0)) .z)) (sC qe4 s0)
def p1:Shp:=⟨[qiu],[]⟩
abbrev qbv:Ctx (Bool):=⟨9,tt,false,false,[],ov [(61,uw)],p4 [],ec 9 tt [] [.tmp 4] p1 (fun x=>x.1.1)⟩
theorem qbu:CtxM Try.prog qbv:=p8 fits ce (mC qdu m0)
abbrev qq:Mdl:=(bj (.cons (.d false qT1) (.cons (.d false qT0) .nil)) [] [] 1 p1 (B:=Bool) (fun b=>((b,()),(()))) (fun a=>d8 a.1.1 a.1.2.1))
theorem zq:MdlOK Try.prog 25 qq:=p7 Try.func25 rfl qbu .z s0
def qot:Shp:=⟨[(0, .d true qT1),qk7,q6q],[]⟩
abbrev qr7:Ctx ((qL1×Int×Int)):=⟨48,tt,false,false,[],ov [(57,th),(36,kd),(59,qg1)],p4 [bg _ 48 [] qw7 (C:=(qL1×qL1×Int×Int×(List ai)×Int×Int)) (S:=(qL1×Int)) (fun x=>((x.1.1,(pe3 x.1),(pe4 x.1),x.2.1.1,x.2.1.2.1,x.2.1.2.2.1,(pe3 x.2.1)),(x.1.2.2.1,(pe5 x.1)))) qw6 (CE:=qL1) (E:=qL1) (fun c e=>((c,e,()),(()))) (fun c=>c.1) (fun{R} c a nx dn rt=>te c.1 c.2.1 c.2.2.1 (pe3 c) (pe4 c) (pe5 c) (pf6 c) a.1 a.2 nx dn rt)],ec 48 tt [] [.tmp 6, .tmp 7, .tmp 8] qot (fun x=>(x.1.1,x.1.2.1,x.1.2.2.1))⟩
theorem qr5:CtxM Try.prog qr7:=p8 fits ce (mC ve (mC mj (mC qi9 m0)))
theorem qzp:ba Try.prog qr7 0 (lc 1 Try.f29 151):=lp rfl qr5 .z s0 (fun c a=>((c.1,(),a.1,c.2.1,c.2.2.1,a.2,()),(((pe3 c),(pe4 c),(pe5 c),(pf6 c),()),()))) (fun y=>(y.1.1,y.1.2.1))
abbrev qr6:Mdl:=(bj (.cons (.d false c9.ty) (.cons (.d false qT1) (.cons (.d false qT1) .nil))) [] [] 3 qot (B:=(qL1×Int×Int)) (fun b=>((b.1,b.2.1,b.2.2,()),(()))) (fun a=>yz a.1.1 a.1.2.1 a.1.2.2.1))
theorem qw8:MdlOK Try.prog 29 qr6:=p7 Try.func29 rfl qr5 (.two .z (.two .z (.two .z (.two (.two .z (.s 0)) .z)))) (sC qzp s0)
def x9:Shp:=⟨[qiu],[]⟩
abbrev q6:Ctx (Bool):=⟨259,tt,false,false,[],ov [(9,qll),(10,qrd),(18,yb),(11,qch),(13,qag),(15,qg6),(19,qei),(29,qr6),(20,qlo),(17,kf),(25,qq)],p4 [bg _ 259 [] qgq (C:=(qL1×(List af)×qL1×qL1×Int×qL1×qL1×Int×Int×(List ai)×Int×Int×Int×Int×Bool)) (S:=Int) (fun x=>((x.1.1,x.1.2.1,(pe4 x.1),(pe5 x.1),(pe6 x.1),(pe7 x.1),(pe8 x.1),(pe9 x.1),x.2.1.1,x.2.1.2.1,x.2.1.2.2.1,(pe3 x.2.1),x.2.2.1.1,x.2.2.1.2.1,x.2.2.1.2.2.1),(pe10 x.1))) qgp (CE:=(qL1×(List af)×qL1×Int×qL1×Int×(List ai)×Int×Int×Int×Int×Bool)) (E:=Unit) (fun c e=>((c.1,c.2.1,(),(),c.2.2.1,(pe3 c),(pe4 c),()),(((pe5 c),(pe6 c),(pe7 c),(pe8 c),()),((pe9 c),(pe10 c),(pf11 c),()),()))) (fun c=>(c.1,c.2.1,(pe3 c),(pe4 c),(pe5 c),(pe8 c),(pe9 c),(pe10 c),(pe11 c),(pe12 c),(pe13 c),(pf14 c))) (fun{R} c a nx dn rt=>i4 c.1 c.2.1 c.2.2.1 (pe3 c) (pe4 c) (pe5 c) (pe6 c) (pe7 c) (pe8 c) (pe9 c) (pe10 c) (pe11 c) (pe12 c) (pe13 c) (pf14 c) a nx dn rt),qlh _ 259 [] qgs (A:=(qL1×(List af)×qL1×qL1×Int×qL1×qL1×Int×(List ai)×Int×Int×Int×Int×Bool)) (fun x=>(x.1.1,x.1.2.1,(pe4 x.1),(pe5 x.1),(pe6 x.1),(pe7 x.1),(pe8 x.1),x.2.1.1,x.2.1.2.1,x.2.1.2.2.1,(pe3 x.2.1),x.2.2.1.1,x.2.2.1.2.1,x.2.2.1.2.2.1)) qgr (CE:=Unit) (E:=Unit) (fun c e=>((()),(()))) (fun c=>()) (fun{R} c dn rt=>kz c.1 c.2.1 c.2.2.1 (pe3 c) (pe4 c) (pe5 c) (pe6 c) (pe7 c) (pe8 c) (pe9 c) (pe10 c) (pe11 c) (pe12 c) (pf13 c) dn rt)],ec 259 tt [] [.tmp 8] x9 (fun x=>x.1.1)⟩
theorem q5:CtxM Try.prog q6:=p8 fits ce (mC qrc (mC qwk (mC qf2 (mC qj6 (mC qis (mC qnu (mC qgz (mC qw8 (mC qrh (mC mm (mC zq m0)))))))))))
theorem qim:ba Try.prog q6 0 (lc 0 Try.f6 155647):=lp rfl q5 .z s0 (fun c a=>((c.1,c.2.1,(),(),c.2.2.1,(pe3 c),(pe4 c),(pe5 c),(pe6 c),(pe7 c),a,()),(((pe8 c),(pe9 c),(pe10 c),(pe11 c),()),((pe12 c),(pe13 c),(pf14 c),()),()))) (fun y=>((y.1.1,y.1.2.1,(pe4 y.1),(pe5 y.1),(pe6 y.1),y.2.1.1,y.2.1.2.1,y.2.1.2.2.1,(pe3 y.2.1),y.2.2.1.1,y.2.2.1.2.1,y.2.2.1.2.2.1),()))
theorem qin:ba Try.prog q6 1 (jc Try.f6 2047):=jn rfl q5 (.two .z (.two .z (.two .z (.two (.two .z (.s 0)) .z)))) (sC qim s0) (fun c=>((c.1,c.2.1,(),(),c.2.2.1,(pe3 c),(pe4 c),(pe5 c),(pe6 c),()),(((pe7 c),(pe8 c),(pe9 c),(pe10 c),()),((pe11 c),(pe12 c),(pf13 c),()),()))) (fun y=>((),()))
abbrev qjw:Mdl:=(bj (.cons (.d true c9.ty) (.cons (.d true qT1) (.cons (.d true (.slice af.ty)) (.cons (.d true qT0) .nil)))) [] [] 1 x9 (B:=Bool) (fun b=>((b,()),(()))) (fun a=>i9 a.1.1 a.1.2.1 a.1.2.2.1 (pe3 a.1)))
theorem qgt:MdlOK Try.prog 6 qjw:=p7 Try.func6 rfl q5 (.two .z (.two .z (.two .z (.two .z (.two .z (.two .z (.two .z (.two .z (.two .z (.two .z (.s 1))))))))))) (sC qin s0)
end
end Go.Proofs.Ytokeielgplbdeaa
