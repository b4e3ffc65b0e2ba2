/-
  The functions compute what their models say. Made by program (mg3.py) out of the translation.
-/
import Derived.Test.YtokeielgplbdeaaZ3Md
import Derived.Test.YtokeielgplbdeaaZ3Tt
set_option linter.all false
set_option maxRecDepth 100000
namespace Go.Proofs.Ytokeielgplbdeaa
open Go.K Go.M
abbrev pe3{A0 A1 A2 A3 A4:Type}(x:A0×A1×A2×A3×A4):A3:=x.2.2.2.1
abbrev pe4{A0 A1 A2 A3 A4 A5:Type}(x:A0×A1×A2×A3×A4×A5):A4:=x.2.2.2.2.1
abbrev pe5{A0 A1 A2 A3 A4 A5 A6:Type}(x:A0×A1×A2×A3×A4×A5×A6):A5:=x.2.2.2.2.2.1
abbrev pe6{A0 A1 A2 A3 A4 A5 A6 A7:Type}(x:A0×A1×A2×A3×A4×A5×A6×A7):A6:=x.2.2.2.2.2.2.1
abbrev pe7{A0 A1 A2 A3 A4 A5 A6 A7 A8:Type}(x:A0×A1×A2×A3×A4×A5×A6×A7×A8):A7:=x.2.2.2.2.2.2.2.1
abbrev pe8{A0 A1 A2 A3 A4 A5 A6 A7 A8 A9:Type}(x:A0×A1×A2×A3×A4×A5×A6×A7×A8×A9):A8:=x.2.2.2.2.2.2.2.2.1
abbrev pe9{A0 A1 A2 A3 A4 A5 A6 A7 A8 A9 A10:Type}(x:A0×A1×A2×A3×A4×A5×A6×A7×A8×A9×A10):A9:=x.2.2.2.2.2.2.2.2.2.1
abbrev pe10{A0 A1 A2 A3 A4 A5 A6 A7 A8 A9 A10 A11:Type}(x:A0×A1×A2×A3×A4×A5×A6×A7×A8×A9×A10×A11):A10:=x.2.2.2.2.2.2.2.2.2.2.1
abbrev pe11{A0 A1 A2 A3 A4 A5 A6 A7 A8 A9 A10 A11 A12:Type}(x:A0×A1×A2×A3×A4×A5×A6×A7×A8×A9×A10×A11×A12):A11:=x.2.2.2.2.2.2.2.2.2.2.2.1
abbrev pe12{A0 A1 A2 A3 A4 A5 A6 A7 A8 A9 A10 A11 A12 A13:Type}(x:A0×A1×A2×A3×A4×A5×A6×A7×A8×A9×A10×A11×A12×A13):A12:=x.2.2.2.2.2.2.2.2.2.2.2.2.1
abbrev pe13{A0 A1 A2 A3 A4 A5 A6 A7 A8 A9 A10 A11 A12 A13 A14:Type}(x:A0×A1×A2×A3×A4×A5×A6×A7×A8×A9×A10×A11×A12×A13×A14):A13:=x.2.2.2.2.2.2.2.2.2.2.2.2.2.1
abbrev pe14{A0 A1 A2 A3 A4 A5 A6 A7 A8 A9 A10 A11 A12 A13 A14 A15:Type}(x:A0×A1×A2×A3×A4×A5×A6×A7×A8×A9×A10×A11×A12×A13×A14×A15):A14:=x.2.2.2.2.2.2.2.2.2.2.2.2.2.2.1
abbrev pf4{A0 A1 A2 A3 A4:Type}(x:A0×A1×A2×A3×A4):A4:=x.2.2.2.2
abbrev pf5{A0 A1 A2 A3 A4 A5:Type}(x:A0×A1×A2×A3×A4×A5):A5:=x.2.2.2.2.2
abbrev pf6{A0 A1 A2 A3 A4 A5 A6:Type}(x:A0×A1×A2×A3×A4×A5×A6):A6:=x.2.2.2.2.2.2
abbrev pf7{A0 A1 A2 A3 A4 A5 A6 A7:Type}(x:A0×A1×A2×A3×A4×A5×A6×A7):A7:=x.2.2.2.2.2.2.2
abbrev pf8{A0 A1 A2 A3 A4 A5 A6 A7 A8:Type}(x:A0×A1×A2×A3×A4×A5×A6×A7×A8):A8:=x.2.2.2.2.2.2.2.2
abbrev pf9{A0 A1 A2 A3 A4 A5 A6 A7 A8 A9:Type}(x:A0×A1×A2×A3×A4×A5×A6×A7×A8×A9):A9:=x.2.2.2.2.2.2.2.2.2
abbrev pf10{A0 A1 A2 A3 A4 A5 A6 A7 A8 A9 A10:Type}(x:A0×A1×A2×A3×A4×A5×A6×A7×A8×A9×A10):A10:=x.2.2.2.2.2.2.2.2.2.2
abbrev pf11{A0 A1 A2 A3 A4 A5 A6 A7 A8 A9 A10 A11:Type}(x:A0×A1×A2×A3×A4×A5×A6×A7×A8×A9×A10×A11):A11:=x.2.2.2.2.2.2.2.2.2.2.2
abbrev pf12{A0 A1 A2 A3 A4 A5 A6 A7 A8 A9 A10 A11 A12:Type}(x:A0×A1×A2×A3×A4×A5×A6×A7×A8×A9×A10×A11×A12):A12:=x.2.2.2.2.2.2.2.2.2.2.2.2
abbrev pf13{A0 A1 A2 A3 A4 A5 A6 A7 A8 A9 A10 A11 A12 A13:Type}(x:A0×A1×A2×A3×A4×A5×A6×A7×A8×A9×A10×A11×A12×A13):A13:=x.2.2.2.2.2.2.2.2.2.2.2.2.2
abbrev pf15{A0 A1 A2 A3 A4 A5 A6 A7 A8 A9 A10 A11 A12 A13 A14 A15:Type}(x:A0×A1×A2×A3×A4×A5×A6×A7×A8×A9×A10×A11×A12×A13×A14×A15):A15:=x.2.2.2.2.2.2.2.2.2.2.2.2.2.2.2
noncomputable section
def qjm:Shp:=⟨[qjh],[]⟩
abbrev q0d:Ctx (Bool):=⟨17,tt,false,false,[],kb [],k9 [],cp 17 tt [] [.tmp 2] qjm (fun x=>x.1.1)⟩
theorem q0c:CtxM Try.prog q0d:=li fits bj m0
abbrev qek:Mdl:=(a9 (.cons (.d false (.int .u8)) .nil) [] [] 1 qjm (B:=Bool) (fun b=>((b,()),(()))) (fun a=>wm a.1.1))
theorem qg5:MdlOK Try.prog 96 qek:=lh Try.func96 rfl q0c .z s0
def qqq:Shp:=⟨[qjh],[]⟩
abbrev q5c:Ctx (Bool):=⟨25,tt,false,false,[],kb [(96,qek)],k9 [],cp 25 tt [] [.tmp 2] qqq (fun x=>x.1.1)⟩
theorem q5b:CtxM Try.prog q5c:=li fits bj (mC qg5 m0)
abbrev qud:Mdl:=(a9 (.cons (.d false (.int .u8)) .nil) [] [] 1 qqq (B:=Bool) (fun b=>((b,()),(()))) (fun a=>qio a.1.1))
theorem q0e:MdlOK Try.prog 97 qud:=lh Try.func97 rfl q5b .z s0
def qjl:Shp:=⟨[qjh],[]⟩
abbrev qmz:Ctx (Bool):=⟨29,tt,false,false,[],kb [(96,qek),(97,qud)],k9 [aw _ 29 [] qub (C:=(ByteArray×Int)) (S:=Int) (fun x=>((x.1.1,x.1.2.1),x.1.2.2.1)) qua (CE:=Unit) (E:=Unit) (fun c e=>((()),(()))) (fun c=>()) (fun{R} c a nx dn rt=>o6 c.1 c.2 a nx dn rt)],cp 29 tt [] [.tmp 2] qjl (fun x=>x.1.1)⟩
theorem qmx:CtxM Try.prog qmz:=li fits bj (mC qg5 (mC q0e m0))
theorem qwj:ax Try.prog qmz 0 (lc 0 Try.f77 75):=lp rfl qmx .z s0 (fun c a=>((c.1,c.2,a,()),(()))) (fun y=>((),()))
abbrev qmy:Mdl:=(a9 (.cons (.d false .str) .nil) [] [] 1 qjl (B:=Bool) (fun b=>((b,()),(()))) (fun a=>z8 a.1.1))
theorem quc:MdlOK Try.prog 77 qmy:=lh Try.func77 rfl qmx (.two .z (.two .z (.two (.two .z (.s 0)) .z))) (sC qwj s0)
def qhb:Shp:=⟨[qjh],[]⟩
abbrev qju:Ctx (Bool):=⟨36,tt,false,false,[],kb [],k9 [aw _ 36 [] qrt (C:=(qL1×qL1×Int×Int×(List ag)×Int×Int)) (S:=Int) (fun x=>((x.1.1,x.1.2.2.1,(pe3 x.1),x.2.1.1,x.2.1.2.1,x.2.1.2.2.1,(pe3 x.2.1)),(pe4 x.1))) qrs (CE:=Unit) (E:=Unit) (fun c e=>((()),(()))) (fun c=>()) (fun{R} c a nx dn rt=>kf c.1 c.2.1 c.2.2.1 (pe3 c) (pe4 c) (pe5 c) (pf6 c) a nx dn rt)],cp 36 tt [] [.tmp 4] qhb (fun x=>x.1.1)⟩
theorem qjs:CtxM Try.prog qju:=li fits bj m0
theorem quv:ax Try.prog qju 0 (lc 0 Try.f78 37):=lp rfl qjs .z s0 (fun c a=>((c.1,(),c.2.1,c.2.2.1,a,()),(((pe3 c),(pe4 c),(pe5 c),(pf6 c),()),()))) (fun y=>((),()))
abbrev qjt:Mdl:=(a9 (.cons (.d false cx.ty) (.cons (.d false qT1) .nil)) [] [] 1 qhb (B:=Bool) (fun b=>((b,()),(()))) (fun a=>jj a.1.1 a.1.2.1))
theorem qru:MdlOK Try.prog 78 qjt:=lh Try.func78 rfl qjs (.two .z (.two (.two .z (.s 0)) .z)) (sC quv s0)
def qjr:Shp:=⟨[qjh],[]⟩
abbrev qna:Ctx (Bool):=⟨62,tt,false,false,[],kb [(77,qmy),(78,qjt)],k9 [aw _ 62 [] qup (C:=((List ag)×Int×Int×(List ag)×Int×Int)) (S:=Int) (fun x=>((x.1.2.1,x.1.2.2.1,x.2.1.1,x.2.1.2.1,x.2.1.2.2.1,(pe3 x.2.1)),(pe3 x.1))) qun (CE:=(Int×(List ag)×Int×Int)) (E:=Unit) (fun c e=>(((),()),((c.1,c.2.1,c.2.2.1,c.2.2.2,()),()))) (fun c=>(c.2.2.1,(pe3 c),(pe4 c),(pf5 c))) (fun{R} c a nx dn rt=>sy c.1 c.2.1 c.2.2.1 (pe3 c) (pe4 c) (pf5 c) a nx dn rt)],cp 62 tt [] [.tmp 2] qjr (fun x=>x.1.1)⟩
theorem qm9:CtxM Try.prog qna:=li fits bj (mC quc (mC qru m0))
theorem qwl:ax Try.prog qna 0 (lc 0 Try.f50 75):=lp rfl qm9 .z s0 (fun c a=>(((),c.1,c.2.1,a,()),((c.2.2.1,(pe3 c),(pe4 c),(pf5 c),()),()))) (fun y=>((y.2.1.1,y.2.1.2.1,y.2.1.2.2.1,(pe3 y.2.1)),()))
abbrev po:Mdl:=(a9 (.cons (.d false cx.ty) .nil) [] [] 1 qjr (B:=Bool) (fun b=>((b,()),(()))) (fun a=>mt a.1.1))
theorem o7:MdlOK Try.prog 50 po:=lh Try.func50 rfl qm9 (.two .z (.two .z (.two (.two .z (.s 0)) .z))) (sC qwl s0)
def qak:Shp:=⟨[qjh],[]⟩
abbrev qpj:Ctx (Bool):=⟨35,tt,false,false,[],kb [],k9 [],cp 35 tt [] [.tmp 2] qak (fun x=>x.1.1)⟩
theorem qpi:CtxM Try.prog qpj:=li fits bj m0
abbrev qdk:Mdl:=(a9 (.cons (.d false af.ty) .nil) [] [] 1 qak (B:=Bool) (fun b=>((b,()),(()))) (fun a=>qn a.1.1))
theorem qlg:MdlOK Try.prog 87 qdk:=lh Try.func87 rfl qpi .z s0
def gb:Shp:=⟨[q1p],[]⟩
abbrev gn:Ctx (Int):=⟨19,tt,false,false,[],kb [(87,qdk)],k9 [aw _ 19 [] mh (C:=((List af)×Int)) (S:=Int) (fun x=>((x.1.1,x.1.2.2.1),(pe3 x.1))) mg (CE:=Unit) (E:=Unit) (fun c e=>((()),(()))) (fun c=>()) (fun{R} c a nx dn rt=>b7 c.1 c.2 a nx dn rt)],cp 19 tt [] [.tmp 4] gb (fun x=>x.1.1)⟩
theorem gk:CtxM Try.prog gn:=li fits bj (mC qlg m0)
theorem mr:ax Try.prog gn 0 (lc 0 Try.f101 37):=lp rfl gk .z s0 (fun c a=>((c.1,(()),c.2,a,()),(()))) (fun y=>((),()))
abbrev gm:Mdl:=(a9 (.cons (.d false (.slice af.ty)) (.cons (.fn 87 .nil) .nil)) [] [] 1 gb (B:=Int) (fun b=>((b,()),(()))) (fun a=>dk a.1.1))
theorem mi:MdlOK Try.prog 101 gm:=lh Try.func101 rfl gk (.two .z (.two (.two .z (.s 0)) .z)) (sC mr s0)
def fb:Shp:=⟨[qjh],[]⟩
abbrev lq:Ctx (Bool):=⟨9,tt,false,false,[],kb [(101,gm)],k9 [],cp 9 tt [] [.tmp 4] fb (fun x=>x.1.1)⟩
theorem ln:CtxM Try.prog lq:=li fits bj (mC mi m0)
abbrev fh:Mdl:=(a9 (.cons (.d false (.slice af.ty)) (.cons (.fn 87 .nil) .nil)) [] [] 1 fb (B:=Bool) (fun b=>((b,()),(()))) (fun a=>c8 a.1.1))
theorem kw:MdlOK Try.prog 86 fh:=lh Try.func86 rfl ln .z s0
def qfw:Shp:=⟨[qjh],[]⟩
abbrev qu2:Ctx (Bool):=⟨16,tt,false,false,[],kb [(86,fh)],k9 [],cp 16 tt [] [.tmp 4] qfw (fun x=>x.1.1)⟩
theorem qu1:CtxM Try.prog qu2:=li fits bj (mC kw m0)
abbrev qhn:Mdl:=(a9 (.cons (.d false cx.ty) (.cons (.d false (.slice af.ty)) .nil)) [] [] 1 qfw (B:=Bool) (fun b=>((b,()),(()))) (fun a=>v4 a.1.1 a.1.2.1))
theorem qpk:MdlOK Try.prog 62 qhn:=lh Try.func62 rfl qu1 .z s0
def qac:Shp:=⟨[qjh],[]⟩
abbrev qo9:Ctx (Bool):=⟨9,tt,false,false,[],kb [],k9 [],cp 9 tt [] [.tmp 2] qac (fun x=>x.1.1)⟩
theorem qo8:CtxM Try.prog qo9:=li fits bj m0
abbrev qcl:Mdl:=(a9 (.cons (.d false qT0) .nil) [] [] 1 qac (B:=Bool) (fun b=>((b,()),(()))) (fun a=>xo a.1.1))
theorem qkz:MdlOK Try.prog 83 qcl:=lh Try.func83 rfl qo8 .z s0
def m3:Shp:=⟨[q1p],[]⟩
abbrev nz:Ctx (Int):=⟨19,tt,false,false,[],kb [(83,qcl)],k9 [aw _ 19 [] vf (C:=(qL1×Int)) (S:=Int) (fun x=>((x.1.1,x.1.2.2.1),(pe3 x.1))) ve (CE:=Unit) (E:=Unit) (fun c e=>((()),(()))) (fun c=>()) (fun{R} c a nx dn rt=>ed c.1 c.2 a nx dn rt)],cp 19 tt [] [.tmp 4] m3 (fun x=>x.1.1)⟩
theorem nw:CtxM Try.prog nz:=li fits bj (mC qkz m0)
theorem xd:ax Try.prog nz 0 (lc 0 Try.f60 37):=lp rfl nw .z s0 (fun c a=>((c.1,(()),c.2,a,()),(()))) (fun y=>((),()))
abbrev ny:Mdl:=(a9 (.cons (.d false qT1) (.cons (.fn 83 .nil) .nil)) [] [] 1 m3 (B:=Int) (fun b=>((b,()),(()))) (fun a=>ju a.1.1))
theorem vg:MdlOK Try.prog 60 ny:=lh Try.func60 rfl nw (.two .z (.two (.two .z (.s 0)) .z)) (sC xd s0)
def ky:Shp:=⟨[qjh],[]⟩
abbrev t7:Ctx (Bool):=⟨9,tt,false,false,[],kb [(60,ny)],k9 [],cp 9 tt [] [.tmp 4] ky (fun x=>x.1.1)⟩
theorem t6:CtxM Try.prog t7:=li fits bj (mC vg m0)
abbrev lj:Mdl:=(a9 (.cons (.d false qT1) (.cons (.fn 83 .nil) .nil)) [] [] 1 ky (B:=Bool) (fun b=>((b,()),(()))) (fun a=>ec a.1.1))
theorem sk:MdlOK Try.prog 23 lj:=lh Try.func23 rfl t6 .z s0
def qfr:Shp:=⟨[qjh],[]⟩
abbrev qut:Ctx (Bool):=⟨19,tt,false,false,[],kb [(50,po),(23,lj)],k9 [],cp 19 tt [] [.tmp 4] qfr (fun x=>x.1.1)⟩
theorem qus:CtxM Try.prog qut:=li fits bj (mC o7 (mC sk m0))
abbrev y8:Mdl:=(a9 (.cons (.d false cx.ty) (.cons (.d false qT1) .nil)) [] [] 1 qfr (B:=Bool) (fun b=>((b,()),(()))) (fun a=>n9 a.1.1 a.1.2.1))
theorem qcm:MdlOK Try.prog 57 y8:=lh Try.func57 rfl qus .z s0
def qab:Shp:=⟨[qjh],[]⟩
abbrev qo7:Ctx (Bool):=⟨9,tt,false,false,[],kb [],k9 [],cp 9 tt [] [.tmp 3] qab (fun x=>x.1.1)⟩
theorem qo6:CtxM Try.prog qo7:=li fits bj m0
abbrev qcj:Mdl:=(a9 (.cons (.d false qT0) (.cons (.rp false qT1) .nil)) [] [] 1 qab (B:=Bool) (fun b=>((b,()),(()))) (fun a=>xn a.1.1 a.1.2.1))
theorem qkx:MdlOK Try.prog 84 qcj:=lh Try.func84 rfl qo6 .z s0
def m5:Shp:=⟨[q1p],[]⟩
abbrev n6:Ctx (Int):=⟨19,tt,false,false,[],kb [(84,qcj)],k9 [aw _ 19 [] vj (C:=(qL1×qL1×Int)) (S:=Int) (fun x=>((x.1.1,x.1.2.1.1,x.1.2.2.1),(pe3 x.1))) vi (CE:=Unit) (E:=Unit) (fun c e=>((()),(()))) (fun c=>()) (fun{R} c a nx dn rt=>eh c.1 c.2.1 c.2.2 a nx dn rt)],cp 19 tt [] [.tmp 4] m5 (fun x=>x.1.1)⟩
theorem n4:CtxM Try.prog n6:=li fits bj (mC qkx m0)
theorem xe:ax Try.prog n6 0 (lc 0 Try.f60 37):=lp rfl n4 .z s0 (fun c a=>((c.1,(c.2.1,()),c.2.2,a,()),(()))) (fun y=>((),()))
abbrev n5:Mdl:=(a9 (.cons (.d false qT1) (.cons (.fn 84 (.cons (.rp false qT1) .nil)) .nil)) [] [] 1 m5 (B:=Int) (fun b=>((b,()),(()))) (fun a=>jv a.1.1 a.1.2.1.1))
theorem vk:MdlOK Try.prog 60 n5:=lh Try.func60 rfl n4 (.two .z (.two (.two .z (.s 0)) .z)) (sC xe s0)
def kz:Shp:=⟨[qjh],[]⟩
abbrev t9:Ctx (Bool):=⟨9,tt,false,false,[],kb [(60,n5)],k9 [],cp 9 tt [] [.tmp 4] kz (fun x=>x.1.1)⟩
theorem t8:CtxM Try.prog t9:=li fits bj (mC vk m0)
abbrev ll:Mdl:=(a9 (.cons (.d false qT1) (.cons (.fn 84 (.cons (.rp false qT1) .nil)) .nil)) [] [] 1 kz (B:=Bool) (fun b=>((b,()),(()))) (fun a=>ij a.1.1 a.1.2.1.1))
theorem sm:MdlOK Try.prog 23 ll:=lh Try.func23 rfl t8 .z s0
def qfq:Shp:=⟨[qjh],[]⟩
abbrev qur:Ctx (Bool):=⟨10,tt,false,false,[],kb [(23,ll)],k9 [],cp 10 tt [] [.tmp 4] qfq (fun x=>x.1.1)⟩
theorem quq:CtxM Try.prog qur:=li fits bj (mC sm m0)
abbrev y7:Mdl:=(a9 (.cons (.d false ag.ty) (.cons (.d false qT1) .nil)) [] [] 1 qfq (B:=Bool) (fun b=>((b,()),(()))) (fun a=>p4 a.1.1 a.1.2.1))
theorem qck:MdlOK Try.prog 58 y7:=lh Try.func58 rfl quq .z s0
def qfp:Shp:=⟨[q4b,qsr],[qgy]⟩
abbrev qg7:Ctx ((Int×qL1)):=⟨30,tt,false,false,[],kb [(57,y8),(58,y7)],k9 [aw _ 30 [] qo5 (C:=(qL1×(List ag)×Int)) (S:=(Int×qL1)) (fun x=>((x.1.1,x.1.2.2.1,(pe3 x.1)),((pe4 x.1),x.2.1))) qo4 (CE:=Unit) (E:=qL1) (fun c e=>(((),()),(e,()))) (fun c=>()) (fun{R} c a nx dn rt=>l8 c.1 c.2.1 c.2.2 a.1 a.2 nx dn rt)],cp 30 tt [] [.tmp 4, .tmp 5] qfp (fun x=>(x.1.2.1,x.2.1))⟩
theorem qg6:CtxM Try.prog qg7:=li fits bj (mC qcm (mC qck m0))
theorem qrr:ax Try.prog qg7 0 (lc 0 Try.f21 151):=lp rfl qg6 .z s0 (fun c a=>((c.1,(),c.2.1,c.2.2,a.1,()),(a.2,()))) (fun y=>((),y.2.1))
abbrev y6:Mdl:=(a9 (.cons (.d false cx.ty) (.cons (.d false qT1) .nil)) [] [] 2 qfp (B:=(Int×qL1)) (fun b=>(((),b.1,()),(b.2,()))) (fun a=>n8 a.1.1 a.1.2.1))
theorem qci:MdlOK Try.prog 21 y6:=lh Try.func21 rfl qg6 (.two .z (.two .z (.two .z (.two (.two .z (.s 0)) .z)))) (sC qrr s0)
def qk:Shp:=⟨[q7j],[qgy]⟩
abbrev qdv:Ctx (qL1):=⟨8,tt,false,false,[],kb [],k9 [],cp 8 tt [] [.tmp 2] qk (fun x=>x.2.1)⟩
theorem qdt:CtxM Try.prog qdv:=li fits bj m0
abbrev qdu:Mdl:=(a9 (.cons (.nl false (.d false qT1)) .nil) [] [] 1 qk (B:=qL1) (fun b=>(((),()),(b,()))) (fun a=>tp a.1.1))
theorem zr:MdlOK Try.prog 36 qdu:=lh Try.func36 rfl qdt .z s0
def lf:Shp:=⟨[q7j],[qgy]⟩
abbrev qdy:Ctx (qL1):=⟨8,tt,false,false,[],kb [],k9 [],cp 8 tt [] [.tmp 2] lf (fun x=>x.2.1)⟩
theorem qdw:CtxM Try.prog qdy:=li fits bj m0
abbrev qdx:Mdl:=(a9 (.cons (.nl true (.d false qT1)) .nil) [] [] 1 lf (B:=qL1) (fun b=>(((),()),(b,()))) (fun a=>jt a.1.1))
theorem zt:MdlOK Try.prog 36 qdx:=lh Try.func36 rfl qdw .z s0
abbrev om:Mdl:=(a9 (.cons (.d false qT1) .nil) [] [] 1 lf (fun(b:qL1)=>(((),()),(b,()))) (fun(a:((qL1×Unit)×(Unit)))=>fy a.1.1))
theorem se:MdlOK Try.prog 36 om:=by
 refine q9o (jf4 _ _) zr zt (by kernel_rfl) (fun a b h=>⟨?_,h⟩);obtain⟨⟨xs,u1⟩,u2⟩:=a;cases xs with
 |nil=>exact h
 |cons x l=>
  have e:decide ((((x::l).length:Nat):Int)=0)=false:=decide_eq_false (by simp only[List.length_cons];omega);simp only[fy,jt]at h;simp only[tp,e,cond_false];exact h
def qre:Shp:=⟨[jth],[]⟩
abbrev qv0:Ctx (ByteArray):=⟨27,tt,false,false,[],kb [],k9 [aw _ 27 [] q1g (C:=(qL1×Int)) (S:=(Int×qL1)) (fun x=>((x.1.2.1,x.1.2.2.1),((pe3 x.1),x.2.1))) q1f (CE:=Unit) (E:=qL1) (fun c e=>(((),()),(e,()))) (fun c=>()) (fun{R} c a nx dn rt=>ym c.1 c.2 a.1 a.2 nx dn rt)],cp 27 tt [] [.tmp 2] qre (fun x=>x.1.1)⟩
theorem qvy:CtxM Try.prog qv0:=li fits bj m0
theorem q3u:ax Try.prog qv0 0 (lc 0 Try.f98 75):=lp rfl qvy .z s0 (fun c a=>(((),c.1,c.2,a.1,()),(a.2,()))) (fun y=>((),y.2.1))
abbrev qvz:Mdl:=(a9 (.cons (.d false qT1) .nil) [] [] 1 qre (B:=ByteArray) (fun b=>((b,()),(()))) (fun a=>vm a.1.1))
theorem q1h:MdlOK Try.prog 98 qvz:=lh Try.func98 rfl qvy (.two .z (.two .z (.two (.two .z (.s 0)) .z))) (sC q3u s0)
def xg:Shp:=⟨[q1p],[]⟩
abbrev yd:Ctx (Int):=⟨25,tt,false,false,[],kb [],k9 [aw _ 25 [] qgn (C:=qL1) (S:=(Int×Int)) (fun x=>(x.1.1,(x.1.2.1,x.1.2.2.1))) qgm (CE:=Unit) (E:=Int) (fun c e=>((e,()),(()))) (fun c=>()) (fun{R} c a nx dn rt=>j8 c a.1 a.2 nx dn rt)],cp 25 tt [] [.tmp 2] xg (fun x=>x.1.1)⟩
theorem yb:CtxM Try.prog yd:=li fits bj m0
theorem qic:ax Try.prog yd 0 (lc 0 Try.f85 151):=lp rfl yb .z s0 (fun c a=>((c,a.1,a.2,()),(()))) (fun y=>((),y.1.1))
abbrev yc:Mdl:=(a9 (.cons (.d false qT1) .nil) [] [] 1 xg (B:=Int) (fun b=>((b,()),(()))) (fun a=>np a.1.1))
theorem qgo:MdlOK Try.prog 85 yc:=lh Try.func85 rfl yb (.two .z (.two .z (.two .z (.two (.two .z (.s 0)) .z)))) (sC qic s0)
def qnd:Shp:=⟨[q7j,qsr],[qgy]⟩
abbrev qg9:Ctx ((Int×qL1)):=⟨66,tt,false,false,[],kb [(58,y7),(36,om),(85,yc)],k9 [aw _ 66 [] qwn (C:=(qL1×Int×ByteArray×qL1×qL1)) (S:=(Int×qL1)) (fun x=>((x.1.2.2.1,(pe3 x.1),x.2.1.1,x.2.1.2.1,x.2.1.2.2.1),((pe4 x.1),x.2.2.1))) qwm (CE:=(ByteArray×qL1×qL1)) (E:=qL1) (fun c e=>(((),(),()),((c.1,c.2.1,c.2.2,()),e,()))) (fun c=>(c.2.2.1,(pe3 c),(pf4 c))) (fun{R} c a nx dn rt=>vy c.1 c.2.1 c.2.2.1 (pe3 c) (pf4 c) a.1 a.2 nx dn rt),aw _ 66 [] qwp (C:=(qL1×Int)) (S:=(Int×qL1)) (fun x=>((x.1.2.1,x.1.2.2.1),((pe3 x.1),x.2.1))) qwo (CE:=Unit) (E:=qL1) (fun c e=>(((),()),(e,()))) (fun c=>()) (fun{R} c a nx dn rt=>vz c.1 c.2 a.1 a.2 nx dn rt)],cp 66 tt [] [.tmp 6, .tmp 7] qnd (fun x=>(x.1.2.1,x.2.1))⟩
theorem qg8:CtxM Try.prog qg9:=li fits bj (mC qck (mC se (mC qgo m0)))
theorem q0m:ax Try.prog qg9 1 (lc 2 Try.f59 1215):=lp rfl qg8 .z s0 (fun c a=>(((),c.1,c.2,a.1,()),(a.2,()))) (fun y=>((),y.2.1))
theorem q0l:ax Try.prog qg9 0 (lc 0 Try.f59 607):=lp rfl qg8 .z s0 (fun c a=>(((),(),c.1,c.2.1,a.1,()),((c.2.2.1,(pe3 c),(pf4 c),()),a.2,()))) (fun y=>((y.2.1.1,y.2.1.2.1,y.2.1.2.2.1),y.2.2.1))
abbrev qqu:Mdl:=(a9 (.cons (.d false cx.ty) (.cons (.d false qT1) (.cons (.d false qT0) .nil))) [] [] 2 qnd (B:=(Int×qL1)) (fun b=>(((),b.1,()),(b.2,()))) (fun a=>qky a.1.1 a.1.2.1 a.1.2.2.1))
theorem qwq:MdlOK Try.prog 59 qqu:=lh Try.func59 rfl qg8 (.two .z (.two .z (.two .z (.two .z (.two .z (.two (.two .z (.s 0)) (.two (.two .z (.s 1)) .z))))))) (sC q0l (sC q0m s0))
def qm8:Shp:=⟨[q7j,qsr],[qgy]⟩
abbrev q3b:Ctx ((Int×qL1)):=⟨18,tt,false,false,[],kb [(57,y8),(59,qqu)],k9 [],cp 18 tt [] [.tmp 6, .tmp 7] qm8 (fun x=>(x.1.2.1,x.2.1))⟩
theorem q3a:CtxM Try.prog q3b:=li fits bj (mC qcm (mC qwq m0))
abbrev qqt:Mdl:=(a9 (.cons (.d false cx.ty) (.cons (.d false qT1) (.cons (.d false qT0) .nil))) [] [] 2 qm8 (B:=(Int×qL1)) (fun b=>(((),b.1,()),(b.2,()))) (fun a=>qel a.1.1 a.1.2.1 a.1.2.2.1))
theorem qwk:MdlOK Try.prog 22 qqt:=lh Try.func22 rfl q3a .z s0
def qf8:Shp:=⟨[(0, .d true io.ty),qsr],[]⟩
abbrev zp:Ctx ((io×Int)):=⟨126,tt,false,true,[],kb [(21,y6),(36,om),(98,qvz),(22,qqt)],k9 [aw _ 126 [] qp8 (C:=(Int×Int×qL1×Int×Int×(List ag)×Int×Int×qL2×(List ao)×Bool)) (S:=(Int×Bool×(List (ByteArray×Int))×qL2×(List ao))) (fun x=>((x.1.1,(pe5 x.1),(pe6 x.1),(pe7 x.1),x.2.1.1,x.2.1.2.1,x.2.1.2.2.1,(pe3 x.2.1),x.2.2.1.1,x.2.2.1.2.1,x.2.2.1.2.2.1),((pe8 x.1),(pe3 x).2.2.1,(pe4 x),(pe5 x),(pe6 x)))) qp7 (CE:=(Int×Int×Int×(List ag)×Int×Int×qL2×(List ao)×Bool)) (E:=(Bool×(List (ByteArray×Int))×qL2×(List ao))) (fun c e=>((c.1,(),(),(),(),c.2.1,()),((c.2.2.1,(pe3 c),(pe4 c),(pe5 c),()),((pe6 c),(pe7 c),(pf8 c),()),((),(),e.1,()),e.2.1,e.2.2.1,e.2.2.2,()))) (fun c=>(c.1,c.2.1,(pe4 c),(pe5 c),(pe6 c),(pe7 c),(pe8 c),(pe9 c),(pf10 c))) (fun{R} c a nx dn rt=>il c.1 c.2.1 c.2.2.1 (pe3 c) (pe4 c) (pe5 c) (pe6 c) (pe7 c) (pe8 c) (pe9 c) (pf10 c) a.1 a.2.1 a.2.2.1 (pe3 a) (pf4 a) nx dn rt),aw _ 126 [] qqa (C:=(Int×Int×(List ag)×Int×Int×qL2×(List ao)×Bool)) (S:=(Int×Bool×(List (ByteArray×Int))×qL2×(List ao))) (fun x=>((x.1.1,x.2.1.1,x.2.1.2.1,x.2.1.2.2.1,(pe3 x.2.1),x.2.2.1.1,x.2.2.1.2.1,x.2.2.1.2.2.1),((pe5 x.1),(pe3 x).2.2.1,(pe4 x),(pe5 x),(pe6 x)))) qp9 (CE:=(qL2×(List ao)×Bool)) (E:=(Bool×qL2×(List ao))) (fun c e=>(((),(),()),((c.1,c.2.1,c.2.2,()),((),(),e.1,()),e.2.1,e.2.2,()))) (fun c=>((pe5 c),(pe6 c),(pf7 c))) (fun{R} c a nx dn rt=>j1 c.1 c.2.1 c.2.2.1 (pe3 c) (pe4 c) (pe5 c) (pe6 c) (pf7 c) a.1 a.2.1 a.2.2.1 (pe3 a) (pf4 a) nx dn rt)],cp 126 tt [] [.cell 6 87, .tmp 7] qf8 (fun x=>(x.1.1,x.1.2.1))⟩
theorem zo:CtxM Try.prog zp:=li fits bj (mC qci (mC se (mC q1h (mC qwk m0))))
theorem qsh:ax Try.prog zp 0 (lc 2 Try.f79 78431):=lp rfl zo (.two .z (.two .z (.two (.one (.two .z (.two (.d [0,0,2,0,14,30,0,127,255,511,511,1023,4095] [] []) .z))) .z))) s0 (fun c a=>((c.1,(),(),(),(),c.2.1,c.2.2.1,(pe3 c),a.1,()),(((pe4 c),(pe5 c),(pe6 c),(pe7 c),()),((pe8 c),(pe9 c),(pf10 c),()),((),(),a.2.1,()),a.2.2.1,(pe3 a),(pf4 a),()))) (fun y=>((y.1.1,(pe5 y.1),y.2.1.1,y.2.1.2.1,y.2.1.2.2.1,(pe3 y.2.1),y.2.2.1.1,y.2.2.1.2.1,y.2.2.1.2.2.1),((pe3 y).2.2.1,(pe4 y),(pe5 y),(pe6 y))))
theorem qsi:ax Try.prog zp 1 (lc 0 Try.f79 607):=lp rfl zo (.two .z (.two (.one (.two (.d [0,0,2,0,14,30,63,127,255,255,511,2047] [] []) (.two .z (.s 0)))) .z)) (sC qsh s0) (fun c a=>((c.1,(),(),(),(),a.1,()),((c.2.1,c.2.2.1,(pe3 c),(pe4 c),()),((pe5 c),(pe6 c),(pf7 c),()),((),(),a.2.1,()),a.2.2.1,(pe3 a),(pf4 a),()))) (fun y=>((y.2.1.1,y.2.1.2.1,y.2.1.2.2.1),(y.2.2.1.2.2.1,(pe3 y),(pe4 y))))
abbrev qid:Mdl:=(a9 (.cons (.d false cx.ty) (.cons (.d false qT1) (.cons (.d false qT0) .nil))) [] [] 2 qf8 (B:=(io×Int)) (fun b=>((b.1,b.2,()),(()))) (fun a=>wa a.1.1 a.1.2.1 a.1.2.2.1))
theorem qqb:MdlOK Try.prog 79 qid:=lh Try.func79 rfl zo (.two .z (.two .z (.two .z (.two .z (.two .z (.two (.two .z (.s 1)) .z)))))) (sC qsi s0)
def qqv:Shp:=⟨[q7j,qsr],[qgy]⟩
abbrev q5o:Ctx ((Int×qL1)):=⟨17,tt,false,false,[],kb [(50,po)],k9 [],cp 17 tt [] [.tmp 4, .tmp 5] qqv (fun x=>(x.1.2.1,x.2.1))⟩
theorem q5n:CtxM Try.prog q5o:=li fits bj (mC o7 m0)
abbrev quu:Mdl:=(a9 (.cons (.d false cx.ty) (.cons (.d false qT0) .nil)) [] [] 2 qqv (B:=(Int×qL1)) (fun b=>(((),b.1,()),(b.2,()))) (fun a=>qpa a.1.1 a.1.2.1))
theorem q0n:MdlOK Try.prog 56 quu:=lh Try.func56 rfl q5n .z s0
def qjp:Shp:=⟨[q7j,qsr],[qgy]⟩
abbrev q0k:Ctx ((Int×qL1)):=⟨10,tt,false,false,[],kb [(56,quu)],k9 [],cp 10 tt [] [.tmp 2, .tmp 3] qjp (fun x=>(x.1.2.1,x.2.1))⟩
theorem q0j:CtxM Try.prog q0k:=li fits bj (mC q0n m0)
abbrev qm7:Mdl:=(a9 (.cons (.d false cx.ty) .nil) [] [] 2 qjp (B:=(Int×qL1)) (fun b=>(((),b.1,()),(b.2,()))) (fun a=>qaa a.1.1))
theorem qum:MdlOK Try.prog 19 qm7:=lh Try.func19 rfl q0j .z s0
def tu:Shp:=⟨[qjh],[]⟩
abbrev um:Ctx (Bool):=⟨26,tt,false,false,[],kb [],k9 [aw _ 26 [] qd0 (C:=(qL1×qL1×Int)) (S:=Int) (fun x=>((x.1.1,x.1.2.1,x.1.2.2.1),(pe3 x.1))) qdz (CE:=Unit) (E:=Unit) (fun c e=>((()),(()))) (fun c=>()) (fun{R} c a nx dn rt=>f6 c.1 c.2.1 c.2.2 a nx dn rt)],cp 26 tt [] [.tmp 4] tu (fun x=>x.1.1)⟩
theorem ul:CtxM Try.prog um:=li fits bj m0
theorem qe8:ax Try.prog um 0 (lc 0 Try.f17 75):=lp rfl ul (.two .z (.two .z (.two (.one (.two .z (.two (.d [0,0,3,7,0,0,48,112,255] [] []) .z))) .z))) s0 (fun c a=>((c.1,c.2.1,c.2.2,a,()),(()))) (fun y=>((),()))
abbrev j7:Mdl:=(a9 (.cons (.d false qT1) (.cons (.d false qT1) .nil)) [] [] 1 tu (B:=Bool) (fun b=>((b,()),(()))) (fun a=>bh a.1.1 a.1.2.1))
theorem mf:MdlOK Try.prog 17 j7:=lh Try.func17 rfl ul (.two .z (.two .z (.two (.two .z (.s 0)) .z))) (sC qe8 s0)
def qie:Shp:=⟨[qjh],[]⟩
abbrev qxf:Ctx (Bool):=⟨7,tt,false,false,[],kb [(17,j7)],k9 [],cp 7 tt [] [.tmp 3] qie (fun x=>x.1.1)⟩
theorem qxe:CtxM Try.prog qxf:=li fits bj (mC mf m0)
abbrev qki:Mdl:=(a9 (.cons (.d false qT1) (.cons (.rp false qT1) .nil)) [] [] 1 qie (B:=Bool) (fun b=>((b,()),(()))) (fun a=>yl a.1.1 a.1.2.1))
theorem qsj:MdlOK Try.prog 100 qki:=lh Try.func100 rfl qxe .z s0
def mm:Shp:=⟨[q1p],[]⟩
abbrev my:Ctx (Int):=⟨19,tt,false,false,[],kb [(100,qki)],k9 [aw _ 19 [] ub (C:=(qL2×qL1×Int)) (S:=Int) (fun x=>((x.1.1,x.1.2.1.1,x.1.2.2.1),(pe3 x.1))) ua (CE:=Unit) (E:=Unit) (fun c e=>((()),(()))) (fun c=>()) (fun{R} c a nx dn rt=>dz c.1 c.2.1 c.2.2 a nx dn rt)],cp 19 tt [] [.tmp 4] mm (fun x=>x.1.1)⟩
theorem mu:CtxM Try.prog my:=li fits bj (mC qsj m0)
theorem vb:ax Try.prog my 0 (lc 0 Try.f99 37):=lp rfl mu .z s0 (fun c a=>((c.1,(c.2.1,()),c.2.2,a,()),(()))) (fun y=>((),()))
abbrev mw:Mdl:=(a9 (.cons (.d false qT2) (.cons (.fn 100 (.cons (.rp false qT1) .nil)) .nil)) [] [] 1 mm (B:=Int) (fun b=>((b,()),(()))) (fun a=>i9 a.1.1 a.1.2.1.1))
theorem uc:MdlOK Try.prog 99 mw:=lh Try.func99 rfl mu (.two .z (.two (.two .z (.s 0)) .z)) (sC vb s0)
def qn8:Shp:=⟨[q1p],[]⟩
abbrev q3t:Ctx (Int):=⟨9,tt,false,false,[],kb [(99,mw)],k9 [],cp 9 tt [] [.tmp 4] qn8 (fun x=>x.1.1)⟩
theorem q3s:CtxM Try.prog q3t:=li fits bj (mC uc m0)
abbrev qrc:Mdl:=(a9 (.cons (.d false io.ty) (.cons (.d false qT1) .nil)) [] [] 1 qn8 (B:=Int) (fun b=>((b,()),(()))) (fun a=>qe9 a.1.1 a.1.2.1))
theorem qxg:MdlOK Try.prog 80 qrc:=lh Try.func80 rfl q3s .z s0
def qaj:Shp:=⟨[q4a,qsr],[]⟩
abbrev pr:Ctx (((List (Int×(List ab)))×Int×Int×Int)):=⟨139,tt,false,false,[],kb [(21,y6),(79,qid),(19,qm7),(80,qrc)],k9 [aw _ 139 [] qk9 (C:=((List ao)×Int×(List (Int×(List ab)))×Int×Int×qL2×(List ao)×Bool×Int×Int×(List (Int×(List ab))))) (S:=(Bool×Int×(List Bool))) (fun x=>(((pe5 x.1),(pe6 x.1),x.2.1.1,x.2.1.2.1,x.2.1.2.2.1,x.2.2.1.1,x.2.2.1.2.1,x.2.2.1.2.2.1,(pe3 x).2.1,(pe3 x).2.2.1,(pe5 x)),((pe4 x.1),(pe7 x.1),(pe4 x)))) qk8 (CE:=((List (Int×(List ab)))×Int×Int×qL2×(List ao)×Bool×Int×Int×(List (Int×(List ab))))) (E:=(Bool×(List Bool))) (fun c e=>(((),(),(),(),e.1,()),((c.1,c.2.1,c.2.2.1,()),((pe3 c),(pe4 c),(pe5 c),()),((),(pe6 c),(pe7 c),()),e.2,(pf8 c),()))) (fun c=>(c.2.2.1,(pe3 c),(pe4 c),(pe5 c),(pe6 c),(pe7 c),(pe8 c),(pe9 c),(pf10 c))) (fun{R} c a nx dn rt=>ie c.1 c.2.1 c.2.2.1 (pe3 c) (pe4 c) (pe5 c) (pe6 c) (pe7 c) (pe8 c) (pe9 c) (pf10 c) a.1 a.2.1 a.2.2 nx dn rt),aw _ 139 [] qlb (C:=((List (Int×(List ab)))×Int×Int×qL2×(List ao)×Bool×Int×Int×(List (Int×(List ab))))) (S:=(Bool×(List Bool))) (fun x=>((x.2.1.1,x.2.1.2.1,x.2.1.2.2.1,x.2.2.1.1,x.2.2.1.2.1,x.2.2.1.2.2.1,(pe3 x).2.1,(pe3 x).2.2.1,(pe5 x)),((pe4 x.1),(pe4 x)))) qla (CE:=((List (Int×(List ab)))×Int×Int×qL2×(List ao)×Bool×Int×Int×(List (Int×(List ab))))) (E:=(List Bool)) (fun c e=>(((),(),(),(),()),((c.1,c.2.1,c.2.2.1,()),((pe3 c),(pe4 c),(pe5 c),()),((),(pe6 c),(pe7 c),()),e,(pf8 c),()))) (fun c=>(c.1,c.2.1,c.2.2.1,(pe3 c),(pe4 c),(pe5 c),(pe6 c),(pe7 c),(pf8 c))) (fun{R} c a nx dn rt=>ig c.1 c.2.1 c.2.2.1 (pe3 c) (pe4 c) (pe5 c) (pe6 c) (pe7 c) (pf8 c) a.1 a.2 nx dn rt),aw _ 139 [] qld (C:=((List Bool)×(List ao)×Int×(List (Int×(List ab)))×Int×Int×Int×Int)) (S:=(Int×(List (Int×(List ab))))) (fun x=>((x.1.2.2.1,(pe3 x.1),(pe4 x.1),x.2.1.1,x.2.1.2.1,x.2.1.2.2.1,x.2.2.1.2.1,x.2.2.1.2.2.1),((pe5 x.1),(pe3 x)))) qlc (CE:=((List (Int×(List ab)))×Int×Int×Int×Int)) (E:=(List (Int×(List ab)))) (fun c e=>(((),(),()),((c.1,c.2.1,c.2.2.1,()),((),(pe3 c),(pf4 c),()),e,()))) (fun c=>((pe3 c),(pe4 c),(pe5 c),(pe6 c),(pf7 c))) (fun{R} c a nx dn rt=>fm c.1 c.2.1 c.2.2.1 (pe3 c) (pe4 c) (pe5 c) (pe6 c) (pf7 c) a.1 a.2 nx dn rt)],cp 139 tt [] [.cell 6 77, .tmp 7] qaj (fun x=>(x.1.1.1,x.1.1.2.1,x.1.1.2.2.1,x.1.2.1))⟩
theorem pp:CtxM Try.prog pr:=li fits bj (mC qci (mC qqb (mC qum (mC qxg m0))))
theorem qni:ax Try.prog pr 0 (lc 2 Try.f51 2529279):=lp rfl pp .z s0 (fun c a=>(((),(),(),(),a.1,c.1,c.2.1,a.2.1,()),((c.2.2.1,(pe3 c),(pe4 c),()),((pe5 c),(pe6 c),(pe7 c),()),((),(pe8 c),(pe9 c),()),a.2.2,(pf10 c),()))) (fun y=>((y.2.1.1,y.2.1.2.1,y.2.1.2.2.1,y.2.2.1.1,y.2.2.1.2.1,y.2.2.1.2.2.1,(pe3 y).2.1,(pe3 y).2.2.1,(pe5 y)),((pe4 y.1),(pe4 y))))
theorem qnk:ax Try.prog pr 2 (lc 4 Try.f51 77823):=lp rfl pp (.two .z (.two .z (.two (.one (.two .z (.two .z (.two (.d [0,1,0,4,0,16,0,64,240,0,512,0,2048,7680,15872,32752,65535] [15,16] []) .z)))) .z))) s0 (fun c a=>(((),(),c.1,c.2.1,c.2.2.1,a.1,()),(((pe3 c),(pe4 c),(pe5 c),()),((),(pe6 c),(pf7 c),()),a.2,()))) (fun y=>((y.2.1.1,y.2.1.2.1,y.2.1.2.2.1,y.2.2.1.2.1,y.2.2.1.2.2.1),(pe3 y)))
theorem qnj:ax Try.prog pr 1 (lc 0 Try.f51 38911):=lp rfl pp (.two .z (.one (.two .z (.two .z (.s 0))))) (sC qni s0) (fun c a=>(((),(),(),(),a.1,()),((c.1,c.2.1,c.2.2.1,()),((pe3 c),(pe4 c),(pe5 c),()),((),(pe6 c),(pe7 c),()),a.2,(pf8 c),()))) (fun y=>((y.2.1.1,y.2.1.2.1,y.2.1.2.2.1,y.2.2.1.1,y.2.2.1.2.1,y.2.2.1.2.2.1,(pe3 y).2.1,(pe3 y).2.2.1,(pe5 y)),(pe4 y)))
abbrev pq:Mdl:=(a9 (.cons (.d false cx.ty) (.cons (.d false qT1) (.cons (.d false qT0) .nil))) [] [] 2 qaj (B:=((List (Int×(List ab)))×Int×Int×Int)) (fun b=>(((b.1,b.2.1,b.2.2.1,()),b.2.2.2,()),(()))) (fun a=>a8 a.1.1 a.1.2.1 a.1.2.2.1))
theorem qv:MdlOK Try.prog 51 pq:=lh Try.func51 rfl pp (.two .z (.two .z (.two .z (.two .z (.two .z (.two .z (.two .z (.two (.d [0,0,0,6,0,16,48,127,0,511] [9] []) (.two .z (.two .z (.two .z (.two (.two .z (.s 1)) (.two (.two .z (.s 2)) .z))))))))))))) (sC qnj (sC qnk s0))
def qfv:Shp:=⟨[q4a,qsr],[]⟩
abbrev qu0:Ctx (((List (Int×(List ab)))×Int×Int×Int)):=⟨26,tt,false,false,[],kb [(50,po),(62,qhn),(51,pq)],k9 [],cp 26 tt [] [.cell 8 77, .tmp 9] qfv (fun x=>(x.1.1.1,x.1.1.2.1,x.1.1.2.2.1,x.1.2.1))⟩
theorem quz:CtxM Try.prog qu0:=li fits bj (mC o7 (mC qpk (mC qv m0)))
abbrev o8:Mdl:=(a9 (.cons (.d false cx.ty) (.cons (.d false qT1) (.cons (.d false (.slice af.ty)) (.cons (.d false qT0) .nil)))) [] [] 2 qfv (B:=((List (Int×(List ab)))×Int×Int×Int)) (fun b=>(((b.1,b.2.1,b.2.2.1,()),b.2.2.2,()),(()))) (fun a=>bi a.1.1 a.1.2.1 a.1.2.2.1 (pe3 a.1)))
theorem pt:MdlOK Try.prog 41 o8:=lh Try.func41 rfl quz .z s0
def uj:Shp:=⟨[q1p,(1, .d true .bool)],[]⟩
abbrev qhm:Ctx ((Int×Bool)):=⟨14,tt,false,false,[],kb [],k9 [],cp 14 tt [] [.tmp 2, .tmp 3] uj (fun x=>(x.1.1,x.1.2.1))⟩
theorem qhl:CtxM Try.prog qhm:=li fits bj m0
abbrev d8:Mdl:=(a9 (.cons (.agg (.cons (.dm false qT0 (.slice ab.ty)) (.cons (.d false qT0) (.cons (.d false qT0) .nil)))) .nil) [] [] 2 uj (B:=(Int×Bool)) (fun b=>((b.1,b.2,()),(()))) (fun a=>au a.1.1.1 a.1.1.2.1 a.1.1.2.2.1))
theorem ea:MdlOK Try.prog 42 d8:=lh Try.func42 rfl qhl (.two .z (.two .z (.two (.d [0,1,0,4,12,28,60,3,255] [] []) .z))) s0
def ot:Shp:=⟨[q1p],[]⟩
abbrev zc:Ctx (Int):=⟨9,tt,false,false,[],kb [],k9 [],cp 9 tt [] [.tmp 3] ot (fun x=>x.1.1)⟩
theorem zb:CtxM Try.prog zc:=li fits bj m0
abbrev pd:Mdl:=(a9 (.cons (.d false qT0) (.cons (.rp false (.slice af.ty)) .nil)) [] [] 1 ot (B:=Int) (fun b=>((b,()),(()))) (fun a=>em a.1.1 a.1.2.1))
theorem xq:MdlOK Try.prog 81 pd:=lh Try.func81 rfl zb .z s0
def x7:Shp:=⟨[qjh],[]⟩
abbrev qlf:Ctx (Bool):=⟨34,tt,false,false,[],kb [],k9 [],cp 34 tt [] [.tmp 6] x7 (fun x=>x.1.1)⟩
theorem qle:CtxM Try.prog qlf:=li fits bj m0
abbrev j4:Mdl:=(a9 (.cons (.d false ae.ty) (.cons (.d false ae.ty) (.cons (.d false .bool) .nil))) [] [] 1 x7 (B:=Bool) (fun b=>((b,()),(()))) (fun a=>gh a.1.1 a.1.2.1 a.1.2.2.1))
theorem kq:MdlOK Try.prog 92 j4:=lh Try.func92 rfl qle .z s0
def ri:Shp:=⟨[q7j],[qi1]⟩
abbrev jq:Ctx ((List ae)):=⟨77,tt,false,false,[],kb [(81,pd),(92,j4)],k9 [aw _ 77 [] qbg (C:=((List af)×Bool×Int×Int×Int×(List (Int×(List ab)))×Nat×(List ab)×Int×(List (Int×(List ab)))×Int×Int)) (S:=(Bool×Int×(List ae))) (fun x=>((x.1.1.1,x.1.2.1,(pe5 x.1),(pe6 x.1),(pe7 x.1),(pe8 x.1),(pe9 x.1),(pe10 x.1),(pe11 x.1),x.2.1.1,x.2.1.2.1,x.2.1.2.2.1),((pe4 x.1),(pe12 x.1),x.2.2.1))) qbf (CE:=((List af)×Bool×Int×Int×(List (Int×(List ab)))×Nat×(List (Int×(List ab)))×Int×Int)) (E:=(Bool×(List ae))) (fun c e=>(((c.1,()),c.2.1,(),(),e.1,c.2.2.1,(pe3 c),(pe4 c),(pe5 c),()),(((pe6 c),(pe7 c),(pf8 c),()),e.2,()))) (fun c=>(c.1,c.2.1,(pe3 c),(pe4 c),(pe5 c),(pe6 c),(pe9 c),(pe10 c),(pf11 c))) (fun{R} c a nx dn rt=>qb c.1 c.2.1 c.2.2.1 (pe3 c) (pe4 c) (pe5 c) (pe7 c) (pe8 c) (pe9 c) (pe10 c) (pf11 c) a.1 a.2.1 a.2.2 nx dn rt),rx _ 77 tt false [] (rc Try.f71 10647) qbh (C:=((List af)×Bool×Int×Int×(List (Int×(List ab)))×(List (Int×(List ab)))×Int×Int)) (S:=(Bool×(List ae))) (fun x=>((x.1.1.1,x.1.2.1,(pe5 x.1),(pe6 x.1),(pe7 x.1),x.2.1.1,x.2.1.2.1,x.2.1.2.2.1),((pe4 x.1),x.2.2.1))) (fun c a=>(((c.1,()),c.2.1,(),(),a.1,c.2.2.1,(pe3 c),(pe4 c),()),(((pe5 c),(pe6 c),(pf7 c),()),a.2,()))) (fun c=>(pe4 c)) (fun{R} c a en nx rt=>qc c.1 c.2.1 c.2.2.1 (pe3 c) (pe4 c) (pe5 c) (pe6 c) (pf7 c) a.1 a.2 en nx rt),qkw _ 77 [] qbj (C:=((List af)×Bool×Int×(List (Int×(List ab)))×Int×Int)) (S:=(Int×(List ae))) (fun x=>((x.1.1.1,x.1.2.1,(pe4 x.1),x.2.1.1,x.2.1.2.1,x.2.1.2.2.1),((pe5 x.1),x.2.2.1))) qbi (CE:=Unit) (E:=(List ae)) (fun c e=>(((),()),(e,()))) (fun c=>()) (fun{R} c a nx dn rt=>qd c.1 c.2.1 c.2.2.1 (pe3 c) (pe4 c) (pf5 c) a.1 a.2 nx dn rt)],cp 77 tt [] [.tmp 6] ri (fun x=>x.2.1)⟩
theorem jp:CtxM Try.prog jq:=li fits bj (mC xq (mC kq m0))
theorem qc1:ax Try.prog jq 0 (lc 4 Try.f71 10168727):=lp rfl jp (.two .z (.two .z (.two (.one (.two .z (.two .z (.two .z (.two (.d [0,1,0,0,8,28,63,127,255] [8] []) (.two .z (.two (.d [0,0,0,6,14,0,63] [] []) .z))))))) .z))) s0 (fun c a=>(((c.1,()),c.2.1,(),(),a.1,c.2.2.1,(pe3 c),(pe4 c),(pe5 c),(pe6 c),(pe7 c),(pe8 c),a.2.1,()),(((pe9 c),(pe10 c),(pf11 c),()),a.2.2,()))) (fun y=>((y.1.1.1,y.1.2.1,(pe5 y.1),(pe6 y.1),(pe7 y.1),(pe8 y.1),y.2.1.1,y.2.1.2.1,y.2.1.2.2.1),((pe4 y.1),y.2.2.1)))
theorem qc2:ax Try.prog jq 1 ((rc Try.f71 10647).code):=rl qT0 (.slice ab.ty) rfl jp (.two .z (.s 0)) (sC qc1 s0) 75 28 29 30 32 false rfl
theorem qc3:ax Try.prog jq 2 (lc 0 Try.f71 151):=nl rfl jp (.two .z (.two .z (.two (.one (.two .z (.two (.s 1) .z))) .z))) (sC qc2 s0) (fun c a=>(((c.1,()),c.2.1,(),(),c.2.2.1,a.1,()),(((pe3 c),(pe4 c),(pf5 c),()),a.2,()))) (fun y=>((),y.2.1))
abbrev s6:Mdl:=(a9 (.cons (.agg (.cons (.dm false qT0 (.slice ab.ty)) (.cons (.d false qT0) (.cons (.d false qT0) .nil)))) (.cons (.fn 81 (.cons (.rp false (.slice af.ty)) .nil)) (.cons (.d false .bool) .nil))) [] [] 1 ri (B:=(List ae)) (fun b=>(((),()),(b,()))) (fun a=>oc a.1.1.1 a.1.1.2.1 a.1.1.2.2.1 a.1.2.1.1 a.1.2.2.1))
theorem qbk:MdlOK Try.prog 71 s6:=lh Try.func71 rfl jp (.two .z (.two .z (.two .z (.two (.two .z (.s 2)) .z)))) (sC qc3 s0)
def ui:Shp:=⟨[qjh],[]⟩
abbrev pb:Ctx (Bool):=⟨51,tt,false,false,[],kb [],k9 [aw _ 51 [] qeo (C:=(Int×(List ab)×Int×(List (Int×(List ab)))×Int×Int)) (S:=(Int×(List (Int×Bool))×qL1)) (fun x=>((x.1.1,(pe4 x.1),(pe5 x.1),x.2.1.1,x.2.1.2.1,x.2.1.2.2.1),((pe6 x.1),x.2.2.1,(pe3 x)))) qen (CE:=(Int×(List (Int×(List ab)))×Int×Int)) (E:=((List (Int×Bool))×qL1)) (fun c e=>((c.1,(),(),(),()),((c.2.1,c.2.2.1,c.2.2.2,()),e.1,e.2,()))) (fun c=>(c.1,(pe3 c),(pe4 c),(pf5 c))) (fun{R} c a nx dn rt=>gg c.1 c.2.1 c.2.2.1 (pe3 c) (pe4 c) (pf5 c) a.1 a.2.1 a.2.2 nx dn rt),aw _ 51 [] qeq (C:=(Int×(List (Int×(List ab)))×Int×Int)) (S:=((List (Int×Bool))×qL1)) (fun x=>((x.1.1,x.2.1.1,x.2.1.2.1,x.2.1.2.2.1),(x.2.2.1,(pe3 x)))) qep (CE:=Unit) (E:=Unit) (fun c e=>((()),(()))) (fun c=>()) (fun{R} c a nx dn rt=>de c.1 c.2.1 c.2.2.1 c.2.2.2 a.1 a.2 nx dn rt)],cp 51 tt [] [.tmp 6] ui (fun x=>x.1.1)⟩
theorem o9:CtxM Try.prog pb:=li fits bj m0
theorem qgc:ax Try.prog pb 0 (lc 2 Try.f75 9803):=lp rfl o9 .z s0 (fun c a=>((c.1,(),(),(),c.2.1,c.2.2.1,a.1,()),(((pe3 c),(pe4 c),(pf5 c),()),a.2.1,a.2.2,()))) (fun y=>((y.1.1,y.2.1.1,y.2.1.2.1,y.2.1.2.2.1),(y.2.2.1,(pe3 y))))
theorem qgd:ax Try.prog pb 1 (lc 0 Try.f75 75):=lp rfl o9 (.two .z (.two (.one (.two .z (.two (.d [0,1,0,4,12,31,63,0] [] []) (.s 0)))) .z)) (sC qgc s0) (fun c a=>((c.1,(),(),(),()),((c.2.1,c.2.2.1,c.2.2.2,()),a.1,a.2,()))) (fun y=>((),()))
abbrev wx:Mdl:=(a9 (.cons (.agg (.cons (.dm false qT0 (.slice ab.ty)) (.cons (.d false qT0) (.cons (.d false qT0) .nil)))) (.cons (.d false qT0) (.cons (.d false qT0) .nil))) [] [] 1 ui (B:=Bool) (fun b=>((b,()),(()))) (fun a=>lw a.1.1.1 a.1.1.2.1 a.1.1.2.2.1 a.1.2.1 a.1.2.2.1))
theorem qer:MdlOK Try.prog 75 wx:=lh Try.func75 rfl o9 (.two .z (.two .z (.two (.two .z (.s 1)) .z))) (sC qgd s0)
def wy:Shp:=⟨[qjh],[]⟩
abbrev jd:Ctx (Bool):=⟨81,tt,false,false,[],kb [(75,wx)],k9 [aw _ 81 [] qgf (C:=((List af)×(List ab)×Int×(List (Int×(List ab)))×Int×Int)) (S:=(Int×(List (Int×Bool))×qL1)) (fun x=>((x.1.1,(pe4 x.1),(pe5 x.1),x.2.1.1,x.2.1.2.1,x.2.1.2.2.1),((pe6 x.1),x.2.2.1,(pe3 x)))) qge (CE:=((List af)×(List (Int×(List ab)))×Int×Int)) (E:=((List (Int×Bool))×qL1)) (fun c e=>((c.1,(),(),(),()),((c.2.1,c.2.2.1,c.2.2.2,()),e.1,e.2,()))) (fun c=>(c.1,(pe3 c),(pe4 c),(pf5 c))) (fun{R} c a nx dn rt=>b8 c.1 c.2.1 c.2.2.1 (pe3 c) (pe4 c) (pf5 c) a.1 a.2.1 a.2.2 nx dn rt),aw _ 81 [] qgh (C:=((List af)×(List (Int×(List ab)))×Int×Int)) (S:=((List (Int×Bool))×qL1)) (fun x=>((x.1.1,x.2.1.1,x.2.1.2.1,x.2.1.2.2.1),(x.2.2.1,(pe3 x)))) qgg (CE:=((List af)×(List (Int×(List ab)))×Int×Int)) (E:=(List (Int×Bool))) (fun c e=>((c.1,(),(),()),((c.2.1,c.2.2.1,c.2.2.2,()),e,()))) (fun c=>(c.1,c.2.1,c.2.2.1,c.2.2.2)) (fun{R} c a nx dn rt=>b9 c.1 c.2.1 c.2.2.1 c.2.2.2 a.1 a.2 nx dn rt),aw _ 81 [] qgj (C:=((List af)×Int×(List (Int×Bool))×Nat×(List ab)×Int×(List (Int×(List ab)))×Int×Int)) (S:=Int) (fun x=>((x.1.1,x.1.2.2.1,(pe3 x.1),(pe4 x.1),(pe5 x.1),(pe6 x.1),x.2.1.1,x.2.1.2.1,x.2.1.2.2.1),(pe7 x.1))) qgi (CE:=((List af)×(List (Int×Bool))×Nat×(List (Int×(List ab)))×Int×Int)) (E:=Unit) (fun c e=>((c.1,(),c.2.1,c.2.2.1,()),(((pe3 c),(pe4 c),(pf5 c),()),()))) (fun c=>(c.1,c.2.2.1,(pe3 c),(pe6 c),(pe7 c),(pf8 c))) (fun{R} c a nx dn rt=>bg c.1 c.2.1 c.2.2.1 (pe4 c) (pe5 c) (pe6 c) (pe7 c) (pf8 c) a nx dn rt),rx _ 81 tt false [] (rc Try.f47 23) qgk (C:=((List af)×(List (Int×Bool))×(List (Int×(List ab)))×Int×Int)) (S:=Unit) (fun x=>((x.1.1,x.1.2.2.1,x.2.1.1,x.2.1.2.1,x.2.1.2.2.1),())) (fun c a=>((c.1,(),c.2.1,()),((c.2.2.1,(pe3 c),(pf4 c),()),()))) (fun c=>c.2.1) (fun{R} c a en nx rt=>g8 c.1 c.2.1 c.2.2.1 (pe3 c) (pf4 c) en nx rt)],cp 81 tt [] [.tmp 4] wy (fun x=>x.1.1)⟩
theorem jb:CtxM Try.prog jd:=li fits bj (mC qer m0)
theorem qhj:ax Try.prog jd 2 (lc 6 Try.f47 19863):=lp rfl jb .z s0 (fun c a=>((c.1,(),c.2.1,c.2.2.1,(pe3 c),(pe4 c),(pe5 c),a,()),(((pe6 c),(pe7 c),(pf8 c),()),()))) (fun y=>((y.1.1,y.1.2.2.1,(pe3 y.1),y.2.1.1,y.2.1.2.1,y.2.1.2.2.1),()))
theorem qhh:ax Try.prog jd 0 (lc 2 Try.f47 4683):=lp rfl jb .z s0 (fun c a=>((c.1,(),(),(),c.2.1,c.2.2.1,a.1,()),(((pe3 c),(pe4 c),(pf5 c),()),a.2.1,a.2.2,()))) (fun y=>((y.1.1,y.2.1.1,y.2.1.2.1,y.2.1.2.2.1),(y.2.2.1,(pe3 y))))
theorem qhi:ax Try.prog jd 1 (lc 0 Try.f47 75):=lp rfl jb (.two .z (.two (.one (.two (.d [0,1,0,4,12,31,63,0] [] []) (.s 0))) .z)) (sC qhh s0) (fun c a=>((c.1,(),(),(),()),((c.2.1,c.2.2.1,c.2.2.2,()),a.1,a.2,()))) (fun y=>((y.1.1,y.2.1.1,y.2.1.2.1,y.2.1.2.2.1),y.2.2.1))
theorem qhk:ax Try.prog jd 3 ((rc Try.f47 23).code):=rl qT0 .bool rfl jb (.two .z (.s 2)) (sC qhj s0) 128 51 52 53 55 true rfl
abbrev lx:Mdl:=(a9 (.cons (.agg (.cons (.dm false qT0 (.slice ab.ty)) (.cons (.d false qT0) (.cons (.d false qT0) .nil)))) (.cons (.d false (.slice af.ty)) .nil)) [] [] 1 wy (B:=Bool) (fun b=>((b,()),(()))) (fun a=>ct a.1.1.1 a.1.1.2.1 a.1.1.2.2.1 a.1.2.1))
theorem oe:MdlOK Try.prog 47 lx:=lh Try.func47 rfl jb (.two .z (.two .z (.two (.two .z (.s 1)) (.two (.s 3) .z)))) (sC qhi (sC qhk s0))
def ou:Shp:=⟨[q1p],[]⟩
abbrev ze:Ctx (Int):=⟨9,tt,false,false,[],kb [],k9 [],cp 9 tt [] [.tmp 3] ou (fun x=>x.1.1)⟩
theorem zd:CtxM Try.prog ze:=li fits bj m0
abbrev pe:Mdl:=(a9 (.cons (.d false qT0) (.cons (.rp false (.slice af.ty)) .nil)) [] [] 1 ou (B:=Int) (fun b=>((b,()),(()))) (fun a=>eo a.1.1 a.1.2.1))
theorem xr:MdlOK Try.prog 82 pe:=lh Try.func82 rfl zd .z s0
def rj:Shp:=⟨[q7j],[qi1]⟩
abbrev js:Ctx ((List ae)):=⟨77,tt,false,false,[],kb [(82,pe),(92,j4)],k9 [aw _ 77 [] qbm (C:=((List af)×Bool×Int×Int×Int×(List (Int×(List ab)))×Nat×(List ab)×Int×(List (Int×(List ab)))×Int×Int)) (S:=(Bool×Int×(List ae))) (fun x=>((x.1.1.1,x.1.2.1,(pe5 x.1),(pe6 x.1),(pe7 x.1),(pe8 x.1),(pe9 x.1),(pe10 x.1),(pe11 x.1),x.2.1.1,x.2.1.2.1,x.2.1.2.2.1),((pe4 x.1),(pe12 x.1),x.2.2.1))) qbl (CE:=((List af)×Bool×Int×Int×(List (Int×(List ab)))×Nat×(List (Int×(List ab)))×Int×Int)) (E:=(Bool×(List ae))) (fun c e=>(((c.1,()),c.2.1,(),(),e.1,c.2.2.1,(pe3 c),(pe4 c),(pe5 c),()),(((pe6 c),(pe7 c),(pf8 c),()),e.2,()))) (fun c=>(c.1,c.2.1,(pe3 c),(pe4 c),(pe5 c),(pe6 c),(pe9 c),(pe10 c),(pf11 c))) (fun{R} c a nx dn rt=>qe c.1 c.2.1 c.2.2.1 (pe3 c) (pe4 c) (pe5 c) (pe7 c) (pe8 c) (pe9 c) (pe10 c) (pf11 c) a.1 a.2.1 a.2.2 nx dn rt),rx _ 77 tt false [] (rc Try.f71 10647) qbn (C:=((List af)×Bool×Int×Int×(List (Int×(List ab)))×(List (Int×(List ab)))×Int×Int)) (S:=(Bool×(List ae))) (fun x=>((x.1.1.1,x.1.2.1,(pe5 x.1),(pe6 x.1),(pe7 x.1),x.2.1.1,x.2.1.2.1,x.2.1.2.2.1),((pe4 x.1),x.2.2.1))) (fun c a=>(((c.1,()),c.2.1,(),(),a.1,c.2.2.1,(pe3 c),(pe4 c),()),(((pe5 c),(pe6 c),(pf7 c),()),a.2,()))) (fun c=>(pe4 c)) (fun{R} c a en nx rt=>qf c.1 c.2.1 c.2.2.1 (pe3 c) (pe4 c) (pe5 c) (pe6 c) (pf7 c) a.1 a.2 en nx rt),qkw _ 77 [] qbp (C:=((List af)×Bool×Int×(List (Int×(List ab)))×Int×Int)) (S:=(Int×(List ae))) (fun x=>((x.1.1.1,x.1.2.1,(pe4 x.1),x.2.1.1,x.2.1.2.1,x.2.1.2.2.1),((pe5 x.1),x.2.2.1))) qbo (CE:=Unit) (E:=(List ae)) (fun c e=>(((),()),(e,()))) (fun c=>()) (fun{R} c a nx dn rt=>qg c.1 c.2.1 c.2.2.1 (pe3 c) (pe4 c) (pf5 c) a.1 a.2 nx dn rt)],cp 77 tt [] [.tmp 6] rj (fun x=>x.2.1)⟩
theorem jr:CtxM Try.prog js:=li fits bj (mC xr (mC kq m0))
theorem qc6:ax Try.prog js 0 (lc 4 Try.f71 10168727):=lp rfl jr (.two .z (.two .z (.two (.one (.two .z (.two .z (.two .z (.two (.d [0,1,0,0,8,28,63,127,255] [8] []) (.two .z (.two (.d [0,0,0,6,14,0,63] [] []) .z))))))) .z))) s0 (fun c a=>(((c.1,()),c.2.1,(),(),a.1,c.2.2.1,(pe3 c),(pe4 c),(pe5 c),(pe6 c),(pe7 c),(pe8 c),a.2.1,()),(((pe9 c),(pe10 c),(pf11 c),()),a.2.2,()))) (fun y=>((y.1.1.1,y.1.2.1,(pe5 y.1),(pe6 y.1),(pe7 y.1),(pe8 y.1),y.2.1.1,y.2.1.2.1,y.2.1.2.2.1),((pe4 y.1),y.2.2.1)))
theorem qc7:ax Try.prog js 1 ((rc Try.f71 10647).code):=rl qT0 (.slice ab.ty) rfl jr (.two .z (.s 0)) (sC qc6 s0) 75 28 29 30 32 false rfl
theorem qc8:ax Try.prog js 2 (lc 0 Try.f71 151):=nl rfl jr (.two .z (.two .z (.two (.one (.two .z (.two (.s 1) .z))) .z))) (sC qc7 s0) (fun c a=>(((c.1,()),c.2.1,(),(),c.2.2.1,a.1,()),(((pe3 c),(pe4 c),(pf5 c),()),a.2,()))) (fun y=>((),y.2.1))
abbrev s7:Mdl:=(a9 (.cons (.agg (.cons (.dm false qT0 (.slice ab.ty)) (.cons (.d false qT0) (.cons (.d false qT0) .nil)))) (.cons (.fn 82 (.cons (.rp false (.slice af.ty)) .nil)) (.cons (.d false .bool) .nil))) [] [] 1 rj (B:=(List ae)) (fun b=>(((),()),(b,()))) (fun a=>od a.1.1.1 a.1.1.2.1 a.1.1.2.2.1 a.1.2.1.1 a.1.2.2.1))
theorem qbq:MdlOK Try.prog 71 s7:=lh Try.func71 rfl jr (.two .z (.two .z (.two .z (.two (.two .z (.s 2)) .z)))) (sC qc8 s0)
def px:Shp:=⟨[(0, .d true af.ty)],[]⟩
abbrev qbs:Ctx (af):=⟨25,tt,false,false,[],kb [(71,s6),(71,s7),(47,lx)],k9 [],cp 25 tt [] [.cell 4 40] px (fun x=>x.1.1)⟩
theorem qbr:CtxM Try.prog qbs:=li fits bj (mC qbk (mC qbq (mC oe m0)))
abbrev qh:Mdl:=(a9 (.cons (.agg (.cons (.dm false qT0 (.slice ab.ty)) (.cons (.d false qT0) (.cons (.d false qT0) .nil)))) (.cons (.d false (.slice af.ty)) .nil)) [] [] 1 px (B:=af) (fun b=>((b,()),(()))) (fun a=>fw a.1.1.1 a.1.1.2.1 a.1.1.2.2.1 a.1.2.1))
theorem zf:MdlOK Try.prog 55 qh:=lh Try.func55 rfl qbr .z s0
def x5:Shp:=⟨[(0, .d true af.ty),qsr],[]⟩
abbrev qk4:Ctx ((af×Int)):=⟨37,tt,false,false,[],kb [(41,o8),(42,d8),(55,qh)],k9 [],cp 37 tt [] [.cell 8 40, .tmp 9] x5 (fun x=>(x.1.1,x.1.2.1))⟩
theorem qk3:CtxM Try.prog qk4:=li fits bj (mC pt (mC ea (mC zf m0)))
abbrev y9:Mdl:=(a9 (.cons (.agg (.cons (.d false qT0) (.cons (.d false (.slice ag.ty)) (.cons (.d false qT0) (.cons (.d false qT0) .nil))))) (.cons (.d false qT1) (.cons (.d false (.slice af.ty)) (.cons (.d false qT0) .nil)))) [] [] 2 x5 (B:=(af×Int)) (fun b=>((b.1,b.2,()),(()))) (fun a=>s3 a.1.1.1 a.1.1.2.1 a.1.1.2.2.1 (pe3 a.1.1) a.1.2.1 a.1.2.2.1 (pe3 a.1)))
theorem qhg:MdlOK Try.prog 18 y9:=lh Try.func18 rfl qk3 .z s0
def x6:Shp:=⟨[q1p],[]⟩
abbrev qk6:Ctx (Int):=⟨9,tt,false,false,[],kb [],k9 [],cp 9 tt [] [.tmp 3] x6 (fun x=>x.1.1)⟩
theorem qk5:CtxM Try.prog qk6:=li fits bj m0
abbrev qu:Mdl:=(a9 (.cons (.d false qT0) (.cons (.rp false (.slice af.ty)) .nil)) [] [] 1 x6 (B:=Int) (fun b=>((b,()),(()))) (fun a=>i4 a.1.1 a.1.2.1))
theorem wv:MdlOK Try.prog 48 qu:=lh Try.func48 rfl qk5 .z s0
def rh:Shp:=⟨[q7j],[qi1]⟩
abbrev jo:Ctx ((List ae)):=⟨77,tt,false,false,[],kb [(48,qu),(92,j4)],k9 [aw _ 77 [] qba (C:=((List af)×Bool×Int×Int×Int×(List (Int×(List ab)))×Nat×(List ab)×Int×(List (Int×(List ab)))×Int×Int)) (S:=(Bool×Int×(List ae))) (fun x=>((x.1.1.1,x.1.2.1,(pe5 x.1),(pe6 x.1),(pe7 x.1),(pe8 x.1),(pe9 x.1),(pe10 x.1),(pe11 x.1),x.2.1.1,x.2.1.2.1,x.2.1.2.2.1),((pe4 x.1),(pe12 x.1),x.2.2.1))) qa9 (CE:=((List af)×Bool×Int×Int×(List (Int×(List ab)))×Nat×(List (Int×(List ab)))×Int×Int)) (E:=(Bool×(List ae))) (fun c e=>(((c.1,()),c.2.1,(),(),e.1,c.2.2.1,(pe3 c),(pe4 c),(pe5 c),()),(((pe6 c),(pe7 c),(pf8 c),()),e.2,()))) (fun c=>(c.1,c.2.1,(pe3 c),(pe4 c),(pe5 c),(pe6 c),(pe9 c),(pe10 c),(pf11 c))) (fun{R} c a nx dn rt=>p8 c.1 c.2.1 c.2.2.1 (pe3 c) (pe4 c) (pe5 c) (pe7 c) (pe8 c) (pe9 c) (pe10 c) (pf11 c) a.1 a.2.1 a.2.2 nx dn rt),rx _ 77 tt false [] (rc Try.f71 10647) qbb (C:=((List af)×Bool×Int×Int×(List (Int×(List ab)))×(List (Int×(List ab)))×Int×Int)) (S:=(Bool×(List ae))) (fun x=>((x.1.1.1,x.1.2.1,(pe5 x.1),(pe6 x.1),(pe7 x.1),x.2.1.1,x.2.1.2.1,x.2.1.2.2.1),((pe4 x.1),x.2.2.1))) (fun c a=>(((c.1,()),c.2.1,(),(),a.1,c.2.2.1,(pe3 c),(pe4 c),()),(((pe5 c),(pe6 c),(pf7 c),()),a.2,()))) (fun c=>(pe4 c)) (fun{R} c a en nx rt=>p9 c.1 c.2.1 c.2.2.1 (pe3 c) (pe4 c) (pe5 c) (pe6 c) (pf7 c) a.1 a.2 en nx rt),qkw _ 77 [] qbd (C:=((List af)×Bool×Int×(List (Int×(List ab)))×Int×Int)) (S:=(Int×(List ae))) (fun x=>((x.1.1.1,x.1.2.1,(pe4 x.1),x.2.1.1,x.2.1.2.1,x.2.1.2.2.1),((pe5 x.1),x.2.2.1))) qbc (CE:=Unit) (E:=(List ae)) (fun c e=>(((),()),(e,()))) (fun c=>()) (fun{R} c a nx dn rt=>qa c.1 c.2.1 c.2.2.1 (pe3 c) (pe4 c) (pf5 c) a.1 a.2 nx dn rt)],cp 77 tt [] [.tmp 6] rh (fun x=>x.2.1)⟩
theorem jm:CtxM Try.prog jo:=li fits bj (mC wv (mC kq m0))
theorem qcw:ax Try.prog jo 0 (lc 4 Try.f71 10168727):=lp rfl jm (.two .z (.two .z (.two (.one (.two .z (.two .z (.two .z (.two (.d [0,1,0,0,8,28,63,127,255] [8] []) (.two .z (.two (.d [0,0,0,6,14,0,63] [] []) .z))))))) .z))) s0 (fun c a=>(((c.1,()),c.2.1,(),(),a.1,c.2.2.1,(pe3 c),(pe4 c),(pe5 c),(pe6 c),(pe7 c),(pe8 c),a.2.1,()),(((pe9 c),(pe10 c),(pf11 c),()),a.2.2,()))) (fun y=>((y.1.1.1,y.1.2.1,(pe5 y.1),(pe6 y.1),(pe7 y.1),(pe8 y.1),y.2.1.1,y.2.1.2.1,y.2.1.2.2.1),((pe4 y.1),y.2.2.1)))
theorem qcx:ax Try.prog jo 1 ((rc Try.f71 10647).code):=rl qT0 (.slice ab.ty) rfl jm (.two .z (.s 0)) (sC qcw s0) 75 28 29 30 32 false rfl
theorem qcy:ax Try.prog jo 2 (lc 0 Try.f71 151):=nl rfl jm (.two .z (.two .z (.two (.one (.two .z (.two (.s 1) .z))) .z))) (sC qcx s0) (fun c a=>(((c.1,()),c.2.1,(),(),c.2.2.1,a.1,()),(((pe3 c),(pe4 c),(pf5 c),()),a.2,()))) (fun y=>((),y.2.1))
abbrev s5:Mdl:=(a9 (.cons (.agg (.cons (.dm false qT0 (.slice ab.ty)) (.cons (.d false qT0) (.cons (.d false qT0) .nil)))) (.cons (.fn 48 (.cons (.rp false (.slice af.ty)) .nil)) (.cons (.d false .bool) .nil))) [] [] 1 rh (B:=(List ae)) (fun b=>(((),()),(b,()))) (fun a=>ug a.1.1.1 a.1.1.2.1 a.1.1.2.2.1 a.1.2.1.1 a.1.2.2.1))
theorem qbe:MdlOK Try.prog 71 s5:=lh Try.func71 rfl jm (.two .z (.two .z (.two .z (.two (.two .z (.s 2)) .z)))) (sC qcy s0)
def s9:Shp:=⟨[q7j],[qgy]⟩
abbrev ol:Ctx (qL1):=⟨93,tt,false,false,[],kb [(71,s5),(48,qu)],k9 [aw _ 93 [] qdf (C:=((List af)×(List ae)×Int×(List ab)×Int×(List (Int×(List ab)))×Int×Int×qL1)) (S:=(Int×Int×Int)) (fun x=>((x.1.1.1,x.1.2.2.1,(pe4 x.1),(pe6 x.1),(pe7 x.1),x.2.1.1,x.2.1.2.1,x.2.1.2.2.1,x.2.2.1),((pe8 x.1),(pe3 x).1,(pe3 x).2.1))) qde (CE:=((List af)×(List ae)×(List (Int×(List ab)))×Int×Int×qL1)) (E:=(Int×Int)) (fun c e=>(((c.1,()),(),c.2.1,(),(),()),((c.2.2.1,(pe3 c),(pe4 c),()),(pf5 c),(e.1,e.2,()),()))) (fun c=>(c.1,c.2.1,(pe5 c),(pe6 c),(pe7 c),(pf8 c))) (fun{R} c a nx dn rt=>rn c.1 c.2.1 c.2.2.1 (pe3 c) (pe4 c) (pe5 c) (pe6 c) (pe7 c) (pf8 c) a.1 a.2.1 a.2.2 nx dn rt),aw _ 93 [] qdh (C:=((List af)×(List ae)×(List (Int×(List ab)))×Int×Int)) (S:=(Int×qL1)) (fun x=>((x.1.1.1,x.1.2.2.1,x.2.1.1,x.2.1.2.1,x.2.1.2.2.1),((pe4 x.1),x.2.2.1))) qdg (CE:=Unit) (E:=qL1) (fun c e=>(((),()),(e,()))) (fun c=>()) (fun{R} c a nx dn rt=>ro c.1 c.2.1 c.2.2.1 (pe3 c) (pf4 c) a.1 a.2 nx dn rt)],cp 93 tt [] [.tmp 6] s9 (fun x=>x.2.1)⟩
theorem oi:CtxM Try.prog ol:=li fits bj (mC qbe (mC wv m0))
theorem qey:ax Try.prog ol 0 (lc 2 Try.f43 19095):=lp rfl oi (.two .z (.two .z (.two (.one (.two .z (.two .z (.two (.d [0,1,3,7,15,7,7,71,231,511,7,7,3079,7175,15367,32767,65535,131071,262143,524287,1048575,262143,262143,6553599,14942207,31719423,67108863,134217727,268435455,536870911,1073741823,2147483647,4294967295,8589934591,17179869183,8589934591,42949672959,137438953471,274877906943,549755813887] [] []) .z)))) .z))) s0 (fun c a=>(((c.1,()),(),c.2.1,(),c.2.2.1,(),(pe3 c),(pe4 c),a.1,()),(((pe5 c),(pe6 c),(pe7 c),()),(pf8 c),(a.2.1,a.2.2,()),()))) (fun y=>((y.1.1.1,y.1.2.2.1,y.2.1.1,y.2.1.2.1,y.2.1.2.2.1,y.2.2.1),((pe3 y).1,(pe3 y).2.1)))
theorem qez:ax Try.prog ol 1 (lc 0 Try.f43 151):=lp rfl oi (.two .z (.one (.two .z (.two (.two .z (.s 0)) .z)))) (sC qey s0) (fun c a=>(((c.1,()),(),c.2.1,(),a.1,()),((c.2.2.1,(pe3 c),(pf4 c),()),a.2,()))) (fun y=>((),y.2.1))
abbrev oj:Mdl:=(a9 (.cons (.agg (.cons (.dm false qT0 (.slice ab.ty)) (.cons (.d false qT0) (.cons (.d false qT0) .nil)))) (.cons (.fn 48 (.cons (.rp false (.slice af.ty)) .nil)) (.cons (.d false .bool) .nil))) [] [] 1 s9 (B:=qL1) (fun b=>(((),()),(b,()))) (fun a=>ko a.1.1.1 a.1.1.2.1 a.1.1.2.2.1 a.1.2.1.1 a.1.2.2.1))
theorem rq:MdlOK Try.prog 43 oj:=lh Try.func43 rfl oi (.two .z (.two .z (.two .z (.two (.two .z (.s 1)) .z)))) (sC qez s0)
def qaf:Shp:=⟨[q7j,qsr],[qgy]⟩
abbrev qph:Ctx ((Int×qL1)):=⟨38,tt,false,false,[],kb [(41,o8),(42,d8),(47,lx),(43,oj)],k9 [],cp 38 tt [] [.tmp 8, .tmp 9] qaf (fun x=>(x.1.2.1,x.2.1))⟩
theorem qpg:CtxM Try.prog qph:=li fits bj (mC pt (mC ea (mC oe (mC rq m0))))
abbrev qco:Mdl:=(a9 (.cons (.agg (.cons (.d false qT0) (.cons (.d false (.slice ag.ty)) (.cons (.d false qT0) (.cons (.d false qT0) .nil))))) (.cons (.d false qT1) (.cons (.d false (.slice af.ty)) (.cons (.d false qT0) .nil)))) [] [] 2 qaf (B:=(Int×qL1)) (fun b=>(((),b.1,()),(b.2,()))) (fun a=>xp a.1.1.1 a.1.1.2.1 a.1.1.2.2.1 (pe3 a.1.1) a.1.2.1 a.1.2.2.1 (pe3 a.1)))
theorem qk7:MdlOK Try.prog 13 qco:=lh Try.func13 rfl qpg .z s0
def rv:Shp:=⟨[qjh],[]⟩
abbrev nc:Ctx (Bool):=⟨54,tt,false,false,[],kb [],k9 [aw _ 54 [] qbu (C:=(Int×(List ab)×Int×(List (Int×(List ab)))×Int×Int)) (S:=(Int×(List (Int×Bool))×qL1)) (fun x=>((x.1.1,(pe4 x.1),(pe5 x.1),x.2.1.1,x.2.1.2.1,x.2.1.2.2.1),((pe6 x.1),x.2.2.1,(pe3 x)))) qbt (CE:=(Int×(List (Int×(List ab)))×Int×Int)) (E:=((List (Int×Bool))×qL1)) (fun c e=>((c.1,(),(),(),()),((c.2.1,c.2.2.1,c.2.2.2,()),e.1,e.2,()))) (fun c=>(c.1,(pe3 c),(pe4 c),(pf5 c))) (fun{R} c a nx dn rt=>dp c.1 c.2.1 c.2.2.1 (pe3 c) (pe4 c) (pf5 c) a.1 a.2.1 a.2.2 nx dn rt),aw _ 54 [] qbw (C:=(Int×(List (Int×(List ab)))×Int×Int)) (S:=((List (Int×Bool))×qL1)) (fun x=>((x.1.1,x.2.1.1,x.2.1.2.1,x.2.1.2.2.1),(x.2.2.1,(pe3 x)))) qbv (CE:=Unit) (E:=Unit) (fun c e=>((()),(()))) (fun c=>()) (fun{R} c a nx dn rt=>cu c.1 c.2.1 c.2.2.1 c.2.2.2 a.1 a.2 nx dn rt)],cp 54 tt [] [.tmp 4] rv (fun x=>x.1.1)⟩
theorem m9:CtxM Try.prog nc:=li fits bj m0
theorem qdi:ax Try.prog nc 0 (lc 2 Try.f52 9803):=lp rfl m9 .z s0 (fun c a=>((c.1,(),(),(),c.2.1,c.2.2.1,a.1,()),(((pe3 c),(pe4 c),(pf5 c),()),a.2.1,a.2.2,()))) (fun y=>((y.1.1,y.2.1.1,y.2.1.2.1,y.2.1.2.2.1),(y.2.2.1,(pe3 y))))
theorem qdj:ax Try.prog nc 1 (lc 0 Try.f52 75):=lp rfl m9 (.two .z (.two (.one (.two (.two (.d [0,1,3,0,8,31] [] []) .z) (.two (.d [0,1,0,4,12,31,63,0] [] []) (.s 0)))) .z)) (sC qdi s0) (fun c a=>((c.1,(),(),(),()),((c.2.1,c.2.2.1,c.2.2.2,()),a.1,a.2,()))) (fun y=>((),()))
abbrev na:Mdl:=(a9 (.cons (.agg (.cons (.dm false qT0 (.slice ab.ty)) (.cons (.d false qT0) (.cons (.d false qT0) .nil)))) (.cons (.d false qT0) .nil)) [] [] 1 rv (B:=Bool) (fun b=>((b,()),(()))) (fun a=>g9 a.1.1.1 a.1.1.2.1 a.1.1.2.2.1 a.1.2.1))
theorem qi:MdlOK Try.prog 52 na:=lh Try.func52 rfl m9 (.two .z (.two .z (.two (.two .z (.s 1)) .z))) (sC qdj s0)
def qhf:Shp:=⟨[q4b,qsr],[qgy]⟩
abbrev qjx:Ctx ((Int×qL1)):=⟨50,tt,false,false,[],kb [(50,po),(51,pq),(42,d8),(52,na)],k9 [aw _ 50 [] qrx (C:=(Int×(List (Int×(List ab)))×Int×Int)) (S:=(Int×qL1)) (fun x=>((x.1.2.2.1,x.2.1.1,x.2.1.2.1,x.2.1.2.2.1),((pe3 x.1),x.2.2.1))) qrw (CE:=Unit) (E:=qL1) (fun c e=>(((),()),(e,()))) (fun c=>()) (fun{R} c a nx dn rt=>qfu c.1 c.2.1 c.2.2.1 c.2.2.2 a.1 a.2 nx dn rt)],cp 50 tt [] [.tmp 6, .tmp 7] qhf (fun x=>(x.1.2.1,x.2.1))⟩
theorem qjv:CtxM Try.prog qjx:=li fits bj (mC o7 (mC qv (mC ea (mC qi m0))))
theorem quy:ax Try.prog qjx 0 (lc 0 Try.f15 1215):=lp rfl qjv .z s0 (fun c a=>(((),(),c.1,a.1,()),((c.2.1,c.2.2.1,c.2.2.2,()),a.2,()))) (fun y=>((),y.2.1))
abbrev qjw:Mdl:=(a9 (.cons (.agg (.cons (.d false qT0) (.cons (.d false (.slice ag.ty)) (.cons (.d false qT0) (.cons (.d false qT0) .nil))))) (.cons (.d false qT1) (.cons (.d false qT0) .nil))) [] [] 2 qhf (B:=(Int×qL1)) (fun b=>(((),b.1,()),(b.2,()))) (fun a=>qem a.1.1.1 a.1.1.2.1 a.1.1.2.2.1 (pe3 a.1.1) a.1.2.1 a.1.2.2.1))
theorem qry:MdlOK Try.prog 15 qjw:=lh Try.func15 rfl qjv (.two .z (.two .z (.two .z (.two .z (.two .z (.two .z (.two (.two .z (.s 0)) .z))))))) (sC quy s0)
def qji:Shp:=⟨[qjh],[]⟩
abbrev qzy:Ctx (Bool):=⟨71,tt,false,false,[],kb [(18,y9),(13,qco),(15,qjw),(17,j7)],k9 [],cp 71 tt [] [.tmp 0] qji (fun x=>x.1.1)⟩
theorem qzx:CtxM Try.prog qzy:=li fits bj (mC qhg (mC qk7 (mC qry (mC mf m0))))
abbrev qmp:Mdl:=(a9 .nil [] [] 1 qji (B:=Bool) (fun b=>((b,()),(()))) (fun a=>z4))
theorem qty:MdlOK Try.prog 9 qmp:=lh Try.func9 rfl qzx .z s0
def qjj:Shp:=⟨[qjh],[]⟩
abbrev qz0:Ctx (Bool):=⟨19,tt,false,false,[],kb [],k9 [],cp 19 tt [] [.tmp 2] qjj (fun x=>x.1.1)⟩
theorem qzz:CtxM Try.prog qz0:=li fits bj m0
abbrev qmq:Mdl:=(a9 (.cons (.d false ag.ty) .nil) [] [] 1 qjj (B:=Bool) (fun b=>((b,()),(()))) (fun a=>z5 a.1.1))
theorem qt0:MdlOK Try.prog 40 qmq:=lh Try.func40 rfl qzz .z s0
def gu:Shp:=⟨[q1p],[]⟩
abbrev ic:Ctx (Int):=⟨19,tt,false,false,[],kb [(40,qmq)],k9 [aw _ 19 [] nk (C:=((List ag)×Int)) (S:=Int) (fun x=>((x.1.1,x.1.2.2.1),(pe3 x.1))) nj (CE:=Unit) (E:=Unit) (fun c e=>((()),(()))) (fun c=>()) (fun{R} c a nx dn rt=>ch c.1 c.2 a nx dn rt)],cp 19 tt [] [.tmp 4] gu (fun x=>x.1.1)⟩
theorem ia:CtxM Try.prog ic:=li fits bj (mC qt0 m0)
theorem nv:ax Try.prog ic 0 (lc 0 Try.f70 37):=lp rfl ia .z s0 (fun c a=>((c.1,(()),c.2,a,()),(()))) (fun y=>((),()))
abbrev ib:Mdl:=(a9 (.cons (.d false (.slice ag.ty)) (.cons (.fn 40 .nil) .nil)) [] [] 1 gu (B:=Int) (fun b=>((b,()),(()))) (fun a=>dx a.1.1))
theorem nm:MdlOK Try.prog 70 ib:=lh Try.func70 rfl ia (.two .z (.two (.two .z (.s 0)) .z)) (sC nv s0)
def f5:Shp:=⟨[qjh],[]⟩
abbrev mq:Ctx (Bool):=⟨9,tt,false,false,[],kb [(70,ib)],k9 [],cp 9 tt [] [.tmp 4] f5 (fun x=>x.1.1)⟩
theorem mn:CtxM Try.prog mq:=li fits bj (mC nm m0)
abbrev f8:Mdl:=(a9 (.cons (.d false (.slice ag.ty)) (.cons (.fn 40 .nil) .nil)) [] [] 1 f5 (B:=Bool) (fun b=>((b,()),(()))) (fun a=>cf a.1.1))
theorem ls:MdlOK Try.prog 39 f8:=lh Try.func39 rfl mn .z s0
def qqn:Shp:=⟨[qjh],[]⟩
abbrev q46:Ctx (Bool):=⟨32,tt,false,false,[],kb [(39,f8)],k9 [],cp 32 tt [] [.tmp 6] qqn (fun x=>x.1.1)⟩
theorem q45:CtxM Try.prog q46:=li fits bj (mC ls m0)
abbrev qtz:Mdl:=(a9 (.cons (.d false cx.ty) (.cons (.d false qT1) (.cons (.d false (.slice af.ty)) .nil))) [] [] 1 qqn (B:=Bool) (fun b=>((b,()),(()))) (fun a=>qim a.1.1 a.1.2.1 a.1.2.2.1))
theorem qz1:MdlOK Try.prog 10 qtz:=lh Try.func10 rfl q45 .z s0
def x4:Shp:=⟨[q1p],[]⟩
abbrev qk1:Ctx (Int):=⟨9,tt,false,false,[],kb [],k9 [],cp 9 tt [] [.tmp 3] x4 (fun x=>x.1.1)⟩
theorem qk0:CtxM Try.prog qk1:=li fits bj m0
abbrev qt:Mdl:=(a9 (.cons (.d false qT0) (.cons (.rp false (.slice af.ty)) .nil)) [] [] 1 x4 (B:=Int) (fun b=>((b,()),(()))) (fun a=>iz a.1.1 a.1.2.1))
theorem wu:MdlOK Try.prog 44 qt:=lh Try.func44 rfl qk0 .z s0
def rg:Shp:=⟨[q7j],[qi1]⟩
abbrev jl:Ctx ((List ae)):=⟨77,tt,false,false,[],kb [(44,qt),(92,j4)],k9 [aw _ 77 [] qa4 (C:=((List af)×Bool×Int×Int×Int×(List (Int×(List ab)))×Nat×(List ab)×Int×(List (Int×(List ab)))×Int×Int)) (S:=(Bool×Int×(List ae))) (fun x=>((x.1.1.1,x.1.2.1,(pe5 x.1),(pe6 x.1),(pe7 x.1),(pe8 x.1),(pe9 x.1),(pe10 x.1),(pe11 x.1),x.2.1.1,x.2.1.2.1,x.2.1.2.2.1),((pe4 x.1),(pe12 x.1),x.2.2.1))) qa3 (CE:=((List af)×Bool×Int×Int×(List (Int×(List ab)))×Nat×(List (Int×(List ab)))×Int×Int)) (E:=(Bool×(List ae))) (fun c e=>(((c.1,()),c.2.1,(),(),e.1,c.2.2.1,(pe3 c),(pe4 c),(pe5 c),()),(((pe6 c),(pe7 c),(pf8 c),()),e.2,()))) (fun c=>(c.1,c.2.1,(pe3 c),(pe4 c),(pe5 c),(pe6 c),(pe9 c),(pe10 c),(pf11 c))) (fun{R} c a nx dn rt=>p5 c.1 c.2.1 c.2.2.1 (pe3 c) (pe4 c) (pe5 c) (pe7 c) (pe8 c) (pe9 c) (pe10 c) (pf11 c) a.1 a.2.1 a.2.2 nx dn rt),rx _ 77 tt false [] (rc Try.f71 10647) qa5 (C:=((List af)×Bool×Int×Int×(List (Int×(List ab)))×(List (Int×(List ab)))×Int×Int)) (S:=(Bool×(List ae))) (fun x=>((x.1.1.1,x.1.2.1,(pe5 x.1),(pe6 x.1),(pe7 x.1),x.2.1.1,x.2.1.2.1,x.2.1.2.2.1),((pe4 x.1),x.2.2.1))) (fun c a=>(((c.1,()),c.2.1,(),(),a.1,c.2.2.1,(pe3 c),(pe4 c),()),(((pe5 c),(pe6 c),(pf7 c),()),a.2,()))) (fun c=>(pe4 c)) (fun{R} c a en nx rt=>p6 c.1 c.2.1 c.2.2.1 (pe3 c) (pe4 c) (pe5 c) (pe6 c) (pf7 c) a.1 a.2 en nx rt),qkw _ 77 [] qa7 (C:=((List af)×Bool×Int×(List (Int×(List ab)))×Int×Int)) (S:=(Int×(List ae))) (fun x=>((x.1.1.1,x.1.2.1,(pe4 x.1),x.2.1.1,x.2.1.2.1,x.2.1.2.2.1),((pe5 x.1),x.2.2.1))) qa6 (CE:=Unit) (E:=(List ae)) (fun c e=>(((),()),(e,()))) (fun c=>()) (fun{R} c a nx dn rt=>p7 c.1 c.2.1 c.2.2.1 (pe3 c) (pe4 c) (pf5 c) a.1 a.2 nx dn rt)],cp 77 tt [] [.tmp 6] rg (fun x=>x.2.1)⟩
theorem jk:CtxM Try.prog jl:=li fits bj (mC wu (mC kq m0))
theorem qcr:ax Try.prog jl 0 (lc 4 Try.f71 10168727):=lp rfl jk (.two .z (.two .z (.two (.one (.two .z (.two .z (.two .z (.two (.d [0,1,0,0,8,28,63,127,255] [8] []) (.two .z (.two (.d [0,0,0,6,14,0,63] [] []) .z))))))) .z))) s0 (fun c a=>(((c.1,()),c.2.1,(),(),a.1,c.2.2.1,(pe3 c),(pe4 c),(pe5 c),(pe6 c),(pe7 c),(pe8 c),a.2.1,()),(((pe9 c),(pe10 c),(pf11 c),()),a.2.2,()))) (fun y=>((y.1.1.1,y.1.2.1,(pe5 y.1),(pe6 y.1),(pe7 y.1),(pe8 y.1),y.2.1.1,y.2.1.2.1,y.2.1.2.2.1),((pe4 y.1),y.2.2.1)))
theorem qcs:ax Try.prog jl 1 ((rc Try.f71 10647).code):=rl qT0 (.slice ab.ty) rfl jk (.two .z (.s 0)) (sC qcr s0) 75 28 29 30 32 false rfl
theorem qct:ax Try.prog jl 2 (lc 0 Try.f71 151):=nl rfl jk (.two .z (.two .z (.two (.one (.two .z (.two (.s 1) .z))) .z))) (sC qcs s0) (fun c a=>(((c.1,()),c.2.1,(),(),c.2.2.1,a.1,()),(((pe3 c),(pe4 c),(pf5 c),()),a.2,()))) (fun y=>((),y.2.1))
abbrev s4:Mdl:=(a9 (.cons (.agg (.cons (.dm false qT0 (.slice ab.ty)) (.cons (.d false qT0) (.cons (.d false qT0) .nil)))) (.cons (.fn 44 (.cons (.rp false (.slice af.ty)) .nil)) (.cons (.d false .bool) .nil))) [] [] 1 rg (B:=(List ae)) (fun b=>(((),()),(b,()))) (fun a=>uf a.1.1.1 a.1.1.2.1 a.1.1.2.2.1 a.1.2.1.1 a.1.2.2.1))
theorem qa8:MdlOK Try.prog 71 s4:=lh Try.func71 rfl jk (.two .z (.two .z (.two .z (.two (.two .z (.s 2)) .z)))) (sC qct s0)
def s8:Shp:=⟨[q7j],[qgy]⟩
abbrev oh:Ctx (qL1):=⟨93,tt,false,false,[],kb [(71,s4),(44,qt)],k9 [aw _ 93 [] qda (C:=((List af)×(List ae)×Int×(List ab)×Int×(List (Int×(List ab)))×Int×Int×qL1)) (S:=(Int×Int×Int)) (fun x=>((x.1.1.1,x.1.2.2.1,(pe4 x.1),(pe6 x.1),(pe7 x.1),x.2.1.1,x.2.1.2.1,x.2.1.2.2.1,x.2.2.1),((pe8 x.1),(pe3 x).1,(pe3 x).2.1))) qc9 (CE:=((List af)×(List ae)×(List (Int×(List ab)))×Int×Int×qL1)) (E:=(Int×Int)) (fun c e=>(((c.1,()),(),c.2.1,(),(),()),((c.2.2.1,(pe3 c),(pe4 c),()),(pf5 c),(e.1,e.2,()),()))) (fun c=>(c.1,c.2.1,(pe5 c),(pe6 c),(pe7 c),(pf8 c))) (fun{R} c a nx dn rt=>rk c.1 c.2.1 c.2.2.1 (pe3 c) (pe4 c) (pe5 c) (pe6 c) (pe7 c) (pf8 c) a.1 a.2.1 a.2.2 nx dn rt),aw _ 93 [] qdc (C:=((List af)×(List ae)×(List (Int×(List ab)))×Int×Int)) (S:=(Int×qL1)) (fun x=>((x.1.1.1,x.1.2.2.1,x.2.1.1,x.2.1.2.1,x.2.1.2.2.1),((pe4 x.1),x.2.2.1))) qdb (CE:=Unit) (E:=qL1) (fun c e=>(((),()),(e,()))) (fun c=>()) (fun{R} c a nx dn rt=>rm c.1 c.2.1 c.2.2.1 (pe3 c) (pf4 c) a.1 a.2 nx dn rt)],cp 93 tt [] [.tmp 6] s8 (fun x=>x.2.1)⟩
theorem og:CtxM Try.prog oh:=li fits bj (mC qa8 (mC wu m0))
theorem qeu:ax Try.prog oh 0 (lc 2 Try.f43 19095):=lp rfl og (.two .z (.two .z (.two (.one (.two .z (.two .z (.two (.d [0,1,3,7,15,7,7,71,231,511,7,7,3079,7175,15367,32767,65535,131071,262143,524287,1048575,262143,262143,6553599,14942207,31719423,67108863,134217727,268435455,536870911,1073741823,2147483647,4294967295,8589934591,17179869183,8589934591,42949672959,137438953471,274877906943,549755813887] [] []) .z)))) .z))) s0 (fun c a=>(((c.1,()),(),c.2.1,(),c.2.2.1,(),(pe3 c),(pe4 c),a.1,()),(((pe5 c),(pe6 c),(pe7 c),()),(pf8 c),(a.2.1,a.2.2,()),()))) (fun y=>((y.1.1.1,y.1.2.2.1,y.2.1.1,y.2.1.2.1,y.2.1.2.2.1,y.2.2.1),((pe3 y).1,(pe3 y).2.1)))
theorem qev:ax Try.prog oh 1 (lc 0 Try.f43 151):=lp rfl og (.two .z (.one (.two .z (.two (.two .z (.s 0)) .z)))) (sC qeu s0) (fun c a=>(((c.1,()),(),c.2.1,(),a.1,()),((c.2.2.1,(pe3 c),(pf4 c),()),a.2,()))) (fun y=>((),y.2.1))
abbrev uk:Mdl:=(a9 (.cons (.agg (.cons (.dm false qT0 (.slice ab.ty)) (.cons (.d false qT0) (.cons (.d false qT0) .nil)))) (.cons (.fn 44 (.cons (.rp false (.slice af.ty)) .nil)) (.cons (.d false .bool) .nil))) [] [] 1 s8 (B:=qL1) (fun b=>(((),()),(b,()))) (fun a=>pf a.1.1.1 a.1.1.2.1 a.1.1.2.2.1 a.1.2.1.1 a.1.2.2.1))
theorem qdd:MdlOK Try.prog 43 uk:=lh Try.func43 rfl og (.two .z (.two .z (.two .z (.two (.two .z (.s 1)) .z)))) (sC qev s0)
def qad:Shp:=⟨[q7j,qsr],[qgy]⟩
abbrev qpc:Ctx ((Int×qL1)):=⟨35,tt,false,false,[],kb [(41,o8),(42,d8),(43,uk)],k9 [],cp 35 tt [] [.tmp 8, .tmp 9] qad (fun x=>(x.1.2.1,x.2.1))⟩
theorem qpb:CtxM Try.prog qpc:=li fits bj (mC pt (mC ea (mC qdd m0)))
abbrev qcn:Mdl:=(a9 (.cons (.d false cx.ty) (.cons (.d false qT1) (.cons (.d false (.slice af.ty)) (.cons (.d false qT0) .nil)))) [] [] 2 qad (B:=(Int×qL1)) (fun b=>(((),b.1,()),(b.2,()))) (fun a=>fe a.1.1 a.1.2.1 a.1.2.2.1 (pe3 a.1)))
theorem qk2:MdlOK Try.prog 11 qcn:=lh Try.func11 rfl qpb .z s0
def qhr:Shp:=⟨[qjh],[]⟩
abbrev qwv:Ctx (Bool):=⟨17,tt,false,false,[],kb [],k9 [],cp 17 tt [] [.tmp 2] qhr (fun x=>x.1.1)⟩
theorem qwu:CtxM Try.prog qwv:=li fits bj m0
abbrev qj1:Mdl:=(a9 (.cons (.d false (.int .u8)) .nil) [] [] 1 qhr (B:=Bool) (fun b=>((b,()),(()))) (fun a=>td a.1.1))
theorem qr4:MdlOK Try.prog 91 qj1:=lh Try.func91 rfl qwu .z s0
def qhq:Shp:=⟨[qjh],[]⟩
abbrev qj0:Ctx (Bool):=⟨52,tt,false,false,[],kb [(91,qj1)],k9 [aw _ 52 [] qr2 (C:=ByteArray) (S:=Int) (fun x=>(x.1.1,x.1.2.1)) qr1 (CE:=Unit) (E:=Unit) (fun c e=>((()),(()))) (fun c=>()) (fun{R} c a nx dn rt=>nt c a nx dn rt)],cp 52 tt [] [.tmp 2] qhq (fun x=>x.1.1)⟩
theorem qjy:CtxM Try.prog qj0:=li fits bj (mC qr4 m0)
theorem qu5:ax Try.prog qj0 0 (lc 0 Try.f67 75):=lp rfl qjy .z s0 (fun c a=>((c,a,()),(()))) (fun y=>((),()))
abbrev qjz:Mdl:=(a9 (.cons (.d false .str) .nil) [] [] 1 qhq (B:=Bool) (fun b=>((b,()),(()))) (fun a=>yk a.1.1))
theorem qr3:MdlOK Try.prog 67 qjz:=lh Try.func67 rfl qjy (.two .z (.two .z (.two (.two .z (.s 0)) .z))) (sC qu5 s0)
def qhw:Shp:=⟨[qjh],[]⟩
abbrev qj6:Ctx (Bool):=⟨41,tt,false,false,[],kb [],k9 [aw _ 41 [] qr7 (C:=(Int×qL1)) (S:=Int) (fun x=>((x.1.1,x.1.2.1),x.1.2.2.1)) qr6 (CE:=Unit) (E:=Unit) (fun c e=>((()),(()))) (fun c=>()) (fun{R} c a nx dn rt=>kg c.1 c.2 a nx dn rt)],cp 41 tt [] [.tmp 4] qhw (fun x=>x.1.1)⟩
theorem qj4:CtxM Try.prog qj6:=li fits bj m0
theorem qvb:ax Try.prog qj6 0 (lc 0 Try.f68 37):=lp rfl qj4 (.two .z (.two (.one (.two (.d [0,0,3,7,15,31,63,63,255,511,63,2047,4095,8191,16383,32767,65535,131071,131071,393215,1048575,2097151,131071,131071,12713983,29491199,67108863,134217727,268435455] [] []) .z)) .z)) s0 (fun c a=>((c.1,c.2,a,()),(()))) (fun y=>((),()))
abbrev qj5:Mdl:=(a9 (.cons (.d false qT0) (.cons (.d false qT1) .nil)) [] [] 1 qhw (B:=Bool) (fun b=>((b,()),(()))) (fun a=>ne a.1.1 a.1.2.1))
theorem qr8:MdlOK Try.prog 68 qj5:=lh Try.func68 rfl qj4 (.two .z (.two (.two .z (.s 0)) .z)) (sC qvb s0)
def qj3:Shp:=⟨[qjh],[]⟩
abbrev qnm:Ctx (Bool):=⟨80,tt,false,false,[],kb [(67,qjz),(68,qj5)],k9 [aw _ 80 [] qva (C:=(Int×(List ag)×Int×Int)) (S:=Int) (fun x=>((x.2.1.1,x.2.1.2.1,x.2.1.2.2.1,(pe3 x.2.1)),x.1.2.1)) qu9 (CE:=Unit) (E:=Unit) (fun c e=>((()),(()))) (fun c=>()) (fun{R} c a nx dn rt=>th c.1 c.2.1 c.2.2.1 c.2.2.2 a nx dn rt)],cp 80 tt [] [.tmp 2] qj3 (fun x=>x.1.1)⟩
theorem qnl:CtxM Try.prog qnm:=li fits bj (mC qr3 (mC qr8 m0))
theorem qww:ax Try.prog qnm 0 (lc 0 Try.f37 75):=lp rfl qnl .z s0 (fun c a=>(((),a,()),((c.1,c.2.1,c.2.2.1,c.2.2.2,()),()))) (fun y=>((),()))
abbrev qe0:Mdl:=(a9 (.cons (.d false cx.ty) .nil) [] [] 1 qj3 (B:=Bool) (fun b=>((b,()),(()))) (fun a=>w9 a.1.1))
theorem qhu:MdlOK Try.prog 37 qe0:=lh Try.func37 rfl qnl (.two .z (.two .z (.two (.two .z (.s 0)) .z))) (sC qww s0)
def qfy:Shp:=⟨[qjh],[]⟩
abbrev qht:Ctx (Bool):=⟨29,tt,false,false,[],kb [],k9 [aw _ 29 [] qpn (C:=qL1) (S:=Int) (fun x=>(x.1.1,x.1.2.1)) qpm (CE:=Unit) (E:=Unit) (fun c e=>((()),(()))) (fun c=>()) (fun{R} c a nx dn rt=>pu c a nx dn rt)],cp 29 tt [] [.tmp 4] qfy (fun x=>x.1.1)⟩
theorem qhs:CtxM Try.prog qht:=li fits bj m0
theorem qr5:ax Try.prog qht 0 (lc 0 Try.f65 75):=lp rfl qhs .z s0 (fun c a=>((c,a,()),(()))) (fun y=>((),()))
abbrev tf:Mdl:=(a9 (.cons (.d false cx.ty) (.cons (.d false qT1) .nil)) [] [] 1 qfy (B:=Bool) (fun b=>((b,()),(()))) (fun a=>oa a.1.1 a.1.2.1))
theorem u4:MdlOK Try.prog 65 tf:=lh Try.func65 rfl qhs (.two .z (.two .z (.two (.two .z (.s 0)) .z))) (sC qr5 s0)
def qke:Shp:=⟨[qjh],[]⟩
abbrev qn0:Ctx (Bool):=⟨52,tt,false,false,[],kb [],k9 [aw _ 52 [] qvq (C:=((List af)×Int)) (S:=Int) (fun x=>((x.1.1,x.1.2.1),x.1.2.2.1)) qvp (CE:=Unit) (E:=Unit) (fun c e=>((()),(()))) (fun c=>()) (fun{R} c a nx dn rt=>pg c.1 c.2 a nx dn rt)],cp 52 tt [] [.tmp 4] qke (fun x=>x.1.1)⟩
theorem qny:CtxM Try.prog qn0:=li fits bj m0
theorem qw7:ax Try.prog qn0 0 (lc 0 Try.f28 75):=lp rfl qny .z s0 (fun c a=>((c.1,c.2,a,()),(()))) (fun y=>((),()))
abbrev qnz:Mdl:=(a9 (.cons (.d false (.slice af.ty)) (.cons (.d false qT0) .nil)) [] [] 1 qke (B:=Bool) (fun b=>((b,()),(()))) (fun a=>qau a.1.1 a.1.2.1))
theorem qvr:MdlOK Try.prog 28 qnz:=lh Try.func28 rfl qny (.two .z (.two .z (.two (.two .z (.s 0)) .z))) (sC qw7 s0)
def qqy:Shp:=⟨[qjh],[]⟩
abbrev qu8:Ctx (Bool):=⟨32,tt,false,false,[],kb [],k9 [aw _ 32 [] q0t (C:=(qL1×Int×Int×(List ag)×Int×Int)) (S:=Int) (fun x=>((x.1.1,x.1.2.1,x.2.1.1,x.2.1.2.1,x.2.1.2.2.1,(pe3 x.2.1)),(pe3 x.1))) q0s (CE:=Unit) (E:=Unit) (fun c e=>((()),(()))) (fun c=>()) (fun{R} c a nx dn rt=>te c.1 c.2.1 c.2.2.1 (pe3 c) (pe4 c) (pf5 c) a nx dn rt)],cp 32 tt [] [.tmp 6] qqy (fun x=>x.1.1)⟩
theorem qu6:CtxM Try.prog qu8:=li fits bj m0
theorem q3e:ax Try.prog qu8 0 (lc 0 Try.f93 37):=lp rfl qu6 .z s0 (fun c a=>((c.1,c.2.1,(),a,()),((c.2.2.1,(pe3 c),(pe4 c),(pf5 c),()),()))) (fun y=>((),()))
abbrev qu7:Mdl:=(a9 (.cons (.d false cx.ty) (.cons (.d false qT1) (.cons (.d false qT0) .nil))) [] [] 1 qqy (B:=Bool) (fun b=>((b,()),(()))) (fun a=>qiq a.1.1 a.1.2.1 a.1.2.2.1))
theorem q0u:MdlOK Try.prog 93 qu7:=lh Try.func93 rfl qu6 (.two .z (.two (.two .z (.s 0)) .z)) (sC q3e s0)
def qkb:Shp:=⟨[q7j,(1, .d true .bool)],[qgy]⟩
abbrev qe2:Ctx ((Bool×qL1)):=⟨58,tt,false,false,[],kb [(65,tf)],k9 [aw _ 58 [] qve (C:=(Int×(List ag)×Int×Int×ByteArray×qL1×qL1)) (S:=(Int×qL1)) (fun x=>((x.2.1.1,x.2.1.2.1,x.2.1.2.2.1,(pe3 x.2.1),(pe3 x).1,(pe3 x).2.1,(pe3 x).2.2.1),((pe3 x.1),x.2.2.1))) qvd (CE:=(Int×(List ag)×Int×Int×ByteArray×qL1×qL1)) (E:=qL1) (fun c e=>(((),(),(),()),((c.1,c.2.1,c.2.2.1,(pe3 c),()),e,((pe4 c),(pe5 c),(pf6 c),()),()))) (fun c=>(c.1,c.2.1,c.2.2.1,(pe3 c),(pe4 c),(pe5 c),(pf6 c))) (fun{R} c a nx dn rt=>tj c.1 c.2.1 c.2.2.1 (pe3 c) (pe4 c) (pe5 c) (pf6 c) a.1 a.2 nx dn rt),aw _ 58 [] qvg (C:=(Int×(List ag)×Int×Int×ByteArray×qL1×qL1)) (S:=(Int×qL1)) (fun x=>((x.2.1.1,x.2.1.2.1,x.2.1.2.2.1,(pe3 x.2.1),(pe3 x).1,(pe3 x).2.1,(pe3 x).2.2.1),((pe3 x.1),x.2.2.1))) qvf (CE:=(Int×(List ag)×Int×Int)) (E:=qL1) (fun c e=>(((),(),()),((c.1,c.2.1,c.2.2.1,c.2.2.2,()),e,()))) (fun c=>(c.1,c.2.1,c.2.2.1,(pe3 c))) (fun{R} c a nx dn rt=>tk c.1 c.2.1 c.2.2.1 (pe3 c) (pe4 c) (pe5 c) (pf6 c) a.1 a.2 nx dn rt)],cp 58 tt [] [.tmp 6, .tmp 7] qkb (fun x=>(x.1.2.1,x.2.1))⟩
theorem qe1:CtxM Try.prog qe2:=li fits bj (mC u4 m0)
theorem qw0:ax Try.prog qe2 1 (lc 2 Try.f94 303):=lp rfl qe1 .z s0 (fun c a=>(((),(),(),a.1,()),((c.1,c.2.1,c.2.2.1,(pe3 c),()),a.2,((pe4 c),(pe5 c),(pf6 c),()),()))) (fun y=>((y.2.1.1,y.2.1.2.1,y.2.1.2.2.1,(pe3 y.2.1)),y.2.2.1))
theorem qwz:ax Try.prog qe2 0 (lc 0 Try.f94 151):=lp rfl qe1 .z s0 (fun c a=>(((),(),(),a.1,()),((c.1,c.2.1,c.2.2.1,(pe3 c),()),a.2,((pe4 c),(pe5 c),(pf6 c),()),()))) (fun y=>((y.2.1.1,y.2.1.2.1,y.2.1.2.2.1,(pe3 y.2.1),(pe3 y).1,(pe3 y).2.1,(pe3 y).2.2.1),y.2.2.1))
abbrev qnr:Mdl:=(a9 (.cons (.d false cx.ty) (.cons (.d false qT1) (.cons (.d false qT0) .nil))) [] [] 2 qkb (B:=(Bool×qL1)) (fun b=>(((),b.1,()),(b.2,()))) (fun a=>qam a.1.1 a.1.2.1 a.1.2.2.1))
theorem qvh:MdlOK Try.prog 94 qnr:=lh Try.func94 rfl qe1 (.two .z (.two .z (.two .z (.two (.two .z (.s 0)) (.two (.two .z (.s 1)) .z))))) (sC qwz (sC qw0 s0))
def x9:Shp:=⟨[qjh],[]⟩
abbrev zj:Ctx (Bool):=⟨26,tt,false,false,[],kb [],k9 [aw _ 26 [] qh0 (C:=(qL1×qL1)) (S:=Int) (fun x=>((x.1.1,x.1.2.1),x.1.2.2.1)) qhz (CE:=Unit) (E:=Unit) (fun c e=>((()),(()))) (fun c=>()) (fun{R} c a nx dn rt=>iu c.1 c.2 a nx dn rt)],cp 26 tt [] [.tmp 4] x9 (fun x=>x.1.1)⟩
theorem zh:CtxM Try.prog zj:=li fits bj m0
theorem qi8:ax Try.prog zj 0 (lc 0 Try.f95 75):=lp rfl zh (.two .z (.two (.one (.two (.d [0,0,3,7,0,0,48,112,255] [] []) .z)) .z)) s0 (fun c a=>((c.1,c.2,a,()),(()))) (fun y=>((),()))
abbrev zi:Mdl:=(a9 (.cons (.d false qT1) (.cons (.d false qT1) .nil)) [] [] 1 x9 (B:=Bool) (fun b=>((b,()),(()))) (fun a=>ov a.1.1 a.1.2.1))
theorem qh1:MdlOK Try.prog 95 zi:=lh Try.func95 rfl zh (.two .z (.two .z (.two (.two .z (.s 0)) .z))) (sC qi8 s0)
def qnq:Shp:=⟨[q1p],[]⟩
abbrev qq0:Ctx (Int):=⟨21,tt,false,false,[],kb [(95,zi)],k9 [aw _ 21 [] qwy (C:=(qL1×qL2×(List ao)×Bool)) (S:=Int) (fun x=>((x.1.1,x.2.1.1,x.2.1.2.1,x.2.1.2.2.1),x.1.2.2.1)) qwx (CE:=Unit) (E:=Unit) (fun c e=>((()),(()))) (fun c=>()) (fun{R} c a nx dn rt=>v6 c.1 c.2.1 c.2.2.1 c.2.2.2 a nx dn rt)],cp 21 tt [] [.tmp 4] qnq (fun x=>x.1.1)⟩
theorem qqz:CtxM Try.prog qq0:=li fits bj (mC qh1 m0)
theorem q0x:ax Try.prog qq0 0 (lc 0 Try.f73 37):=lp rfl qqz .z s0 (fun c a=>((c.1,(),a,()),((c.2.1,c.2.2.1,c.2.2.2,()),()))) (fun y=>((),()))
abbrev qhy:Mdl:=(a9 (.cons (.d false io.ty) (.cons (.d false qT1) .nil)) [] [] 1 qnq (B:=Int) (fun b=>((b,()),(()))) (fun a=>zg a.1.1 a.1.2.1))
theorem qj8:MdlOK Try.prog 73 qhy:=lh Try.func73 rfl qqz (.two .z (.two (.two .z (.s 0)) .z)) (sC q0x s0)
def qf2:Shp:=⟨[(0, .d true io.ty),qsr],[]⟩
abbrev me:Ctx ((io×Int)):=⟨113,tt,false,true,[],kb [(37,qe0),(65,tf),(93,qu7),(94,qnr),(73,qhy)],k9 [yu _ 113 [] qpt (A:=(Int×Int×Int×Int×(List ag)×Int×Int×qL2×(List ao)×Bool×Bool×qL2×(List ao))) (fun x=>(x.1.1,(pe4 x.1),(pe5 x.1),x.2.1.1,x.2.1.2.1,x.2.1.2.2.1,(pe3 x.2.1),x.2.2.1.1,x.2.2.1.2.1,x.2.2.1.2.2.1,(pe3 x).2.2.1,(pe4 x),(pe5 x))) qps (CE:=(Int×Int×Int×(List ag)×Int×Int×qL2×(List ao)×Bool×Bool×qL2×(List ao))) (E:=Int) (fun c e=>((c.1,(),(),(),c.2.1,e,()),((c.2.2.1,(pe3 c),(pe4 c),(pe5 c),()),((pe6 c),(pe7 c),(pe8 c),()),((),(),(pe9 c),()),(pe10 c),(pf11 c),()))) (fun c=>(c.1,c.2.1,(pe3 c),(pe4 c),(pe5 c),(pe6 c),(pe7 c),(pe8 c),(pe9 c),(pe10 c),(pe11 c),(pf12 c))) (fun{R} c dn rt=>ii c.1 c.2.1 c.2.2.1 (pe3 c) (pe4 c) (pe5 c) (pe6 c) (pe7 c) (pe8 c) (pe9 c) (pe10 c) (pe11 c) (pf12 c) dn rt),yu _ 113 [] qpv (A:=(Int×Int×Int×qL1×Int×Bool×Int×(List ag)×Int×Int×qL2×(List ao)×Bool×Bool×qL2×(List ao))) (fun x=>(x.1.1,(pe4 x.1),(pe5 x.1),(pe6 x.1),(pe7 x.1),(pe8 x.1),x.2.1.1,x.2.1.2.1,x.2.1.2.2.1,(pe3 x.2.1),x.2.2.1.1,x.2.2.1.2.1,x.2.2.1.2.2.1,(pe3 x).2.2.1,(pe4 x),(pe5 x))) qpu (CE:=(Int×Int×Int×Int×(List ag)×Int×Int×qL2×(List ao)×Bool×Bool×(List ao))) (E:=(Int×qL2)) (fun c e=>((c.1,(),(),(),c.2.1,c.2.2.1,e.1,()),(((pe3 c),(pe4 c),(pe5 c),(pe6 c),()),((pe7 c),(pe8 c),(pe9 c),()),((),(),(pe10 c),()),e.2,(pf11 c),()))) (fun c=>(c.1,c.2.1,c.2.2.1,(pe6 c),(pe7 c),(pe8 c),(pe9 c),(pe10 c),(pe11 c),(pe12 c),(pe13 c),(pf15 c))) (fun{R} c dn rt=>jz c.1 c.2.1 c.2.2.1 (pe3 c) (pe4 c) (pe5 c) (pe6 c) (pe7 c) (pe8 c) (pe9 c) (pe10 c) (pe11 c) (pe12 c) (pe13 c) (pe14 c) (pf15 c) dn rt),yu _ 113 [] qpx (A:=(Int×Int×Int×Int×Int×(List ag)×Int×Int×qL2×(List ao)×Bool×Bool×qL2×(List ao))) (fun x=>(x.1.1,(pe4 x.1),(pe5 x.1),(pe6 x.1),x.2.1.1,x.2.1.2.1,x.2.1.2.2.1,(pe3 x.2.1),x.2.2.1.1,x.2.2.1.2.1,x.2.2.1.2.2.1,(pe3 x).2.2.1,(pe4 x),(pe5 x))) qpw (CE:=(Int×Int×Int×Int×(List ag)×Int×Int×qL2×(List ao)×Bool×Bool×qL2)) (E:=(List ao)) (fun c e=>((c.1,(),(),(),c.2.1,c.2.2.1,()),(((pe3 c),(pe4 c),(pe5 c),(pe6 c),()),((pe7 c),(pe8 c),(pe9 c),()),((),(),(pe10 c),()),(pf11 c),e,()))) (fun c=>(c.1,c.2.1,c.2.2.1,(pe4 c),(pe5 c),(pe6 c),(pe7 c),(pe8 c),(pe9 c),(pe10 c),(pe11 c),(pe12 c))) (fun{R} c dn rt=>mc c.1 c.2.1 c.2.2.1 (pe3 c) (pe4 c) (pe5 c) (pe6 c) (pe7 c) (pe8 c) (pe9 c) (pe10 c) (pe11 c) (pe12 c) (pf13 c) dn rt),aw _ 113 [] qpp (C:=(Int×Int×Int×(List ag)×Int×Int×qL2×(List ao)×Bool)) (S:=(Int×Bool×qL2×(List ao))) (fun x=>((x.1.1,(pe4 x.1),x.2.1.1,x.2.1.2.1,x.2.1.2.2.1,(pe3 x.2.1),x.2.2.1.1,x.2.2.1.2.1,x.2.2.1.2.2.1),((pe5 x.1),(pe3 x).2.2.1,(pe4 x),(pe5 x)))) qpo (CE:=(Int×Int×Int×(List ag)×Int×Int×qL2×(List ao)×Bool)) (E:=(Bool×qL2×(List ao))) (fun c e=>((c.1,(),(),(),c.2.1,()),((c.2.2.1,(pe3 c),(pe4 c),(pe5 c),()),((pe6 c),(pe7 c),(pf8 c),()),((),(),e.1,()),e.2.1,e.2.2,()))) (fun c=>(c.1,c.2.1,c.2.2.1,(pe3 c),(pe4 c),(pe5 c),(pe6 c),(pe7 c),(pf8 c))) (fun{R} c a nx dn rt=>fx c.1 c.2.1 c.2.2.1 (pe3 c) (pe4 c) (pe5 c) (pe6 c) (pe7 c) (pf8 c) a.1 a.2.1 a.2.2.1 a.2.2.2 nx dn rt),aw _ 113 [] qpr (C:=(Int×Int×(List ag)×Int×Int×qL2×(List ao)×Bool)) (S:=(Int×Bool×qL2×(List ao))) (fun x=>((x.1.1,x.2.1.1,x.2.1.2.1,x.2.1.2.2.1,(pe3 x.2.1),x.2.2.1.1,x.2.2.1.2.1,x.2.2.1.2.2.1),((pe4 x.1),(pe3 x).2.2.1,(pe4 x),(pe5 x)))) qpq (CE:=(qL2×(List ao)×Bool)) (E:=(Bool×qL2×(List ao))) (fun c e=>(((),(),()),((c.1,c.2.1,c.2.2,()),((),(),e.1,()),e.2.1,e.2.2,()))) (fun c=>((pe5 c),(pe6 c),(pf7 c))) (fun{R} c a nx dn rt=>jy c.1 c.2.1 c.2.2.1 (pe3 c) (pe4 c) (pe5 c) (pe6 c) (pf7 c) a.1 a.2.1 a.2.2.1 a.2.2.2 nx dn rt)],cp 113 tt [] [.cell 6 87, .tmp 7] qf2 (fun x=>(x.1.1,x.1.2.1))⟩
theorem ma:CtxM Try.prog me:=li fits bj (mC qhu (mC u4 (mC q0u (mC qvh (mC qj8 m0)))))
theorem qsa:ax Try.prog me 1 (jc Try.f72 14567727):=jn rfl ma .z s0 (fun c=>((c.1,(),(),(),c.2.1,c.2.2.1,(pe3 c),(pe4 c),(pe5 c),()),(((pe6 c),(pe7 c),(pe8 c),(pe9 c),()),((pe10 c),(pe11 c),(pe12 c),()),((),(),(pe13 c),()),(pe14 c),(pf15 c),()))) (fun y=>((y.1.1,(pe4 y.1),(pe5 y.1),y.2.1.1,y.2.1.2.1,y.2.1.2.2.1,(pe3 y.2.1),y.2.2.1.1,y.2.2.1.2.1,y.2.2.1.2.2.1,(pe3 y).2.2.1,(pe5 y)),((pe6 y.1),(pe4 y))))
theorem qsb:ax Try.prog me 2 (jc Try.f72 16664879):=jn rfl ma .z s0 (fun c=>((c.1,(),(),(),c.2.1,c.2.2.1,(pe3 c),()),(((pe4 c),(pe5 c),(pe6 c),(pe7 c),()),((pe8 c),(pe9 c),(pe10 c),()),((),(),(pe11 c),()),(pe12 c),(pf13 c),()))) (fun y=>((y.1.1,(pe4 y.1),(pe5 y.1),y.2.1.1,y.2.1.2.1,y.2.1.2.2.1,(pe3 y.2.1),y.2.2.1.1,y.2.2.1.2.1,y.2.2.1.2.2.1,(pe3 y).2.2.1,(pe4 y)),(pe5 y)))
theorem qr9:ax Try.prog me 0 (jc Try.f72 117039):=jn rfl ma .z s0 (fun c=>((c.1,(),(),(),c.2.1,c.2.2.1,()),(((pe3 c),(pe4 c),(pe5 c),(pe6 c),()),((pe7 c),(pe8 c),(pe9 c),()),((),(),(pe10 c),()),(pe11 c),(pf12 c),()))) (fun y=>((y.1.1,(pe4 y.1),y.2.1.1,y.2.1.2.1,y.2.1.2.2.1,(pe3 y.2.1),y.2.2.1.1,y.2.2.1.2.1,y.2.2.1.2.2.1,(pe3 y).2.2.1,(pe4 y),(pe5 y)),(pe5 y.1)))
theorem qsc:ax Try.prog me 3 (lc 2 Try.f72 18735):=lp rfl ma (.two .z (.two (.one (.two (.two (.d [0,0,2,0,14,30,0,127,255] [] []) .z) (.two (.d [0,0,2,0,14,30,0,127,255,511,511,1023,4095] [] []) (.two .z (.two .z (.two (.two .z (.s 1)) (.two .z (.s 2)))))))) (.s 0))) (sC qsa (sC qsb (sC qr9 s0))) (fun c a=>((c.1,(),(),(),c.2.1,a.1,()),((c.2.2.1,(pe3 c),(pe4 c),(pe5 c),()),((pe6 c),(pe7 c),(pf8 c),()),((),(),a.2.1,()),a.2.2.1,a.2.2.2,()))) (fun y=>((y.1.1,(pe4 y.1),y.2.1.1,y.2.1.2.1,y.2.1.2.2.1,(pe3 y.2.1),y.2.2.1.1,y.2.2.1.2.1,y.2.2.1.2.2.1),((pe3 y).2.2.1,(pe4 y),(pe5 y))))
theorem qsd:ax Try.prog me 4 (lc 0 Try.f72 303):=lp rfl ma (.two .z (.two (.one (.two .z (.s 3))) .z)) (sC qsc s0) (fun c a=>((c.1,(),(),(),a.1,()),((c.2.1,c.2.2.1,(pe3 c),(pe4 c),()),((pe5 c),(pe6 c),(pf7 c),()),((),(),a.2.1,()),a.2.2.1,a.2.2.2,()))) (fun y=>((y.2.1.1,y.2.1.2.1,y.2.1.2.2.1),(y.2.2.1.2.2.1,(pe3 y),(pe4 y))))
abbrev qhx:Mdl:=(a9 (.cons (.d false cx.ty) (.cons (.d false qT1) (.cons (.d false qT0) .nil))) [] [] 2 qf2 (B:=(io×Int)) (fun b=>((b.1,b.2,()),(()))) (fun a=>v5 a.1.1 a.1.2.1 a.1.2.2.1))
theorem qpy:MdlOK Try.prog 72 qhx:=lh Try.func72 rfl ma (.two .z (.two .z (.two .z (.two .z (.two (.two .z (.s 4)) .z))))) (sC qsd s0)
def qq2:Shp:=⟨[q4b],[qgy]⟩
abbrev qvk:Ctx (qL1):=⟨22,tt,false,false,[],kb [],k9 [aw _ 22 [] q0z (C:=(Int×Int×(List ag)×Int×Int)) (S:=(Int×qL1)) (fun x=>((x.1.1,x.2.1.1,x.2.1.2.1,x.2.1.2.2.1,(pe3 x.2.1)),((pe3 x.1),x.2.2.1))) q0y (CE:=Unit) (E:=qL1) (fun c e=>(((),()),(e,()))) (fun c=>()) (fun{R} c a nx dn rt=>tl c.1 c.2.1 c.2.2.1 (pe3 c) (pf4 c) a.1 a.2 nx dn rt)],cp 22 tt [] [.tmp 4] qq2 (fun x=>x.2.1)⟩
theorem qvi:CtxM Try.prog qvk:=li fits bj m0
theorem q3f:ax Try.prog qvk 0 (lc 0 Try.f69 75):=lp rfl qvi .z s0 (fun c a=>((c.1,(),(),a.1,()),((c.2.1,c.2.2.1,(pe3 c),(pf4 c),()),a.2,()))) (fun y=>((),y.2.1))
abbrev qvj:Mdl:=(a9 (.cons (.d false cx.ty) (.cons (.d false qT0) .nil)) [] [] 1 qq2 (B:=qL1) (fun b=>(((),()),(b,()))) (fun a=>qpz a.1.1 a.1.2.1))
theorem q00:MdlOK Try.prog 69 qvj:=lh Try.func69 rfl qvi (.two .z (.two .z (.two (.two .z (.s 0)) .z))) (sC q3f s0)
def qj7:Shp:=⟨[q4b],[qgy]⟩
abbrev q0w:Ctx (qL1):=⟨7,tt,false,false,[],kb [(69,qvj)],k9 [],cp 7 tt [] [.tmp 2] qj7 (fun x=>x.2.1)⟩
theorem q0v:CtxM Try.prog q0w:=li fits bj (mC q00 m0)
abbrev qno:Mdl:=(a9 (.cons (.d false cx.ty) .nil) [] [] 1 qj7 (B:=qL1) (fun b=>(((),()),(b,()))) (fun a=>qal a.1.1))
theorem qvc:MdlOK Try.prog 38 qno:=lh Try.func38 rfl q0v .z s0
def qdo:Shp:=⟨[q7j],[q5d]⟩
abbrev xw:Ctx ((List Bool)):=⟨58,tt,false,false,[],kb [],k9 [aw _ 58 [] qn2 (C:=(Int×qL2×(List ao)×Bool)) (S:=(Bool×Int×(List Bool))) (fun x=>((x.1.1,x.2.1.1,x.2.1.2.1,x.2.1.2.2.1),((pe3 x.1),(pe4 x.1),x.2.2.1))) qn1 (CE:=(Int×qL2×(List ao)×Bool)) (E:=(Bool×(List Bool))) (fun c e=>((c.1,(),(),e.1,()),((c.2.1,c.2.2.1,c.2.2.2,()),e.2,()))) (fun c=>(c.1,c.2.1,c.2.2.1,c.2.2.2)) (fun{R} c a nx dn rt=>gi c.1 c.2.1 c.2.2.1 c.2.2.2 a.1 a.2.1 a.2.2 nx dn rt),aw _ 58 [] qn4 (C:=(Int×qL2×(List ao)×Bool)) (S:=(List Bool)) (fun x=>((x.1.1,x.2.1.1,x.2.1.2.1,x.2.1.2.2.1),x.2.2.1)) qn3 (CE:=Unit) (E:=Unit) (fun c e=>((()),(()))) (fun c=>()) (fun{R} c a nx dn rt=>ez c.1 c.2.1 c.2.2.1 c.2.2.2 a nx dn rt)],cp 58 tt [] [.tmp 6] qdo (fun x=>x.2.1)⟩
theorem xu:CtxM Try.prog xw:=li fits bj m0
theorem qp2:ax Try.prog xw 0 (lc 2 Try.f54 2375):=lp rfl xu .z s0 (fun c a=>((c.1,(),(),a.1,a.2.1,()),((c.2.1,c.2.2.1,c.2.2.2,()),a.2.2,()))) (fun y=>((y.1.1,y.2.1.1,y.2.1.2.1,y.2.1.2.2.1),((pe3 y.1),y.2.2.1)))
theorem qp3:ax Try.prog xw 1 (lc 0 Try.f54 39):=lp rfl xu (.one (.two .z (.two (.two .z (.s 0)) .z))) (sC qp2 s0) (fun c a=>((c.1,(),(),()),((c.2.1,c.2.2.1,c.2.2.2,()),a,()))) (fun y=>((),()))
abbrev qo:Mdl:=(a9 (.cons (.d false io.ty) (.cons (.d false qT0) (.cons (.d false qT0) .nil))) [] [] 1 qdo (B:=(List Bool)) (fun b=>(((),()),(b,()))) (fun a=>iv a.1.1 a.1.2.1 a.1.2.2.1))
theorem tn:MdlOK Try.prog 54 qo:=lh Try.func54 rfl xu (.two .z (.two .z (.two .z (.s 1)))) (sC qp3 s0)
def qnu:Shp:=⟨[(0, .d true be.ty),qsr],[]⟩
abbrev q3h:Ctx ((be×Int)):=⟨64,tt,false,false,[],kb [(37,qe0),(65,tf),(28,qnz),(72,qhx),(38,qno),(73,qhy),(54,qo)],k9 [],cp 64 tt [] [.cell 8 90, .tmp 9] qnu (fun x=>(x.1.1,x.1.2.1))⟩
theorem q3g:CtxM Try.prog q3h:=li fits bj (mC qhu (mC u4 (mC qvr (mC qpy (mC qvc (mC qj8 (mC tn m0)))))))
abbrev qat:Mdl:=(a9 (.cons (.d false cx.ty) (.cons (.d false qT1) (.cons (.d false (.slice af.ty)) (.cons (.d false qT0) .nil)))) [] [] 2 qnu (B:=(be×Int)) (fun b=>((b.1,b.2,()),(()))) (fun a=>bw a.1.1 a.1.2.1 a.1.2.2.1 (pe3 a.1)))
theorem qb2:MdlOK Try.prog 45 qat:=lh Try.func45 rfl q3g (.two .z (.two .z (.two .z (.two .z (.two .z (.two (.d [0,0,2,7,15] [] []) (.two (.d [0,0,0,0,12,31,0,127] [7] []) .z))))))) s0
def qn5:Shp:=⟨[q1p],[]⟩
abbrev q3j:Ctx (Int):=⟨10,tt,false,false,[],kb [],k9 [],cp 10 tt [] [.tmp 4] qn5 (fun x=>x.1.1)⟩
theorem q3i:CtxM Try.prog q3j:=li fits bj m0
abbrev qh5:Mdl:=(a9 (.cons (.d false af.ty) (.cons (.d false .bool) .nil)) [] [] 1 qn5 (B:=Int) (fun b=>((b,()),(()))) (fun a=>qx a.1.1 a.1.2.1))
theorem qkg:MdlOK Try.prog 74 qh5:=lh Try.func74 rfl q3i .z s0
def qh4:Shp:=⟨[qjh],[]⟩
abbrev qw9:Ctx (Bool):=⟨34,tt,false,false,[],kb [],k9 [],cp 34 tt [] [.tmp 6] qh4 (fun x=>x.1.1)⟩
theorem qw8:CtxM Try.prog qw9:=li fits bj m0
abbrev qkf:Mdl:=(a9 (.cons (.d false af.ty) (.cons (.d false af.ty) (.cons (.d false .bool) .nil))) [] [] 1 qh4 (B:=Bool) (fun b=>((b,()),(()))) (fun a=>qe3 a.1.1 a.1.2.1 a.1.2.2.1))
theorem qse:MdlOK Try.prog 88 qkf:=lh Try.func88 rfl qw8 .z s0
def sc:Shp:=⟨[q7j],[q8b]⟩
abbrev nh:Ctx ((List af)):=⟨81,tt,false,false,[],kb [(74,qh5),(88,qkf)],k9 [aw _ 81 [] qby (C:=((List af)×Bool×qL2×(List ao)×Bool×Int×(List Bool))) (S:=(Bool×Int×(List af))) (fun x=>((x.1.1,x.1.2.1,x.2.1.1,x.2.1.2.1,x.2.1.2.2.1,(pe3 x.2.1),(pe4 x.2.1)),((pe4 x.1),(pe5 x.1),x.2.2.1))) qbx (CE:=((List af)×Bool×qL2×(List ao)×Bool×Int×(List Bool))) (E:=(Bool×(List af))) (fun c e=>((c.1,c.2.1,(),(),e.1,()),((c.2.2.1,(pe3 c),(pe4 c),(pe5 c),(pf6 c),()),e.2,()))) (fun c=>(c.1,c.2.1,c.2.2.1,(pe3 c),(pe4 c),(pe5 c),(pf6 c))) (fun{R} c a nx dn rt=>dq c.1 c.2.1 c.2.2.1 (pe3 c) (pe4 c) (pe5 c) (pf6 c) a.1 a.2.1 a.2.2 nx dn rt),aw _ 81 [] qb0 (C:=((List af)×Bool×qL2×(List ao)×Bool×Int×(List Bool))) (S:=(List af)) (fun x=>((x.1.1,x.1.2.1,x.2.1.1,x.2.1.2.1,x.2.1.2.2.1,(pe3 x.2.1),(pe4 x.2.1)),x.2.2.1)) qbz (CE:=Unit) (E:=Unit) (fun c e=>((()),(()))) (fun c=>()) (fun{R} c a nx dn rt=>dr c.1 c.2.1 c.2.2.1 (pe3 c) (pe4 c) (pe5 c) (pf6 c) a nx dn rt)],cp 81 tt [] [.tmp 6] sc (fun x=>x.2.1)⟩
theorem ng:CtxM Try.prog nh:=li fits bj (mC qkg (mC qse m0))
theorem qdl:ax Try.prog nh 0 (lc 2 Try.f63 2375):=lp rfl ng (.two .z (.two (.one (.two .z (.two .z (.two (.d [0,0,2,7,15,31,0,0,128,448,960,0,4032,8191,0,0,32768,114688,245760,507904,1032192,2097151,0,8388607] [23] []) (.two (.d [0,0,0,4,14,30,0,127] [] []) .z))))) .z)) s0 (fun c a=>((c.1,c.2.1,(),(),a.1,a.2.1,()),((c.2.2.1,(pe3 c),(pe4 c),(pe5 c),(pf6 c),()),a.2.2,()))) (fun y=>((y.1.1,y.1.2.1,y.2.1.1,y.2.1.2.1,y.2.1.2.2.1,(pe3 y.2.1),(pe4 y.2.1)),((pe4 y.1),y.2.2.1)))
theorem qdm:ax Try.prog nh 1 (lc 0 Try.f63 39):=lp rfl ng (.one (.two .z (.two (.two .z (.s 0)) .z))) (sC qdl s0) (fun c a=>((c.1,c.2.1,(),(),()),((c.2.2.1,(pe3 c),(pe4 c),(pe5 c),(pf6 c),()),a,()))) (fun y=>((),()))
abbrev tm:Mdl:=(a9 (.cons (.d false be.ty) (.cons (.d false (.slice af.ty)) (.cons (.d false .bool) .nil))) [] [] 1 sc (B:=(List af)) (fun b=>(((),()),(b,()))) (fun a=>cw a.1.1 a.1.2.1 a.1.2.2.1))
theorem qb1:MdlOK Try.prog 63 tm:=lh Try.func63 rfl ng (.two .z (.two .z (.two .z (.s 1)))) (sC qdm s0)
def qas:Shp:=⟨[q4b],[qgy]⟩
abbrev u7:Ctx (qL1):=⟨93,tt,false,false,[],kb [(63,tm),(74,qh5)],k9 [aw _ 93 [] qlj (C:=((List af)×Bool×(List af)×Int×qL2×(List ao)×Bool×Int×(List Bool)×qL1)) (S:=Int) (fun x=>((x.1.1,x.1.2.1,(pe3 x.1),(pe5 x.1),x.2.1.1,x.2.1.2.1,x.2.1.2.2.1,(pe3 x.2.1),(pe4 x.2.1),x.2.2.1),(pe6 x.1))) qli (CE:=((List af)×Bool×(List af)×qL2×(List ao)×Bool×Int×(List Bool))) (E:=(Int×qL1)) (fun c e=>((c.1,c.2.1,(),c.2.2.1,(),e.1,()),(((pe3 c),(pe4 c),(pe5 c),(pe6 c),(pf7 c),()),e.2,()))) (fun c=>(c.1,c.2.1,c.2.2.1,(pe4 c),(pe5 c),(pe6 c),(pe7 c),(pe8 c))) (fun{R} c a nx dn rt=>cj c.1 c.2.1 c.2.2.1 (pe3 c) (pe4 c) (pe5 c) (pe6 c) (pe7 c) (pe8 c) (pf9 c) a nx dn rt),aw _ 93 [] qll (C:=((List af)×Bool×(List af)×qL2×(List ao)×Bool×Int×(List Bool))) (S:=(Int×qL1)) (fun x=>((x.1.1,x.1.2.1,(pe3 x.1),x.2.1.1,x.2.1.2.1,x.2.1.2.2.1,(pe3 x.2.1),(pe4 x.2.1)),((pe5 x.1),x.2.2.1))) qlk (CE:=Unit) (E:=qL1) (fun c e=>(((),()),(e,()))) (fun c=>()) (fun{R} c a nx dn rt=>j5 c.1 c.2.1 c.2.2.1 (pe3 c) (pe4 c) (pe5 c) (pe6 c) (pf7 c) a.1 a.2 nx dn rt)],cp 93 tt [] [.tmp 6] qas (fun x=>x.2.1)⟩
theorem u5:CtxM Try.prog u7:=li fits bj (mC qb1 (mC qkg m0))
theorem qns:ax Try.prog u7 0 (lc 2 Try.f46 4751):=lp rfl u5 (.two .z (.two (.one (.two .z (.two (.d [0,1,0,7,15,31,31,95,255,511,1023,2047,4095,8191,8191,24575,65535,131071,262143,8191,8191,1056767,3678207,7872511,8191,33038335,67108863,8191,8191,402661375,939532287,2013274111,4294967295,8589934591,17179869183,34359738367,34359738367,103079215103,274877906943,549755813887,1099511627775,2199023255551,34359738367,34359738367,13228499271679,30820685316095,66005057404927,140737488355327,281474976710655] [] []) .z))) .z)) s0 (fun c a=>((c.1,c.2.1,(),c.2.2.1,(),(pe3 c),a,()),(((pe4 c),(pe5 c),(pe6 c),(pe7 c),(pe8 c),()),(pf9 c),()))) (fun y=>((y.1.1,y.1.2.1,(pe3 y.1),y.2.1.1,y.2.1.2.1,y.2.1.2.2.1,(pe3 y.2.1),(pe4 y.2.1)),((pe5 y.1),y.2.2.1)))
theorem qnt:ax Try.prog u7 1 (lc 0 Try.f46 143):=lp rfl u5 (.two .z (.one (.two .z (.s 0)))) (sC qns s0) (fun c a=>((c.1,c.2.1,(),c.2.2.1,(),a.1,()),(((pe3 c),(pe4 c),(pe5 c),(pe6 c),(pf7 c),()),a.2,()))) (fun y=>((),y.2.1))
abbrev u6:Mdl:=(a9 (.cons (.d false be.ty) (.cons (.d false (.slice af.ty)) (.cons (.d false .bool) .nil))) [] [] 1 qas (B:=qL1) (fun b=>(((),()),(b,()))) (fun a=>nu a.1.1 a.1.2.1 a.1.2.2.1))
theorem zl:MdlOK Try.prog 46 u6:=lh Try.func46 rfl u5 (.two .z (.two .z (.two .z (.two .z (.two (.s 1) .z))))) (sC qnt s0)
def qf3:Shp:=⟨[q4b,qsr],[qgy]⟩
abbrev qvm:Ctx ((Int×qL1)):=⟨26,tt,false,false,[],kb [(45,qat),(46,u6)],k9 [],cp 26 tt [] [.tmp 8, .tmp 9] qf3 (fun x=>(x.1.2.1,x.2.1))⟩
theorem qvl:CtxM Try.prog qvm:=li fits bj (mC qb2 (mC zl m0))
abbrev qh2:Mdl:=(a9 (.cons (.d false cx.ty) (.cons (.d false qT1) (.cons (.d false (.slice af.ty)) (.cons (.d false qT0) .nil)))) [] [] 2 qf3 (B:=(Int×qL1)) (fun b=>(((),b.1,()),(b.2,()))) (fun a=>lb a.1.1 a.1.2.1 a.1.2.2.1 (pe3 a.1)))
theorem qp0:MdlOK Try.prog 12 qh2:=lh Try.func12 rfl qvl .z s0
def za:Shp:=⟨[q7j,qsr],[qgy]⟩
abbrev qnh:Ctx ((Int×qL1)):=⟨38,tt,false,false,[],kb [(41,o8),(42,d8),(47,lx),(43,oj)],k9 [],cp 38 tt [] [.tmp 8, .tmp 9] za (fun x=>(x.1.2.1,x.2.1))⟩
theorem qng:CtxM Try.prog qnh:=li fits bj (mC pt (mC ea (mC oe (mC rq m0))))
abbrev qae:Mdl:=(a9 (.cons (.d false cx.ty) (.cons (.d false qT1) (.cons (.d false (.slice af.ty)) (.cons (.d false qT0) .nil)))) [] [] 2 za (B:=(Int×qL1)) (fun b=>(((),b.1,()),(b.2,()))) (fun a=>c7 a.1.1 a.1.2.1 a.1.2.2.1 (pe3 a.1)))
theorem qi6:MdlOK Try.prog 13 qae:=lh Try.func13 rfl qng .z s0
def xa:Shp:=⟨[qjh],[]⟩
abbrev qjd:Ctx (Bool):=⟨11,tt,false,false,[],kb [],k9 [],cp 11 tt [] [.tmp 4] xa (fun x=>x.1.1)⟩
theorem qjc:CtxM Try.prog qjd:=li fits bj m0
abbrev ya:Mdl:=(a9 (.cons (.d false be.ty) (.cons (.d false ao.ty) .nil)) [] [] 1 xa (B:=Bool) (fun b=>((b,()),(()))) (fun a=>fo a.1.1 a.1.2.1))
theorem qgl:MdlOK Try.prog 76 ya:=lh Try.func76 rfl qjc .z s0
def zk:Shp:=⟨[qjh],[]⟩
abbrev qap:Ctx (Bool):=⟨49,tt,false,false,[],kb [(76,ya),(54,qo)],k9 [aw _ 49 [] qja (C:=((List af)×qL2×(List ao)×Bool×Int×(List Bool))) (S:=Int) (fun x=>((x.1.1,x.2.1.1,x.2.1.2.1,x.2.1.2.2.1,(pe3 x.2.1),(pe4 x.2.1)),x.1.2.2.1)) qi9 (CE:=Unit) (E:=Unit) (fun c e=>((()),(()))) (fun c=>()) (fun{R} c a nx dn rt=>ay c.1 c.2.1 c.2.2.1 (pe3 c) (pe4 c) (pf5 c) a nx dn rt)],cp 49 tt [] [.tmp 4] zk (fun x=>x.1.1)⟩
theorem qan:CtxM Try.prog qap:=li fits bj (mC qgl (mC tn m0))
theorem qlh:ax Try.prog qap 0 (lc 0 Try.f49 37):=lp rfl qan (.two .z (.two (.one (.two .z (.two .z (.two .z (.two (.d [0,0,2,7,15,31,63,127,255,511,255,1279,4095,255,8447,32767,65535,131071] [] []) .z))))) .z)) s0 (fun c a=>((c.1,(),a,()),((c.2.1,c.2.2.1,(pe3 c),(pe4 c),(pf5 c),()),()))) (fun y=>((),()))
abbrev qao:Mdl:=(a9 (.cons (.d false be.ty) (.cons (.d false (.slice af.ty)) .nil)) [] [] 1 zk (B:=Bool) (fun b=>((b,()),(()))) (fun a=>eb a.1.1 a.1.2.1))
theorem qjb:MdlOK Try.prog 49 qao:=lh Try.func49 rfl qan (.two .z (.two (.two .z (.s 0)) .z)) (sC qlh s0)
def qf4:Shp:=⟨[q4b,qsr],[qgy]⟩
abbrev qvo:Ctx ((Int×qL1)):=⟨29,tt,false,false,[],kb [(45,qat),(49,qao),(46,u6)],k9 [],cp 29 tt [] [.tmp 8, .tmp 9] qf4 (fun x=>(x.1.2.1,x.2.1))⟩
theorem qvn:CtxM Try.prog qvo:=li fits bj (mC qb2 (mC qjb (mC zl m0)))
abbrev qh3:Mdl:=(a9 (.cons (.d false cx.ty) (.cons (.d false qT1) (.cons (.d false (.slice af.ty)) (.cons (.d false qT0) .nil)))) [] [] 2 qf4 (B:=(Int×qL1)) (fun b=>(((),b.1,()),(b.2,()))) (fun a=>ge a.1.1 a.1.2.1 a.1.2.2.1 (pe3 a.1)))
theorem qp1:MdlOK Try.prog 14 qh3:=lh Try.func14 rfl qvn .z s0
def qft:Shp:=⟨[q4b,qsr],[qgy]⟩
abbrev qhe:Ctx ((Int×qL1)):=⟨50,tt,false,false,[],kb [(50,po),(51,pq),(42,d8),(52,na)],k9 [aw _ 50 [] qpe (C:=(Int×(List (Int×(List ab)))×Int×Int)) (S:=(Int×qL1)) (fun x=>((x.1.2.2.1,x.2.1.1,x.2.1.2.1,x.2.1.2.2.1),((pe3 x.1),x.2.2.1))) qpd (CE:=Unit) (E:=qL1) (fun c e=>(((),()),(e,()))) (fun c=>()) (fun{R} c a nx dn rt=>l9 c.1 c.2.1 c.2.2.1 c.2.2.2 a.1 a.2 nx dn rt)],cp 50 tt [] [.tmp 6, .tmp 7] qft (fun x=>(x.1.2.1,x.2.1))⟩
theorem qhc:CtxM Try.prog qhe:=li fits bj (mC o7 (mC qv (mC ea (mC qi m0))))
theorem qrv:ax Try.prog qhe 0 (lc 0 Try.f15 1215):=lp rfl qhc .z s0 (fun c a=>(((),(),c.1,a.1,()),((c.2.1,c.2.2.1,c.2.2.2,()),a.2,()))) (fun y=>((),y.2.1))
abbrev qhd:Mdl:=(a9 (.cons (.d false cx.ty) (.cons (.d false qT1) (.cons (.d false qT0) .nil))) [] [] 2 qft (B:=(Int×qL1)) (fun b=>(((),b.1,()),(b.2,()))) (fun a=>jw a.1.1 a.1.2.1 a.1.2.2.1))
theorem qpf:MdlOK Try.prog 15 qhd:=lh Try.func15 rfl qhc (.two .z (.two .z (.two .z (.two .z (.two .z (.two .z (.two (.two .z (.s 0)) .z))))))) (sC qrv s0)
def qnx:Shp:=⟨[q4b],[jcf]⟩
abbrev qq8:Ctx ((List af)):=⟨15,tt,false,false,[],kb [],k9 [aw _ 15 [] qw5 (C:=Int) (S:=(Int×(List af))) (fun x=>(x.1.1,(x.1.2.2.1,x.2.1))) qw4 (CE:=Unit) (E:=(List af)) (fun c e=>(((),()),(e,()))) (fun c=>()) (fun{R} c a nx dn rt=>qkc c a.1 a.2 nx dn rt)],cp 15 tt [] [.tmp 2] qnx (fun x=>x.2.1)⟩
theorem qq6:CtxM Try.prog qq8:=li fits bj m0
theorem q03:ax Try.prog qq8 0 (lc 0 Try.f53 75):=lp rfl qq6 .z s0 (fun c a=>((c,(),a.1,()),(a.2,()))) (fun y=>((),y.2.1))
abbrev qq7:Mdl:=(a9 (.cons (.d false qT0) .nil) [] [] 1 qnx (B:=(List af)) (fun b=>(((),()),(b,()))) (fun a=>qlm a.1.1))
theorem qw6:MdlOK Try.prog 53 qq7:=lh Try.func53 rfl qq6 (.two .z (.two .z (.two (.two .z (.s 0)) .z))) (sC q03 s0)
def qnw:Shp:=⟨[q4b,qsr],[qgy]⟩
abbrev qq5:Ctx ((Int×qL1)):=⟨47,tt,false,false,[],kb [(53,qq7),(45,qat),(54,qo)],k9 [aw _ 47 [] qw2 (C:=(Int×(List ag)×Int×Int×qL2×(List ao)×Bool×Int×(List Bool))) (S:=(Int×qL1)) (fun x=>((x.2.1.1,x.2.1.2.1,x.2.1.2.2.1,(pe3 x.2.1),x.2.2.1.1,x.2.2.1.2.1,x.2.2.1.2.2.1,(pe3 x.2.2.1),(pe4 x.2.2.1)),((pe3 x.1),(pe3 x)))) qw1 (CE:=Unit) (E:=qL1) (fun c e=>(((),()),(e,()))) (fun c=>()) (fun{R} c a nx dn rt=>qj c.1 c.2.1 c.2.2.1 (pe3 c) (pe4 c) (pe5 c) (pe6 c) (pe7 c) (pf8 c) a.1 a.2 nx dn rt)],cp 47 tt [] [.tmp 6, .tmp 7] qnw (fun x=>(x.1.2.1,x.2.1))⟩
theorem qq3:CtxM Try.prog qq5:=li fits bj (mC qw6 (mC qb2 (mC tn m0)))
theorem q01:ax Try.prog qq5 0 (lc 0 Try.f16 303):=lp rfl qq3 .z s0 (fun c a=>(((),(),(),a.1,()),((c.1,c.2.1,c.2.2.1,(pe3 c),()),((pe4 c),(pe5 c),(pe6 c),(pe7 c),(pf8 c),()),a.2,()))) (fun y=>((),y.2.1))
abbrev qq4:Mdl:=(a9 (.cons (.d false cx.ty) (.cons (.d false qT1) (.cons (.d false qT0) .nil))) [] [] 2 qnw (B:=(Int×qL1)) (fun b=>(((),b.1,()),(b.2,()))) (fun a=>ni a.1.1 a.1.2.1 a.1.2.2.1))
theorem qw3:MdlOK Try.prog 16 qq4:=lh Try.func16 rfl qq3 (.two .z (.two (.d [0,0,0,4,12,28,0,127,255,511,511,0,3071,8191] [12] []) (.two .z (.two .z (.two (.two .z (.s 0)) .z))))) (sC q01 s0)
def x3:Shp:=⟨[qjh],[]⟩
abbrev yw:Ctx (Bool):=⟨110,tt,false,false,[],kb [(9,qmp),(10,qtz),(11,qcn),(12,qh2),(13,qae),(14,qh3),(15,qhd),(16,qq4),(17,j7)],k9 [yu _ 110 [] qg1 (A:=(qL1×(List af)×Int×Int×(List ag)×Int×Int)) (fun x=>(x.1.1,x.1.2.1,x.1.2.2.1,x.2.1.1,x.2.1.2.1,x.2.1.2.2.1,(pe3 x.2.1))) qg0 (CE:=Unit) (E:=Unit) (fun c e=>((()),(()))) (fun c=>()) (fun{R} c dn rt=>o5 c.1 c.2.1 c.2.2.1 (pe3 c) (pe4 c) (pe5 c) (pf6 c) dn rt)],cp 110 tt [] [.tmp 8] x3 (fun x=>x.1.1)⟩
theorem yv:CtxM Try.prog yw:=li fits bj (mC qty (mC qz1 (mC qk2 (mC qp0 (mC qi6 (mC qp1 (mC qpf (mC qw3 (mC mf m0)))))))))
theorem qi3:ax Try.prog yw 0 (jc Try.f3 15):=jn rfl yv .z s0 (fun c=>((c.1,c.2.1,c.2.2.1,(),()),(((pe3 c),(pe4 c),(pe5 c),(pf6 c),()),()))) (fun y=>((),()))
abbrev qkr:Mdl:=(a9 (.cons (.d true cx.ty) (.cons (.d true qT1) (.cons (.d true (.slice af.ty)) (.cons (.d true qT0) .nil)))) [] [] 1 x3 (B:=Bool) (fun b=>((b,()),(()))) (fun a=>su a.1.1 a.1.2.1 a.1.2.2.1 (pe3 a.1)))
theorem qg2:MdlOK Try.prog 3 qkr:=lh Try.func3 rfl yv (.two .z (.two .z (.two .z (.s 0)))) (sC qi3 s0)
end
end Go.Proofs.Ytokeielgplbdeaa
