/-
  The functions compute what their models say. Made by program (mg3.py) out of the translation.
-/
import Derived.Test.YtokeielgplbdeaaZ5Md
import Derived.Test.YtokeielgplbdeaaZ5Tt
set_option linter.all false
set_option maxRecDepth 100000
namespace Go.Proofs.Ytokeielgplbdeaa
open Go.K Go.M
abbrev pe3{A0 A1 A2 A3 A4:Type}(x:A0×A1×A2×A3×A4):A3:=x.2.2.2.1
abbrev pe4{A0 A1 A2 A3 A4 A5:Type}(x:A0×A1×A2×A3×A4×A5):A4:=x.2.2.2.2.1
abbrev pe5{A0 A1 A2 A3 A4 A5 A6:Type}(x:A0×A1×A2×A3×A4×A5×A6):A5:=x.2.2.2.2.2.1
abbrev pe6{A0 A1 A2 A3 A4 A5 A6 A7:Type}(x:A0×A1×A2×A3×A4×A5×A6×A7):A6:=x.2.2.2.2.2.2.1
abbrev pe7{A0 A1 A2 A3 A4 A5 A6 A7 A8:Type}(x:A0×A1×A2×A3×A4×A5×A6×A7×A8):A7:=x.2.2.2.2.2.2.2.1
abbrev pe8{A0 A1 A2 A3 A4 A5 A6 A7 A8 A9:Type}(x:A0×A1×A2×A3×A4×A5×A6×A7×A8×A9):A8:=x.2.2.2.2.2.2.2.2.1
abbrev pe9{A0 A1 A2 A3 A4 A5 A6 A7 A8 A9 A10:Type}(x:A0×A1×A2×A3×A4×A5×A6×A7×A8×A9×A10):A9:=x.2.2.2.2.2.2.2.2.2.1
abbrev pe10{A0 A1 A2 A3 A4 A5 A6 A7 A8 A9 A10 A11:Type}(x:A0×A1×A2×A3×A4×A5×A6×A7×A8×A9×A10×A11):A10:=x.2.2.2.2.2.2.2.2.2.2.1
abbrev pe11{A0 A1 A2 A3 A4 A5 A6 A7 A8 A9 A10 A11 A12:Type}(x:A0×A1×A2×A3×A4×A5×A6×A7×A8×A9×A10×A11×A12):A11:=x.2.2.2.2.2.2.2.2.2.2.2.1
abbrev pe12{A0 A1 A2 A3 A4 A5 A6 A7 A8 A9 A10 A11 A12 A13:Type}(x:A0×A1×A2×A3×A4×A5×A6×A7×A8×A9×A10×A11×A12×A13):A12:=x.2.2.2.2.2.2.2.2.2.2.2.2.1
abbrev pf4{A0 A1 A2 A3 A4:Type}(x:A0×A1×A2×A3×A4):A4:=x.2.2.2.2
abbrev pf5{A0 A1 A2 A3 A4 A5:Type}(x:A0×A1×A2×A3×A4×A5):A5:=x.2.2.2.2.2
abbrev pf6{A0 A1 A2 A3 A4 A5 A6:Type}(x:A0×A1×A2×A3×A4×A5×A6):A6:=x.2.2.2.2.2.2
abbrev pf7{A0 A1 A2 A3 A4 A5 A6 A7:Type}(x:A0×A1×A2×A3×A4×A5×A6×A7):A7:=x.2.2.2.2.2.2.2
abbrev pf8{A0 A1 A2 A3 A4 A5 A6 A7 A8:Type}(x:A0×A1×A2×A3×A4×A5×A6×A7×A8):A8:=x.2.2.2.2.2.2.2.2
abbrev pf10{A0 A1 A2 A3 A4 A5 A6 A7 A8 A9 A10:Type}(x:A0×A1×A2×A3×A4×A5×A6×A7×A8×A9×A10):A10:=x.2.2.2.2.2.2.2.2.2.2
abbrev pf11{A0 A1 A2 A3 A4 A5 A6 A7 A8 A9 A10 A11:Type}(x:A0×A1×A2×A3×A4×A5×A6×A7×A8×A9×A10×A11):A11:=x.2.2.2.2.2.2.2.2.2.2.2
noncomputable section
def qhm:Shp:=⟨[qg6],[]⟩
abbrev qu6:Ctx (Bool):=⟨17,tt,false,false,[],p6 [],ry [],fx 17 tt [] [.tmp 2] qhm (fun x=>x.1.1)⟩
theorem qu5:CtxM Try.prog qu6:=sd fits cu m0
abbrev qde:Mdl:=(bw (.cons (.d false (.int .u8)) .nil) [] [] 1 qhm (B:=Bool) (fun b=>((b,()),(()))) (fun a=>v9 a.1.1))
theorem qfu:MdlOK Try.prog 96 qde:=sc Try.func96 rfl qu5 .z s0
def qm1:Shp:=⟨[qg6],[]⟩
abbrev qzn:Ctx (Bool):=⟨25,tt,false,false,[],p6 [(96,qde)],ry [],fx 25 tt [] [.tmp 2] qm1 (fun x=>x.1.1)⟩
theorem qzm:CtxM Try.prog qzn:=sd fits cu (mC qfu m0)
abbrev qp1:Mdl:=(bw (.cons (.d false (.int .u8)) .nil) [] [] 1 qm1 (B:=Bool) (fun b=>((b,()),(()))) (fun a=>qgv a.1.1))
theorem qu7:MdlOK Try.prog 97 qp1:=sc Try.func97 rfl qzm .z s0
def qhl:Shp:=⟨[qg6],[]⟩
abbrev qkc:Ctx (Bool):=⟨29,tt,false,false,[],p6 [(96,qde),(97,qp1)],ry [b7 _ 29 [] qpz (C:=(ByteArray×Int)) (S:=Int) (fun x=>((x.1.1,x.1.2.1),x.1.2.2.1)) qpy (CE:=Unit) (E:=Unit) (fun c e=>((()),(()))) (fun c=>()) (fun{R} c a nx dn rt=>ox c.1 c.2 a nx dn rt)],fx 29 tt [] [.tmp 2] qhl (fun x=>x.1.1)⟩
theorem qka:CtxM Try.prog qkc:=sd fits cu (mC qfu (mC qu7 m0))
theorem qro:bk Try.prog qkc 0 (lc 0 Try.f77 75):=lp rfl qka .z s0 (fun c a=>((c.1,c.2,a,()),(()))) (fun y=>((),()))
abbrev qkb:Mdl:=(bw (.cons (.d false .str) .nil) [] [] 1 qhl (B:=Bool) (fun b=>((b,()),(()))) (fun a=>zl a.1.1))
theorem qp0:MdlOK Try.prog 77 qkb:=sc Try.func77 rfl qka (.two .z (.two .z (.two (.two .z (.s 0)) .z))) (sC qro s0)
def qf0:Shp:=⟨[qg6],[]⟩
abbrev qhu:Ctx (Bool):=⟨36,tt,false,false,[],p6 [],ry [b7 _ 36 [] qnu (C:=(qL1×qL1×Int×Int×(List aj)×Int×Int)) (S:=Int) (fun x=>((x.1.1,x.1.2.2.1,(pe3 x.1),x.2.1.1,x.2.1.2.1,x.2.1.2.2.1,(pe3 x.2.1)),(pe4 x.1))) qnt (CE:=Unit) (E:=Unit) (fun c e=>((()),(()))) (fun c=>()) (fun{R} c a nx dn rt=>ko c.1 c.2.1 c.2.2.1 (pe3 c) (pe4 c) (pe5 c) (pf6 c) a nx dn rt)],fx 36 tt [] [.tmp 4] qf0 (fun x=>x.1.1)⟩
theorem qhs:CtxM Try.prog qhu:=sd fits cu m0
theorem qqi:bk Try.prog qhu 0 (lc 0 Try.f78 37):=lp rfl qhs .z s0 (fun c a=>((c.1,(),c.2.1,c.2.2.1,a,()),(((pe3 c),(pe4 c),(pe5 c),(pf6 c),()),()))) (fun y=>((),()))
abbrev qht:Mdl:=(bw (.cons (.d false dr.ty) (.cons (.d false qT1) .nil)) [] [] 1 qf0 (B:=Bool) (fun b=>((b,()),(()))) (fun a=>jq a.1.1 a.1.2.1))
theorem qnv:MdlOK Try.prog 78 qht:=sc Try.func78 rfl qhs (.two .z (.two (.two .z (.s 0)) .z)) (sC qqi s0)
def qhr:Shp:=⟨[qg6],[]⟩
abbrev qkn:Ctx (Bool):=⟨62,tt,false,false,[],p6 [(77,qkb),(78,qht)],ry [b7 _ 62 [] qqc (C:=((List aj)×Int×Int×(List aj)×Int×Int)) (S:=Int) (fun x=>((x.1.2.1,x.1.2.2.1,x.2.1.1,x.2.1.2.1,x.2.1.2.2.1,(pe3 x.2.1)),(pe3 x.1))) qqb (CE:=(Int×(List aj)×Int×Int)) (E:=Unit) (fun c e=>(((),()),((c.1,c.2.1,c.2.2.1,c.2.2.2,()),()))) (fun c=>(c.2.2.1,(pe3 c),(pe4 c),(pf5 c))) (fun{R} c a nx dn rt=>ss c.1 c.2.1 c.2.2.1 (pe3 c) (pe4 c) (pf5 c) a nx dn rt)],fx 62 tt [] [.tmp 2] qhr (fun x=>x.1.1)⟩
theorem qkm:CtxM Try.prog qkn:=sd fits cu (mC qp0 (mC qnv m0))
theorem qrr:bk Try.prog qkn 0 (lc 0 Try.f50 75):=lp rfl qkm .z s0 (fun c a=>(((),c.1,c.2.1,a,()),((c.2.2.1,(pe3 c),(pe4 c),(pf5 c),()),()))) (fun y=>((y.2.1.1,y.2.1.2.1,y.2.1.2.2.1,(pe3 y.2.1)),()))
abbrev su:Mdl:=(bw (.cons (.d false dr.ty) .nil) [] [] 1 qhr (B:=Bool) (fun b=>((b,()),(()))) (fun a=>mq a.1.1))
theorem sw:MdlOK Try.prog 50 su:=sc Try.func50 rfl qkm (.two .z (.two .z (.two (.two .z (.s 0)) .z))) (sC qrr s0)
def zy:Shp:=⟨[qg6],[]⟩
abbrev qmc:Ctx (Bool):=⟨35,tt,false,false,[],p6 [],ry [],fx 35 tt [] [.tmp 2] zy (fun x=>x.1.1)⟩
theorem qmb:CtxM Try.prog qmc:=sd fits cu m0
abbrev qcc:Mdl:=(bw (.cons (.d false af.ty) .nil) [] [] 1 zy (B:=Bool) (fun b=>((b,()),(()))) (fun a=>qn a.1.1))
theorem qi0:MdlOK Try.prog 87 qcc:=sc Try.func87 rfl qmb .z s0
def gi:Shp:=⟨[qpw],[]⟩
abbrev gv:Ctx (Int):=⟨19,tt,false,false,[],p6 [(87,qcc)],ry [b7 _ 19 [] me (C:=((List af)×Int)) (S:=Int) (fun x=>((x.1.1,x.1.2.2.1),(pe3 x.1))) mc (CE:=Unit) (E:=Unit) (fun c e=>((()),(()))) (fun c=>()) (fun{R} c a nx dn rt=>b9 c.1 c.2 a nx dn rt)],fx 19 tt [] [.tmp 4] gi (fun x=>x.1.1)⟩
theorem gq:CtxM Try.prog gv:=sd fits cu (mC qi0 m0)
theorem mm:bk Try.prog gv 0 (lc 0 Try.f101 37):=lp rfl gq .z s0 (fun c a=>((c.1,(()),c.2,a,()),(()))) (fun y=>((),()))
abbrev gu:Mdl:=(bw (.cons (.d false (.slice af.ty)) (.cons (.fn 87 .nil) .nil)) [] [] 1 gi (B:=Int) (fun b=>((b,()),(()))) (fun a=>dv a.1.1))
theorem mf:MdlOK Try.prog 101 gu:=sc Try.func101 rfl gq (.two .z (.two (.two .z (.s 0)) .z)) (sC mm s0)
def fk:Shp:=⟨[qg6],[]⟩
abbrev ls:Ctx (Bool):=⟨9,tt,false,false,[],p6 [(101,gu)],ry [],fx 9 tt [] [.tmp 4] fk (fun x=>x.1.1)⟩
theorem lq:CtxM Try.prog ls:=sd fits cu (mC mf m0)
abbrev fp:Mdl:=(bw (.cons (.d false (.slice af.ty)) (.cons (.fn 87 .nil) .nil)) [] [] 1 fk (B:=Bool) (fun b=>((b,()),(()))) (fun a=>df a.1.1))
theorem k7:MdlOK Try.prog 86 fp:=sc Try.func86 rfl lq .z s0
def qel:Shp:=⟨[qg6],[]⟩
abbrev qqp:Ctx (Bool):=⟨16,tt,false,false,[],p6 [(86,fp)],ry [],fx 16 tt [] [.tmp 4] qel (fun x=>x.1.1)⟩
theorem qqo:CtxM Try.prog qqp:=sd fits cu (mC k7 m0)
abbrev yv:Mdl:=(bw (.cons (.d false dr.ty) (.cons (.d false (.slice af.ty)) .nil)) [] [] 1 qel (B:=Bool) (fun b=>((b,()),(()))) (fun a=>qi a.1.1 a.1.2.1))
theorem qcd:MdlOK Try.prog 62 yv:=sc Try.func62 rfl qqo .z s0
def zp:Shp:=⟨[qg6],[]⟩
abbrev ql7:Ctx (Bool):=⟨9,tt,false,false,[],p6 [],ry [],fx 9 tt [] [.tmp 2] zp (fun x=>x.1.1)⟩
theorem ql6:CtxM Try.prog ql7:=sd fits cu m0
abbrev qbn:Mdl:=(bw (.cons (.d false qT0) .nil) [] [] 1 zp (B:=Bool) (fun b=>((b,()),(()))) (fun a=>xc a.1.1))
theorem qim:MdlOK Try.prog 83 qbn:=sc Try.func83 rfl ql6 .z s0
def mz:Shp:=⟨[qpw],[]⟩
abbrev nv:Ctx (Int):=⟨19,tt,false,false,[],p6 [(83,qbn)],ry [b7 _ 19 [] u3 (C:=(qL1×Int)) (S:=Int) (fun x=>((x.1.1,x.1.2.2.1),(pe3 x.1))) uz (CE:=Unit) (E:=Unit) (fun c e=>((()),(()))) (fun c=>()) (fun{R} c a nx dn rt=>ez c.1 c.2 a nx dn rt)],fx 19 tt [] [.tmp 4] mz (fun x=>x.1.1)⟩
theorem nt:CtxM Try.prog nv:=sd fits cu (mC qim m0)
theorem wj:bk Try.prog nv 0 (lc 0 Try.f60 37):=lp rfl nt .z s0 (fun c a=>((c.1,(()),c.2,a,()),(()))) (fun y=>((),()))
abbrev nu:Mdl:=(bw (.cons (.d false qT1) (.cons (.fn 83 .nil) .nil)) [] [] 1 mz (B:=Int) (fun b=>((b,()),(()))) (fun a=>j1 a.1.1))
theorem u4:MdlOK Try.prog 60 nu:=sc Try.func60 rfl nt (.two .z (.two (.two .z (.s 0)) .z)) (sC wj s0)
def k8:Shp:=⟨[qg6],[]⟩
abbrev tp:Ctx (Bool):=⟨9,tt,false,false,[],p6 [(60,nu)],ry [],fx 9 tt [] [.tmp 4] k8 (fun x=>x.1.1)⟩
theorem tm:CtxM Try.prog tp:=sd fits cu (mC u4 m0)
abbrev ll:Mdl:=(bw (.cons (.d false qT1) (.cons (.fn 83 .nil) .nil)) [] [] 1 k8 (B:=Bool) (fun b=>((b,()),(()))) (fun a=>ey a.1.1))
theorem rz:MdlOK Try.prog 23 ll:=sc Try.func23 rfl tm .z s0
def qeh:Shp:=⟨[qg6],[]⟩
abbrev qqg:Ctx (Bool):=⟨19,tt,false,false,[],p6 [(50,su),(23,ll)],ry [],fx 19 tt [] [.tmp 4] qeh (fun x=>x.1.1)⟩
theorem qqf:CtxM Try.prog qqg:=sd fits cu (mC sw (mC rz m0))
abbrev yn:Mdl:=(bw (.cons (.d false dr.ty) (.cons (.d false qT1) .nil)) [] [] 1 qeh (B:=Bool) (fun b=>((b,()),(()))) (fun a=>n5 a.1.1 a.1.2.1))
theorem qbo:MdlOK Try.prog 57 yn:=sc Try.func57 rfl qqf .z s0
def zo:Shp:=⟨[qg6],[]⟩
abbrev ql5:Ctx (Bool):=⟨9,tt,false,false,[],p6 [],ry [],fx 9 tt [] [.tmp 3] zo (fun x=>x.1.1)⟩
theorem ql4:CtxM Try.prog ql5:=sd fits cu m0
abbrev qbl:Mdl:=(bw (.cons (.d false qT0) (.cons (.rp false qT1) .nil)) [] [] 1 zo (B:=Bool) (fun b=>((b,()),(()))) (fun a=>xa a.1.1 a.1.2.1))
theorem qik:MdlOK Try.prog 84 qbl:=sc Try.func84 rfl ql4 .z s0
def m4:Shp:=⟨[qpw],[]⟩
abbrev nz:Ctx (Int):=⟨19,tt,false,false,[],p6 [(84,qbl)],ry [b7 _ 19 [] u6 (C:=(qL1×qL1×Int)) (S:=Int) (fun x=>((x.1.1,x.1.2.1.1,x.1.2.2.1),(pe3 x.1))) u5 (CE:=Unit) (E:=Unit) (fun c e=>((()),(()))) (fun c=>()) (fun{R} c a nx dn rt=>fa c.1 c.2.1 c.2.2 a nx dn rt)],fx 19 tt [] [.tmp 4] m4 (fun x=>x.1.1)⟩
theorem nw:CtxM Try.prog nz:=sd fits cu (mC qik m0)
theorem wl:bk Try.prog nz 0 (lc 0 Try.f60 37):=lp rfl nw .z s0 (fun c a=>((c.1,(c.2.1,()),c.2.2,a,()),(()))) (fun y=>((),()))
abbrev ny:Mdl:=(bw (.cons (.d false qT1) (.cons (.fn 84 (.cons (.rp false qT1) .nil)) .nil)) [] [] 1 m4 (B:=Int) (fun b=>((b,()),(()))) (fun a=>j2 a.1.1 a.1.2.1.1))
theorem u7:MdlOK Try.prog 60 ny:=sc Try.func60 rfl nw (.two .z (.two (.two .z (.s 0)) .z)) (sC wl s0)
def k9:Shp:=⟨[qg6],[]⟩
abbrev tu:Ctx (Bool):=⟨9,tt,false,false,[],p6 [(60,ny)],ry [],fx 9 tt [] [.tmp 4] k9 (fun x=>x.1.1)⟩
theorem tq:CtxM Try.prog tu:=sd fits cu (mC u7 m0)
abbrev lm:Mdl:=(bw (.cons (.d false qT1) (.cons (.fn 84 (.cons (.rp false qT1) .nil)) .nil)) [] [] 1 k9 (B:=Bool) (fun b=>((b,()),(()))) (fun a=>iq a.1.1 a.1.2.1.1))
theorem r9:MdlOK Try.prog 23 lm:=sc Try.func23 rfl tq .z s0
def qeg:Shp:=⟨[qg6],[]⟩
abbrev qqe:Ctx (Bool):=⟨10,tt,false,false,[],p6 [(23,lm)],ry [],fx 10 tt [] [.tmp 4] qeg (fun x=>x.1.1)⟩
theorem qqd:CtxM Try.prog qqe:=sd fits cu (mC r9 m0)
abbrev ym:Mdl:=(bw (.cons (.d false aj.ty) (.cons (.d false qT1) .nil)) [] [] 1 qeg (B:=Bool) (fun b=>((b,()),(()))) (fun a=>p8 a.1.1 a.1.2.1))
theorem qbm:MdlOK Try.prog 58 ym:=sc Try.func58 rfl qqd .z s0
def qef:Shp:=⟨[(0, .nl false (.own 0)),qi8],[qg4]⟩
abbrev qfw:Ctx ((Int×qL1)):=⟨30,tt,false,false,[],p6 [(57,yn),(58,ym)],ry [b7 _ 30 [] ql3 (C:=(qL1×(List aj)×Int)) (S:=(Int×qL1)) (fun x=>((x.1.1,x.1.2.2.1,(pe3 x.1)),((pe4 x.1),x.2.1))) ql2 (CE:=Unit) (E:=qL1) (fun c e=>(((),()),(e,()))) (fun c=>()) (fun{R} c a nx dn rt=>l8 c.1 c.2.1 c.2.2 a.1 a.2 nx dn rt)],fx 30 tt [] [.tmp 4, .tmp 5] qef (fun x=>(x.1.2.1,x.2.1))⟩
theorem qfv:CtxM Try.prog qfw:=sd fits cu (mC qbo (mC qbm m0))
theorem qns:bk Try.prog qfw 0 (lc 0 Try.f21 151):=lp rfl qfv .z s0 (fun c a=>((c.1,(),c.2.1,c.2.2,a.1,()),(a.2,()))) (fun y=>((),y.2.1))
abbrev sr:Mdl:=(bw (.cons (.d false dr.ty) (.cons (.d false qT1) .nil)) [] [] 2 qef (B:=(Int×qL1)) (fun b=>(((),b.1,()),(b.2,()))) (fun a=>ld a.1.1 a.1.2.1))
theorem um:MdlOK Try.prog 21 sr:=sc Try.func21 rfl qfv (.two .z (.two .z (.two .z (.two (.two .z (.s 0)) .z)))) (sC qns s0)
def qk:Shp:=⟨[qv7],[qg4]⟩
abbrev qcl:Ctx (qL1):=⟨8,tt,false,false,[],p6 [],ry [],fx 8 tt [] [.tmp 2] qk (fun x=>x.2.1)⟩
theorem qcj:CtxM Try.prog qcl:=sd fits cu m0
abbrev qck:Mdl:=(bw (.cons (.nl false (.d false qT1)) .nil) [] [] 1 qk (B:=qL1) (fun b=>(((),()),(b,()))) (fun a=>tc a.1.1))
theorem y8:MdlOK Try.prog 36 qck:=sc Try.func36 rfl qcj .z s0
def li:Shp:=⟨[qv7],[qg4]⟩
abbrev qco:Ctx (qL1):=⟨8,tt,false,false,[],p6 [],ry [],fx 8 tt [] [.tmp 2] li (fun x=>x.2.1)⟩
theorem qcm:CtxM Try.prog qco:=sd fits cu m0
abbrev qcn:Mdl:=(bw (.cons (.nl true (.d false qT1)) .nil) [] [] 1 li (B:=qL1) (fun b=>(((),()),(b,()))) (fun a=>jz a.1.1))
theorem y9:MdlOK Try.prog 36 qcn:=sc Try.func36 rfl qcm .z s0
abbrev od:Mdl:=(bw (.cons (.d false qT1) .nil) [] [] 1 li (fun(b:qL1)=>(((),()),(b,()))) (fun(a:((qL1×Unit)×(Unit)))=>gb a.1.1))
theorem ru:MdlOK Try.prog 36 od:=by
 refine qs5 (q2k _ _) y8 y9 (by kernel_rfl) (fun a b h=>⟨?_,h⟩);obtain⟨⟨xs,u1⟩,u2⟩:=a;cases xs with
 |nil=>exact h
 |cons x l=>
  have e:decide ((((x::l).length:Nat):Int)=0)=false:=decide_eq_false (by simp only[List.length_cons];omega);simp only[gb,jz]at h;simp only[tc,e,cond_false];exact h
def qnf:Shp:=⟨[(0, .d true .str)],[]⟩
abbrev qq6:Ctx (ByteArray):=⟨27,tt,false,false,[],p6 [],ry [b7 _ 27 [] qvy (C:=(qL1×Int)) (S:=(Int×qL1)) (fun x=>((x.1.2.1,x.1.2.2.1),((pe3 x.1),x.2.1))) qvx (CE:=Unit) (E:=qL1) (fun c e=>(((),()),(e,()))) (fun c=>()) (fun{R} c a nx dn rt=>x9 c.1 c.2 a.1 a.2 nx dn rt)],fx 27 tt [] [.tmp 2] qnf (fun x=>x.1.1)⟩
theorem qq4:CtxM Try.prog qq6:=sd fits cu m0
theorem qx7:bk Try.prog qq6 0 (lc 0 Try.f98 75):=lp rfl qq4 .z s0 (fun c a=>(((),c.1,c.2,a.1,()),(a.2,()))) (fun y=>((),y.2.1))
abbrev qq5:Mdl:=(bw (.cons (.d false qT1) .nil) [] [] 1 qnf (B:=ByteArray) (fun b=>((b,()),(()))) (fun a=>u9 a.1.1))
theorem qvz:MdlOK Try.prog 98 qq5:=sc Try.func98 rfl qq4 (.two .z (.two .z (.two (.two .z (.s 0)) .z))) (sC qx7 s0)
def wn:Shp:=⟨[qpw],[]⟩
abbrev xw:Ctx (Int):=⟨25,tt,false,false,[],p6 [],ry [b7 _ 25 [] qe7 (C:=qL1) (S:=(Int×Int)) (fun x=>(x.1.1,(x.1.2.1,x.1.2.2.1))) qe6 (CE:=Unit) (E:=Int) (fun c e=>((e,()),(()))) (fun c=>()) (fun{R} c a nx dn rt=>kh c a.1 a.2 nx dn rt)],fx 25 tt [] [.tmp 2] wn (fun x=>x.1.1)⟩
theorem xt:CtxM Try.prog xw:=sd fits cu m0
theorem qgk:bk Try.prog xw 0 (lc 0 Try.f85 151):=lp rfl xt .z s0 (fun c a=>((c,a.1,a.2,()),(()))) (fun y=>((),y.1.1))
abbrev xu:Mdl:=(bw (.cons (.d false qT1) .nil) [] [] 1 wn (B:=Int) (fun b=>((b,()),(()))) (fun a=>nk a.1.1))
theorem qe8:MdlOK Try.prog 85 xu:=sc Try.func85 rfl xt (.two .z (.two .z (.two .z (.two (.two .z (.s 0)) .z)))) (sC qgk s0)
def qkq:Shp:=⟨[qv7,qi8],[qg4]⟩
abbrev qfy:Ctx ((Int×qL1)):=⟨66,tt,false,false,[],p6 [(58,ym),(36,od),(85,xu)],ry [b7 _ 66 [] qrt (C:=(qL1×Int×ByteArray×qL1×qL1)) (S:=(Int×qL1)) (fun x=>((x.1.2.2.1,(pe3 x.1),x.2.1.1,x.2.1.2.1,x.2.1.2.2.1),((pe4 x.1),x.2.2.1))) qrs (CE:=(ByteArray×qL1×qL1)) (E:=qL1) (fun c e=>(((),(),()),((c.1,c.2.1,c.2.2,()),e,()))) (fun c=>(c.2.2.1,(pe3 c),(pf4 c))) (fun{R} c a nx dn rt=>vj c.1 c.2.1 c.2.2.1 (pe3 c) (pf4 c) a.1 a.2 nx dn rt),b7 _ 66 [] qrv (C:=(qL1×Int)) (S:=(Int×qL1)) (fun x=>((x.1.2.1,x.1.2.2.1),((pe3 x.1),x.2.1))) qru (CE:=Unit) (E:=qL1) (fun c e=>(((),()),(e,()))) (fun c=>()) (fun{R} c a nx dn rt=>vk c.1 c.2 a.1 a.2 nx dn rt)],fx 66 tt [] [.tmp 6, .tmp 7] qkq (fun x=>(x.1.2.1,x.2.1))⟩
theorem qfx:CtxM Try.prog qfy:=sd fits cu (mC qbm (mC ru (mC qe8 m0)))
theorem qvf:bk Try.prog qfy 1 (lc 2 Try.f59 1215):=lp rfl qfx .z s0 (fun c a=>(((),c.1,c.2,a.1,()),(a.2,()))) (fun y=>((),y.2.1))
theorem qve:bk Try.prog qfy 0 (lc 0 Try.f59 607):=lp rfl qfx .z s0 (fun c a=>(((),(),c.1,c.2.1,a.1,()),((c.2.2.1,(pe3 c),(pf4 c),()),a.2,()))) (fun y=>((y.2.1.1,y.2.1.2.1,y.2.1.2.2.1),y.2.2.1))
abbrev qm5:Mdl:=(bw (.cons (.d false dr.ty) (.cons (.d false qT1) (.cons (.d false qT0) .nil))) [] [] 2 qkq (B:=(Int×qL1)) (fun b=>(((),b.1,()),(b.2,()))) (fun a=>qil a.1.1 a.1.2.1 a.1.2.2.1))
theorem qrw:MdlOK Try.prog 59 qm5:=sc Try.func59 rfl qfx (.two .z (.two .z (.two .z (.two .z (.two .z (.two (.two .z (.s 0)) (.two (.two .z (.s 1)) .z))))))) (sC qve (sC qvf s0))
def qkl:Shp:=⟨[qv7,qi8],[qg4]⟩
abbrev qxt:Ctx ((Int×qL1)):=⟨18,tt,false,false,[],p6 [(57,yn),(59,qm5)],ry [],fx 18 tt [] [.tmp 6, .tmp 7] qkl (fun x=>(x.1.2.1,x.2.1))⟩
theorem qxs:CtxM Try.prog qxt:=sd fits cu (mC qbo (mC qrw m0))
abbrev qm4:Mdl:=(bw (.cons (.d false dr.ty) (.cons (.d false qT1) (.cons (.d false qT0) .nil))) [] [] 2 qkl (B:=(Int×qL1)) (fun b=>(((),b.1,()),(b.2,()))) (fun a=>qdf a.1.1 a.1.2.1 a.1.2.2.1))
theorem qrq:MdlOK Try.prog 22 qm4:=sc Try.func22 rfl qxs .z s0
def qeu:Shp:=⟨[(0, .d true kb.ty),qi8],[]⟩
abbrev y6:Ctx ((kb×Int)):=⟨126,tt,false,true,[],p6 [(21,sr),(36,od),(98,qq5),(22,qm4)],ry [b7 _ 126 [] qmk (C:=(Int×Int×qL1×Int×Int×(List aj)×Int×Int×qL2×(List au)×Bool)) (S:=(Int×Bool×(List (ByteArray×Int))×qL2×(List au))) (fun x=>((x.1.1,(pe5 x.1),(pe6 x.1),(pe7 x.1),x.2.1.1,x.2.1.2.1,x.2.1.2.2.1,(pe3 x.2.1),x.2.2.1.1,x.2.2.1.2.1,x.2.2.1.2.2.1),((pe8 x.1),(pe3 x).2.2.1,(pe4 x),(pe5 x),(pe6 x)))) qmj (CE:=(Int×Int×Int×(List aj)×Int×Int×qL2×(List au)×Bool)) (E:=(Bool×(List (ByteArray×Int))×qL2×(List au))) (fun c e=>((c.1,(),(),(),(),c.2.1,()),((c.2.2.1,(pe3 c),(pe4 c),(pe5 c),()),((pe6 c),(pe7 c),(pf8 c),()),((),(),e.1,()),e.2.1,e.2.2.1,e.2.2.2,()))) (fun c=>(c.1,c.2.1,(pe4 c),(pe5 c),(pe6 c),(pe7 c),(pe8 c),(pe9 c),(pf10 c))) (fun{R} c a nx dn rt=>ir c.1 c.2.1 c.2.2.1 (pe3 c) (pe4 c) (pe5 c) (pe6 c) (pe7 c) (pe8 c) (pe9 c) (pf10 c) a.1 a.2.1 a.2.2.1 (pe3 a) (pf4 a) nx dn rt),b7 _ 126 [] qmm (C:=(Int×Int×(List aj)×Int×Int×qL2×(List au)×Bool)) (S:=(Int×Bool×(List (ByteArray×Int))×qL2×(List au))) (fun x=>((x.1.1,x.2.1.1,x.2.1.2.1,x.2.1.2.2.1,(pe3 x.2.1),x.2.2.1.1,x.2.2.1.2.1,x.2.2.1.2.2.1),((pe5 x.1),(pe3 x).2.2.1,(pe4 x),(pe5 x),(pe6 x)))) qml (CE:=(qL2×(List au)×Bool)) (E:=(Bool×qL2×(List au))) (fun c e=>(((),(),()),((c.1,c.2.1,c.2.2,()),((),(),e.1,()),e.2.1,e.2.2,()))) (fun c=>((pe5 c),(pe6 c),(pf7 c))) (fun{R} c a nx dn rt=>j7 c.1 c.2.1 c.2.2.1 (pe3 c) (pe4 c) (pe5 c) (pe6 c) (pf7 c) a.1 a.2.1 a.2.2.1 (pe3 a) (pf4 a) nx dn rt)],fx 126 tt [] [.cell 6 87, .tmp 7] qeu (fun x=>(x.1.1,x.1.2.1))⟩
theorem y5:CtxM Try.prog y6:=sd fits cu (mC um (mC ru (mC qvz (mC qrq m0))))
theorem qn2:bk Try.prog y6 0 (lc 2 Try.f79 78431):=lp rfl y5 (.two .z (.two .z (.two (.one (.two .z (.two (.d [0,0,2,0,14,30,0,127,255,511,511,1023,4095] [] []) .z))) .z))) s0 (fun c a=>((c.1,(),(),(),(),c.2.1,c.2.2.1,(pe3 c),a.1,()),(((pe4 c),(pe5 c),(pe6 c),(pe7 c),()),((pe8 c),(pe9 c),(pf10 c),()),((),(),a.2.1,()),a.2.2.1,(pe3 a),(pf4 a),()))) (fun y=>((y.1.1,(pe5 y.1),y.2.1.1,y.2.1.2.1,y.2.1.2.2.1,(pe3 y.2.1),y.2.2.1.1,y.2.2.1.2.1,y.2.2.1.2.2.1),((pe3 y).2.2.1,(pe4 y),(pe5 y),(pe6 y))))
theorem qn3:bk Try.prog y6 1 (lc 0 Try.f79 607):=lp rfl y5 (.two .z (.two (.one (.two (.d [0,0,2,0,14,30,63,127,255,255,511,2047] [] []) (.two .z (.s 0)))) .z)) (sC qn2 s0) (fun c a=>((c.1,(),(),(),(),a.1,()),((c.2.1,c.2.2.1,(pe3 c),(pe4 c),()),((pe5 c),(pe6 c),(pf7 c),()),((),(),a.2.1,()),a.2.2.1,(pe3 a),(pf4 a),()))) (fun y=>((y.2.1.1,y.2.1.2.1,y.2.1.2.2.1),(y.2.2.1.2.2.1,(pe3 y),(pe4 y))))
abbrev qgl:Mdl:=(bw (.cons (.d false dr.ty) (.cons (.d false qT1) (.cons (.d false qT0) .nil))) [] [] 2 qeu (B:=(kb×Int)) (fun b=>((b.1,b.2,()),(()))) (fun a=>vp a.1.1 a.1.2.1 a.1.2.2.1))
theorem qmn:MdlOK Try.prog 79 qgl:=sc Try.func79 rfl y5 (.two .z (.two .z (.two .z (.two .z (.two .z (.two (.two .z (.s 1)) .z)))))) (sC qn3 s0)
def qm6:Shp:=⟨[qv7,qi8],[qg4]⟩
abbrev qzz:Ctx ((Int×qL1)):=⟨17,tt,false,false,[],p6 [(50,su)],ry [],fx 17 tt [] [.tmp 4, .tmp 5] qm6 (fun x=>(x.1.2.1,x.2.1))⟩
theorem qzy:CtxM Try.prog qzz:=sd fits cu (mC sw m0)
abbrev qqh:Mdl:=(bw (.cons (.d false dr.ty) (.cons (.d false qT0) .nil)) [] [] 2 qm6 (B:=(Int×qL1)) (fun b=>(((),b.1,()),(b.2,()))) (fun a=>ql8 a.1.1 a.1.2.1))
theorem qvg:MdlOK Try.prog 56 qqh:=sc Try.func56 rfl qzy .z s0
def qhp:Shp:=⟨[qv7,qi8],[qg4]⟩
abbrev qvd:Ctx ((Int×qL1)):=⟨10,tt,false,false,[],p6 [(56,qqh)],ry [],fx 10 tt [] [.tmp 2, .tmp 3] qhp (fun x=>(x.1.2.1,x.2.1))⟩
theorem qvc:CtxM Try.prog qvd:=sd fits cu (mC qvg m0)
abbrev qkk:Mdl:=(bw (.cons (.d false dr.ty) .nil) [] [] 2 qhp (B:=(Int×qL1)) (fun b=>(((),b.1,()),(b.2,()))) (fun a=>zn a.1.1))
theorem qqa:MdlOK Try.prog 19 qkk:=sc Try.func19 rfl qvc .z s0
def te:Shp:=⟨[qg6],[]⟩
abbrev uc:Ctx (Bool):=⟨26,tt,false,false,[],p6 [],ry [b7 _ 26 [] qcq (C:=(qL1×qL1×Int)) (S:=Int) (fun x=>((x.1.1,x.1.2.1,x.1.2.2.1),(pe3 x.1))) qcp (CE:=Unit) (E:=Unit) (fun c e=>((()),(()))) (fun c=>()) (fun{R} c a nx dn rt=>ge c.1 c.2.1 c.2.2 a nx dn rt)],fx 26 tt [] [.tmp 4] te (fun x=>x.1.1)⟩
theorem ub:CtxM Try.prog uc:=sd fits cu m0
theorem qdw:bk Try.prog uc 0 (lc 0 Try.f17 75):=lp rfl ub (.two .z (.two .z (.two (.one (.two .z (.two (.d [0,0,3,7,0,0,48,112,255] [] []) .z))) .z))) s0 (fun c a=>((c.1,c.2.1,c.2.2,a,()),(()))) (fun y=>((),()))
abbrev oe:Mdl:=(bw (.cons (.d false qT1) (.cons (.d false qT1) .nil)) [] [] 1 te (B:=Bool) (fun b=>((b,()),(()))) (fun a=>dl a.1.1 a.1.2.1))
theorem rv:MdlOK Try.prog 17 oe:=sc Try.func17 rfl ub (.two .z (.two .z (.two (.two .z (.s 0)) .z))) (sC qdw s0)
def qgm:Shp:=⟨[qg6],[]⟩
abbrev qr8:Ctx (Bool):=⟨7,tt,false,false,[],p6 [(17,oe)],ry [],fx 7 tt [] [.tmp 3] qgm (fun x=>x.1.1)⟩
theorem qr7:CtxM Try.prog qr8:=sd fits cu (mC rv m0)
abbrev qh5:Mdl:=(bw (.cons (.d false qT1) (.cons (.rp false qT1) .nil)) [] [] 1 qgm (B:=Bool) (fun b=>((b,()),(()))) (fun a=>x8 a.1.1 a.1.2.1))
theorem qn4:MdlOK Try.prog 100 qh5:=sc Try.func100 rfl qr7 .z s0
def mh:Shp:=⟨[qpw],[]⟩
abbrev mw:Ctx (Int):=⟨19,tt,false,false,[],p6 [(100,qh5)],ry [b7 _ 19 [] tw (C:=(qL2×qL1×Int)) (S:=Int) (fun x=>((x.1.1,x.1.2.1.1,x.1.2.2.1),(pe3 x.1))) tv (CE:=Unit) (E:=Unit) (fun c e=>((()),(()))) (fun c=>()) (fun{R} c a nx dn rt=>ed c.1 c.2.1 c.2.2 a nx dn rt)],fx 19 tt [] [.tmp 4] mh (fun x=>x.1.1)⟩
theorem mt:CtxM Try.prog mw:=sd fits cu (mC qn4 m0)
theorem uy:bk Try.prog mw 0 (lc 0 Try.f99 37):=lp rfl mt .z s0 (fun c a=>((c.1,(c.2.1,()),c.2.2,a,()),(()))) (fun y=>((),()))
abbrev mu:Mdl:=(bw (.cons (.d false qT2) (.cons (.fn 100 (.cons (.rp false qT1) .nil)) .nil)) [] [] 1 mh (B:=Int) (fun b=>((b,()),(()))) (fun a=>jf a.1.1 a.1.2.1.1))
theorem tx:MdlOK Try.prog 99 mu:=sc Try.func99 rfl mt (.two .z (.two (.two .z (.s 0)) .z)) (sC uy s0)
def qk5:Shp:=⟨[qpw],[]⟩
abbrev qx6:Ctx (Int):=⟨9,tt,false,false,[],p6 [(99,mu)],ry [],fx 9 tt [] [.tmp 4] qk5 (fun x=>x.1.1)⟩
theorem qx5:CtxM Try.prog qx6:=sd fits cu (mC tx m0)
abbrev qnd:Mdl:=(bw (.cons (.d false kb.ty) (.cons (.d false qT1) .nil)) [] [] 1 qk5 (B:=Int) (fun b=>((b,()),(()))) (fun a=>qdx a.1.1 a.1.2.1))
theorem qr9:MdlOK Try.prog 80 qnd:=sc Try.func80 rfl qx5 .z s0
def zx:Shp:=⟨[qmu,qi8],[]⟩
abbrev pm:Ctx (((List (Int×(List ab)))×Int×Int×Int)):=⟨139,tt,false,false,[],p6 [(21,sr),(79,qgl),(19,qkk),(80,qnd)],ry [b7 _ 139 [] qit (C:=((List au)×Int×(List (Int×(List ab)))×Int×Int×qL2×(List au)×Bool×Int×Int×(List (Int×(List ab))))) (S:=(Bool×Int×(List Bool))) (fun x=>(((pe5 x.1),(pe6 x.1),x.2.1.1,x.2.1.2.1,x.2.1.2.2.1,x.2.2.1.1,x.2.2.1.2.1,x.2.2.1.2.2.1,(pe3 x).2.1,(pe3 x).2.2.1,(pe5 x)),((pe4 x.1),(pe7 x.1),(pe4 x)))) qis (CE:=((List (Int×(List ab)))×Int×Int×qL2×(List au)×Bool×Int×Int×(List (Int×(List ab))))) (E:=(Bool×(List Bool))) (fun c e=>(((),(),(),(),e.1,()),((c.1,c.2.1,c.2.2.1,()),((pe3 c),(pe4 c),(pe5 c),()),((),(pe6 c),(pe7 c),()),e.2,(pf8 c),()))) (fun c=>(c.2.2.1,(pe3 c),(pe4 c),(pe5 c),(pe6 c),(pe7 c),(pe8 c),(pe9 c),(pf10 c))) (fun{R} c a nx dn rt=>il c.1 c.2.1 c.2.2.1 (pe3 c) (pe4 c) (pe5 c) (pe6 c) (pe7 c) (pe8 c) (pe9 c) (pf10 c) a.1 a.2.1 a.2.2 nx dn rt),b7 _ 139 [] qiv (C:=((List (Int×(List ab)))×Int×Int×qL2×(List au)×Bool×Int×Int×(List (Int×(List ab))))) (S:=(Bool×(List Bool))) (fun x=>((x.2.1.1,x.2.1.2.1,x.2.1.2.2.1,x.2.2.1.1,x.2.2.1.2.1,x.2.2.1.2.2.1,(pe3 x).2.1,(pe3 x).2.2.1,(pe5 x)),((pe4 x.1),(pe4 x)))) qiu (CE:=((List (Int×(List ab)))×Int×Int×qL2×(List au)×Bool×Int×Int×(List (Int×(List ab))))) (E:=(List Bool)) (fun c e=>(((),(),(),(),()),((c.1,c.2.1,c.2.2.1,()),((pe3 c),(pe4 c),(pe5 c),()),((),(pe6 c),(pe7 c),()),e,(pf8 c),()))) (fun c=>(c.1,c.2.1,c.2.2.1,(pe3 c),(pe4 c),(pe5 c),(pe6 c),(pe7 c),(pf8 c))) (fun{R} c a nx dn rt=>im c.1 c.2.1 c.2.2.1 (pe3 c) (pe4 c) (pe5 c) (pe6 c) (pe7 c) (pf8 c) a.1 a.2 nx dn rt),b7 _ 139 [] qix (C:=((List Bool)×(List au)×Int×(List (Int×(List ab)))×Int×Int×Int×Int)) (S:=(Int×(List (Int×(List ab))))) (fun x=>((x.1.2.2.1,(pe3 x.1),(pe4 x.1),x.2.1.1,x.2.1.2.1,x.2.1.2.2.1,x.2.2.1.2.1,x.2.2.1.2.2.1),((pe5 x.1),(pe3 x)))) qiw (CE:=((List (Int×(List ab)))×Int×Int×Int×Int)) (E:=(List (Int×(List ab)))) (fun c e=>(((),(),()),((c.1,c.2.1,c.2.2.1,()),((),(pe3 c),(pf4 c),()),e,()))) (fun c=>((pe3 c),(pe4 c),(pe5 c),(pe6 c),(pf7 c))) (fun{R} c a nx dn rt=>fw c.1 c.2.1 c.2.2.1 (pe3 c) (pe4 c) (pe5 c) (pe6 c) (pf7 c) a.1 a.2 nx dn rt)],fx 139 tt [] [.cell 6 77, .tmp 7] zx (fun x=>(x.1.1.1,x.1.1.2.1,x.1.1.2.2.1,x.1.2.1))⟩
theorem pj:CtxM Try.prog pm:=sd fits cu (mC um (mC qmn (mC qqa (mC qr9 m0))))
theorem qkt:bk Try.prog pm 0 (lc 2 Try.f51 2529279):=lp rfl pj .z s0 (fun c a=>(((),(),(),(),a.1,c.1,c.2.1,a.2.1,()),((c.2.2.1,(pe3 c),(pe4 c),()),((pe5 c),(pe6 c),(pe7 c),()),((),(pe8 c),(pe9 c),()),a.2.2,(pf10 c),()))) (fun y=>((y.2.1.1,y.2.1.2.1,y.2.1.2.2.1,y.2.2.1.1,y.2.2.1.2.1,y.2.2.1.2.2.1,(pe3 y).2.1,(pe3 y).2.2.1,(pe5 y)),((pe4 y.1),(pe4 y))))
theorem qkv:bk Try.prog pm 2 (lc 4 Try.f51 77823):=lp rfl pj (.two .z (.two .z (.two (.one (.two .z (.two .z (.two (.d [0,1,0,4,0,16,0,64,240,0,512,0,2048,7680,15872,32752,65535] [15,16] []) .z)))) .z))) s0 (fun c a=>(((),(),c.1,c.2.1,c.2.2.1,a.1,()),(((pe3 c),(pe4 c),(pe5 c),()),((),(pe6 c),(pf7 c),()),a.2,()))) (fun y=>((y.2.1.1,y.2.1.2.1,y.2.1.2.2.1,y.2.2.1.2.1,y.2.2.1.2.2.1),(pe3 y)))
theorem qku:bk Try.prog pm 1 (lc 0 Try.f51 38911):=lp rfl pj (.two .z (.one (.two .z (.two .z (.s 0))))) (sC qkt s0) (fun c a=>(((),(),(),(),a.1,()),((c.1,c.2.1,c.2.2.1,()),((pe3 c),(pe4 c),(pe5 c),()),((),(pe6 c),(pe7 c),()),a.2,(pf8 c),()))) (fun y=>((y.2.1.1,y.2.1.2.1,y.2.1.2.2.1,y.2.2.1.1,y.2.2.1.2.1,y.2.2.1.2.2.1,(pe3 y).2.1,(pe3 y).2.2.1,(pe5 y)),(pe4 y)))
abbrev uo:Mdl:=(bw (.cons (.d false dr.ty) (.cons (.d false qT1) (.cons (.d false qT0) .nil))) [] [] 2 zx (B:=((List (Int×(List ab)))×Int×Int×Int)) (fun b=>(((b.1,b.2.1,b.2.2.1,()),b.2.2.2,()),(()))) (fun a=>ay a.1.1 a.1.2.1 a.1.2.2.1))
theorem yp:MdlOK Try.prog 51 uo:=sc Try.func51 rfl pj (.two .z (.two .z (.two .z (.two .z (.two .z (.two .z (.two .z (.two (.d [0,0,0,6,0,16,48,127,0,511] [9] []) (.two .z (.two .z (.two .z (.two (.two .z (.s 1)) (.two (.two .z (.s 2)) .z))))))))))))) (sC qku (sC qkv s0))
def qek:Shp:=⟨[qmu,qi8],[]⟩
abbrev qqn:Ctx (((List (Int×(List ab)))×Int×Int×Int)):=⟨26,tt,false,false,[],p6 [(50,su),(62,yv),(51,uo)],ry [],fx 26 tt [] [.cell 8 77, .tmp 9] qek (fun x=>(x.1.1.1,x.1.1.2.1,x.1.1.2.2.1,x.1.2.1))⟩
theorem qqm:CtxM Try.prog qqn:=sd fits cu (mC sw (mC qcd (mC yp m0)))
abbrev sy:Mdl:=(bw (.cons (.d false dr.ty) (.cons (.d false qT1) (.cons (.d false (.slice af.ty)) (.cons (.d false qT0) .nil)))) [] [] 2 qek (B:=((List (Int×(List ab)))×Int×Int×Int)) (fun b=>(((b.1,b.2.1,b.2.2.1,()),b.2.2.2,()),(()))) (fun a=>bp a.1.1 a.1.2.1 a.1.2.2.1 (pe3 a.1)))
theorem uq:MdlOK Try.prog 41 sy:=sc Try.func41 rfl qqm .z s0
def t9:Shp:=⟨[qpw,(1, .d true .bool)],[]⟩
abbrev qf9:Ctx ((Int×Bool)):=⟨14,tt,false,false,[],p6 [],ry [],fx 14 tt [] [.tmp 2, .tmp 3] t9 (fun x=>(x.1.1,x.1.2.1))⟩
theorem qf8:CtxM Try.prog qf9:=sd fits cu m0
abbrev iw:Mdl:=(bw (.cons (.agg (.cons (.dm false qT0 (.slice ab.ty)) (.cons (.d false qT0) (.cons (.d false qT0) .nil)))) .nil) [] [] 2 t9 (B:=(Int×Bool)) (fun b=>((b.1,b.2,()),(()))) (fun a=>a9 a.1.1.1 a.1.1.2.1 a.1.1.2.2.1))
theorem jy:MdlOK Try.prog 42 iw:=sc Try.func42 rfl qf8 (.two .z (.two .z (.two (.d [0,1,0,4,12,28,60,3,255] [] []) .z))) s0
def oh:Shp:=⟨[qpw],[]⟩
abbrev yr:Ctx (Int):=⟨9,tt,false,false,[],p6 [],ry [],fx 9 tt [] [.tmp 3] oh (fun x=>x.1.1)⟩
theorem yq:CtxM Try.prog yr:=sd fits cu m0
abbrev o5:Mdl:=(bw (.cons (.d false qT0) (.cons (.rp false (.slice af.ty)) .nil)) [] [] 1 oh (B:=Int) (fun b=>((b,()),(()))) (fun a=>fc a.1.1 a.1.2.1))
theorem xe:MdlOK Try.prog 81 o5:=sc Try.func81 rfl yq .z s0
def xq:Shp:=⟨[qg6],[]⟩
abbrev qiz:Ctx (Bool):=⟨34,tt,false,false,[],p6 [],ry [],fx 34 tt [] [.tmp 6] xq (fun x=>x.1.1)⟩
theorem qiy:CtxM Try.prog qiz:=sd fits cu m0
abbrev ne:Mdl:=(bw (.cons (.d false ae.ty) (.cons (.d false ae.ty) (.cons (.d false .bool) .nil))) [] [] 1 xq (B:=Bool) (fun b=>((b,()),(()))) (fun a=>i9 a.1.1 a.1.2.1 a.1.2.2.1))
theorem o8:MdlOK Try.prog 92 ne:=sc Try.func92 rfl qiy .z s0
def rg:Shp:=⟨[qv7],[qcw]⟩
abbrev jv:Ctx ((List ae)):=⟨77,tt,false,false,[],p6 [(81,o5),(92,ne)],ry [b7 _ 77 [] qak (C:=((List af)×Bool×Int×Int×Int×(List (Int×(List ab)))×Nat×(List ab)×Int×(List (Int×(List ab)))×Int×Int)) (S:=(Bool×Int×(List ae))) (fun x=>((x.1.1.1,x.1.2.1,(pe5 x.1),(pe6 x.1),(pe7 x.1),(pe8 x.1),(pe9 x.1),(pe10 x.1),(pe11 x.1),x.2.1.1,x.2.1.2.1,x.2.1.2.2.1),((pe4 x.1),(pe12 x.1),x.2.2.1))) qaj (CE:=((List af)×Bool×Int×Int×(List (Int×(List ab)))×Nat×(List (Int×(List ab)))×Int×Int)) (E:=(Bool×(List ae))) (fun c e=>(((c.1,()),c.2.1,(),(),e.1,c.2.2.1,(pe3 c),(pe4 c),(pe5 c),()),(((pe6 c),(pe7 c),(pf8 c),()),e.2,()))) (fun c=>(c.1,c.2.1,(pe3 c),(pe4 c),(pe5 c),(pe6 c),(pe9 c),(pe10 c),(pf11 c))) (fun{R} c a nx dn rt=>qc c.1 c.2.1 c.2.2.1 (pe3 c) (pe4 c) (pe5 c) (pe7 c) (pe8 c) (pe9 c) (pe10 c) (pf11 c) a.1 a.2.1 a.2.2 nx dn rt),ur _ 77 tt false [] (rc Try.f71 10647) qal (C:=((List af)×Bool×Int×Int×(List (Int×(List ab)))×(List (Int×(List ab)))×Int×Int)) (S:=(Bool×(List ae))) (fun x=>((x.1.1.1,x.1.2.1,(pe5 x.1),(pe6 x.1),(pe7 x.1),x.2.1.1,x.2.1.2.1,x.2.1.2.2.1),((pe4 x.1),x.2.2.1))) (fun c a=>(((c.1,()),c.2.1,(),(),a.1,c.2.2.1,(pe3 c),(pe4 c),()),(((pe5 c),(pe6 c),(pf7 c),()),a.2,()))) (fun c=>(pe4 c)) (fun{R} c a en nx rt=>qd c.1 c.2.1 c.2.2.1 (pe3 c) (pe4 c) (pe5 c) (pe6 c) (pf7 c) a.1 a.2 en nx rt),qlw _ 77 [] qan (C:=((List af)×Bool×Int×(List (Int×(List ab)))×Int×Int)) (S:=(Int×(List ae))) (fun x=>((x.1.1.1,x.1.2.1,(pe4 x.1),x.2.1.1,x.2.1.2.1,x.2.1.2.2.1),((pe5 x.1),x.2.2.1))) qam (CE:=Unit) (E:=(List ae)) (fun c e=>(((),()),(e,()))) (fun c=>()) (fun{R} c a nx dn rt=>qe c.1 c.2.1 c.2.2.1 (pe3 c) (pe4 c) (pf5 c) a.1 a.2 nx dn rt)],fx 77 tt [] [.tmp 6] rg (fun x=>x.2.1)⟩
theorem ju:CtxM Try.prog jv:=sd fits cu (mC xe (mC o8 m0))
theorem qbx:bk Try.prog jv 0 (lc 4 Try.f71 10168727):=lp rfl ju (.two .z (.two .z (.two (.one (.two .z (.two .z (.two .z (.two (.d [0,1,0,0,8,28,63,127,255] [8] []) (.two .z (.two (.d [0,0,0,6,14,0,63] [] []) .z))))))) .z))) s0 (fun c a=>(((c.1,()),c.2.1,(),(),a.1,c.2.2.1,(pe3 c),(pe4 c),(pe5 c),(pe6 c),(pe7 c),(pe8 c),a.2.1,()),(((pe9 c),(pe10 c),(pf11 c),()),a.2.2,()))) (fun y=>((y.1.1.1,y.1.2.1,(pe5 y.1),(pe6 y.1),(pe7 y.1),(pe8 y.1),y.2.1.1,y.2.1.2.1,y.2.1.2.2.1),((pe4 y.1),y.2.2.1)))
theorem qby:bk Try.prog jv 1 ((rc Try.f71 10647).code):=rl qT0 (.slice ab.ty) rfl ju (.two .z (.s 0)) (sC qbx s0) 75 28 29 30 32 false rfl
theorem qbz:bk Try.prog jv 2 (lc 0 Try.f71 151):=nl rfl ju (.two .z (.two .z (.two (.one (.two .z (.two (.s 1) .z))) .z))) (sC qby s0) (fun c a=>(((c.1,()),c.2.1,(),(),c.2.2.1,a.1,()),(((pe3 c),(pe4 c),(pf5 c),()),a.2,()))) (fun y=>((),y.2.1))
abbrev s4:Mdl:=(bw (.cons (.agg (.cons (.dm false qT0 (.slice ab.ty)) (.cons (.d false qT0) (.cons (.d false qT0) .nil)))) (.cons (.fn 81 (.cons (.rp false (.slice af.ty)) .nil)) (.cons (.d false .bool) .nil))) [] [] 1 rg (B:=(List ae)) (fun b=>(((),()),(b,()))) (fun a=>n8 a.1.1.1 a.1.1.2.1 a.1.1.2.2.1 a.1.2.1.1 a.1.2.2.1))
theorem qao:MdlOK Try.prog 71 s4:=sc Try.func71 rfl ju (.two .z (.two .z (.two .z (.two (.two .z (.s 2)) .z)))) (sC qbz s0)
def t7:Shp:=⟨[qg6],[]⟩
abbrev oz:Ctx (Bool):=⟨51,tt,false,false,[],p6 [],ry [b7 _ 51 [] qdi (C:=(Int×(List ab)×Int×(List (Int×(List ab)))×Int×Int)) (S:=(Int×(List (Int×Bool))×qL1)) (fun x=>((x.1.1,(pe4 x.1),(pe5 x.1),x.2.1.1,x.2.1.2.1,x.2.1.2.2.1),((pe6 x.1),x.2.2.1,(pe3 x)))) qdh (CE:=(Int×(List (Int×(List ab)))×Int×Int)) (E:=((List (Int×Bool))×qL1)) (fun c e=>((c.1,(),(),(),()),((c.2.1,c.2.2.1,c.2.2.2,()),e.1,e.2,()))) (fun c=>(c.1,(pe3 c),(pe4 c),(pf5 c))) (fun{R} c a nx dn rt=>gn c.1 c.2.1 c.2.2.1 (pe3 c) (pe4 c) (pf5 c) a.1 a.2.1 a.2.2 nx dn rt),b7 _ 51 [] qdk (C:=(Int×(List (Int×(List ab)))×Int×Int)) (S:=((List (Int×Bool))×qL1)) (fun x=>((x.1.1,x.2.1.1,x.2.1.2.1,x.2.1.2.2.1),(x.2.2.1,(pe3 x)))) qdj (CE:=Unit) (E:=Unit) (fun c e=>((()),(()))) (fun c=>()) (fun{R} c a nx dn rt=>dp c.1 c.2.1 c.2.2.1 c.2.2.2 a.1 a.2 nx dn rt)],fx 51 tt [] [.tmp 6] t7 (fun x=>x.1.1)⟩
theorem oy:CtxM Try.prog oz:=sd fits cu m0
theorem qex:bk Try.prog oz 0 (lc 2 Try.f75 9803):=lp rfl oy .z s0 (fun c a=>((c.1,(),(),(),c.2.1,c.2.2.1,a.1,()),(((pe3 c),(pe4 c),(pf5 c),()),a.2.1,a.2.2,()))) (fun y=>((y.1.1,y.2.1.1,y.2.1.2.1,y.2.1.2.2.1),(y.2.2.1,(pe3 y))))
theorem qey:bk Try.prog oz 1 (lc 0 Try.f75 75):=lp rfl oy (.two .z (.two (.one (.two .z (.two (.d [0,1,0,4,12,31,63,0] [] []) (.s 0)))) .z)) (sC qex s0) (fun c a=>((c.1,(),(),(),()),((c.2.1,c.2.2.1,c.2.2.2,()),a.1,a.2,()))) (fun y=>((),()))
abbrev wd:Mdl:=(bw (.cons (.agg (.cons (.dm false qT0 (.slice ab.ty)) (.cons (.d false qT0) (.cons (.d false qT0) .nil)))) (.cons (.d false qT0) (.cons (.d false qT0) .nil))) [] [] 1 t7 (B:=Bool) (fun b=>((b,()),(()))) (fun a=>lx a.1.1.1 a.1.1.2.1 a.1.1.2.2.1 a.1.2.1 a.1.2.2.1))
theorem qdl:MdlOK Try.prog 75 wd:=sc Try.func75 rfl oy (.two .z (.two .z (.two (.two .z (.s 1)) .z))) (sC qey s0)
def we:Shp:=⟨[qg6],[]⟩
abbrev ji:Ctx (Bool):=⟨81,tt,false,false,[],p6 [(75,wd)],ry [b7 _ 81 [] qe0 (C:=((List af)×(List ab)×Int×(List (Int×(List ab)))×Int×Int)) (S:=(Int×(List (Int×Bool))×qL1)) (fun x=>((x.1.1,(pe4 x.1),(pe5 x.1),x.2.1.1,x.2.1.2.1,x.2.1.2.2.1),((pe6 x.1),x.2.2.1,(pe3 x)))) qez (CE:=((List af)×(List (Int×(List ab)))×Int×Int)) (E:=((List (Int×Bool))×qL1)) (fun c e=>((c.1,(),(),(),()),((c.2.1,c.2.2.1,c.2.2.2,()),e.1,e.2,()))) (fun c=>(c.1,(pe3 c),(pe4 c),(pf5 c))) (fun{R} c a nx dn rt=>ca c.1 c.2.1 c.2.2.1 (pe3 c) (pe4 c) (pf5 c) a.1 a.2.1 a.2.2 nx dn rt),b7 _ 81 [] qe2 (C:=((List af)×(List (Int×(List ab)))×Int×Int)) (S:=((List (Int×Bool))×qL1)) (fun x=>((x.1.1,x.2.1.1,x.2.1.2.1,x.2.1.2.2.1),(x.2.2.1,(pe3 x)))) qe1 (CE:=((List af)×(List (Int×(List ab)))×Int×Int)) (E:=(List (Int×Bool))) (fun c e=>((c.1,(),(),()),((c.2.1,c.2.2.1,c.2.2.2,()),e,()))) (fun c=>(c.1,c.2.1,c.2.2.1,c.2.2.2)) (fun{R} c a nx dn rt=>cb c.1 c.2.1 c.2.2.1 c.2.2.2 a.1 a.2 nx dn rt),b7 _ 81 [] qe4 (C:=((List af)×Int×(List (Int×Bool))×Nat×(List ab)×Int×(List (Int×(List ab)))×Int×Int)) (S:=Int) (fun x=>((x.1.1,x.1.2.2.1,(pe3 x.1),(pe4 x.1),(pe5 x.1),(pe6 x.1),x.2.1.1,x.2.1.2.1,x.2.1.2.2.1),(pe7 x.1))) qe3 (CE:=((List af)×(List (Int×Bool))×Nat×(List (Int×(List ab)))×Int×Int)) (E:=Unit) (fun c e=>((c.1,(),c.2.1,c.2.2.1,()),(((pe3 c),(pe4 c),(pf5 c),()),()))) (fun c=>(c.1,c.2.2.1,(pe3 c),(pe6 c),(pe7 c),(pf8 c))) (fun{R} c a nx dn rt=>be c.1 c.2.1 c.2.2.1 (pe4 c) (pe5 c) (pe6 c) (pe7 c) (pf8 c) a nx dn rt),ur _ 81 tt false [] (rc Try.f47 23) qe5 (C:=((List af)×(List (Int×Bool))×(List (Int×(List ab)))×Int×Int)) (S:=Unit) (fun x=>((x.1.1,x.1.2.2.1,x.2.1.1,x.2.1.2.1,x.2.1.2.2.1),())) (fun c a=>((c.1,(),c.2.1,()),((c.2.2.1,(pe3 c),(pf4 c),()),()))) (fun c=>c.2.1) (fun{R} c a en nx rt=>ic c.1 c.2.1 c.2.2.1 (pe3 c) (pf4 c) en nx rt)],fx 81 tt [] [.tmp 4] we (fun x=>x.1.1)⟩
theorem jh:CtxM Try.prog ji:=sd fits cu (mC qdl m0)
theorem qf6:bk Try.prog ji 2 (lc 6 Try.f47 19863):=lp rfl jh .z s0 (fun c a=>((c.1,(),c.2.1,c.2.2.1,(pe3 c),(pe4 c),(pe5 c),a,()),(((pe6 c),(pe7 c),(pf8 c),()),()))) (fun y=>((y.1.1,y.1.2.2.1,(pe3 y.1),y.2.1.1,y.2.1.2.1,y.2.1.2.2.1),()))
theorem qf4:bk Try.prog ji 0 (lc 2 Try.f47 4683):=lp rfl jh .z s0 (fun c a=>((c.1,(),(),(),c.2.1,c.2.2.1,a.1,()),(((pe3 c),(pe4 c),(pf5 c),()),a.2.1,a.2.2,()))) (fun y=>((y.1.1,y.2.1.1,y.2.1.2.1,y.2.1.2.2.1),(y.2.2.1,(pe3 y))))
theorem qf5:bk Try.prog ji 1 (lc 0 Try.f47 75):=lp rfl jh (.two .z (.two (.one (.two (.d [0,1,0,4,12,31,63,0] [] []) (.s 0))) .z)) (sC qf4 s0) (fun c a=>((c.1,(),(),(),()),((c.2.1,c.2.2.1,c.2.2.2,()),a.1,a.2,()))) (fun y=>((y.1.1,y.2.1.1,y.2.1.2.1,y.2.1.2.2.1),y.2.2.1))
theorem qf7:bk Try.prog ji 3 ((rc Try.f47 23).code):=rl qT0 .bool rfl jh (.two .z (.s 2)) (sC qf6 s0) 128 51 52 53 55 true rfl
abbrev p4:Mdl:=(bw (.cons (.agg (.cons (.dm false qT0 (.slice ab.ty)) (.cons (.d false qT0) (.cons (.d false qT0) .nil)))) (.cons (.d false (.slice af.ty)) .nil)) [] [] 1 we (B:=Bool) (fun b=>((b,()),(()))) (fun a=>c7 a.1.1.1 a.1.1.2.1 a.1.1.2.2.1 a.1.2.1))
theorem t8:MdlOK Try.prog 47 p4:=sc Try.func47 rfl jh (.two .z (.two .z (.two (.two .z (.s 1)) (.two (.s 3) .z)))) (sC qf5 (sC qf7 s0))
def oi:Shp:=⟨[qpw],[]⟩
abbrev yu:Ctx (Int):=⟨9,tt,false,false,[],p6 [],ry [],fx 9 tt [] [.tmp 3] oi (fun x=>x.1.1)⟩
theorem yt:CtxM Try.prog yu:=sd fits cu m0
abbrev o6:Mdl:=(bw (.cons (.d false qT0) (.cons (.rp false (.slice af.ty)) .nil)) [] [] 1 oi (B:=Int) (fun b=>((b,()),(()))) (fun a=>fe a.1.1 a.1.2.1))
theorem xf:MdlOK Try.prog 82 o6:=sc Try.func82 rfl yt .z s0
def rh:Shp:=⟨[qv7],[qcw]⟩
abbrev jx:Ctx ((List ae)):=⟨77,tt,false,false,[],p6 [(82,o6),(92,ne)],ry [b7 _ 77 [] qaq (C:=((List af)×Bool×Int×Int×Int×(List (Int×(List ab)))×Nat×(List ab)×Int×(List (Int×(List ab)))×Int×Int)) (S:=(Bool×Int×(List ae))) (fun x=>((x.1.1.1,x.1.2.1,(pe5 x.1),(pe6 x.1),(pe7 x.1),(pe8 x.1),(pe9 x.1),(pe10 x.1),(pe11 x.1),x.2.1.1,x.2.1.2.1,x.2.1.2.2.1),((pe4 x.1),(pe12 x.1),x.2.2.1))) qap (CE:=((List af)×Bool×Int×Int×(List (Int×(List ab)))×Nat×(List (Int×(List ab)))×Int×Int)) (E:=(Bool×(List ae))) (fun c e=>(((c.1,()),c.2.1,(),(),e.1,c.2.2.1,(pe3 c),(pe4 c),(pe5 c),()),(((pe6 c),(pe7 c),(pf8 c),()),e.2,()))) (fun c=>(c.1,c.2.1,(pe3 c),(pe4 c),(pe5 c),(pe6 c),(pe9 c),(pe10 c),(pf11 c))) (fun{R} c a nx dn rt=>qf c.1 c.2.1 c.2.2.1 (pe3 c) (pe4 c) (pe5 c) (pe7 c) (pe8 c) (pe9 c) (pe10 c) (pf11 c) a.1 a.2.1 a.2.2 nx dn rt),ur _ 77 tt false [] (rc Try.f71 10647) qar (C:=((List af)×Bool×Int×Int×(List (Int×(List ab)))×(List (Int×(List ab)))×Int×Int)) (S:=(Bool×(List ae))) (fun x=>((x.1.1.1,x.1.2.1,(pe5 x.1),(pe6 x.1),(pe7 x.1),x.2.1.1,x.2.1.2.1,x.2.1.2.2.1),((pe4 x.1),x.2.2.1))) (fun c a=>(((c.1,()),c.2.1,(),(),a.1,c.2.2.1,(pe3 c),(pe4 c),()),(((pe5 c),(pe6 c),(pf7 c),()),a.2,()))) (fun c=>(pe4 c)) (fun{R} c a en nx rt=>qg c.1 c.2.1 c.2.2.1 (pe3 c) (pe4 c) (pe5 c) (pe6 c) (pf7 c) a.1 a.2 en nx rt),qlw _ 77 [] qat (C:=((List af)×Bool×Int×(List (Int×(List ab)))×Int×Int)) (S:=(Int×(List ae))) (fun x=>((x.1.1.1,x.1.2.1,(pe4 x.1),x.2.1.1,x.2.1.2.1,x.2.1.2.2.1),((pe5 x.1),x.2.2.1))) qas (CE:=Unit) (E:=(List ae)) (fun c e=>(((),()),(e,()))) (fun c=>()) (fun{R} c a nx dn rt=>qh c.1 c.2.1 c.2.2.1 (pe3 c) (pe4 c) (pf5 c) a.1 a.2 nx dn rt)],fx 77 tt [] [.tmp 6] rh (fun x=>x.2.1)⟩
theorem jw:CtxM Try.prog jx:=sd fits cu (mC xf (mC o8 m0))
theorem qb2:bk Try.prog jx 0 (lc 4 Try.f71 10168727):=lp rfl jw (.two .z (.two .z (.two (.one (.two .z (.two .z (.two .z (.two (.d [0,1,0,0,8,28,63,127,255] [8] []) (.two .z (.two (.d [0,0,0,6,14,0,63] [] []) .z))))))) .z))) s0 (fun c a=>(((c.1,()),c.2.1,(),(),a.1,c.2.2.1,(pe3 c),(pe4 c),(pe5 c),(pe6 c),(pe7 c),(pe8 c),a.2.1,()),(((pe9 c),(pe10 c),(pf11 c),()),a.2.2,()))) (fun y=>((y.1.1.1,y.1.2.1,(pe5 y.1),(pe6 y.1),(pe7 y.1),(pe8 y.1),y.2.1.1,y.2.1.2.1,y.2.1.2.2.1),((pe4 y.1),y.2.2.1)))
theorem qb3:bk Try.prog jx 1 ((rc Try.f71 10647).code):=rl qT0 (.slice ab.ty) rfl jw (.two .z (.s 0)) (sC qb2 s0) 75 28 29 30 32 false rfl
theorem qb4:bk Try.prog jx 2 (lc 0 Try.f71 151):=nl rfl jw (.two .z (.two .z (.two (.one (.two .z (.two (.s 1) .z))) .z))) (sC qb3 s0) (fun c a=>(((c.1,()),c.2.1,(),(),c.2.2.1,a.1,()),(((pe3 c),(pe4 c),(pf5 c),()),a.2,()))) (fun y=>((),y.2.1))
abbrev s5:Mdl:=(bw (.cons (.agg (.cons (.dm false qT0 (.slice ab.ty)) (.cons (.d false qT0) (.cons (.d false qT0) .nil)))) (.cons (.fn 82 (.cons (.rp false (.slice af.ty)) .nil)) (.cons (.d false .bool) .nil))) [] [] 1 rh (B:=(List ae)) (fun b=>(((),()),(b,()))) (fun a=>n9 a.1.1.1 a.1.1.2.1 a.1.1.2.2.1 a.1.2.1.1 a.1.2.2.1))
theorem qau:MdlOK Try.prog 71 s5:=sc Try.func71 rfl jw (.two .z (.two .z (.two .z (.two (.two .z (.s 2)) .z)))) (sC qb4 s0)
def p0:Shp:=⟨[q7z],[]⟩
abbrev qaw:Ctx (af):=⟨25,tt,false,false,[],p6 [(71,s4),(71,s5),(47,p4)],ry [],fx 25 tt [] [.cell 4 40] p0 (fun x=>x.1.1)⟩
theorem qav:CtxM Try.prog qaw:=sd fits cu (mC qao (mC qau (mC t8 m0)))
abbrev lf:Mdl:=(bw (.cons (.agg (.cons (.dm false qT0 (.slice ab.ty)) (.cons (.d false qT0) (.cons (.d false qT0) .nil)))) (.cons (.d false (.slice af.ty)) .nil)) [] [] 1 p0 (B:=af) (fun b=>((b,()),(()))) (fun a=>f8 a.1.1.1 a.1.1.2.1 a.1.1.2.2.1 a.1.2.1))
theorem o7:MdlOK Try.prog 55 lf:=sc Try.func55 rfl qav .z s0
def xo:Shp:=⟨[q7z,qi8],[]⟩
abbrev qio:Ctx ((af×Int)):=⟨37,tt,false,false,[],p6 [(41,sy),(42,iw),(55,lf)],ry [],fx 37 tt [] [.cell 8 40, .tmp 9] xo (fun x=>(x.1.1,x.1.2.1))⟩
theorem qin:CtxM Try.prog qio:=sd fits cu (mC uq (mC jy (mC o7 m0)))
abbrev yo:Mdl:=(bw (.cons (.agg (.cons (.d false qT0) (.cons (.d false (.slice aj.ty)) (.cons (.d false qT0) (.cons (.d false qT0) .nil))))) (.cons (.d false qT1) (.cons (.d false (.slice af.ty)) (.cons (.d false qT0) .nil)))) [] [] 2 xo (B:=(af×Int)) (fun b=>((b.1,b.2,()),(()))) (fun a=>sx a.1.1.1 a.1.1.2.1 a.1.1.2.2.1 (pe3 a.1.1) a.1.2.1 a.1.2.2.1 (pe3 a.1)))
theorem qf3:MdlOK Try.prog 18 yo:=sc Try.func18 rfl qin .z s0
def xp:Shp:=⟨[qpw],[]⟩
abbrev qiq:Ctx (Int):=⟨9,tt,false,false,[],p6 [],ry [],fx 9 tt [] [.tmp 3] xp (fun x=>x.1.1)⟩
theorem qip:CtxM Try.prog qiq:=sd fits cu m0
abbrev qv:Mdl:=(bw (.cons (.d false qT0) (.cons (.rp false (.slice af.ty)) .nil)) [] [] 1 xp (B:=Int) (fun b=>((b,()),(()))) (fun a=>i6 a.1.1 a.1.2.1))
theorem wc:MdlOK Try.prog 48 qv:=sc Try.func48 rfl qip .z s0
def rf:Shp:=⟨[qv7],[qcw]⟩
abbrev jt:Ctx ((List ae)):=⟨77,tt,false,false,[],p6 [(48,qv),(92,ne)],ry [b7 _ 77 [] qae (C:=((List af)×Bool×Int×Int×Int×(List (Int×(List ab)))×Nat×(List ab)×Int×(List (Int×(List ab)))×Int×Int)) (S:=(Bool×Int×(List ae))) (fun x=>((x.1.1.1,x.1.2.1,(pe5 x.1),(pe6 x.1),(pe7 x.1),(pe8 x.1),(pe9 x.1),(pe10 x.1),(pe11 x.1),x.2.1.1,x.2.1.2.1,x.2.1.2.2.1),((pe4 x.1),(pe12 x.1),x.2.2.1))) qad (CE:=((List af)×Bool×Int×Int×(List (Int×(List ab)))×Nat×(List (Int×(List ab)))×Int×Int)) (E:=(Bool×(List ae))) (fun c e=>(((c.1,()),c.2.1,(),(),e.1,c.2.2.1,(pe3 c),(pe4 c),(pe5 c),()),(((pe6 c),(pe7 c),(pf8 c),()),e.2,()))) (fun c=>(c.1,c.2.1,(pe3 c),(pe4 c),(pe5 c),(pe6 c),(pe9 c),(pe10 c),(pf11 c))) (fun{R} c a nx dn rt=>p9 c.1 c.2.1 c.2.2.1 (pe3 c) (pe4 c) (pe5 c) (pe7 c) (pe8 c) (pe9 c) (pe10 c) (pf11 c) a.1 a.2.1 a.2.2 nx dn rt),ur _ 77 tt false [] (rc Try.f71 10647) qaf (C:=((List af)×Bool×Int×Int×(List (Int×(List ab)))×(List (Int×(List ab)))×Int×Int)) (S:=(Bool×(List ae))) (fun x=>((x.1.1.1,x.1.2.1,(pe5 x.1),(pe6 x.1),(pe7 x.1),x.2.1.1,x.2.1.2.1,x.2.1.2.2.1),((pe4 x.1),x.2.2.1))) (fun c a=>(((c.1,()),c.2.1,(),(),a.1,c.2.2.1,(pe3 c),(pe4 c),()),(((pe5 c),(pe6 c),(pf7 c),()),a.2,()))) (fun c=>(pe4 c)) (fun{R} c a en nx rt=>qa c.1 c.2.1 c.2.2.1 (pe3 c) (pe4 c) (pe5 c) (pe6 c) (pf7 c) a.1 a.2 en nx rt),qlw _ 77 [] qah (C:=((List af)×Bool×Int×(List (Int×(List ab)))×Int×Int)) (S:=(Int×(List ae))) (fun x=>((x.1.1.1,x.1.2.1,(pe4 x.1),x.2.1.1,x.2.1.2.1,x.2.1.2.2.1),((pe5 x.1),x.2.2.1))) qag (CE:=Unit) (E:=(List ae)) (fun c e=>(((),()),(e,()))) (fun c=>()) (fun{R} c a nx dn rt=>qb c.1 c.2.1 c.2.2.1 (pe3 c) (pe4 c) (pf5 c) a.1 a.2 nx dn rt)],fx 77 tt [] [.tmp 6] rf (fun x=>x.2.1)⟩
theorem js:CtxM Try.prog jt:=sd fits cu (mC wc (mC o8 m0))
theorem qbs:bk Try.prog jt 0 (lc 4 Try.f71 10168727):=lp rfl js (.two .z (.two .z (.two (.one (.two .z (.two .z (.two .z (.two (.d [0,1,0,0,8,28,63,127,255] [8] []) (.two .z (.two (.d [0,0,0,6,14,0,63] [] []) .z))))))) .z))) s0 (fun c a=>(((c.1,()),c.2.1,(),(),a.1,c.2.2.1,(pe3 c),(pe4 c),(pe5 c),(pe6 c),(pe7 c),(pe8 c),a.2.1,()),(((pe9 c),(pe10 c),(pf11 c),()),a.2.2,()))) (fun y=>((y.1.1.1,y.1.2.1,(pe5 y.1),(pe6 y.1),(pe7 y.1),(pe8 y.1),y.2.1.1,y.2.1.2.1,y.2.1.2.2.1),((pe4 y.1),y.2.2.1)))
theorem qbt:bk Try.prog jt 1 ((rc Try.f71 10647).code):=rl qT0 (.slice ab.ty) rfl js (.two .z (.s 0)) (sC qbs s0) 75 28 29 30 32 false rfl
theorem qbu:bk Try.prog jt 2 (lc 0 Try.f71 151):=nl rfl js (.two .z (.two .z (.two (.one (.two .z (.two (.s 1) .z))) .z))) (sC qbt s0) (fun c a=>(((c.1,()),c.2.1,(),(),c.2.2.1,a.1,()),(((pe3 c),(pe4 c),(pf5 c),()),a.2,()))) (fun y=>((),y.2.1))
abbrev s3:Mdl:=(bw (.cons (.agg (.cons (.dm false qT0 (.slice ab.ty)) (.cons (.d false qT0) (.cons (.d false qT0) .nil)))) (.cons (.fn 48 (.cons (.rp false (.slice af.ty)) .nil)) (.cons (.d false .bool) .nil))) [] [] 1 rf (B:=(List ae)) (fun b=>(((),()),(b,()))) (fun a=>t5 a.1.1.1 a.1.1.2.1 a.1.1.2.2.1 a.1.2.1.1 a.1.2.2.1))
theorem qai:MdlOK Try.prog 71 s3:=sc Try.func71 rfl js (.two .z (.two .z (.two .z (.two (.two .z (.s 2)) .z)))) (sC qbu s0)
def s6:Shp:=⟨[qv7],[qg4]⟩
abbrev oc:Ctx (qL1):=⟨93,tt,false,false,[],p6 [(71,s3),(48,qv)],ry [b7 _ 93 [] qb6 (C:=((List af)×(List ae)×Int×(List ab)×Int×(List (Int×(List ab)))×Int×Int×qL1)) (S:=(Int×Int×Int)) (fun x=>((x.1.1.1,x.1.2.2.1,(pe4 x.1),(pe6 x.1),(pe7 x.1),x.2.1.1,x.2.1.2.1,x.2.1.2.2.1,x.2.2.1),((pe8 x.1),(pe3 x).1,(pe3 x).2.1))) qb5 (CE:=((List af)×(List ae)×(List (Int×(List ab)))×Int×Int×qL1)) (E:=(Int×Int)) (fun c e=>(((c.1,()),(),c.2.1,(),(),()),((c.2.2.1,(pe3 c),(pe4 c),()),(pf5 c),(e.1,e.2,()),()))) (fun c=>(c.1,c.2.1,(pe5 c),(pe6 c),(pe7 c),(pf8 c))) (fun{R} c a nx dn rt=>ri c.1 c.2.1 c.2.2.1 (pe3 c) (pe4 c) (pe5 c) (pe6 c) (pe7 c) (pf8 c) a.1 a.2.1 a.2.2 nx dn rt),b7 _ 93 [] qb8 (C:=((List af)×(List ae)×(List (Int×(List ab)))×Int×Int)) (S:=(Int×qL1)) (fun x=>((x.1.1.1,x.1.2.2.1,x.2.1.1,x.2.1.2.1,x.2.1.2.2.1),((pe4 x.1),x.2.2.1))) qb7 (CE:=Unit) (E:=qL1) (fun c e=>(((),()),(e,()))) (fun c=>()) (fun{R} c a nx dn rt=>rj c.1 c.2.1 c.2.2.1 (pe3 c) (pf4 c) a.1 a.2 nx dn rt)],fx 93 tt [] [.tmp 6] s6 (fun x=>x.2.1)⟩
theorem oa:CtxM Try.prog oc:=sd fits cu (mC qai (mC wc m0))
theorem qdo:bk Try.prog oc 0 (lc 2 Try.f43 19095):=lp rfl oa (.two .z (.two .z (.two (.one (.two .z (.two .z (.two (.d [0,1,3,7,15,7,7,71,231,511,7,7,3079,7175,15367,32767,65535,131071,262143,524287,1048575,262143,262143,6553599,14942207,31719423,67108863,134217727,268435455,536870911,1073741823,2147483647,4294967295,8589934591,17179869183,8589934591,42949672959,137438953471,274877906943,549755813887] [] []) .z)))) .z))) s0 (fun c a=>(((c.1,()),(),c.2.1,(),c.2.2.1,(),(pe3 c),(pe4 c),a.1,()),(((pe5 c),(pe6 c),(pe7 c),()),(pf8 c),(a.2.1,a.2.2,()),()))) (fun y=>((y.1.1.1,y.1.2.2.1,y.2.1.1,y.2.1.2.1,y.2.1.2.2.1,y.2.2.1),((pe3 y).1,(pe3 y).2.1)))
theorem qdp:bk Try.prog oc 1 (lc 0 Try.f43 151):=lp rfl oa (.two .z (.one (.two .z (.two (.two .z (.s 0)) .z)))) (sC qdo s0) (fun c a=>(((c.1,()),(),c.2.1,(),a.1,()),((c.2.2.1,(pe3 c),(pf4 c),()),a.2,()))) (fun y=>((),y.2.1))
abbrev ua:Mdl:=(bw (.cons (.agg (.cons (.dm false qT0 (.slice ab.ty)) (.cons (.d false qT0) (.cons (.d false qT0) .nil)))) (.cons (.fn 48 (.cons (.rp false (.slice af.ty)) .nil)) (.cons (.d false .bool) .nil))) [] [] 1 s6 (B:=qL1) (fun b=>(((),()),(b,()))) (fun a=>kz a.1.1.1 a.1.1.2.1 a.1.1.2.2.1 a.1.2.1.1 a.1.2.2.1))
theorem qb9:MdlOK Try.prog 43 ua:=sc Try.func43 rfl oa (.two .z (.two .z (.two .z (.two (.two .z (.s 1)) .z)))) (sC qdp s0)
def zq:Shp:=⟨[qv7,qi8],[qg4]⟩
abbrev qma:Ctx ((Int×qL1)):=⟨38,tt,false,false,[],p6 [(41,sy),(42,iw),(47,p4),(43,ua)],ry [],fx 38 tt [] [.tmp 8, .tmp 9] zq (fun x=>(x.1.2.1,x.2.1))⟩
theorem ql9:CtxM Try.prog qma:=sd fits cu (mC uq (mC jy (mC t8 (mC qb9 m0))))
abbrev qbp:Mdl:=(bw (.cons (.agg (.cons (.d false qT0) (.cons (.d false (.slice aj.ty)) (.cons (.d false qT0) (.cons (.d false qT0) .nil))))) (.cons (.d false qT1) (.cons (.d false (.slice af.ty)) (.cons (.d false qT0) .nil)))) [] [] 2 zq (B:=(Int×qL1)) (fun b=>(((),b.1,()),(b.2,()))) (fun a=>xd a.1.1.1 a.1.1.2.1 a.1.1.2.2.1 (pe3 a.1.1) a.1.2.1 a.1.2.2.1 (pe3 a.1)))
theorem qir:MdlOK Try.prog 13 qbp:=sc Try.func13 rfl ql9 .z s0
def rm:Shp:=⟨[qg6],[]⟩
abbrev nc:Ctx (Bool):=⟨54,tt,false,false,[],p6 [],ry [b7 _ 54 [] qay (C:=(Int×(List ab)×Int×(List (Int×(List ab)))×Int×Int)) (S:=(Int×(List (Int×Bool))×qL1)) (fun x=>((x.1.1,(pe4 x.1),(pe5 x.1),x.2.1.1,x.2.1.2.1,x.2.1.2.2.1),((pe6 x.1),x.2.2.1,(pe3 x)))) qax (CE:=(Int×(List (Int×(List ab)))×Int×Int)) (E:=((List (Int×Bool))×qL1)) (fun c e=>((c.1,(),(),(),()),((c.2.1,c.2.2.1,c.2.2.2,()),e.1,e.2,()))) (fun c=>(c.1,(pe3 c),(pe4 c),(pf5 c))) (fun{R} c a nx dn rt=>dy c.1 c.2.1 c.2.2.1 (pe3 c) (pe4 c) (pf5 c) a.1 a.2.1 a.2.2 nx dn rt),b7 _ 54 [] qa0 (C:=(Int×(List (Int×(List ab)))×Int×Int)) (S:=((List (Int×Bool))×qL1)) (fun x=>((x.1.1,x.2.1.1,x.2.1.2.1,x.2.1.2.2.1),(x.2.2.1,(pe3 x)))) qaz (CE:=Unit) (E:=Unit) (fun c e=>((()),(()))) (fun c=>()) (fun{R} c a nx dn rt=>c8 c.1 c.2.1 c.2.2.1 c.2.2.2 a.1 a.2 nx dn rt)],fx 54 tt [] [.tmp 4] rm (fun x=>x.1.1)⟩
theorem na:CtxM Try.prog nc:=sd fits cu m0
theorem qca:bk Try.prog nc 0 (lc 2 Try.f52 9803):=lp rfl na .z s0 (fun c a=>((c.1,(),(),(),c.2.1,c.2.2.1,a.1,()),(((pe3 c),(pe4 c),(pf5 c),()),a.2.1,a.2.2,()))) (fun y=>((y.1.1,y.2.1.1,y.2.1.2.1,y.2.1.2.2.1),(y.2.2.1,(pe3 y))))
theorem qcb:bk Try.prog nc 1 (lc 0 Try.f52 75):=lp rfl na (.two .z (.two (.one (.two (.two (.d [0,1,3,0,8,31] [] []) .z) (.two (.d [0,1,0,4,12,31,63,0] [] []) (.s 0)))) .z)) (sC qca s0) (fun c a=>((c.1,(),(),(),()),((c.2.1,c.2.2.1,c.2.2.2,()),a.1,a.2,()))) (fun y=>((),()))
abbrev s7:Mdl:=(bw (.cons (.agg (.cons (.dm false qT0 (.slice ab.ty)) (.cons (.d false qT0) (.cons (.d false qT0) .nil)))) (.cons (.d false qT0) .nil)) [] [] 1 rm (B:=Bool) (fun b=>((b,()),(()))) (fun a=>ie a.1.1.1 a.1.1.2.1 a.1.1.2.2.1 a.1.2.1))
theorem qa1:MdlOK Try.prog 52 s7:=sc Try.func52 rfl na (.two .z (.two .z (.two (.two .z (.s 1)) .z))) (sC qcb s0)
def qf2:Shp:=⟨[(0, .nl false (.own 0)),qi8],[qg4]⟩
abbrev qhy:Ctx ((Int×qL1)):=⟨50,tt,false,false,[],p6 [(50,su),(51,uo),(42,iw),(52,s7)],ry [b7 _ 50 [] qny (C:=(Int×(List (Int×(List ab)))×Int×Int)) (S:=(Int×qL1)) (fun x=>((x.1.2.2.1,x.2.1.1,x.2.1.2.1,x.2.1.2.2.1),((pe3 x.1),x.2.2.1))) qnx (CE:=Unit) (E:=qL1) (fun c e=>(((),()),(e,()))) (fun c=>()) (fun{R} c a nx dn rt=>qej c.1 c.2.1 c.2.2.1 c.2.2.2 a.1 a.2 nx dn rt)],fx 50 tt [] [.tmp 6, .tmp 7] qf2 (fun x=>(x.1.2.1,x.2.1))⟩
theorem qhw:CtxM Try.prog qhy:=sd fits cu (mC sw (mC yp (mC jy (mC qa1 m0))))
theorem qql:bk Try.prog qhy 0 (lc 0 Try.f15 1215):=lp rfl qhw .z s0 (fun c a=>(((),(),c.1,a.1,()),((c.2.1,c.2.2.1,c.2.2.2,()),a.2,()))) (fun y=>((),y.2.1))
abbrev qhx:Mdl:=(bw (.cons (.agg (.cons (.d false qT0) (.cons (.d false (.slice aj.ty)) (.cons (.d false qT0) (.cons (.d false qT0) .nil))))) (.cons (.d false qT1) (.cons (.d false qT0) .nil))) [] [] 2 qf2 (B:=(Int×qL1)) (fun b=>(((),b.1,()),(b.2,()))) (fun a=>qdg a.1.1.1 a.1.1.2.1 a.1.1.2.2.1 (pe3 a.1.1) a.1.2.1 a.1.2.2.1))
theorem qnz:MdlOK Try.prog 15 qhx:=sc Try.func15 rfl qhw (.two .z (.two .z (.two .z (.two .z (.two .z (.two .z (.two (.two .z (.s 0)) .z))))))) (sC qql s0)
def qhi:Shp:=⟨[qg6],[]⟩
abbrev qur:Ctx (Bool):=⟨71,tt,false,false,[],p6 [(18,yo),(13,qbp),(15,qhx),(17,oe)],ry [],fx 71 tt [] [.tmp 0] qhi (fun x=>x.1.1)⟩
theorem quq:CtxM Try.prog qur:=sd fits cu (mC qf3 (mC qir (mC qnz (mC rv m0))))
abbrev qj2:Mdl:=(bw .nil [] [] 1 qhi (B:=Bool) (fun b=>((b,()),(()))) (fun a=>zg))
theorem qpk:MdlOK Try.prog 9 qj2:=sc Try.func9 rfl quq .z s0
def qhj:Shp:=⟨[qg6],[]⟩
abbrev qut:Ctx (Bool):=⟨19,tt,false,false,[],p6 [],ry [],fx 19 tt [] [.tmp 2] qhj (fun x=>x.1.1)⟩
theorem qus:CtxM Try.prog qut:=sd fits cu m0
abbrev qj3:Mdl:=(bw (.cons (.d false aj.ty) .nil) [] [] 1 qhj (B:=Bool) (fun b=>((b,()),(()))) (fun a=>zh a.1.1))
theorem qpm:MdlOK Try.prog 40 qj3:=sc Try.func40 rfl qus .z s0
def g9:Shp:=⟨[qpw],[]⟩
abbrev ij:Ctx (Int):=⟨19,tt,false,false,[],p6 [(40,qj3)],ry [b7 _ 19 [] ni (C:=((List aj)×Int)) (S:=Int) (fun x=>((x.1.1,x.1.2.2.1),(pe3 x.1))) nh (CE:=Unit) (E:=Unit) (fun c e=>((()),(()))) (fun c=>()) (fun{R} c a nx dn rt=>ck c.1 c.2 a nx dn rt)],fx 19 tt [] [.tmp 4] g9 (fun x=>x.1.1)⟩
theorem ig:CtxM Try.prog ij:=sd fits cu (mC qpm m0)
theorem ns:bk Try.prog ij 0 (lc 0 Try.f70 37):=lp rfl ig .z s0 (fun c a=>((c.1,(()),c.2,a,()),(()))) (fun y=>((),()))
abbrev ii:Mdl:=(bw (.cons (.d false (.slice aj.ty)) (.cons (.fn 40 .nil) .nil)) [] [] 1 g9 (B:=Int) (fun b=>((b,()),(()))) (fun a=>eb a.1.1))
theorem nj:MdlOK Try.prog 70 ii:=sc Try.func70 rfl ig (.two .z (.two (.two .z (.s 0)) .z)) (sC ns s0)
def gc:Shp:=⟨[qg6],[]⟩
abbrev mj:Ctx (Bool):=⟨9,tt,false,false,[],p6 [(70,ii)],ry [],fx 9 tt [] [.tmp 4] gc (fun x=>x.1.1)⟩
theorem mi:CtxM Try.prog mj:=sd fits cu (mC nj m0)
abbrev gg:Mdl:=(bw (.cons (.d false (.slice aj.ty)) (.cons (.fn 40 .nil) .nil)) [] [] 1 gc (B:=Bool) (fun b=>((b,()),(()))) (fun a=>cj a.1.1))
theorem lu:MdlOK Try.prog 39 gg:=sc Try.func39 rfl mi .z s0
def qmz:Shp:=⟨[qg6],[]⟩
abbrev qzh:Ctx (Bool):=⟨32,tt,false,false,[],p6 [(39,gg)],ry [],fx 32 tt [] [.tmp 6] qmz (fun x=>x.1.1)⟩
theorem qzg:CtxM Try.prog qzh:=sd fits cu (mC lu m0)
abbrev qpl:Mdl:=(bw (.cons (.d false dr.ty) (.cons (.d false qT1) (.cons (.d false (.slice af.ty)) .nil))) [] [] 1 qmz (B:=Bool) (fun b=>((b,()),(()))) (fun a=>qgu a.1.1 a.1.2.1 a.1.2.2.1))
theorem quu:MdlOK Try.prog 10 qpl:=sc Try.func10 rfl qzg .z s0
def qh3:Shp:=⟨[qg6],[]⟩
abbrev qk1:Ctx (Bool):=⟨52,tt,false,false,[],p6 [],ry [b7 _ 52 [] qqu (C:=((List af)×Int)) (S:=Int) (fun x=>((x.1.1,x.1.2.1),x.1.2.2.1)) qqt (CE:=Unit) (E:=Unit) (fun c e=>((()),(()))) (fun c=>()) (fun{R} c a nx dn rt=>o9 c.1 c.2 a nx dn rt)],fx 52 tt [] [.tmp 4] qh3 (fun x=>x.1.1)⟩
theorem qkz:CtxM Try.prog qk1:=sd fits cu m0
theorem qr2:bk Try.prog qk1 0 (lc 0 Try.f28 75):=lp rfl qkz .z s0 (fun c a=>((c.1,c.2,a,()),(()))) (fun y=>((),()))
abbrev qk0:Mdl:=(bw (.cons (.d false (.slice af.ty)) (.cons (.d false qT0) .nil)) [] [] 1 qh3 (B:=Bool) (fun b=>((b,()),(()))) (fun a=>rq a.1.1 a.1.2.1))
theorem qqv:MdlOK Try.prog 28 qk0:=sc Try.func28 rfl qkz (.two .z (.two .z (.two (.two .z (.s 0)) .z))) (sC qr2 s0)
def wb:Shp:=⟨[q7z,qi8],[]⟩
abbrev qhd:Ctx ((af×Int)):=⟨37,tt,false,false,[],p6 [(41,sy),(42,iw),(55,lf)],ry [],fx 37 tt [] [.cell 8 40, .tmp 9] wb (fun x=>(x.1.1,x.1.2.1))⟩
theorem qhc:CtxM Try.prog qhd:=sd fits cu (mC uq (mC jy (mC o7 m0)))
abbrev p3:Mdl:=(bw (.cons (.d false dr.ty) (.cons (.d false qT1) (.cons (.d false (.slice af.ty)) (.cons (.d false qT0) .nil)))) [] [] 2 wb (B:=(af×Int)) (fun b=>((b.1,b.2,()),(()))) (fun a=>bi a.1.1 a.1.2.1 a.1.2.2.1 (pe3 a.1)))
theorem t4:MdlOK Try.prog 18 p3:=sc Try.func18 rfl qhc .z s0
def iy:Shp:=⟨[qv7],[q4r]⟩
abbrev pt:Ctx ((List af)):=⟨8,tt,false,false,[],p6 [],ry [],fx 8 tt [] [.tmp 2] iy (fun x=>x.2.1)⟩
theorem pq:CtxM Try.prog pt:=sd fits cu m0
abbrev pr:Mdl:=(bw (.cons (.nl false (.d false (.slice af.ty))) .nil) [] [] 1 iy (B:=(List af)) (fun b=>(((),()),(b,()))) (fun a=>jj a.1.1))
theorem oj:MdlOK Try.prog 26 pr:=sc Try.func26 rfl pq .z s0
def ek:Shp:=⟨[qv7],[q4r]⟩
abbrev pz:Ctx ((List af)):=⟨8,tt,false,false,[],p6 [],ry [],fx 8 tt [] [.tmp 2] ek (fun x=>x.2.1)⟩
theorem pw:CtxM Try.prog pz:=sd fits cu m0
abbrev px:Mdl:=(bw (.cons (.nl true (.d false (.slice af.ty))) .nil) [] [] 1 ek (B:=(List af)) (fun b=>(((),()),(b,()))) (fun a=>db a.1.1))
theorem ol:MdlOK Try.prog 26 px:=sc Try.func26 rfl pw .z s0
abbrev j4:Mdl:=(bw (.cons (.d false (.slice af.ty)) .nil) [] [] 1 ek (fun(b:(List af))=>(((),()),(b,()))) (fun(a:(((List af)×Unit)×(Unit)))=>cp a.1.1))
theorem pu:MdlOK Try.prog 26 j4:=by
 refine qs5 (q2k _ _) oj ol (by kernel_rfl) (fun a b h=>⟨?_,h⟩);obtain⟨⟨xs,u1⟩,u2⟩:=a;cases xs with
 |nil=>exact h
 |cons x l=>
  have e:decide ((((x::l).length:Nat):Int)=0)=false:=decide_eq_false (by simp only[List.length_cons];omega);simp only[cp,db]at h;simp only[jj,e,cond_false];exact h
def qf1:Shp:=⟨[qpw,qi8],[]⟩
abbrev qr0:Ctx ((Int×Int)):=⟨63,tt,false,false,[],p6 [(21,sr),(62,yv),(18,p3)],ry [],fx 63 tt [] [.tmp 10, .tmp 11] qf1 (fun x=>(x.1.1,x.1.2.1))⟩
theorem qrz:CtxM Try.prog qr0:=sd fits cu (mC um (mC qcd (mC t4 m0)))
abbrev qhv:Mdl:=(bw (.cons (.d false dr.ty) (.cons (.d false qT1) (.cons (.d false (.slice af.ty)) (.cons (.d false qT0) (.cons (.d false qT0) .nil))))) [] [] 2 qf1 (B:=(Int×Int)) (fun b=>((b.1,b.2,()),(()))) (fun a=>jr a.1.1 a.1.2.1 a.1.2.2.1 (pe3 a.1) (pe4 a.1)))
theorem qnw:MdlOK Try.prog 27 qhv:=sc Try.func27 rfl qrz .z s0
def xn:Shp:=⟨[qg6],[]⟩
abbrev m8:Ctx (Bool):=⟨203,tt,true,false,[],p6 [(9,qj2),(10,qpl),(26,j4),(18,p3),(27,qhv),(28,qk0)],ry [qbd _ 203 [] qfm (A:=(Int×Int×Bool×Int×Int×Bool)) (fun x=>(x.1.1,x.1.2.2.1,(pe3 x.1),x.2.1.1,x.2.1.2.1,x.2.1.2.2.1)) qfl (CE:=(Int×Int×Int×Int×Bool)) (E:=Unit) (fun c e=>((c.1,(),c.2.1,()),((c.2.2.1,(pe3 c),(pf4 c),()),()))) (fun c=>(c.1,c.2.1,(pe3 c),(pe4 c),(pf5 c))) (fun{R} c dn rt=>v7 c.1 c.2.1 c.2.2.1 (pe3 c) (pe4 c) (pf5 c) dn rt),qbd _ 203 [] qfo (A:=(Int×Int×Int×Int×Bool)) (fun x=>(x.1.1,x.1.2.2.1,x.2.1.1,x.2.1.2.1,x.2.1.2.2.1)) qfn (CE:=Unit) (E:=Unit) (fun c e=>((()),(()))) (fun c=>()) (fun{R} c dn rt=>eh c.1 c.2.1 c.2.2.1 (pe3 c) (pf4 c) dn rt),qbd _ 203 [] qfq (A:=(qL1×(List af)×Int×Int×(List af)×Int×(List aj)×Int×Int)) (fun x=>(x.1.1,x.1.2.1,x.1.2.2.1,(pe3 x.1),(pe5 x.1),x.2.1.1,x.2.1.2.1,x.2.1.2.2.1,(pe3 x.2.1))) qfp (CE:=Unit) (E:=Unit) (fun c e=>((()),(()))) (fun c=>()) (fun{R} c dn rt=>dk c.1 c.2.1 c.2.2.1 (pe3 c) (pe4 c) (pe5 c) (pe6 c) (pe7 c) (pf8 c) dn rt)],fx 203 tt [] [.tmp 14] xn (fun x=>x.1.1)⟩
theorem m7:CtxM Try.prog m8:=sd fits cu (mC qpk (mC quu (mC pu (mC t4 (mC qnw (mC qqv m0))))))
theorem qg8:bk Try.prog m8 0 (jc Try.f5 28671):=jn rfl m7 .z s0 (fun c=>((c.1,(),c.2.1,c.2.2.1,()),(((pe3 c),(pe4 c),(pf5 c),()),()))) (fun y=>((y.1.1,y.1.2.2.1,y.2.1.1,y.2.1.2.1,y.2.1.2.2.1),()))
theorem qg9:bk Try.prog m8 1 (jc Try.f5 16383):=jn rfl m7 .z s0 (fun c=>((c.1,(),c.2.1,()),((c.2.2.1,(pe3 c),(pf4 c),()),()))) (fun y=>((),()))
theorem qha:bk Try.prog m8 2 (jc Try.f5 255):=jn rfl m7 (.two .z (.two .z (.two .z (.two .z (.two .z (.two (.two .z (.s 0)) (.s 1))))))) (sC qg8 (sC qg9 s0)) (fun c=>((c.1,c.2.1,c.2.2.1,(pe3 c),(),(pe4 c),()),(((pe5 c),(pe6 c),(pe7 c),(pf8 c),()),()))) (fun y=>((),()))
abbrev qie:Mdl:=(bw (.cons (.d true dr.ty) (.cons (.d true qT1) (.cons (.d true (.slice af.ty)) (.cons (.d true qT0) (.cons (.d true qT0) (.cons (.d true (.int .u8)) (.cons (.d true (.int .u8)) .nil))))))) [] [] 1 xn (B:=Bool) (fun b=>((b,()),(()))) (fun a=>sm a.1.1 a.1.2.1 a.1.2.2.1 (pe3 a.1) (pe4 a.1) (pe5 a.1) (pe6 a.1)))
theorem qfr:MdlOK Try.prog 5 qie:=sc Try.func5 rfl m7 (.two .z (.two .z (.two .z (.two .z (.two .z (.two .z (.two .z (.s 2)))))))) (sC qha s0)
end
end Go.Proofs.Ytokeielgplbdeaa
