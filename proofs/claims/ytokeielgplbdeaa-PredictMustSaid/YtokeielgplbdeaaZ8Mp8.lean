/-
  The functions compute what their models say. Made by program (mg3.py) out of the translation.
-/
import Derived.Test.YtokeielgplbdeaaZ8Md
import Derived.Test.YtokeielgplbdeaaZ8Tt
set_option linter.all false
set_option maxRecDepth 100000
namespace Go.Proofs.Ytokeielgplbdeaa
open Go.K Go.M
abbrev pe3{A0 A1 A2 A3 A4:Type}(x:A0×A1×A2×A3×A4):A3:=x.2.2.2.1
abbrev pe4{A0 A1 A2 A3 A4 A5:Type}(x:A0×A1×A2×A3×A4×A5):A4:=x.2.2.2.2.1
abbrev pe5{A0 A1 A2 A3 A4 A5 A6:Type}(x:A0×A1×A2×A3×A4×A5×A6):A5:=x.2.2.2.2.2.1
abbrev pe6{A0 A1 A2 A3 A4 A5 A6 A7:Type}(x:A0×A1×A2×A3×A4×A5×A6×A7):A6:=x.2.2.2.2.2.2.1
abbrev pe7{A0 A1 A2 A3 A4 A5 A6 A7 A8:Type}(x:A0×A1×A2×A3×A4×A5×A6×A7×A8):A7:=x.2.2.2.2.2.2.2.1
abbrev pe8{A0 A1 A2 A3 A4 A5 A6 A7 A8 A9:Type}(x:A0×A1×A2×A3×A4×A5×A6×A7×A8×A9):A8:=x.2.2.2.2.2.2.2.2.1
abbrev pe9{A0 A1 A2 A3 A4 A5 A6 A7 A8 A9 A10:Type}(x:A0×A1×A2×A3×A4×A5×A6×A7×A8×A9×A10):A9:=x.2.2.2.2.2.2.2.2.2.1
abbrev pe10{A0 A1 A2 A3 A4 A5 A6 A7 A8 A9 A10 A11:Type}(x:A0×A1×A2×A3×A4×A5×A6×A7×A8×A9×A10×A11):A10:=x.2.2.2.2.2.2.2.2.2.2.1
abbrev pe11{A0 A1 A2 A3 A4 A5 A6 A7 A8 A9 A10 A11 A12:Type}(x:A0×A1×A2×A3×A4×A5×A6×A7×A8×A9×A10×A11×A12):A11:=x.2.2.2.2.2.2.2.2.2.2.2.1
abbrev pe12{A0 A1 A2 A3 A4 A5 A6 A7 A8 A9 A10 A11 A12 A13:Type}(x:A0×A1×A2×A3×A4×A5×A6×A7×A8×A9×A10×A11×A12×A13):A12:=x.2.2.2.2.2.2.2.2.2.2.2.2.1
abbrev pf4{A0 A1 A2 A3 A4:Type}(x:A0×A1×A2×A3×A4):A4:=x.2.2.2.2
abbrev pf5{A0 A1 A2 A3 A4 A5:Type}(x:A0×A1×A2×A3×A4×A5):A5:=x.2.2.2.2.2
abbrev pf6{A0 A1 A2 A3 A4 A5 A6:Type}(x:A0×A1×A2×A3×A4×A5×A6):A6:=x.2.2.2.2.2.2
abbrev pf7{A0 A1 A2 A3 A4 A5 A6 A7:Type}(x:A0×A1×A2×A3×A4×A5×A6×A7):A7:=x.2.2.2.2.2.2.2
abbrev pf8{A0 A1 A2 A3 A4 A5 A6 A7 A8:Type}(x:A0×A1×A2×A3×A4×A5×A6×A7×A8):A8:=x.2.2.2.2.2.2.2.2
abbrev pf10{A0 A1 A2 A3 A4 A5 A6 A7 A8 A9 A10:Type}(x:A0×A1×A2×A3×A4×A5×A6×A7×A8×A9×A10):A10:=x.2.2.2.2.2.2.2.2.2.2
abbrev pf11{A0 A1 A2 A3 A4 A5 A6 A7 A8 A9 A10 A11:Type}(x:A0×A1×A2×A3×A4×A5×A6×A7×A8×A9×A10×A11):A11:=x.2.2.2.2.2.2.2.2.2.2.2
noncomputable section
def qi2:Shp:=⟨[qin],[]⟩
abbrev qyi:Ctx (Bool):=⟨17,tt,false,false,[],m5 [],oj [],dp 17 tt [] [.tmp 2] qi2 (fun x=>x.1.1)⟩
theorem qyh:CtxM Try.prog qyi:=ow fits bt m0
abbrev qel:Mdl:=(bc (.cons (.d false (.int .u8)) .nil) [] [] 1 qi2 (B:=Bool) (fun b=>((b,()),(()))) (fun a=>xn a.1.1))
theorem qg3:MdlOK Try.prog 96 qel:=ou Try.func96 rfl qyh .z s0
def qpe:Shp:=⟨[qin],[]⟩
abbrev q3b:Ctx (Bool):=⟨25,tt,false,false,[],m5 [(96,qel)],oj [],dp 25 tt [] [.tmp 2] qpe (fun x=>x.1.1)⟩
theorem q3a:CtxM Try.prog q3b:=ow fits bt (mC qg3 m0)
abbrev qsr:Mdl:=(bc (.cons (.d false (.int .u8)) .nil) [] [] 1 qpe (B:=Bool) (fun b=>((b,()),(()))) (fun a=>qif a.1.1))
theorem qyj:MdlOK Try.prog 97 qsr:=ou Try.func97 rfl q3a .z s0
def qi1:Shp:=⟨[qin],[]⟩
abbrev ql5:Ctx (Bool):=⟨29,tt,false,false,[],m5 [(96,qel),(97,qsr)],oj [be _ 29 [] qsp (C:=(ByteArray×Int)) (S:=Int) (fun x=>((x.1.1,x.1.2.1),x.1.2.2.1)) qso (CE:=Unit) (E:=Unit) (fun c e=>((()),(()))) (fun c=>()) (fun{R} c a nx dn rt=>ph c.1 c.2 a nx dn rt)],dp 29 tt [] [.tmp 2] qi1 (fun x=>x.1.1)⟩
theorem ql3:CtxM Try.prog ql5:=ow fits bt (mC qg3 (mC qyj m0))
theorem qun:bh Try.prog ql5 0 (lc 0 Try.f77 75):=lp rfl ql3 .z s0 (fun c a=>((c.1,c.2,a,()),(()))) (fun y=>((),()))
abbrev ql4:Mdl:=(bc (.cons (.d false .str) .nil) [] [] 1 qi1 (B:=Bool) (fun b=>((b,()),(()))) (fun a=>qat a.1.1))
theorem qsq:MdlOK Try.prog 77 ql4:=ou Try.func77 rfl ql3 (.two .z (.two .z (.two (.two .z (.s 0)) .z))) (sC qun s0)
def qha:Shp:=⟨[qin],[]⟩
abbrev qja:Ctx (Bool):=⟨36,tt,false,false,[],m5 [],oj [be _ 36 [] qqb (C:=(qL1×qL1×Int×Int×(List ag)×Int×Int)) (S:=Int) (fun x=>((x.1.1,x.1.2.2.1,(pe3 x.1),x.2.1.1,x.2.1.2.1,x.2.1.2.2.1,(pe3 x.2.1)),(pe4 x.1))) qqa (CE:=Unit) (E:=Unit) (fun c e=>((()),(()))) (fun c=>()) (fun{R} c a nx dn rt=>lb c.1 c.2.1 c.2.2.1 (pe3 c) (pe4 c) (pe5 c) (pf6 c) a nx dn rt)],dp 36 tt [] [.tmp 4] qha (fun x=>x.1.1)⟩
theorem qi8:CtxM Try.prog qja:=ow fits bt m0
theorem qs8:bh Try.prog qja 0 (lc 0 Try.f78 37):=lp rfl qi8 .z s0 (fun c a=>((c.1,(),c.2.1,c.2.2.1,a,()),(((pe3 c),(pe4 c),(pe5 c),(pf6 c),()),()))) (fun y=>((),()))
abbrev qi9:Mdl:=(bc (.cons (.d false cj.ty) (.cons (.d false qT1) .nil)) [] [] 1 qha (B:=Bool) (fun b=>((b,()),(()))) (fun a=>j1 a.1.1 a.1.2.1))
theorem qqc:MdlOK Try.prog 78 qi9:=ou Try.func78 rfl qi8 (.two .z (.two (.two .z (.s 0)) .z)) (sC qs8 s0)
def qi7:Shp:=⟨[qin],[]⟩
abbrev qmg:Ctx (Bool):=⟨62,tt,false,false,[],m5 [(77,ql4),(78,qi9)],oj [be _ 62 [] qs2 (C:=((List ag)×Int×Int×(List ag)×Int×Int)) (S:=Int) (fun x=>((x.1.2.1,x.1.2.2.1,x.2.1.1,x.2.1.2.1,x.2.1.2.2.1,(pe3 x.2.1)),(pe3 x.1))) qs1 (CE:=(Int×(List ag)×Int×Int)) (E:=Unit) (fun c e=>(((),()),((c.1,c.2.1,c.2.2.1,c.2.2.2,()),()))) (fun c=>(c.2.2.1,(pe3 c),(pe4 c),(pf5 c))) (fun{R} c a nx dn rt=>tw c.1 c.2.1 c.2.2.1 (pe3 c) (pe4 c) (pf5 c) a nx dn rt)],dp 62 tt [] [.tmp 2] qi7 (fun x=>x.1.1)⟩
theorem qmf:CtxM Try.prog qmg:=ow fits bt (mC qsq (mC qqc m0))
theorem quq:bh Try.prog qmg 0 (lc 0 Try.f50 75):=lp rfl qmf .z s0 (fun c a=>(((),c.1,c.2.1,a,()),((c.2.2.1,(pe3 c),(pe4 c),(pf5 c),()),()))) (fun y=>((y.2.1.1,y.2.1.2.1,y.2.1.2.2.1,(pe3 y.2.1)),()))
abbrev np:Mdl:=(bc (.cons (.d false cj.ty) .nil) [] [] 1 qi7 (B:=Bool) (fun b=>((b,()),(()))) (fun a=>lg a.1.1))
theorem mj:MdlOK Try.prog 50 np:=ou Try.func50 rfl qmf (.two .z (.two .z (.two (.two .z (.s 0)) .z))) (sC quq s0)
def qa3:Shp:=⟨[qin],[]⟩
abbrev qoi:Ctx (Bool):=⟨35,tt,false,false,[],m5 [],oj [],dp 35 tt [] [.tmp 2] qa3 (fun x=>x.1.1)⟩
theorem qoh:CtxM Try.prog qoi:=ow fits bt m0
abbrev qdj:Mdl:=(bc (.cons (.d false af.ty) .nil) [] [] 1 qa3 (B:=Bool) (fun b=>((b,()),(()))) (fun a=>rq a.1.1))
theorem qkq:MdlOK Try.prog 87 qdj:=ou Try.func87 rfl qoh .z s0
def gg:Shp:=⟨[qp3],[]⟩
abbrev gv:Ctx (Int):=⟨19,tt,false,false,[],m5 [(87,qdj)],oj [be _ 19 [] mw (C:=((List af)×Int)) (S:=Int) (fun x=>((x.1.1,x.1.2.2.1),(pe3 x.1))) mt (CE:=Unit) (E:=Unit) (fun c e=>((()),(()))) (fun c=>()) (fun{R} c a nx dn rt=>bx c.1 c.2 a nx dn rt)],dp 19 tt [] [.tmp 4] gg (fun x=>x.1.1)⟩
theorem gq:CtxM Try.prog gv:=ow fits bt (mC qkq m0)
theorem m8:bh Try.prog gv 0 (lc 0 Try.f101 37):=lp rfl gq .z s0 (fun c a=>((c.1,(()),c.2,a,()),(()))) (fun y=>((),()))
abbrev gu:Mdl:=(bc (.cons (.d false (.slice af.ty)) (.cons (.fn 87 .nil) .nil)) [] [] 1 gg (B:=Int) (fun b=>((b,()),(()))) (fun a=>dr a.1.1))
theorem my:MdlOK Try.prog 101 gu:=ou Try.func101 rfl gq (.two .z (.two (.two .z (.s 0)) .z)) (sC m8 s0)
def fj:Shp:=⟨[qin],[]⟩
abbrev ma:Ctx (Bool):=⟨9,tt,false,false,[],m5 [(101,gu)],oj [],dp 9 tt [] [.tmp 4] fj (fun x=>x.1.1)⟩
theorem l9:CtxM Try.prog ma:=ow fits bt (mC my m0)
abbrev fp:Mdl:=(bc (.cons (.d false (.slice af.ty)) (.cons (.fn 87 .nil) .nil)) [] [] 1 fj (B:=Bool) (fun b=>((b,()),(()))) (fun a=>da a.1.1))
theorem lm:MdlOK Try.prog 86 fp:=ou Try.func86 rfl l9 .z s0
def qfv:Shp:=⟨[qin],[]⟩
abbrev qth:Ctx (Bool):=⟨16,tt,false,false,[],m5 [(86,fp)],oj [],dp 16 tt [] [.tmp 4] qfv (fun x=>x.1.1)⟩
theorem qtg:CtxM Try.prog qth:=ow fits bt (mC lm m0)
abbrev qho:Mdl:=(bc (.cons (.d false cj.ty) (.cons (.d false (.slice af.ty)) .nil)) [] [] 1 qfv (B:=Bool) (fun b=>((b,()),(()))) (fun a=>wz a.1.1 a.1.2.1))
theorem qoj:MdlOK Try.prog 62 qho:=ou Try.func62 rfl qtg .z s0
def qay:Shp:=⟨[qin],[]⟩
abbrev qn9:Ctx (Bool):=⟨9,tt,false,false,[],m5 [],oj [],dp 9 tt [] [.tmp 2] qay (fun x=>x.1.1)⟩
theorem qn8:CtxM Try.prog qn9:=ow fits bt m0
abbrev qcu:Mdl:=(bc (.cons (.d false qT0) .nil) [] [] 1 qay (B:=Bool) (fun b=>((b,()),(()))) (fun a=>yc a.1.1))
theorem qkc:MdlOK Try.prog 83 qcu:=ou Try.func83 rfl qn8 .z s0
def nh:Shp:=⟨[qp3],[]⟩
abbrev od:Ctx (Int):=⟨19,tt,false,false,[],m5 [(83,qcu)],oj [be _ 19 [] wc (C:=(qL1×Int)) (S:=Int) (fun x=>((x.1.1,x.1.2.2.1),(pe3 x.1))) wb (CE:=Unit) (E:=Unit) (fun c e=>((()),(()))) (fun c=>()) (fun{R} c a nx dn rt=>em c.1 c.2 a nx dn rt)],dp 19 tt [] [.tmp 4] nh (fun x=>x.1.1)⟩
theorem oa:CtxM Try.prog od:=ow fits bt (mC qkc m0)
theorem xy:bh Try.prog od 0 (lc 0 Try.f60 37):=lp rfl oa .z s0 (fun c a=>((c.1,(()),c.2,a,()),(()))) (fun y=>((),()))
abbrev oc:Mdl:=(bc (.cons (.d false qT1) (.cons (.fn 83 .nil) .nil)) [] [] 1 nh (B:=Int) (fun b=>((b,()),(()))) (fun a=>j9 a.1.1))
theorem wd:MdlOK Try.prog 60 oc:=ou Try.func60 rfl oa (.two .z (.two (.two .z (.s 0)) .z)) (sC xy s0)
def ln:Shp:=⟨[qin],[]⟩
abbrev uu:Ctx (Bool):=⟨9,tt,false,false,[],m5 [(60,oc)],oj [],dp 9 tt [] [.tmp 4] ln (fun x=>x.1.1)⟩
theorem ut:CtxM Try.prog uu:=ow fits bt (mC wd m0)
abbrev l7:Mdl:=(bc (.cons (.d false qT1) (.cons (.fn 83 .nil) .nil)) [] [] 1 ln (B:=Bool) (fun b=>((b,()),(()))) (fun a=>ek a.1.1))
theorem tf:MdlOK Try.prog 23 l7:=ou Try.func23 rfl ut .z s0
def qfp:Shp:=⟨[qin],[]⟩
abbrev qs6:Ctx (Bool):=⟨19,tt,false,false,[],m5 [(50,np),(23,l7)],oj [],dp 19 tt [] [.tmp 4] qfp (fun x=>x.1.1)⟩
theorem qs5:CtxM Try.prog qs6:=ow fits bt (mC mj (mC tf m0))
abbrev zw:Mdl:=(bc (.cons (.d false cj.ty) (.cons (.d false qT1) .nil)) [] [] 1 qfp (B:=Bool) (fun b=>((b,()),(()))) (fun a=>oq a.1.1 a.1.2.1))
theorem qcv:MdlOK Try.prog 57 zw:=ou Try.func57 rfl qs5 .z s0
def qax:Shp:=⟨[qin],[]⟩
abbrev qn7:Ctx (Bool):=⟨9,tt,false,false,[],m5 [],oj [],dp 9 tt [] [.tmp 3] qax (fun x=>x.1.1)⟩
theorem qn6:CtxM Try.prog qn7:=ow fits bt m0
abbrev qcs:Mdl:=(bc (.cons (.d false qT0) (.cons (.rp false qT1) .nil)) [] [] 1 qax (B:=Bool) (fun b=>((b,()),(()))) (fun a=>yb a.1.1 a.1.2.1))
theorem qka:MdlOK Try.prog 84 qcs:=ou Try.func84 rfl qn6 .z s0
def nj:Shp:=⟨[qp3],[]⟩
abbrev oh:Ctx (Int):=⟨19,tt,false,false,[],m5 [(84,qcs)],oj [be _ 19 [] wg (C:=(qL1×qL1×Int)) (S:=Int) (fun x=>((x.1.1,x.1.2.1.1,x.1.2.2.1),(pe3 x.1))) we (CE:=Unit) (E:=Unit) (fun c e=>((()),(()))) (fun c=>()) (fun{R} c a nx dn rt=>eo c.1 c.2.1 c.2.2 a nx dn rt)],dp 19 tt [] [.tmp 4] nj (fun x=>x.1.1)⟩
theorem oe:CtxM Try.prog oh:=ow fits bt (mC qka m0)
theorem xz:bh Try.prog oh 0 (lc 0 Try.f60 37):=lp rfl oe .z s0 (fun c a=>((c.1,(c.2.1,()),c.2.2,a,()),(()))) (fun y=>((),()))
abbrev og:Mdl:=(bc (.cons (.d false qT1) (.cons (.fn 84 (.cons (.rp false qT1) .nil)) .nil)) [] [] 1 nj (B:=Int) (fun b=>((b,()),(()))) (fun a=>kb a.1.1 a.1.2.1.1))
theorem wh:MdlOK Try.prog 60 og:=ou Try.func60 rfl oe (.two .z (.two (.two .z (.s 0)) .z)) (sC xz s0)
def lq:Shp:=⟨[qin],[]⟩
abbrev uw:Ctx (Bool):=⟨9,tt,false,false,[],m5 [(60,og)],oj [],dp 9 tt [] [.tmp 4] lq (fun x=>x.1.1)⟩
theorem uv:CtxM Try.prog uw:=ow fits bt (mC wh m0)
abbrev l8:Mdl:=(bc (.cons (.d false qT1) (.cons (.fn 84 (.cons (.rp false qT1) .nil)) .nil)) [] [] 1 lq (B:=Bool) (fun b=>((b,()),(()))) (fun a=>iv a.1.1 a.1.2.1.1))
theorem th:MdlOK Try.prog 23 l8:=ou Try.func23 rfl uv .z s0
def qfo:Shp:=⟨[qin],[]⟩
abbrev qs4:Ctx (Bool):=⟨10,tt,false,false,[],m5 [(23,l8)],oj [],dp 10 tt [] [.tmp 4] qfo (fun x=>x.1.1)⟩
theorem qs3:CtxM Try.prog qs4:=ow fits bt (mC th m0)
abbrev zt:Mdl:=(bc (.cons (.d false ag.ty) (.cons (.d false qT1) .nil)) [] [] 1 qfo (B:=Bool) (fun b=>((b,()),(()))) (fun a=>qo a.1.1 a.1.2.1))
theorem qct:MdlOK Try.prog 58 zt:=ou Try.func58 rfl qs3 .z s0
def qfn:Shp:=⟨[q15,qj2],[qf6]⟩
abbrev qg6:Ctx ((Int×qL1)):=⟨30,tt,false,false,[],m5 [(57,zw),(58,zt)],oj [be _ 30 [] qn5 (C:=(qL1×(List ag)×Int)) (S:=(Int×qL1)) (fun x=>((x.1.1,x.1.2.2.1,(pe3 x.1)),((pe4 x.1),x.2.1))) qn4 (CE:=Unit) (E:=qL1) (fun c e=>(((),()),(e,()))) (fun c=>()) (fun{R} c a nx dn rt=>mi c.1 c.2.1 c.2.2 a.1 a.2 nx dn rt)],dp 30 tt [] [.tmp 4, .tmp 5] qfn (fun x=>(x.1.2.1,x.2.1))⟩
theorem qg5:CtxM Try.prog qg6:=ow fits bt (mC qcv (mC qct m0))
theorem qp9:bh Try.prog qg6 0 (lc 0 Try.f21 151):=lp rfl qg5 .z s0 (fun c a=>((c.1,(),c.2.1,c.2.2,a.1,()),(a.2,()))) (fun y=>((),y.2.1))
abbrev zr:Mdl:=(bc (.cons (.d false cj.ty) (.cons (.d false qT1) .nil)) [] [] 2 qfn (B:=(Int×qL1)) (fun b=>(((),b.1,()),(b.2,()))) (fun a=>om a.1.1 a.1.2.1))
theorem qcr:MdlOK Try.prog 21 zr:=ou Try.func21 rfl qg5 (.two .z (.two .z (.two .z (.two (.two .z (.s 0)) .z)))) (sC qp9 s0)
def rf:Shp:=⟨[qxm],[qf6]⟩
abbrev qdr:Ctx (qL1):=⟨8,tt,false,false,[],m5 [],oj [],dp 8 tt [] [.tmp 2] rf (fun x=>x.2.1)⟩
theorem qdp:CtxM Try.prog qdr:=ow fits bt m0
abbrev qdq:Mdl:=(bc (.cons (.nl false (.d false qT1)) .nil) [] [] 1 rf (B:=qL1) (fun b=>(((),()),(b,()))) (fun a=>uf a.1.1))
theorem qag:MdlOK Try.prog 36 qdq:=ou Try.func36 rfl qdp .z s0
def ly:Shp:=⟨[qxm],[qf6]⟩
abbrev qdu:Ctx (qL1):=⟨8,tt,false,false,[],m5 [],oj [],dp 8 tt [] [.tmp 2] ly (fun x=>x.2.1)⟩
theorem qds:CtxM Try.prog qdu:=ow fits bt m0
abbrev qdt:Mdl:=(bc (.cons (.nl true (.d false qT1)) .nil) [] [] 1 ly (B:=qL1) (fun b=>(((),()),(b,()))) (fun a=>j8 a.1.1))
theorem qah:MdlOK Try.prog 36 qdt:=ou Try.func36 rfl qds .z s0
abbrev kw:Mdl:=(bc (.cons (.d false qT1) .nil) [] [] 1 ly (fun(b:qL1)=>(((),()),(b,()))) (fun(a:((qL1×Unit)×(Unit)))=>cq a.1.1))
theorem mr:MdlOK Try.prog 36 kw:=by
 refine qv8 (q6f _ _) qag qah (by kernel_rfl) (fun a b h=>⟨?_,h⟩);obtain⟨⟨xs,u1⟩,u2⟩:=a;cases xs with
 |nil=>exact h
 |cons x l=>
  have e:decide ((((x::l).length:Nat):Int)=0)=false:=decide_eq_false (by simp only[List.length_cons];omega);simp only[cq,j8]at h;simp only[uf,e,cond_false];exact h
def qpv:Shp:=⟨[jhy],[]⟩
abbrev qt1:Ctx (ByteArray):=⟨27,tt,false,false,[],m5 [],oj [be _ 27 [] qzd (C:=(qL1×Int)) (S:=(Int×qL1)) (fun x=>((x.1.2.1,x.1.2.2.1),((pe3 x.1),x.2.1))) qzc (CE:=Unit) (E:=qL1) (fun c e=>(((),()),(e,()))) (fun c=>()) (fun{R} c a nx dn rt=>zc c.1 c.2 a.1 a.2 nx dn rt)],dp 27 tt [] [.tmp 2] qpv (fun x=>x.1.1)⟩
theorem qtz:CtxM Try.prog qt1:=ow fits bt m0
theorem q1r:bh Try.prog qt1 0 (lc 0 Try.f98 75):=lp rfl qtz .z s0 (fun c a=>(((),c.1,c.2,a.1,()),(a.2,()))) (fun y=>((),y.2.1))
abbrev qt0:Mdl:=(bc (.cons (.d false qT1) .nil) [] [] 1 qpv (B:=ByteArray) (fun b=>((b,()),(()))) (fun a=>wi a.1.1))
theorem qze:MdlOK Try.prog 98 qt0:=ou Try.func98 rfl qtz (.two .z (.two .z (.two (.two .z (.s 0)) .z))) (sC q1r s0)
def x3:Shp:=⟨[qp3],[]⟩
abbrev yw:Ctx (Int):=⟨25,tt,false,false,[],m5 [],oj [be _ 25 [] qgj (C:=qL1) (S:=(Int×Int)) (fun x=>(x.1.1,(x.1.2.1,x.1.2.2.1))) qgi (CE:=Unit) (E:=Int) (fun c e=>((e,()),(()))) (fun c=>()) (fun{R} c a nx dn rt=>ky c a.1 a.2 nx dn rt)],dp 25 tt [] [.tmp 2] x3 (fun x=>x.1.1)⟩
theorem yu:CtxM Try.prog yw:=ow fits bt m0
theorem qh3:bh Try.prog yw 0 (lc 0 Try.f85 151):=lp rfl yu .z s0 (fun c a=>((c,a.1,a.2,()),(()))) (fun y=>((),y.1.1))
abbrev yv:Mdl:=(bc (.cons (.d false qT1) .nil) [] [] 1 x3 (B:=Int) (fun b=>((b,()),(()))) (fun a=>n4 a.1.1))
theorem qgk:MdlOK Try.prog 85 yv:=ou Try.func85 rfl yu (.two .z (.two .z (.two .z (.two (.two .z (.s 0)) .z)))) (sC qh3 s0)
def qmj:Shp:=⟨[qxm,qj2],[qf6]⟩
abbrev qg8:Ctx ((Int×qL1)):=⟨66,tt,false,false,[],m5 [(58,zt),(36,kw),(85,yv)],oj [be _ 66 [] qus (C:=(qL1×Int×ByteArray×qL1×qL1)) (S:=(Int×qL1)) (fun x=>((x.1.2.2.1,(pe3 x.1),x.2.1.1,x.2.1.2.1,x.2.1.2.2.1),((pe4 x.1),x.2.2.1))) qur (CE:=(ByteArray×qL1×qL1)) (E:=qL1) (fun c e=>(((),(),()),((c.1,c.2.1,c.2.2,()),e,()))) (fun c=>(c.2.2.1,(pe3 c),(pf4 c))) (fun{R} c a nx dn rt=>wx c.1 c.2.1 c.2.2.1 (pe3 c) (pf4 c) a.1 a.2 nx dn rt),be _ 66 [] quu (C:=(qL1×Int)) (S:=(Int×qL1)) (fun x=>((x.1.2.1,x.1.2.2.1),((pe3 x.1),x.2.1))) qut (CE:=Unit) (E:=qL1) (fun c e=>(((),()),(e,()))) (fun c=>()) (fun{R} c a nx dn rt=>wy c.1 c.2 a.1 a.2 nx dn rt)],dp 66 tt [] [.tmp 6, .tmp 7] qmj (fun x=>(x.1.2.1,x.2.1))⟩
theorem qg7:CtxM Try.prog qg8:=ow fits bt (mC qct (mC mr (mC qgk m0)))
theorem qyr:bh Try.prog qg8 1 (lc 2 Try.f59 1215):=lp rfl qg7 .z s0 (fun c a=>(((),c.1,c.2,a.1,()),(a.2,()))) (fun y=>((),y.2.1))
theorem qyq:bh Try.prog qg8 0 (lc 0 Try.f59 607):=lp rfl qg7 .z s0 (fun c a=>(((),(),c.1,c.2.1,a.1,()),((c.2.2.1,(pe3 c),(pf4 c),()),a.2,()))) (fun y=>((y.2.1.1,y.2.1.2.1,y.2.1.2.2.1),y.2.2.1))
abbrev qpi:Mdl:=(bc (.cons (.d false cj.ty) (.cons (.d false qT1) (.cons (.d false qT0) .nil))) [] [] 2 qmj (B:=(Int×qL1)) (fun b=>(((),b.1,()),(b.2,()))) (fun a=>qkb a.1.1 a.1.2.1 a.1.2.2.1))
theorem quv:MdlOK Try.prog 59 qpi:=ou Try.func59 rfl qg7 (.two .z (.two .z (.two .z (.two .z (.two .z (.two (.two .z (.s 0)) (.two (.two .z (.s 1)) .z))))))) (sC qyq (sC qyr s0))
def qme:Shp:=⟨[qxm,qj2],[qf6]⟩
abbrev q1d:Ctx ((Int×qL1)):=⟨18,tt,false,false,[],m5 [(57,zw),(59,qpi)],oj [],dp 18 tt [] [.tmp 6, .tmp 7] qme (fun x=>(x.1.2.1,x.2.1))⟩
theorem q1c:CtxM Try.prog q1d:=ow fits bt (mC qcv (mC quv m0))
abbrev qph:Mdl:=(bc (.cons (.d false cj.ty) (.cons (.d false qT1) (.cons (.d false qT0) .nil))) [] [] 2 qme (B:=(Int×qL1)) (fun b=>(((),b.1,()),(b.2,()))) (fun a=>qem a.1.1 a.1.2.1 a.1.2.2.1))
theorem qup:MdlOK Try.prog 22 qph:=ou Try.func22 rfl q1c .z s0
def qf4:Shp:=⟨[(0, .d true kj.ty),qj2],[]⟩
abbrev qae:Ctx ((kj×Int)):=⟨126,tt,false,true,[],m5 [(21,zr),(36,kw),(98,qt0),(22,qph)],oj [be _ 126 [] qou (C:=(Int×Int×qL1×Int×Int×(List ag)×Int×Int×qL2×(List aq)×Bool)) (S:=(Int×Bool×(List (ByteArray×Int))×qL2×(List aq))) (fun x=>((x.1.1,(pe5 x.1),(pe6 x.1),(pe7 x.1),x.2.1.1,x.2.1.2.1,x.2.1.2.2.1,(pe3 x.2.1),x.2.2.1.1,x.2.2.1.2.1,x.2.2.1.2.2.1),((pe8 x.1),(pe3 x).2.2.1,(pe4 x),(pe5 x),(pe6 x)))) qot (CE:=(Int×Int×Int×(List ag)×Int×Int×qL2×(List aq)×Bool)) (E:=(Bool×(List (ByteArray×Int))×qL2×(List aq))) (fun c e=>((c.1,(),(),(),(),c.2.1,()),((c.2.2.1,(pe3 c),(pe4 c),(pe5 c),()),((pe6 c),(pe7 c),(pf8 c),()),((),(),e.1,()),e.2.1,e.2.2.1,e.2.2.2,()))) (fun c=>(c.1,c.2.1,(pe4 c),(pe5 c),(pe6 c),(pe7 c),(pe8 c),(pe9 c),(pf10 c))) (fun{R} c a nx dn rt=>iw c.1 c.2.1 c.2.2.1 (pe3 c) (pe4 c) (pe5 c) (pe6 c) (pe7 c) (pe8 c) (pe9 c) (pf10 c) a.1 a.2.1 a.2.2.1 (pe3 a) (pf4 a) nx dn rt),be _ 126 [] qow (C:=(Int×Int×(List ag)×Int×Int×qL2×(List aq)×Bool)) (S:=(Int×Bool×(List (ByteArray×Int))×qL2×(List aq))) (fun x=>((x.1.1,x.2.1.1,x.2.1.2.1,x.2.1.2.2.1,(pe3 x.2.1),x.2.2.1.1,x.2.2.1.2.1,x.2.2.1.2.2.1),((pe5 x.1),(pe3 x).2.2.1,(pe4 x),(pe5 x),(pe6 x)))) qov (CE:=(qL2×(List aq)×Bool)) (E:=(Bool×qL2×(List aq))) (fun c e=>(((),(),()),((c.1,c.2.1,c.2.2,()),((),(),e.1,()),e.2.1,e.2.2,()))) (fun c=>((pe5 c),(pe6 c),(pf7 c))) (fun{R} c a nx dn rt=>kh c.1 c.2.1 c.2.2.1 (pe3 c) (pe4 c) (pe5 c) (pe6 c) (pf7 c) a.1 a.2.1 a.2.2.1 (pe3 a) (pf4 a) nx dn rt)],dp 126 tt [] [.cell 6 87, .tmp 7] qf4 (fun x=>(x.1.1,x.1.2.1))⟩
theorem qad:CtxM Try.prog qae:=ow fits bt (mC qcr (mC mr (mC qze (mC qup m0))))
theorem qqr:bh Try.prog qae 0 (lc 2 Try.f79 78431):=lp rfl qad (.two .z (.two .z (.two (.one (.two .z (.two (.d [0,0,2,0,14,30,0,127,255,511,511,1023,4095] [] []) .z))) .z))) s0 (fun c a=>((c.1,(),(),(),(),c.2.1,c.2.2.1,(pe3 c),a.1,()),(((pe4 c),(pe5 c),(pe6 c),(pe7 c),()),((pe8 c),(pe9 c),(pf10 c),()),((),(),a.2.1,()),a.2.2.1,(pe3 a),(pf4 a),()))) (fun y=>((y.1.1,(pe5 y.1),y.2.1.1,y.2.1.2.1,y.2.1.2.2.1,(pe3 y.2.1),y.2.2.1.1,y.2.2.1.2.1,y.2.2.1.2.2.1),((pe3 y).2.2.1,(pe4 y),(pe5 y),(pe6 y))))
theorem qqs:bh Try.prog qae 1 (lc 0 Try.f79 607):=lp rfl qad (.two .z (.two (.one (.two (.d [0,0,2,0,14,30,63,127,255,255,511,2047] [] []) (.two .z (.s 0)))) .z)) (sC qqr s0) (fun c a=>((c.1,(),(),(),(),a.1,()),((c.2.1,c.2.2.1,(pe3 c),(pe4 c),()),((pe5 c),(pe6 c),(pf7 c),()),((),(),a.2.1,()),a.2.2.1,(pe3 a),(pf4 a),()))) (fun y=>((y.2.1.1,y.2.1.2.1,y.2.1.2.2.1),(y.2.2.1.2.2.1,(pe3 y),(pe4 y))))
abbrev qh4:Mdl:=(bc (.cons (.d false cj.ty) (.cons (.d false qT1) (.cons (.d false qT0) .nil))) [] [] 2 qf4 (B:=(kj×Int)) (fun b=>((b.1,b.2,()),(()))) (fun a=>xe a.1.1 a.1.2.1 a.1.2.2.1))
theorem qox:MdlOK Try.prog 79 qh4:=ou Try.func79 rfl qad (.two .z (.two .z (.two .z (.two .z (.two .z (.two (.two .z (.s 1)) .z)))))) (sC qqs s0)
def qpj:Shp:=⟨[qxm,qj2],[qf6]⟩
abbrev q3m:Ctx ((Int×qL1)):=⟨17,tt,false,false,[],m5 [(50,np)],oj [],dp 17 tt [] [.tmp 4, .tmp 5] qpj (fun x=>(x.1.2.1,x.2.1))⟩
theorem q3l:CtxM Try.prog q3m:=ow fits bt (mC mj m0)
abbrev qs7:Mdl:=(bc (.cons (.d false cj.ty) (.cons (.d false qT0) .nil)) [] [] 2 qpj (B:=(Int×qL1)) (fun b=>(((),b.1,()),(b.2,()))) (fun a=>qoa a.1.1 a.1.2.1))
theorem qys:MdlOK Try.prog 56 qs7:=ou Try.func56 rfl q3l .z s0
def qi5:Shp:=⟨[qxm,qj2],[qf6]⟩
abbrev qyp:Ctx ((Int×qL1)):=⟨10,tt,false,false,[],m5 [(56,qs7)],oj [],dp 10 tt [] [.tmp 2, .tmp 3] qi5 (fun x=>(x.1.2.1,x.2.1))⟩
theorem qyo:CtxM Try.prog qyp:=ow fits bt (mC qys m0)
abbrev qmd:Mdl:=(bc (.cons (.d false cj.ty) .nil) [] [] 2 qi5 (B:=(Int×qL1)) (fun b=>(((),b.1,()),(b.2,()))) (fun a=>qaw a.1.1))
theorem qs0:MdlOK Try.prog 19 qmd:=ou Try.func19 rfl qyo .z s0
def uh:Shp:=⟨[qin],[]⟩
abbrev vf:Ctx (Bool):=⟨26,tt,false,false,[],m5 [],oj [be _ 26 [] qdw (C:=(qL1×qL1×Int)) (S:=Int) (fun x=>((x.1.1,x.1.2.1,x.1.2.2.1),(pe3 x.1))) qdv (CE:=Unit) (E:=Unit) (fun c e=>((()),(()))) (fun c=>()) (fun{R} c a nx dn rt=>gb c.1 c.2.1 c.2.2 a nx dn rt)],dp 26 tt [] [.tmp 4] uh (fun x=>x.1.1)⟩
theorem ve:CtxM Try.prog vf:=ow fits bt m0
theorem qe3:bh Try.prog vf 0 (lc 0 Try.f17 75):=lp rfl ve (.two .z (.two .z (.two (.one (.two .z (.two (.d [0,0,3,7,0,0,48,112,255] [] []) .z))) .z))) s0 (fun c a=>((c.1,c.2.1,c.2.2,a,()),(()))) (fun y=>((),()))
abbrev o5:Mdl:=(bc (.cons (.d false qT1) (.cons (.d false qT1) .nil)) [] [] 1 uh (B:=Bool) (fun b=>((b,()),(()))) (fun a=>dh a.1.1 a.1.2.1))
theorem tc:MdlOK Try.prog 17 o5:=ou Try.func17 rfl ve (.two .z (.two .z (.two (.two .z (.s 0)) .z))) (sC qe3 s0)
def qh5:Shp:=⟨[qin],[]⟩
abbrev qu9:Ctx (Bool):=⟨7,tt,false,false,[],m5 [(17,o5)],oj [],dp 7 tt [] [.tmp 3] qh5 (fun x=>x.1.1)⟩
theorem qu8:CtxM Try.prog qu9:=ow fits bt (mC tc m0)
abbrev qju:Mdl:=(bc (.cons (.d false qT1) (.cons (.rp false qT1) .nil)) [] [] 1 qh5 (B:=Bool) (fun b=>((b,()),(()))) (fun a=>zb a.1.1 a.1.2.1))
theorem qqt:MdlOK Try.prog 100 qju:=ou Try.func100 rfl qu8 .z s0
def m3:Shp:=⟨[qp3],[]⟩
abbrev nc:Ctx (Int):=⟨19,tt,false,false,[],m5 [(100,qju)],oj [be _ 19 [] uz (C:=(qL2×qL1×Int)) (S:=Int) (fun x=>((x.1.1,x.1.2.1.1,x.1.2.2.1),(pe3 x.1))) uy (CE:=Unit) (E:=Unit) (fun c e=>((()),(()))) (fun c=>()) (fun{R} c a nx dn rt=>eb c.1 c.2.1 c.2.2 a nx dn rt)],dp 19 tt [] [.tmp 4] m3 (fun x=>x.1.1)⟩
theorem m9:CtxM Try.prog nc:=ow fits bt (mC qqt m0)
theorem wa:bh Try.prog nc 0 (lc 0 Try.f99 37):=lp rfl m9 .z s0 (fun c a=>((c.1,(c.2.1,()),c.2.2,a,()),(()))) (fun y=>((),()))
abbrev na:Mdl:=(bc (.cons (.d false qT2) (.cons (.fn 100 (.cons (.rp false qT1) .nil)) .nil)) [] [] 1 m3 (B:=Int) (fun b=>((b,()),(()))) (fun a=>jo a.1.1 a.1.2.1.1))
theorem u3:MdlOK Try.prog 99 na:=ou Try.func99 rfl m9 (.two .z (.two (.two .z (.s 0)) .z)) (sC wa s0)
def qmz:Shp:=⟨[qp3],[]⟩
abbrev q1q:Ctx (Int):=⟨9,tt,false,false,[],m5 [(99,na)],oj [],dp 9 tt [] [.tmp 4] qmz (fun x=>x.1.1)⟩
theorem q1p:CtxM Try.prog q1q:=ow fits bt (mC u3 m0)
abbrev qpt:Mdl:=(bc (.cons (.d false kj.ty) (.cons (.d false qT1) .nil)) [] [] 1 qmz (B:=Int) (fun b=>((b,()),(()))) (fun a=>qe5 a.1.1 a.1.2.1))
theorem qva:MdlOK Try.prog 80 qpt:=ou Try.func80 rfl q1p .z s0
def qa2:Shp:=⟨[qnd,qj2],[]⟩
abbrev p6:Ctx (((List (Int×(List ab)))×Int×Int×Int)):=⟨139,tt,false,false,[],m5 [(21,zr),(79,qh4),(19,qmd),(80,qpt)],oj [be _ 139 [] qkj (C:=((List aq)×Int×(List (Int×(List ab)))×Int×Int×qL2×(List aq)×Bool×Int×Int×(List (Int×(List ab))))) (S:=(Bool×Int×(List Bool))) (fun x=>(((pe5 x.1),(pe6 x.1),x.2.1.1,x.2.1.2.1,x.2.1.2.2.1,x.2.2.1.1,x.2.2.1.2.1,x.2.2.1.2.2.1,(pe3 x).2.1,(pe3 x).2.2.1,(pe5 x)),((pe4 x.1),(pe7 x.1),(pe4 x)))) qki (CE:=((List (Int×(List ab)))×Int×Int×qL2×(List aq)×Bool×Int×Int×(List (Int×(List ab))))) (E:=(Bool×(List Bool))) (fun c e=>(((),(),(),(),e.1,()),((c.1,c.2.1,c.2.2.1,()),((pe3 c),(pe4 c),(pe5 c),()),((),(pe6 c),(pe7 c),()),e.2,(pf8 c),()))) (fun c=>(c.2.2.1,(pe3 c),(pe4 c),(pe5 c),(pe6 c),(pe7 c),(pe8 c),(pe9 c),(pf10 c))) (fun{R} c a nx dn rt=>ip c.1 c.2.1 c.2.2.1 (pe3 c) (pe4 c) (pe5 c) (pe6 c) (pe7 c) (pe8 c) (pe9 c) (pf10 c) a.1 a.2.1 a.2.2 nx dn rt),be _ 139 [] qkl (C:=((List (Int×(List ab)))×Int×Int×qL2×(List aq)×Bool×Int×Int×(List (Int×(List ab))))) (S:=(Bool×(List Bool))) (fun x=>((x.2.1.1,x.2.1.2.1,x.2.1.2.2.1,x.2.2.1.1,x.2.2.1.2.1,x.2.2.1.2.2.1,(pe3 x).2.1,(pe3 x).2.2.1,(pe5 x)),((pe4 x.1),(pe4 x)))) qkk (CE:=((List (Int×(List ab)))×Int×Int×qL2×(List aq)×Bool×Int×Int×(List (Int×(List ab))))) (E:=(List Bool)) (fun c e=>(((),(),(),(),()),((c.1,c.2.1,c.2.2.1,()),((pe3 c),(pe4 c),(pe5 c),()),((),(pe6 c),(pe7 c),()),e,(pf8 c),()))) (fun c=>(c.1,c.2.1,c.2.2.1,(pe3 c),(pe4 c),(pe5 c),(pe6 c),(pe7 c),(pf8 c))) (fun{R} c a nx dn rt=>iq c.1 c.2.1 c.2.2.1 (pe3 c) (pe4 c) (pe5 c) (pe6 c) (pe7 c) (pf8 c) a.1 a.2 nx dn rt),be _ 139 [] qkn (C:=((List Bool)×(List aq)×Int×(List (Int×(List ab)))×Int×Int×Int×Int)) (S:=(Int×(List (Int×(List ab))))) (fun x=>((x.1.2.2.1,(pe3 x.1),(pe4 x.1),x.2.1.1,x.2.1.2.1,x.2.1.2.2.1,x.2.2.1.2.1,x.2.2.1.2.2.1),((pe5 x.1),(pe3 x)))) qkm (CE:=((List (Int×(List ab)))×Int×Int×Int×Int)) (E:=(List (Int×(List ab)))) (fun c e=>(((),(),()),((c.1,c.2.1,c.2.2.1,()),((),(pe3 c),(pf4 c),()),e,()))) (fun c=>((pe3 c),(pe4 c),(pe5 c),(pe6 c),(pf7 c))) (fun{R} c a nx dn rt=>fv c.1 c.2.1 c.2.2.1 (pe3 c) (pe4 c) (pe5 c) (pe6 c) (pf7 c) a.1 a.2 nx dn rt)],dp 139 tt [] [.cell 6 77, .tmp 7] qa2 (fun x=>(x.1.1.1,x.1.1.2.1,x.1.1.2.2.1,x.1.2.1))⟩
theorem p4:CtxM Try.prog p6:=ow fits bt (mC qcr (mC qox (mC qs0 (mC qva m0))))
theorem qmm:bh Try.prog p6 0 (lc 2 Try.f51 2529279):=lp rfl p4 .z s0 (fun c a=>(((),(),(),(),a.1,c.1,c.2.1,a.2.1,()),((c.2.2.1,(pe3 c),(pe4 c),()),((pe5 c),(pe6 c),(pe7 c),()),((),(pe8 c),(pe9 c),()),a.2.2,(pf10 c),()))) (fun y=>((y.2.1.1,y.2.1.2.1,y.2.1.2.2.1,y.2.2.1.1,y.2.2.1.2.1,y.2.2.1.2.2.1,(pe3 y).2.1,(pe3 y).2.2.1,(pe5 y)),((pe4 y.1),(pe4 y))))
theorem qmo:bh Try.prog p6 2 (lc 4 Try.f51 77823):=lp rfl p4 (.two .z (.two .z (.two (.one (.two .z (.two .z (.two (.d [0,1,0,4,0,16,0,64,240,0,512,0,2048,7680,15872,32752,65535] [15,16] []) .z)))) .z))) s0 (fun c a=>(((),(),c.1,c.2.1,c.2.2.1,a.1,()),(((pe3 c),(pe4 c),(pe5 c),()),((),(pe6 c),(pf7 c),()),a.2,()))) (fun y=>((y.2.1.1,y.2.1.2.1,y.2.1.2.2.1,y.2.2.1.2.1,y.2.2.1.2.2.1),(pe3 y)))
theorem qmn:bh Try.prog p6 1 (lc 0 Try.f51 38911):=lp rfl p4 (.two .z (.one (.two .z (.two .z (.s 0))))) (sC qmm s0) (fun c a=>(((),(),(),(),a.1,()),((c.1,c.2.1,c.2.2.1,()),((pe3 c),(pe4 c),(pe5 c),()),((),(pe6 c),(pe7 c),()),a.2,(pf8 c),()))) (fun y=>((y.2.1.1,y.2.1.2.1,y.2.1.2.2.1,y.2.2.1.1,y.2.2.1.2.1,y.2.2.1.2.2.1,(pe3 y).2.1,(pe3 y).2.2.1,(pe5 y)),(pe4 y)))
abbrev p5:Mdl:=(bc (.cons (.d false cj.ty) (.cons (.d false qT1) (.cons (.d false qT0) .nil))) [] [] 2 qa2 (B:=((List (Int×(List ab)))×Int×Int×Int)) (fun b=>(((b.1,b.2.1,b.2.2.1,()),b.2.2.2,()),(()))) (fun a=>ao a.1.1 a.1.2.1 a.1.2.2.1))
theorem sd:MdlOK Try.prog 51 p5:=ou Try.func51 rfl p4 (.two .z (.two .z (.two .z (.two .z (.two .z (.two .z (.two .z (.two (.d [0,0,0,6,0,16,48,127,0,511] [9] []) (.two .z (.two .z (.two .z (.two (.two .z (.s 1)) (.two (.two .z (.s 2)) .z))))))))))))) (sC qmn (sC qmo s0))
def qfu:Shp:=⟨[qnd,qj2],[]⟩
abbrev qtf:Ctx (((List (Int×(List ab)))×Int×Int×Int)):=⟨26,tt,false,false,[],m5 [(50,np),(62,qho),(51,p5)],oj [],dp 26 tt [] [.cell 8 77, .tmp 9] qfu (fun x=>(x.1.1.1,x.1.1.2.1,x.1.1.2.2.1,x.1.2.1))⟩
theorem qte:CtxM Try.prog qtf:=ow fits bt (mC mj (mC qoj (mC sd m0)))
abbrev t3:Mdl:=(bc (.cons (.d false cj.ty) (.cons (.d false qT1) (.cons (.d false (.slice af.ty)) (.cons (.d false qT0) .nil)))) [] [] 2 qfu (B:=((List (Int×(List ab)))×Int×Int×Int)) (fun b=>(((b.1,b.2.1,b.2.2.1,()),b.2.2.2,()),(()))) (fun a=>bp a.1.1 a.1.2.1 a.1.2.2.1 (pe3 a.1)))
theorem vz:MdlOK Try.prog 41 t3:=ou Try.func41 rfl qte .z s0
def va:Shp:=⟨[qp3,(1, .d true .bool)],[]⟩
abbrev qhm:Ctx ((Int×Bool)):=⟨14,tt,false,false,[],m5 [],oj [],dp 14 tt [] [.tmp 2, .tmp 3] va (fun x=>(x.1.1,x.1.2.1))⟩
theorem qhl:CtxM Try.prog qhm:=ow fits bt m0
abbrev f5:Mdl:=(bc (.cons (.agg (.cons (.dm false qT0 (.slice ab.ty)) (.cons (.d false qT0) (.cons (.d false qT0) .nil)))) .nil) [] [] 2 va (B:=(Int×Bool)) (fun b=>((b.1,b.2,()),(()))) (fun a=>az a.1.1.1 a.1.1.2.1 a.1.1.2.2.1))
theorem gm:MdlOK Try.prog 42 f5:=ou Try.func42 rfl qhl (.two .z (.two .z (.two (.d [0,1,0,4,12,28,60,3,255] [] []) .z))) s0
def o8:Shp:=⟨[qp3],[]⟩
abbrev zz:Ctx (Int):=⟨9,tt,false,false,[],m5 [],oj [],dp 9 tt [] [.tmp 3] o8 (fun x=>x.1.1)⟩
theorem zy:CtxM Try.prog zz:=ow fits bt m0
abbrev pn:Mdl:=(bc (.cons (.d false qT0) (.cons (.rp false (.slice af.ty)) .nil)) [] [] 1 o8 (B:=Int) (fun b=>((b,()),(()))) (fun a=>ey a.1.1 a.1.2.1))
theorem ye:MdlOK Try.prog 81 pn:=ou Try.func81 rfl zy .z s0
def yr:Shp:=⟨[qin],[]⟩
abbrev qkp:Ctx (Bool):=⟨34,tt,false,false,[],m5 [],oj [],dp 34 tt [] [.tmp 6] yr (fun x=>x.1.1)⟩
theorem qko:CtxM Try.prog qkp:=ow fits bt m0
abbrev nt:Mdl:=(bc (.cons (.d false ae.ty) (.cons (.d false ae.ty) (.cons (.d false .bool) .nil))) [] [] 1 yr (B:=Bool) (fun b=>((b,()),(()))) (fun a=>jf a.1.1 a.1.2.1 a.1.2.2.1))
theorem pq:MdlOK Try.prog 92 nt:=ou Try.func92 rfl qko .z s0
def sy:Shp:=⟨[qxm],[qil]⟩
abbrev j5:Ctx ((List ae)):=⟨77,tt,false,false,[],m5 [(81,pn),(92,nt)],oj [be _ 77 [] qbn (C:=((List af)×Bool×Int×Int×Int×(List (Int×(List ab)))×Nat×(List ab)×Int×(List (Int×(List ab)))×Int×Int)) (S:=(Bool×Int×(List ae))) (fun x=>((x.1.1.1,x.1.2.1,(pe5 x.1),(pe6 x.1),(pe7 x.1),(pe8 x.1),(pe9 x.1),(pe10 x.1),(pe11 x.1),x.2.1.1,x.2.1.2.1,x.2.1.2.2.1),((pe4 x.1),(pe12 x.1),x.2.2.1))) qbm (CE:=((List af)×Bool×Int×Int×(List (Int×(List ab)))×Nat×(List (Int×(List ab)))×Int×Int)) (E:=(Bool×(List ae))) (fun c e=>(((c.1,()),c.2.1,(),(),e.1,c.2.2.1,(pe3 c),(pe4 c),(pe5 c),()),(((pe6 c),(pe7 c),(pf8 c),()),e.2,()))) (fun c=>(c.1,c.2.1,(pe3 c),(pe4 c),(pe5 c),(pe6 c),(pe9 c),(pe10 c),(pf11 c))) (fun{R} c a nx dn rt=>qs c.1 c.2.1 c.2.2.1 (pe3 c) (pe4 c) (pe5 c) (pe7 c) (pe8 c) (pe9 c) (pe10 c) (pf11 c) a.1 a.2.1 a.2.2 nx dn rt),v4 _ 77 tt false [] (rc Try.f71 10647) qbo (C:=((List af)×Bool×Int×Int×(List (Int×(List ab)))×(List (Int×(List ab)))×Int×Int)) (S:=(Bool×(List ae))) (fun x=>((x.1.1.1,x.1.2.1,(pe5 x.1),(pe6 x.1),(pe7 x.1),x.2.1.1,x.2.1.2.1,x.2.1.2.2.1),((pe4 x.1),x.2.2.1))) (fun c a=>(((c.1,()),c.2.1,(),(),a.1,c.2.2.1,(pe3 c),(pe4 c),()),(((pe5 c),(pe6 c),(pf7 c),()),a.2,()))) (fun c=>(pe4 c)) (fun{R} c a en nx rt=>qt c.1 c.2.1 c.2.2.1 (pe3 c) (pe4 c) (pe5 c) (pe6 c) (pf7 c) a.1 a.2 en nx rt),qny _ 77 [] qbq (C:=((List af)×Bool×Int×(List (Int×(List ab)))×Int×Int)) (S:=(Int×(List ae))) (fun x=>((x.1.1.1,x.1.2.1,(pe4 x.1),x.2.1.1,x.2.1.2.1,x.2.1.2.2.1),((pe5 x.1),x.2.2.1))) qbp (CE:=Unit) (E:=(List ae)) (fun c e=>(((),()),(e,()))) (fun c=>()) (fun{R} c a nx dn rt=>qu c.1 c.2.1 c.2.2.1 (pe3 c) (pe4 c) (pf5 c) a.1 a.2 nx dn rt)],dp 77 tt [] [.tmp 6] sy (fun x=>x.2.1)⟩
theorem j4:CtxM Try.prog j5:=ow fits bt (mC ye (mC pq m0))
theorem qc4:bh Try.prog j5 0 (lc 4 Try.f71 10168727):=lp rfl j4 (.two .z (.two .z (.two (.one (.two .z (.two .z (.two .z (.two (.d [0,1,0,0,8,28,63,127,255] [8] []) (.two .z (.two (.d [0,0,0,6,14,0,63] [] []) .z))))))) .z))) s0 (fun c a=>(((c.1,()),c.2.1,(),(),a.1,c.2.2.1,(pe3 c),(pe4 c),(pe5 c),(pe6 c),(pe7 c),(pe8 c),a.2.1,()),(((pe9 c),(pe10 c),(pf11 c),()),a.2.2,()))) (fun y=>((y.1.1.1,y.1.2.1,(pe5 y.1),(pe6 y.1),(pe7 y.1),(pe8 y.1),y.2.1.1,y.2.1.2.1,y.2.1.2.2.1),((pe4 y.1),y.2.2.1)))
theorem qc5:bh Try.prog j5 1 ((rc Try.f71 10647).code):=rl qT0 (.slice ab.ty) rfl j4 (.two .z (.s 0)) (sC qc4 s0) 75 28 29 30 32 false rfl
theorem qc6:bh Try.prog j5 2 (lc 0 Try.f71 151):=nl rfl j4 (.two .z (.two .z (.two (.one (.two .z (.two (.s 1) .z))) .z))) (sC qc5 s0) (fun c a=>(((c.1,()),c.2.1,(),(),c.2.2.1,a.1,()),(((pe3 c),(pe4 c),(pf5 c),()),a.2,()))) (fun y=>((),y.2.1))
abbrev t5:Mdl:=(bc (.cons (.agg (.cons (.dm false qT0 (.slice ab.ty)) (.cons (.d false qT0) (.cons (.d false qT0) .nil)))) (.cons (.fn 81 (.cons (.rp false (.slice af.ty)) .nil)) (.cons (.d false .bool) .nil))) [] [] 1 sy (B:=(List ae)) (fun b=>(((),()),(b,()))) (fun a=>ox a.1.1.1 a.1.1.2.1 a.1.1.2.2.1 a.1.2.1.1 a.1.2.2.1))
theorem qbr:MdlOK Try.prog 71 t5:=ou Try.func71 rfl j4 (.two .z (.two .z (.two .z (.two (.two .z (.s 2)) .z)))) (sC qc6 s0)
def u7:Shp:=⟨[qin],[]⟩
abbrev pj:Ctx (Bool):=⟨51,tt,false,false,[],m5 [],oj [be _ 51 [] qep (C:=(Int×(List ab)×Int×(List (Int×(List ab)))×Int×Int)) (S:=(Int×(List (Int×Bool))×qL1)) (fun x=>((x.1.1,(pe4 x.1),(pe5 x.1),x.2.1.1,x.2.1.2.1,x.2.1.2.2.1),((pe6 x.1),x.2.2.1,(pe3 x)))) qeo (CE:=(Int×(List (Int×(List ab)))×Int×Int)) (E:=((List (Int×Bool))×qL1)) (fun c e=>((c.1,(),(),(),()),((c.2.1,c.2.2.1,c.2.2.2,()),e.1,e.2,()))) (fun c=>(c.1,(pe3 c),(pe4 c),(pf5 c))) (fun{R} c a nx dn rt=>gk c.1 c.2.1 c.2.2.1 (pe3 c) (pe4 c) (pf5 c) a.1 a.2.1 a.2.2 nx dn rt),be _ 51 [] qer (C:=(Int×(List (Int×(List ab)))×Int×Int)) (S:=((List (Int×Bool))×qL1)) (fun x=>((x.1.1,x.2.1.1,x.2.1.2.1,x.2.1.2.2.1),(x.2.2.1,(pe3 x)))) qeq (CE:=Unit) (E:=Unit) (fun c e=>((()),(()))) (fun c=>()) (fun{R} c a nx dn rt=>dj c.1 c.2.1 c.2.2.1 c.2.2.2 a.1 a.2 nx dn rt)],dp 51 tt [] [.tmp 6] u7 (fun x=>x.1.1)⟩
theorem pi:CtxM Try.prog pj:=ow fits bt m0
theorem qf9:bh Try.prog pj 0 (lc 2 Try.f75 9803):=lp rfl pi .z s0 (fun c a=>((c.1,(),(),(),c.2.1,c.2.2.1,a.1,()),(((pe3 c),(pe4 c),(pf5 c),()),a.2.1,a.2.2,()))) (fun y=>((y.1.1,y.2.1.1,y.2.1.2.1,y.2.1.2.2.1),(y.2.2.1,(pe3 y))))
theorem qga:bh Try.prog pj 1 (lc 0 Try.f75 75):=lp rfl pi (.two .z (.two (.one (.two .z (.two (.d [0,1,0,4,12,31,63,0] [] []) (.s 0)))) .z)) (sC qf9 s0) (fun c a=>((c.1,(),(),(),()),((c.2.1,c.2.2.1,c.2.2.2,()),a.1,a.2,()))) (fun y=>((),()))
abbrev xr:Mdl:=(bc (.cons (.agg (.cons (.dm false qT0 (.slice ab.ty)) (.cons (.d false qT0) (.cons (.d false qT0) .nil)))) (.cons (.d false qT0) (.cons (.d false qT0) .nil))) [] [] 1 u7 (B:=Bool) (fun b=>((b,()),(()))) (fun a=>me a.1.1.1 a.1.1.2.1 a.1.1.2.2.1 a.1.2.1 a.1.2.2.1))
theorem qes:MdlOK Try.prog 75 xr:=ou Try.func75 rfl pi (.two .z (.two .z (.two (.two .z (.s 1)) .z))) (sC qga s0)
def xt:Shp:=⟨[qin],[]⟩
abbrev jr:Ctx (Bool):=⟨81,tt,false,false,[],m5 [(75,xr)],oj [be _ 81 [] qgc (C:=((List af)×(List ab)×Int×(List (Int×(List ab)))×Int×Int)) (S:=(Int×(List (Int×Bool))×qL1)) (fun x=>((x.1.1,(pe4 x.1),(pe5 x.1),x.2.1.1,x.2.1.2.1,x.2.1.2.2.1),((pe6 x.1),x.2.2.1,(pe3 x)))) qgb (CE:=((List af)×(List (Int×(List ab)))×Int×Int)) (E:=((List (Int×Bool))×qL1)) (fun c e=>((c.1,(),(),(),()),((c.2.1,c.2.2.1,c.2.2.2,()),e.1,e.2,()))) (fun c=>(c.1,(pe3 c),(pe4 c),(pf5 c))) (fun{R} c a nx dn rt=>bz c.1 c.2.1 c.2.2.1 (pe3 c) (pe4 c) (pf5 c) a.1 a.2.1 a.2.2 nx dn rt),be _ 81 [] qge (C:=((List af)×(List (Int×(List ab)))×Int×Int)) (S:=((List (Int×Bool))×qL1)) (fun x=>((x.1.1,x.2.1.1,x.2.1.2.1,x.2.1.2.2.1),(x.2.2.1,(pe3 x)))) qgd (CE:=((List af)×(List (Int×(List ab)))×Int×Int)) (E:=(List (Int×Bool))) (fun c e=>((c.1,(),(),()),((c.2.1,c.2.2.1,c.2.2.2,()),e,()))) (fun c=>(c.1,c.2.1,c.2.2.1,c.2.2.2)) (fun{R} c a nx dn rt=>b7 c.1 c.2.1 c.2.2.1 c.2.2.2 a.1 a.2 nx dn rt),be _ 81 [] qgg (C:=((List af)×Int×(List (Int×Bool))×Nat×(List ab)×Int×(List (Int×(List ab)))×Int×Int)) (S:=Int) (fun x=>((x.1.1,x.1.2.2.1,(pe3 x.1),(pe4 x.1),(pe5 x.1),(pe6 x.1),x.2.1.1,x.2.1.2.1,x.2.1.2.2.1),(pe7 x.1))) qgf (CE:=((List af)×(List (Int×Bool))×Nat×(List (Int×(List ab)))×Int×Int)) (E:=Unit) (fun c e=>((c.1,(),c.2.1,c.2.2.1,()),(((pe3 c),(pe4 c),(pf5 c),()),()))) (fun c=>(c.1,c.2.2.1,(pe3 c),(pe6 c),(pe7 c),(pf8 c))) (fun{R} c a nx dn rt=>ba c.1 c.2.1 c.2.2.1 (pe4 c) (pe5 c) (pe6 c) (pe7 c) (pf8 c) a nx dn rt),v4 _ 81 tt false [] (rc Try.f47 23) qgh (C:=((List af)×(List (Int×Bool))×(List (Int×(List ab)))×Int×Int)) (S:=Unit) (fun x=>((x.1.1,x.1.2.2.1,x.2.1.1,x.2.1.2.1,x.2.1.2.2.1),())) (fun c a=>((c.1,(),c.2.1,()),((c.2.2.1,(pe3 c),(pf4 c),()),()))) (fun c=>c.2.1) (fun{R} c a en nx rt=>ii c.1 c.2.1 c.2.2.1 (pe3 c) (pf4 c) en nx rt)],dp 81 tt [] [.tmp 4] xt (fun x=>x.1.1)⟩
theorem jq:CtxM Try.prog jr:=ow fits bt (mC qes m0)
theorem qhj:bh Try.prog jr 2 (lc 6 Try.f47 19863):=lp rfl jq .z s0 (fun c a=>((c.1,(),c.2.1,c.2.2.1,(pe3 c),(pe4 c),(pe5 c),a,()),(((pe6 c),(pe7 c),(pf8 c),()),()))) (fun y=>((y.1.1,y.1.2.2.1,(pe3 y.1),y.2.1.1,y.2.1.2.1,y.2.1.2.2.1),()))
theorem qhh:bh Try.prog jr 0 (lc 2 Try.f47 4683):=lp rfl jq .z s0 (fun c a=>((c.1,(),(),(),c.2.1,c.2.2.1,a.1,()),(((pe3 c),(pe4 c),(pf5 c),()),a.2.1,a.2.2,()))) (fun y=>((y.1.1,y.2.1.1,y.2.1.2.1,y.2.1.2.2.1),(y.2.2.1,(pe3 y))))
theorem qhi:bh Try.prog jr 1 (lc 0 Try.f47 75):=lp rfl jq (.two .z (.two (.one (.two (.d [0,1,0,4,12,31,63,0] [] []) (.s 0))) .z)) (sC qhh s0) (fun c a=>((c.1,(),(),(),()),((c.2.1,c.2.2.1,c.2.2.2,()),a.1,a.2,()))) (fun y=>((y.1.1,y.2.1.1,y.2.1.2.1,y.2.1.2.2.1),y.2.2.1))
theorem qhk:bh Try.prog jr 3 ((rc Try.f47 23).code):=rl qT0 .bool rfl jq (.two .z (.s 2)) (sC qhj s0) 128 51 52 53 55 true rfl
abbrev qk:Mdl:=(bc (.cons (.agg (.cons (.dm false qT0 (.slice ab.ty)) (.cons (.d false qT0) (.cons (.d false qT0) .nil)))) (.cons (.d false (.slice af.ty)) .nil)) [] [] 1 xt (B:=Bool) (fun b=>((b,()),(()))) (fun a=>cx a.1.1.1 a.1.1.2.1 a.1.1.2.2.1 a.1.2.1))
theorem u9:MdlOK Try.prog 47 qk:=ou Try.func47 rfl jq (.two .z (.two .z (.two (.two .z (.s 1)) (.two (.s 3) .z)))) (sC qhi (sC qhk s0))
def o9:Shp:=⟨[qp3],[]⟩
abbrev z4:Ctx (Int):=⟨9,tt,false,false,[],m5 [],oj [],dp 9 tt [] [.tmp 3] o9 (fun x=>x.1.1)⟩
theorem z0:CtxM Try.prog z4:=ow fits bt m0
abbrev po:Mdl:=(bc (.cons (.d false qT0) (.cons (.rp false (.slice af.ty)) .nil)) [] [] 1 o9 (B:=Int) (fun b=>((b,()),(()))) (fun a=>ez a.1.1 a.1.2.1))
theorem yf:MdlOK Try.prog 82 po:=ou Try.func82 rfl z0 .z s0
def s3:Shp:=⟨[qxm],[qil]⟩
abbrev j7:Ctx ((List ae)):=⟨77,tt,false,false,[],m5 [(82,po),(92,nt)],oj [be _ 77 [] qbt (C:=((List af)×Bool×Int×Int×Int×(List (Int×(List ab)))×Nat×(List ab)×Int×(List (Int×(List ab)))×Int×Int)) (S:=(Bool×Int×(List ae))) (fun x=>((x.1.1.1,x.1.2.1,(pe5 x.1),(pe6 x.1),(pe7 x.1),(pe8 x.1),(pe9 x.1),(pe10 x.1),(pe11 x.1),x.2.1.1,x.2.1.2.1,x.2.1.2.2.1),((pe4 x.1),(pe12 x.1),x.2.2.1))) qbs (CE:=((List af)×Bool×Int×Int×(List (Int×(List ab)))×Nat×(List (Int×(List ab)))×Int×Int)) (E:=(Bool×(List ae))) (fun c e=>(((c.1,()),c.2.1,(),(),e.1,c.2.2.1,(pe3 c),(pe4 c),(pe5 c),()),(((pe6 c),(pe7 c),(pf8 c),()),e.2,()))) (fun c=>(c.1,c.2.1,(pe3 c),(pe4 c),(pe5 c),(pe6 c),(pe9 c),(pe10 c),(pf11 c))) (fun{R} c a nx dn rt=>qv c.1 c.2.1 c.2.2.1 (pe3 c) (pe4 c) (pe5 c) (pe7 c) (pe8 c) (pe9 c) (pe10 c) (pf11 c) a.1 a.2.1 a.2.2 nx dn rt),v4 _ 77 tt false [] (rc Try.f71 10647) qbu (C:=((List af)×Bool×Int×Int×(List (Int×(List ab)))×(List (Int×(List ab)))×Int×Int)) (S:=(Bool×(List ae))) (fun x=>((x.1.1.1,x.1.2.1,(pe5 x.1),(pe6 x.1),(pe7 x.1),x.2.1.1,x.2.1.2.1,x.2.1.2.2.1),((pe4 x.1),x.2.2.1))) (fun c a=>(((c.1,()),c.2.1,(),(),a.1,c.2.2.1,(pe3 c),(pe4 c),()),(((pe5 c),(pe6 c),(pf7 c),()),a.2,()))) (fun c=>(pe4 c)) (fun{R} c a en nx rt=>qw c.1 c.2.1 c.2.2.1 (pe3 c) (pe4 c) (pe5 c) (pe6 c) (pf7 c) a.1 a.2 en nx rt),qny _ 77 [] qbw (C:=((List af)×Bool×Int×(List (Int×(List ab)))×Int×Int)) (S:=(Int×(List ae))) (fun x=>((x.1.1.1,x.1.2.1,(pe4 x.1),x.2.1.1,x.2.1.2.1,x.2.1.2.2.1),((pe5 x.1),x.2.2.1))) qbv (CE:=Unit) (E:=(List ae)) (fun c e=>(((),()),(e,()))) (fun c=>()) (fun{R} c a nx dn rt=>qx c.1 c.2.1 c.2.2.1 (pe3 c) (pe4 c) (pf5 c) a.1 a.2 nx dn rt)],dp 77 tt [] [.tmp 6] s3 (fun x=>x.2.1)⟩
theorem j6:CtxM Try.prog j7:=ow fits bt (mC yf (mC pq m0))
theorem qc9:bh Try.prog j7 0 (lc 4 Try.f71 10168727):=lp rfl j6 (.two .z (.two .z (.two (.one (.two .z (.two .z (.two .z (.two (.d [0,1,0,0,8,28,63,127,255] [8] []) (.two .z (.two (.d [0,0,0,6,14,0,63] [] []) .z))))))) .z))) s0 (fun c a=>(((c.1,()),c.2.1,(),(),a.1,c.2.2.1,(pe3 c),(pe4 c),(pe5 c),(pe6 c),(pe7 c),(pe8 c),a.2.1,()),(((pe9 c),(pe10 c),(pf11 c),()),a.2.2,()))) (fun y=>((y.1.1.1,y.1.2.1,(pe5 y.1),(pe6 y.1),(pe7 y.1),(pe8 y.1),y.2.1.1,y.2.1.2.1,y.2.1.2.2.1),((pe4 y.1),y.2.2.1)))
theorem qda:bh Try.prog j7 1 ((rc Try.f71 10647).code):=rl qT0 (.slice ab.ty) rfl j6 (.two .z (.s 0)) (sC qc9 s0) 75 28 29 30 32 false rfl
theorem qdb:bh Try.prog j7 2 (lc 0 Try.f71 151):=nl rfl j6 (.two .z (.two .z (.two (.one (.two .z (.two (.s 1) .z))) .z))) (sC qda s0) (fun c a=>(((c.1,()),c.2.1,(),(),c.2.2.1,a.1,()),(((pe3 c),(pe4 c),(pf5 c),()),a.2,()))) (fun y=>((),y.2.1))
abbrev t6:Mdl:=(bc (.cons (.agg (.cons (.dm false qT0 (.slice ab.ty)) (.cons (.d false qT0) (.cons (.d false qT0) .nil)))) (.cons (.fn 82 (.cons (.rp false (.slice af.ty)) .nil)) (.cons (.d false .bool) .nil))) [] [] 1 s3 (B:=(List ae)) (fun b=>(((),()),(b,()))) (fun a=>oy a.1.1.1 a.1.1.2.1 a.1.1.2.2.1 a.1.2.1.1 a.1.2.2.1))
theorem qbx:MdlOK Try.prog 71 t6:=ou Try.func71 rfl j6 (.two .z (.two .z (.two .z (.two (.two .z (.s 2)) .z)))) (sC qdb s0)
def qe:Shp:=⟨[q8t],[]⟩
abbrev qbz:Ctx (af):=⟨25,tt,false,false,[],m5 [(71,t5),(71,t6),(47,qk)],oj [],dp 25 tt [] [.cell 4 40] qe (fun x=>x.1.1)⟩
theorem qby:CtxM Try.prog qbz:=ow fits bt (mC qbr (mC qbx (mC u9 m0)))
abbrev lu:Mdl:=(bc (.cons (.agg (.cons (.dm false qT0 (.slice ab.ty)) (.cons (.d false qT0) (.cons (.d false qT0) .nil)))) (.cons (.d false (.slice af.ty)) .nil)) [] [] 1 qe (B:=af) (fun b=>((b,()),(()))) (fun a=>f6 a.1.1.1 a.1.1.2.1 a.1.1.2.2.1 a.1.2.1))
theorem pp:MdlOK Try.prog 55 lu:=ou Try.func55 rfl qby .z s0
def yp:Shp:=⟨[q8t,qj2],[]⟩
abbrev qke:Ctx ((af×Int)):=⟨37,tt,false,false,[],m5 [(41,t3),(42,f5),(55,lu)],oj [],dp 37 tt [] [.cell 8 40, .tmp 9] yp (fun x=>(x.1.1,x.1.2.1))⟩
theorem qkd:CtxM Try.prog qke:=ow fits bt (mC vz (mC gm (mC pp m0)))
abbrev zx:Mdl:=(bc (.cons (.agg (.cons (.d false qT0) (.cons (.d false (.slice ag.ty)) (.cons (.d false qT0) (.cons (.d false qT0) .nil))))) (.cons (.d false qT1) (.cons (.d false (.slice af.ty)) (.cons (.d false qT0) .nil)))) [] [] 2 yp (B:=(af×Int)) (fun b=>((b.1,b.2,()),(()))) (fun a=>tx a.1.1.1 a.1.1.2.1 a.1.1.2.2.1 (pe3 a.1.1) a.1.2.1 a.1.2.2.1 (pe3 a.1)))
theorem qhf:MdlOK Try.prog 18 zx:=ou Try.func18 rfl qkd .z s0
def yq:Shp:=⟨[qp3],[]⟩
abbrev qkg:Ctx (Int):=⟨9,tt,false,false,[],m5 [],oj [],dp 9 tt [] [.tmp 3] yq (fun x=>x.1.1)⟩
theorem qkf:CtxM Try.prog qkg:=ow fits bt m0
abbrev sc:Mdl:=(bc (.cons (.d false qT0) (.cons (.rp false (.slice af.ty)) .nil)) [] [] 1 yq (B:=Int) (fun b=>((b,()),(()))) (fun a=>jd a.1.1 a.1.2.1))
theorem xq:MdlOK Try.prog 48 sc:=ou Try.func48 rfl qkf .z s0
def sx:Shp:=⟨[qxm],[qil]⟩
abbrev j3:Ctx ((List ae)):=⟨77,tt,false,false,[],m5 [(48,sc),(92,nt)],oj [be _ 77 [] qbh (C:=((List af)×Bool×Int×Int×Int×(List (Int×(List ab)))×Nat×(List ab)×Int×(List (Int×(List ab)))×Int×Int)) (S:=(Bool×Int×(List ae))) (fun x=>((x.1.1.1,x.1.2.1,(pe5 x.1),(pe6 x.1),(pe7 x.1),(pe8 x.1),(pe9 x.1),(pe10 x.1),(pe11 x.1),x.2.1.1,x.2.1.2.1,x.2.1.2.2.1),((pe4 x.1),(pe12 x.1),x.2.2.1))) qbg (CE:=((List af)×Bool×Int×Int×(List (Int×(List ab)))×Nat×(List (Int×(List ab)))×Int×Int)) (E:=(Bool×(List ae))) (fun c e=>(((c.1,()),c.2.1,(),(),e.1,c.2.2.1,(pe3 c),(pe4 c),(pe5 c),()),(((pe6 c),(pe7 c),(pf8 c),()),e.2,()))) (fun c=>(c.1,c.2.1,(pe3 c),(pe4 c),(pe5 c),(pe6 c),(pe9 c),(pe10 c),(pf11 c))) (fun{R} c a nx dn rt=>qp c.1 c.2.1 c.2.2.1 (pe3 c) (pe4 c) (pe5 c) (pe7 c) (pe8 c) (pe9 c) (pe10 c) (pf11 c) a.1 a.2.1 a.2.2 nx dn rt),v4 _ 77 tt false [] (rc Try.f71 10647) qbi (C:=((List af)×Bool×Int×Int×(List (Int×(List ab)))×(List (Int×(List ab)))×Int×Int)) (S:=(Bool×(List ae))) (fun x=>((x.1.1.1,x.1.2.1,(pe5 x.1),(pe6 x.1),(pe7 x.1),x.2.1.1,x.2.1.2.1,x.2.1.2.2.1),((pe4 x.1),x.2.2.1))) (fun c a=>(((c.1,()),c.2.1,(),(),a.1,c.2.2.1,(pe3 c),(pe4 c),()),(((pe5 c),(pe6 c),(pf7 c),()),a.2,()))) (fun c=>(pe4 c)) (fun{R} c a en nx rt=>qq c.1 c.2.1 c.2.2.1 (pe3 c) (pe4 c) (pe5 c) (pe6 c) (pf7 c) a.1 a.2 en nx rt),qny _ 77 [] qbk (C:=((List af)×Bool×Int×(List (Int×(List ab)))×Int×Int)) (S:=(Int×(List ae))) (fun x=>((x.1.1.1,x.1.2.1,(pe4 x.1),x.2.1.1,x.2.1.2.1,x.2.1.2.2.1),((pe5 x.1),x.2.2.1))) qbj (CE:=Unit) (E:=(List ae)) (fun c e=>(((),()),(e,()))) (fun c=>()) (fun{R} c a nx dn rt=>qr c.1 c.2.1 c.2.2.1 (pe3 c) (pe4 c) (pf5 c) a.1 a.2 nx dn rt)],dp 77 tt [] [.tmp 6] sx (fun x=>x.2.1)⟩
theorem j2:CtxM Try.prog j3:=ow fits bt (mC xq (mC pq m0))
theorem qcz:bh Try.prog j3 0 (lc 4 Try.f71 10168727):=lp rfl j2 (.two .z (.two .z (.two (.one (.two .z (.two .z (.two .z (.two (.d [0,1,0,0,8,28,63,127,255] [8] []) (.two .z (.two (.d [0,0,0,6,14,0,63] [] []) .z))))))) .z))) s0 (fun c a=>(((c.1,()),c.2.1,(),(),a.1,c.2.2.1,(pe3 c),(pe4 c),(pe5 c),(pe6 c),(pe7 c),(pe8 c),a.2.1,()),(((pe9 c),(pe10 c),(pf11 c),()),a.2.2,()))) (fun y=>((y.1.1.1,y.1.2.1,(pe5 y.1),(pe6 y.1),(pe7 y.1),(pe8 y.1),y.2.1.1,y.2.1.2.1,y.2.1.2.2.1),((pe4 y.1),y.2.2.1)))
theorem qc0:bh Try.prog j3 1 ((rc Try.f71 10647).code):=rl qT0 (.slice ab.ty) rfl j2 (.two .z (.s 0)) (sC qcz s0) 75 28 29 30 32 false rfl
theorem qc1:bh Try.prog j3 2 (lc 0 Try.f71 151):=nl rfl j2 (.two .z (.two .z (.two (.one (.two .z (.two (.s 1) .z))) .z))) (sC qc0 s0) (fun c a=>(((c.1,()),c.2.1,(),(),c.2.2.1,a.1,()),(((pe3 c),(pe4 c),(pf5 c),()),a.2,()))) (fun y=>((),y.2.1))
abbrev t4:Mdl:=(bc (.cons (.agg (.cons (.dm false qT0 (.slice ab.ty)) (.cons (.d false qT0) (.cons (.d false qT0) .nil)))) (.cons (.fn 48 (.cons (.rp false (.slice af.ty)) .nil)) (.cons (.d false .bool) .nil))) [] [] 1 sx (B:=(List ae)) (fun b=>(((),()),(b,()))) (fun a=>u5 a.1.1.1 a.1.1.2.1 a.1.1.2.2.1 a.1.2.1.1 a.1.2.2.1))
theorem qbl:MdlOK Try.prog 71 t4:=ou Try.func71 rfl j2 (.two .z (.two .z (.two .z (.two (.two .z (.s 2)) .z)))) (sC qc1 s0)
def t7:Shp:=⟨[qxm],[qf6]⟩
abbrev o4:Ctx (qL1):=⟨93,tt,false,false,[],m5 [(71,t4),(48,sc)],oj [be _ 93 [] qdd (C:=((List af)×(List ae)×Int×(List ab)×Int×(List (Int×(List ab)))×Int×Int×qL1)) (S:=(Int×Int×Int)) (fun x=>((x.1.1.1,x.1.2.2.1,(pe4 x.1),(pe6 x.1),(pe7 x.1),x.2.1.1,x.2.1.2.1,x.2.1.2.2.1,x.2.2.1),((pe8 x.1),(pe3 x).1,(pe3 x).2.1))) qdc (CE:=((List af)×(List ae)×(List (Int×(List ab)))×Int×Int×qL1)) (E:=(Int×Int)) (fun c e=>(((c.1,()),(),c.2.1,(),(),()),((c.2.2.1,(pe3 c),(pe4 c),()),(pf5 c),(e.1,e.2,()),()))) (fun c=>(c.1,c.2.1,(pe5 c),(pe6 c),(pe7 c),(pf8 c))) (fun{R} c a nx dn rt=>s4 c.1 c.2.1 c.2.2.1 (pe3 c) (pe4 c) (pe5 c) (pe6 c) (pe7 c) (pf8 c) a.1 a.2.1 a.2.2 nx dn rt),be _ 93 [] qdf (C:=((List af)×(List ae)×(List (Int×(List ab)))×Int×Int)) (S:=(Int×qL1)) (fun x=>((x.1.1.1,x.1.2.2.1,x.2.1.1,x.2.1.2.1,x.2.1.2.2.1),((pe4 x.1),x.2.2.1))) qde (CE:=Unit) (E:=qL1) (fun c e=>(((),()),(e,()))) (fun c=>()) (fun{R} c a nx dn rt=>s5 c.1 c.2.1 c.2.2.1 (pe3 c) (pf4 c) a.1 a.2 nx dn rt)],dp 93 tt [] [.tmp 6] t7 (fun x=>x.2.1)⟩
theorem oz:CtxM Try.prog o4:=ow fits bt (mC qbl (mC xq m0))
theorem qev:bh Try.prog o4 0 (lc 2 Try.f43 19095):=lp rfl oz (.two .z (.two .z (.two (.one (.two .z (.two .z (.two (.d [0,1,3,7,15,7,7,71,231,511,7,7,3079,7175,15367,32767,65535,131071,262143,524287,1048575,262143,262143,6553599,14942207,31719423,67108863,134217727,268435455,536870911,1073741823,2147483647,4294967295,8589934591,17179869183,8589934591,42949672959,137438953471,274877906943,549755813887] [] []) .z)))) .z))) s0 (fun c a=>(((c.1,()),(),c.2.1,(),c.2.2.1,(),(pe3 c),(pe4 c),a.1,()),(((pe5 c),(pe6 c),(pe7 c),()),(pf8 c),(a.2.1,a.2.2,()),()))) (fun y=>((y.1.1.1,y.1.2.2.1,y.2.1.1,y.2.1.2.1,y.2.1.2.2.1,y.2.2.1),((pe3 y).1,(pe3 y).2.1)))
theorem qew:bh Try.prog o4 1 (lc 0 Try.f43 151):=lp rfl oz (.two .z (.one (.two .z (.two (.two .z (.s 0)) .z)))) (sC qev s0) (fun c a=>(((c.1,()),(),c.2.1,(),a.1,()),((c.2.2.1,(pe3 c),(pf4 c),()),a.2,()))) (fun y=>((),y.2.1))
abbrev vb:Mdl:=(bc (.cons (.agg (.cons (.dm false qT0 (.slice ab.ty)) (.cons (.d false qT0) (.cons (.d false qT0) .nil)))) (.cons (.fn 48 (.cons (.rp false (.slice af.ty)) .nil)) (.cons (.d false .bool) .nil))) [] [] 1 t7 (B:=qL1) (fun b=>(((),()),(b,()))) (fun a=>li a.1.1.1 a.1.1.2.1 a.1.1.2.2.1 a.1.2.1.1 a.1.2.2.1))
theorem qdg:MdlOK Try.prog 43 vb:=ou Try.func43 rfl oz (.two .z (.two .z (.two .z (.two (.two .z (.s 1)) .z)))) (sC qew s0)
def qaz:Shp:=⟨[qxm,qj2],[qf6]⟩
abbrev qof:Ctx ((Int×qL1)):=⟨38,tt,false,false,[],m5 [(41,t3),(42,f5),(47,qk),(43,vb)],oj [],dp 38 tt [] [.tmp 8, .tmp 9] qaz (fun x=>(x.1.2.1,x.2.1))⟩
theorem qoe:CtxM Try.prog qof:=ow fits bt (mC vz (mC gm (mC u9 (mC qdg m0))))
abbrev qcw:Mdl:=(bc (.cons (.agg (.cons (.d false qT0) (.cons (.d false (.slice ag.ty)) (.cons (.d false qT0) (.cons (.d false qT0) .nil))))) (.cons (.d false qT1) (.cons (.d false (.slice af.ty)) (.cons (.d false qT0) .nil)))) [] [] 2 qaz (B:=(Int×qL1)) (fun b=>(((),b.1,()),(b.2,()))) (fun a=>yd a.1.1.1 a.1.1.2.1 a.1.1.2.2.1 (pe3 a.1.1) a.1.2.1 a.1.2.2.1 (pe3 a.1)))
theorem qkh:MdlOK Try.prog 13 qcw:=ou Try.func13 rfl qoe .z s0
def s7:Shp:=⟨[qin],[]⟩
abbrev ns:Ctx (Bool):=⟨54,tt,false,false,[],m5 [],oj [be _ 54 [] qb1 (C:=(Int×(List ab)×Int×(List (Int×(List ab)))×Int×Int)) (S:=(Int×(List (Int×Bool))×qL1)) (fun x=>((x.1.1,(pe4 x.1),(pe5 x.1),x.2.1.1,x.2.1.2.1,x.2.1.2.2.1),((pe6 x.1),x.2.2.1,(pe3 x)))) qb0 (CE:=(Int×(List (Int×(List ab)))×Int×Int)) (E:=((List (Int×Bool))×qL1)) (fun c e=>((c.1,(),(),(),()),((c.2.1,c.2.2.1,c.2.2.2,()),e.1,e.2,()))) (fun c=>(c.1,(pe3 c),(pe4 c),(pf5 c))) (fun{R} c a nx dn rt=>dx c.1 c.2.1 c.2.2.1 (pe3 c) (pe4 c) (pf5 c) a.1 a.2.1 a.2.2 nx dn rt),be _ 54 [] qb3 (C:=(Int×(List (Int×(List ab)))×Int×Int)) (S:=((List (Int×Bool))×qL1)) (fun x=>((x.1.1,x.2.1.1,x.2.1.2.1,x.2.1.2.2.1),(x.2.2.1,(pe3 x)))) qb2 (CE:=Unit) (E:=Unit) (fun c e=>((()),(()))) (fun c=>()) (fun{R} c a nx dn rt=>cz c.1 c.2.1 c.2.2.1 c.2.2.2 a.1 a.2 nx dn rt)],dp 54 tt [] [.tmp 4] s7 (fun x=>x.1.1)⟩
theorem nq:CtxM Try.prog ns:=ow fits bt m0
theorem qdh:bh Try.prog ns 0 (lc 2 Try.f52 9803):=lp rfl nq .z s0 (fun c a=>((c.1,(),(),(),c.2.1,c.2.2.1,a.1,()),(((pe3 c),(pe4 c),(pf5 c),()),a.2.1,a.2.2,()))) (fun y=>((y.1.1,y.2.1.1,y.2.1.2.1,y.2.1.2.2.1),(y.2.2.1,(pe3 y))))
theorem qdi:bh Try.prog ns 1 (lc 0 Try.f52 75):=lp rfl nq (.two .z (.two (.one (.two (.two (.d [0,1,3,0,8,31] [] []) .z) (.two (.d [0,1,0,4,12,31,63,0] [] []) (.s 0)))) .z)) (sC qdh s0) (fun c a=>((c.1,(),(),(),()),((c.2.1,c.2.2.1,c.2.2.2,()),a.1,a.2,()))) (fun y=>((),()))
abbrev nr:Mdl:=(bc (.cons (.agg (.cons (.dm false qT0 (.slice ab.ty)) (.cons (.d false qT0) (.cons (.d false qT0) .nil)))) (.cons (.d false qT0) .nil)) [] [] 1 s7 (B:=Bool) (fun b=>((b,()),(()))) (fun a=>ij a.1.1.1 a.1.1.2.1 a.1.1.2.2.1 a.1.2.1))
theorem qy:MdlOK Try.prog 52 nr:=ou Try.func52 rfl nq (.two .z (.two .z (.two (.two .z (.s 1)) .z))) (sC qdi s0)
def qhe:Shp:=⟨[q15,qj2],[qf6]⟩
abbrev qjd:Ctx ((Int×qL1)):=⟨50,tt,false,false,[],m5 [(50,np),(51,p5),(42,f5),(52,nr)],oj [be _ 50 [] qqf (C:=(Int×(List (Int×(List ab)))×Int×Int)) (S:=(Int×qL1)) (fun x=>((x.1.2.2.1,x.2.1.1,x.2.1.2.1,x.2.1.2.2.1),((pe3 x.1),x.2.2.1))) qqe (CE:=Unit) (E:=qL1) (fun c e=>(((),()),(e,()))) (fun c=>()) (fun{R} c a nx dn rt=>qfs c.1 c.2.1 c.2.2.1 c.2.2.2 a.1 a.2 nx dn rt)],dp 50 tt [] [.tmp 6, .tmp 7] qhe (fun x=>(x.1.2.1,x.2.1))⟩
theorem qjb:CtxM Try.prog qjd:=ow fits bt (mC mj (mC sd (mC gm (mC qy m0))))
theorem qtb:bh Try.prog qjd 0 (lc 0 Try.f15 1215):=lp rfl qjb .z s0 (fun c a=>(((),(),c.1,a.1,()),((c.2.1,c.2.2.1,c.2.2.2,()),a.2,()))) (fun y=>((),y.2.1))
abbrev qjc:Mdl:=(bc (.cons (.agg (.cons (.d false qT0) (.cons (.d false (.slice ag.ty)) (.cons (.d false qT0) (.cons (.d false qT0) .nil))))) (.cons (.d false qT1) (.cons (.d false qT0) .nil))) [] [] 2 qhe (B:=(Int×qL1)) (fun b=>(((),b.1,()),(b.2,()))) (fun a=>qen a.1.1.1 a.1.1.2.1 a.1.1.2.2.1 (pe3 a.1.1) a.1.2.1 a.1.2.2.1))
theorem qqg:MdlOK Try.prog 15 qjc:=ou Try.func15 rfl qjb (.two .z (.two .z (.two .z (.two .z (.two .z (.two .z (.two (.two .z (.s 0)) .z))))))) (sC qtb s0)
def qiy:Shp:=⟨[qin],[]⟩
abbrev qx4:Ctx (Bool):=⟨71,tt,false,false,[],m5 [(18,zx),(13,qcw),(15,qjc),(17,o5)],oj [],dp 71 tt [] [.tmp 0] qiy (fun x=>x.1.1)⟩
theorem qx3:CtxM Try.prog qx4:=ow fits bt (mC qhf (mC qkh (mC qqg (mC tc m0))))
abbrev qlv:Mdl:=(bc .nil [] [] 1 qiy (B:=Bool) (fun b=>((b,()),(()))) (fun a=>qao))
theorem qsc:MdlOK Try.prog 9 qlv:=ou Try.func9 rfl qx3 .z s0
def qiz:Shp:=⟨[qin],[]⟩
abbrev qx6:Ctx (Bool):=⟨19,tt,false,false,[],m5 [],oj [],dp 19 tt [] [.tmp 2] qiz (fun x=>x.1.1)⟩
theorem qx5:CtxM Try.prog qx6:=ow fits bt m0
abbrev qlw:Mdl:=(bc (.cons (.d false ag.ty) .nil) [] [] 1 qiz (B:=Bool) (fun b=>((b,()),(()))) (fun a=>qap a.1.1))
theorem qse:MdlOK Try.prog 40 qlw:=ou Try.func40 rfl qx5 .z s0
def ia:Shp:=⟨[qp3],[]⟩
abbrev io:Ctx (Int):=⟨19,tt,false,false,[],m5 [(40,qlw)],oj [be _ 19 [] ny (C:=((List ag)×Int)) (S:=Int) (fun x=>((x.1.1,x.1.2.2.1),(pe3 x.1))) nw (CE:=Unit) (E:=Unit) (fun c e=>((()),(()))) (fun c=>()) (fun{R} c a nx dn rt=>cf c.1 c.2 a nx dn rt)],dp 19 tt [] [.tmp 4] ia (fun x=>x.1.1)⟩
theorem il:CtxM Try.prog io:=ow fits bt (mC qse m0)
theorem n9:bh Try.prog io 0 (lc 0 Try.f70 37):=lp rfl il .z s0 (fun c a=>((c.1,(()),c.2,a,()),(()))) (fun y=>((),()))
abbrev im:Mdl:=(bc (.cons (.d false (.slice ag.ty)) (.cons (.fn 40 .nil) .nil)) [] [] 1 ia (B:=Int) (fun b=>((b,()),(()))) (fun a=>d9 a.1.1))
theorem nz:MdlOK Try.prog 70 im:=ou Try.func70 rfl il (.two .z (.two (.two .z (.s 0)) .z)) (sC n9 s0)
def f9:Shp:=⟨[qin],[]⟩
abbrev m7:Ctx (Bool):=⟨9,tt,false,false,[],m5 [(70,im)],oj [],dp 9 tt [] [.tmp 4] f9 (fun x=>x.1.1)⟩
theorem m6:CtxM Try.prog m7:=ow fits bt (mC nz m0)
abbrev ge:Mdl:=(bc (.cons (.d false (.slice ag.ty)) (.cons (.fn 40 .nil) .nil)) [] [] 1 f9 (B:=Bool) (fun b=>((b,()),(()))) (fun a=>ce a.1.1))
theorem mc:MdlOK Try.prog 39 ge:=ou Try.func39 rfl m6 .z s0
def qpa:Shp:=⟨[qin],[]⟩
abbrev q25:Ctx (Bool):=⟨32,tt,false,false,[],m5 [(39,ge)],oj [],dp 32 tt [] [.tmp 6] qpa (fun x=>x.1.1)⟩
theorem q24:CtxM Try.prog q25:=ow fits bt (mC mc m0)
abbrev qsd:Mdl:=(bc (.cons (.d false cj.ty) (.cons (.d false qT1) (.cons (.d false (.slice af.ty)) .nil))) [] [] 1 qpa (B:=Bool) (fun b=>((b,()),(()))) (fun a=>qie a.1.1 a.1.2.1 a.1.2.2.1))
theorem qx7:MdlOK Try.prog 10 qsd:=ou Try.func10 rfl q24 .z s0
def qht:Shp:=⟨[qin],[]⟩
abbrev qu1:Ctx (Bool):=⟨17,tt,false,false,[],m5 [],oj [],dp 17 tt [] [.tmp 2] qht (fun x=>x.1.1)⟩
theorem qu0:CtxM Try.prog qu1:=ow fits bt m0
abbrev qjj:Mdl:=(bc (.cons (.d false (.int .u8)) .nil) [] [] 1 qht (B:=Bool) (fun b=>((b,()),(()))) (fun a=>t9 a.1.1))
theorem qqm:MdlOK Try.prog 91 qjj:=ou Try.func91 rfl qu0 .z s0
def qhs:Shp:=⟨[qin],[]⟩
abbrev qji:Ctx (Bool):=⟨52,tt,false,false,[],m5 [(91,qjj)],oj [be _ 52 [] qqk (C:=ByteArray) (S:=Int) (fun x=>(x.1.1,x.1.2.1)) qqj (CE:=Unit) (E:=Unit) (fun c e=>((()),(()))) (fun c=>()) (fun{R} c a nx dn rt=>n8 c a nx dn rt)],dp 52 tt [] [.tmp 2] qhs (fun x=>x.1.1)⟩
theorem qjg:CtxM Try.prog qji:=ow fits bt (mC qqm m0)
theorem qtj:bh Try.prog qji 0 (lc 0 Try.f67 75):=lp rfl qjg .z s0 (fun c a=>((c,a,()),(()))) (fun y=>((),()))
abbrev qjh:Mdl:=(bc (.cons (.d false .str) .nil) [] [] 1 qhs (B:=Bool) (fun b=>((b,()),(()))) (fun a=>y8 a.1.1))
theorem qql:MdlOK Try.prog 67 qjh:=ou Try.func67 rfl qjg (.two .z (.two .z (.two (.two .z (.s 0)) .z))) (sC qtj s0)
def qhv:Shp:=⟨[qin],[]⟩
abbrev qjo:Ctx (Bool):=⟨41,tt,false,false,[],m5 [],oj [be _ 41 [] qqo (C:=(Int×qL1)) (S:=Int) (fun x=>((x.1.1,x.1.2.1),x.1.2.2.1)) qqn (CE:=Unit) (E:=Unit) (fun c e=>((()),(()))) (fun c=>()) (fun{R} c a nx dn rt=>ld c.1 c.2 a nx dn rt)],dp 41 tt [] [.tmp 4] qhv (fun x=>x.1.1)⟩
theorem qjm:CtxM Try.prog qjo:=ow fits bt m0
theorem qtn:bh Try.prog qjo 0 (lc 0 Try.f68 37):=lp rfl qjm (.two .z (.two (.one (.two (.d [0,0,3,7,15,31,63,63,255,511,63,2047,4095,8191,16383,32767,65535,131071,131071,393215,1048575,2097151,131071,131071,12713983,29491199,67108863,134217727,268435455] [] []) .z)) .z)) s0 (fun c a=>((c.1,c.2,a,()),(()))) (fun y=>((),()))
abbrev qjn:Mdl:=(bc (.cons (.d false qT0) (.cons (.d false qT1) .nil)) [] [] 1 qhv (B:=Bool) (fun b=>((b,()),(()))) (fun a=>nu a.1.1 a.1.2.1))
theorem qqp:MdlOK Try.prog 68 qjn:=ou Try.func68 rfl qjm (.two .z (.two (.two .z (.s 0)) .z)) (sC qtn s0)
def qjl:Shp:=⟨[qin],[]⟩
abbrev qmr:Ctx (Bool):=⟨80,tt,false,false,[],m5 [(67,qjh),(68,qjn)],oj [be _ 80 [] qtl (C:=(Int×(List ag)×Int×Int)) (S:=Int) (fun x=>((x.2.1.1,x.2.1.2.1,x.2.1.2.2.1,(pe3 x.2.1)),x.1.2.1)) qtk (CE:=Unit) (E:=Unit) (fun c e=>((()),(()))) (fun c=>()) (fun{R} c a nx dn rt=>ua c.1 c.2.1 c.2.2.1 c.2.2.2 a nx dn rt)],dp 80 tt [] [.tmp 2] qjl (fun x=>x.1.1)⟩
theorem qmp:CtxM Try.prog qmr:=ow fits bt (mC qql (mC qqp m0))
theorem qu2:bh Try.prog qmr 0 (lc 0 Try.f37 75):=lp rfl qmp .z s0 (fun c a=>(((),a,()),((c.1,c.2.1,c.2.2.1,c.2.2.2,()),()))) (fun y=>((),()))
abbrev qmq:Mdl:=(bc (.cons (.d false cj.ty) .nil) [] [] 1 qjl (B:=Bool) (fun b=>((b,()),(()))) (fun a=>pr a.1.1))
theorem qtm:MdlOK Try.prog 37 qmq:=ou Try.func37 rfl qmp (.two .z (.two .z (.two (.two .z (.s 0)) .z))) (sC qu2 s0)
def qpo:Shp:=⟨[q15],[qf6]⟩
abbrev qtr:Ctx (qL1):=⟨22,tt,false,false,[],m5 [],oj [be _ 22 [] qy0 (C:=(Int×Int×(List ag)×Int×Int)) (S:=(Int×qL1)) (fun x=>((x.1.1,x.2.1.1,x.2.1.2.1,x.2.1.2.2.1,(pe3 x.2.1)),((pe3 x.1),x.2.2.1))) qyz (CE:=Unit) (E:=qL1) (fun c e=>(((),()),(e,()))) (fun c=>()) (fun{R} c a nx dn rt=>uc c.1 c.2.1 c.2.2.1 (pe3 c) (pf4 c) a.1 a.2 nx dn rt)],dp 22 tt [] [.tmp 4] qpo (fun x=>x.2.1)⟩
theorem qtp:CtxM Try.prog qtr:=ow fits bt m0
theorem q1h:bh Try.prog qtr 0 (lc 0 Try.f69 75):=lp rfl qtp .z s0 (fun c a=>((c.1,(),(),a.1,()),((c.2.1,c.2.2.1,(pe3 c),(pf4 c),()),a.2,()))) (fun y=>((),y.2.1))
abbrev qtq:Mdl:=(bc (.cons (.d false cj.ty) (.cons (.d false qT0) .nil)) [] [] 1 qpo (B:=qL1) (fun b=>(((),()),(b,()))) (fun a=>qon a.1.1 a.1.2.1))
theorem qy1:MdlOK Try.prog 69 qtq:=ou Try.func69 rfl qtp (.two .z (.two .z (.two (.two .z (.s 0)) .z))) (sC q1h s0)
def qjp:Shp:=⟨[q15],[qf6]⟩
abbrev qyy:Ctx (qL1):=⟨7,tt,false,false,[],m5 [(69,qtq)],oj [],dp 7 tt [] [.tmp 2] qjp (fun x=>x.2.1)⟩
theorem qyx:CtxM Try.prog qyy:=ow fits bt (mC qy1 m0)
abbrev qmt:Mdl:=(bc (.cons (.d false cj.ty) .nil) [] [] 1 qjp (B:=qL1) (fun b=>(((),()),(b,()))) (fun a=>xw a.1.1))
theorem qto:MdlOK Try.prog 38 qmt:=ou Try.func38 rfl qyx .z s0
def qfr:Shp:=⟨[q15,qj2],[qf6]⟩
abbrev qhd:Ctx ((Int×qL1)):=⟨50,tt,false,false,[],m5 [(50,np),(51,p5),(42,f5),(52,nr)],oj [be _ 50 [] qoc (C:=(Int×(List (Int×(List ab)))×Int×Int)) (S:=(Int×qL1)) (fun x=>((x.1.2.2.1,x.2.1.1,x.2.1.2.1,x.2.1.2.2.1),((pe3 x.1),x.2.2.1))) qob (CE:=Unit) (E:=qL1) (fun c e=>(((),()),(e,()))) (fun c=>()) (fun{R} c a nx dn rt=>mm c.1 c.2.1 c.2.2.1 c.2.2.2 a.1 a.2 nx dn rt)],dp 50 tt [] [.tmp 6, .tmp 7] qfr (fun x=>(x.1.2.1,x.2.1))⟩
theorem qhb:CtxM Try.prog qhd:=ow fits bt (mC mj (mC sd (mC gm (mC qy m0))))
theorem qqd:bh Try.prog qhd 0 (lc 0 Try.f15 1215):=lp rfl qhb .z s0 (fun c a=>(((),(),c.1,a.1,()),((c.2.1,c.2.2.1,c.2.2.2,()),a.2,()))) (fun y=>((),y.2.1))
abbrev qhc:Mdl:=(bc (.cons (.d false cj.ty) (.cons (.d false qT1) (.cons (.d false qT0) .nil))) [] [] 2 qfr (B:=(Int×qL1)) (fun b=>(((),b.1,()),(b.2,()))) (fun a=>gh a.1.1 a.1.2.1 a.1.2.2.1))
theorem qod:MdlOK Try.prog 15 qhc:=ou Try.func15 rfl qhb (.two .z (.two .z (.two .z (.two .z (.two .z (.two .z (.two (.two .z (.s 0)) .z))))))) (sC qqd s0)
def xp:Shp:=⟨[q8t,qj2],[]⟩
abbrev qit:Ctx ((af×Int)):=⟨37,tt,false,false,[],m5 [(41,t3),(42,f5),(55,lu)],oj [],dp 37 tt [] [.cell 8 40, .tmp 9] xp (fun x=>(x.1.1,x.1.2.1))⟩
theorem qis:CtxM Try.prog qit:=ow fits bt (mC vz (mC gm (mC pp m0)))
abbrev yo:Mdl:=(bc (.cons (.d false cj.ty) (.cons (.d false qT1) (.cons (.d false (.slice af.ty)) (.cons (.d false qT0) .nil)))) [] [] 2 xp (B:=(af×Int)) (fun b=>((b.1,b.2,()),(()))) (fun a=>cw a.1.1 a.1.2.1 a.1.2.2.1 (pe3 a.1)))
theorem qf8:MdlOK Try.prog 18 yo:=ou Try.func18 rfl qis .z s0
def uj:Shp:=⟨[qp3],[]⟩
abbrev vj:Ctx (Int):=⟨19,tt,false,false,[],m5 [],oj [be _ 19 [] qdy (C:=(qL1×Int×Int)) (S:=Int) (fun x=>((x.1.1,x.1.2.1,x.1.2.2.1),(pe3 x.1))) qdx (CE:=Unit) (E:=Unit) (fun c e=>((()),(()))) (fun c=>()) (fun{R} c a nx dn rt=>ji c.1 c.2.1 c.2.2 a nx dn rt)],dp 19 tt [] [.tmp 4] uj (fun x=>x.1.1)⟩
theorem vg:CtxM Try.prog vj:=ow fits bt m0
theorem qe4:bh Try.prog vj 0 (lc 0 Try.f61 37):=lp rfl vg .z s0 (fun c a=>((c.1,c.2.1,c.2.2,a,()),(()))) (fun y=>((),()))
abbrev vi:Mdl:=(bc (.cons (.d false qT1) (.cons (.d false qT0) .nil)) [] [] 1 uj (B:=Int) (fun b=>((b,()),(()))) (fun a=>pu a.1.1 a.1.2.1))
theorem qdz:MdlOK Try.prog 61 vi:=ou Try.func61 rfl vg (.two .z (.two (.two .z (.s 0)) .z)) (sC qe4 s0)
def qf:Shp:=⟨[qin],[]⟩
abbrev qb7:Ctx (Bool):=⟨9,tt,false,false,[],m5 [(61,vi)],oj [],dp 9 tt [] [.tmp 4] qf (fun x=>x.1.1)⟩
theorem qb6:CtxM Try.prog qb7:=ow fits bt (mC qdz m0)
abbrev rg:Mdl:=(bc (.cons (.d false qT1) (.cons (.d false qT0) .nil)) [] [] 1 qf (B:=Bool) (fun b=>((b,()),(()))) (fun a=>db a.1.1 a.1.2.1))
theorem z9:MdlOK Try.prog 25 rg:=ou Try.func25 rfl qb6 .z s0
def qk8:Shp:=⟨[(0, .d true (.int .u64)),(1, .d true (.int .u64))],[]⟩
abbrev qz1:Ctx ((Int×Int)):=⟨51,tt,false,false,[],m5 [],oj [],dp 51 tt [] [.tmp 4, .tmp 5] qk8 (fun x=>(x.1.1,x.1.2.1))⟩
theorem qz0:CtxM Try.prog qz1:=ow fits bt m0
abbrev qo3:Mdl:=(bc (.cons (.d false (.int .u64)) (.cons (.d false (.int .u64)) .nil)) [] [] 2 qk8 (B:=(Int×Int)) (fun b=>((b.1,b.2,()),(()))) (fun a=>qrm a.1.1 a.1.2.1))
theorem quh:MdlOK Try.prog 104 qo3:=ou Try.func104 rfl qz0 .z s0
def qrn:Shp:=⟨[(0, .d true (.int .u64)),(1, .d true (.int .u64))],[]⟩
abbrev q63:Ctx ((Int×Int)):=⟨30,tt,false,false,[],m5 [(104,qo3)],oj [],dp 30 tt [] [.tmp 4, .tmp 5] qrn (fun x=>(x.1.1,x.1.2.1))⟩
theorem q62:CtxM Try.prog q63:=ow fits bt (mC quh m0)
abbrev qvk:Mdl:=(bc (.cons (.d false (.int .u64)) (.cons (.d false (.int .u64)) .nil)) [] [] 2 qrn (B:=(Int×Int)) (fun b=>((b.1,b.2,()),(()))) (fun a=>qzz a.1.1 a.1.2.1))
theorem qz2:MdlOK Try.prog 102 qvk:=ou Try.func102 rfl q62 .z s0
def jk:Shp:=⟨[qxm],[quf]⟩
abbrev jv:Ctx ((List af)):=⟨48,tt,false,false,[],m5 [(102,qvk)],oj [be _ 48 [] px (C:=Unit) (S:=(Int×(List af))) (fun x=>((),(x.1.2.1,x.2.1))) pw (CE:=Unit) (E:=(List af)) (fun c e=>(((),()),(e,()))) (fun c=>()) (fun{R} c a nx dn rt=>i6 a.1 a.2 nx dn rt)],dp 48 tt [] [.tmp 4] jk (fun x=>x.2.1)⟩
theorem jt:CtxM Try.prog jv:=ow fits bt (mC qz2 m0)
theorem qc:bh Try.prog jv 0 (lc 0 Try.f89 575):=lp rfl jt (.two .z (.one (.d [0,0,0,6,0,0,48,126,255,511] [7,8,9] []))) s0 (fun c a=>(((),a.1,()),(a.2,()))) (fun y=>((),y.2.1))
abbrev ju:Mdl:=(bc (.cons (.d false (.slice af.ty)) (.cons (.d false qT0) .nil)) [] [] 1 jk (B:=(List af)) (fun b=>(((),()),(b,()))) (fun a=>fk a.1.1 a.1.2.1))
theorem pz:MdlOK Try.prog 89 ju:=ou Try.func89 rfl jt (.two .z (.two .z (.two .z (.two .z (.two .z (.two .z (.two (.s 0) .z))))))) (sC qc s0)
def qhn:Shp:=⟨[qxm],[quf]⟩
abbrev quz:Ctx ((List af)):=⟨9,tt,false,false,[],m5 [(89,ju)],oj [],dp 9 tt [] [.tmp 2] qhn (fun x=>x.2.1)⟩
theorem quy:CtxM Try.prog quz:=ow fits bt (mC pz m0)
abbrev qje:Mdl:=(bc (.cons (.d false cj.ty) .nil) [] [] 1 qhn (B:=(List af)) (fun b=>(((),()),(b,()))) (fun a=>qex a.1.1))
theorem qqh:MdlOK Try.prog 64 qje:=ou Try.func64 rfl quy .z s0
def qft:Shp:=⟨[q8t,qj2],[]⟩
abbrev qtd:Ctx ((af×Int)):=⟨20,tt,false,false,[],m5 [(50,np),(64,qje),(18,yo)],oj [],dp 20 tt [] [.cell 6 40, .tmp 7] qft (fun x=>(x.1.1,x.1.2.1))⟩
theorem qtc:CtxM Try.prog qtd:=ow fits bt (mC mj (mC qqh (mC qf8 m0)))
abbrev qhg:Mdl:=(bc (.cons (.d false cj.ty) (.cons (.d false qT1) (.cons (.d false qT0) .nil))) [] [] 2 qft (B:=(af×Int)) (fun b=>((b.1,b.2,()),(()))) (fun a=>ot a.1.1 a.1.2.1 a.1.2.2.1))
theorem qog:MdlOK Try.prog 31 qhg:=ou Try.func31 rfl qtc (.two .z (.two .z (.two (.d [0,0,0,4,0,31,63,63,255,511] [8] []) .z))) s0
def qfe:Shp:=⟨[qin],[]⟩
abbrev qrq:Ctx (Bool):=⟨6,tt,false,false,[],m5 [],oj [],dp 6 tt [] [.tmp 2] qfe (fun x=>x.1.1)⟩
theorem qrp:CtxM Try.prog qrq:=ow fits bt m0
abbrev qgr:Mdl:=(bc (.cons (.d false qT0) .nil) [] [] 1 qfe (B:=Bool) (fun b=>((b,()),(()))) (fun a=>wm a.1.1))
theorem qnm:MdlOK Try.prog 90 qgr:=ou Try.func90 rfl qrp .z s0
def qgq:Shp:=⟨[qin],[]⟩
abbrev quj:Ctx (Bool):=⟨17,tt,false,false,[],m5 [(90,qgr)],oj [],dp 17 tt [] [.tmp 4] qgq (fun x=>x.1.1)⟩
theorem qui:CtxM Try.prog quj:=ow fits bt (mC qnm m0)
abbrev qix:Mdl:=(bc (.cons (.d false qT0) (.cons (.d false qT0) .nil)) [] [] 1 qgq (B:=Bool) (fun b=>((b,()),(()))) (fun a=>y0 a.1.1 a.1.2.1))
theorem qp4:MdlOK Try.prog 66 qix:=ou Try.func66 rfl qui .z s0
def qh:Shp:=⟨[qin],[]⟩
abbrev rj:Ctx (Bool):=⟨21,tt,false,false,[],m5 [(66,qix)],oj [be _ 21 [] qab (C:=qL1) (S:=Int) (fun x=>(x.1.1,x.1.2.1)) qaa (CE:=Unit) (E:=Unit) (fun c e=>((()),(()))) (fun c=>()) (fun{R} c a nx dn rt=>de c a nx dn rt)],dp 21 tt [] [.tmp 2] qh (fun x=>x.1.1)⟩
theorem rh:CtxM Try.prog rj:=ow fits bt (mC qp4 m0)
theorem qai:bh Try.prog rj 0 (lc 0 Try.f34 37):=lp rfl rh (.two .z (.two (.one (.two (.d [0,0,3,7,0,0,32,112,240,511] [] []) .z)) .z)) s0 (fun c a=>((c,a,()),(()))) (fun y=>((),()))
abbrev ri:Mdl:=(bc (.cons (.d false qT1) .nil) [] [] 1 qh (B:=Bool) (fun b=>((b,()),(()))) (fun a=>jj a.1.1))
theorem qac:MdlOK Try.prog 34 ri:=ou Try.func34 rfl rh (.two .z (.two (.two .z (.s 0)) .z)) (sC qai s0)
def js:Shp:=⟨[qxm],[jb7]⟩
abbrev q6:Ctx ((List ag)):=⟨8,tt,false,false,[],m5 [],oj [],dp 8 tt [] [.tmp 2] js (fun x=>x.2.1)⟩
theorem q4:CtxM Try.prog q6:=ow fits bt m0
abbrev q5:Mdl:=(bc (.cons (.nl false (.d true (.slice ag.ty))) .nil) [] [] 1 js (B:=(List ag)) (fun b=>(((),()),(b,()))) (fun a=>ko a.1.1))
theorem p9:MdlOK Try.prog 35 q5:=ou Try.func35 rfl q4 .z s0
def fc:Shp:=⟨[qxm],[jb7]⟩
abbrev rb:Ctx ((List ag)):=⟨8,tt,false,false,[],m5 [],oj [],dp 8 tt [] [.tmp 2] fc (fun x=>x.2.1)⟩
theorem q8:CtxM Try.prog rb:=ow fits bt m0
abbrev q9:Mdl:=(bc (.cons (.nl true (.d true (.slice ag.ty))) .nil) [] [] 1 fc (B:=(List ag)) (fun b=>(((),()),(b,()))) (fun a=>dk a.1.1))
theorem qa:MdlOK Try.prog 35 q9:=ou Try.func35 rfl q8 .z s0
abbrev k7:Mdl:=(bc (.cons (.d true (.slice ag.ty)) .nil) [] [] 1 fc (fun(b:(List ag))=>(((),()),(b,()))) (fun(a:(((List ag)×Unit)×(Unit)))=>cp a.1.1))
theorem q7:MdlOK Try.prog 35 k7:=by
 refine qv8 (q6f _ _) p9 qa (by kernel_rfl) (fun a b h=>⟨?_,h⟩);obtain⟨⟨xs,u1⟩,u2⟩:=a;cases xs with
 |nil=>exact h
 |cons x l=>
  have e:decide ((((x::l).length:Nat):Int)=0)=false:=decide_eq_false (by simp only[List.length_cons];omega);simp only[cp,dk]at h;simp only[ko,e,cond_false];exact h
def yn:Shp:=⟨[qin],[]⟩
abbrev zk:Ctx (Bool):=⟨109,tt,false,false,[],m5 [(9,qlv),(10,qsd),(15,qhc),(34,ri),(35,k7),(36,kw),(37,qmq),(31,qhg),(25,rg),(38,qmt)],oj [be _ 109 [] qgz (C:=(qL1×Int×qL1×Int×Int×(List ag)×Int×Int)) (S:=Int) (fun x=>((x.1.1,x.1.2.1,(pe3 x.1),(pe4 x.1),x.2.1.1,x.2.1.2.1,x.2.1.2.2.1,(pe3 x.2.1)),(pe5 x.1))) qgy (CE:=(Int×(List ag)×Int×Int)) (E:=Unit) (fun c e=>(((),()),((c.1,c.2.1,c.2.2.1,c.2.2.2,()),()))) (fun c=>((pe4 c),(pe5 c),(pe6 c),(pf7 c))) (fun{R} c a nx dn rt=>ec c.1 c.2.1 c.2.2.1 (pe3 c) (pe4 c) (pe5 c) (pe6 c) (pf7 c) a nx dn rt)],dp 109 tt [] [.tmp 6] yn (fun x=>x.1.1)⟩
theorem zj:CtxM Try.prog zk:=ow fits bt (mC qsc (mC qx7 (mC qod (mC qac (mC q7 (mC mr (mC qtm (mC qog (mC z9 (mC qto m0))))))))))
theorem qip:bh Try.prog zk 0 (lc 0 Try.f8 1215):=lp rfl zj (.two .z (.two .z (.two (.one (.two .z (.two .z (.two .z (.two .z (.two (.d [0,1,0,0,8,0,56,120,248,504,0,1024,3072,8184,16383,32767,65535] [13,16] []) (.two .z (.two (.d [0,0,2,0,14,0,63,127,255,255,0,1535,4095] [4,6,7,8,9,11,12] []) .z)))))))) .z))) s0 (fun c a=>((c.1,c.2.1,(),c.2.2.1,(pe3 c),a,()),(((pe4 c),(pe5 c),(pe6 c),(pf7 c),()),()))) (fun y=>((y.2.1.1,y.2.1.2.1,y.2.1.2.2.1,(pe3 y.2.1)),()))
abbrev qj4:Mdl:=(bc (.cons (.d true cj.ty) (.cons (.d true qT1) (.cons (.d true qT0) .nil))) [] [] 1 yn (B:=Bool) (fun b=>((b,()),(()))) (fun a=>tq a.1.1 a.1.2.1 a.1.2.2.1))
theorem qg0:MdlOK Try.prog 8 qj4:=ou Try.func8 rfl zj (.two .z (.two .z (.two .z (.two .z (.two .z (.two .z (.two (.two .z (.s 0)) (.two (.d [0,1,3,0,8,31,63] [] []) .z)))))))) (sC qip s0)
end
end Go.Proofs.Ytokeielgplbdeaa
